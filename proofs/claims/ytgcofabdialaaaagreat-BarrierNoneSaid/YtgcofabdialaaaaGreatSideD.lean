/- Side tables: Get, Set, Entries, Width. -/
import Derived.Test.YtgcofabdialaaaaGreatSideC
namespace Go.Proofs.YtgcofabdialaaaaGreat
set_option linter.unusedSimpArgs false
set_option linter.unusedVariables false
set_option maxRecDepth 8000

/-- a pointer to a table, or to none; S: its blocks -/
def Tab (w : World) (a : Option Addr) (S : List Nat) (m : MT) : Prop := match m with
  | some (wd, l) => ∃ b g, a = some ⟨b, 0, none⟩ ∧ S = [b, g] ∧ STab w b g l.length wd l
  | none => (a = none ∧ S = []) ∨ ∃ b, a = some ⟨b, 0, none⟩ ∧ S = [b] ∧ At w b [.int .i64 0, .int .i64 0, .slice none 0 0]

theorem Tab.keep {w w' : World} {a : Option Addr} {S T : List Nat} {m : MT} (h : Tab w a S m) (k : Only T w w') (hd : ∀ x, x ∈ S → x ∉ T) : Tab w' a S m := by
  match m, h with
  | some (wd, l), ⟨b, g, h1, h2, h3⟩ => subst h2; exact ⟨b, g, h1, rfl, h3.keep k (hd b (by simp)) (hd g (by simp))⟩
  | none, .inl h => exact .inl h
  | none, .inr ⟨b, h1, h2, h3⟩ => subst h2; exact .inr ⟨b, h1, rfl, h3.keep k (hd b (by simp))⟩
theorem Tab.keep0 {w w' : World} {a : Option Addr} {S : List Nat} {m : MT} (h : Tab w a S m) (k : Only [] w w') : Tab w' a S m := h.keep k fun _ _ => by simp
theorem Tab.lt {w : World} {a : Option Addr} {S : List Nat} {m : MT} (h : Tab w a S m) : ∀ x, x ∈ S → x < w.heap.size := by
  match m, h with
  | some (wd, l), ⟨b, g, h1, h2, h3⟩ =>
    subst h2
    obtain ⟨ws, cap, rest, _, e2, e3, _⟩ := h3.mem
    intro x hx
    rcases List.mem_cons.1 hx with rfl | hx
    · exact e2.lt
    · rcases List.mem_cons.1 hx with rfl | hx
      · exact e3.lt
      · cases hx
  | none, .inl h => rw [h.2]; intro x hx; cases hx
  | none, .inr ⟨b, h1, h2, h3⟩ =>
    subst h2; intro x hx
    rcases List.mem_cons.1 hx with rfl | hx
    · exact h3.lt
    · cases hx

theorem Tab.mk {w : World} {b g n wd : Nat} {l : List Nat} (h : STab w b g n wd l) : Tab w (some ⟨b, 0, none⟩) [b, g] (some (wd, l)) := ⟨b, g, rfl, rfl, by rw [h.len]; exact h⟩
theorem Only.sub {S T : List Nat} {a b : World} (h : Only S a b) (hs : ∀ x, x ∈ S → x ∈ T) : Only T a b := h.mono fun x hx => .inl (hs x hx)
theorem Only.g {b g : Nat} {w w' : World} (h : Only [g] w w') : Only [b, g] w w' := h.sub (by simp)

theorem made_none {w : World} {a : Option Addr} {S : List Nat} (h : Tab w a S none) : Cs Tryz.prog 227 [.pointer a] w fun v w' => v = .bool false ∧ w' = w := by
  rcases h with ⟨rfl, _⟩ | ⟨b, rfl, _, h⟩
  · exact made_nil w
  · exact (made_at b 0 _ w h).mono fun v w' h => ⟨by rw [h.1]; rfl, h.2⟩
theorem made_m {w : World} {a : Option Addr} {S : List Nat} {m : MT} (h : Tab w a S m) : Cs Tryz.prog 227 [.pointer a] w fun v w' => v = .bool m.isSome ∧ w' = w := by
  match m, h with
  | some (wd, l), ⟨b, g, h1, h2, h3⟩ => subst h1; exact made_tab h3
  | none, h => exact made_none h
theorem there_m {w : World} {a : Option Addr} {S : List Nat} {m : MT} (h : Tab w a S m) (i : Int) : Cs Tryz.prog 197 [.pointer a, .int .i64 i] w fun v w' => v = .bool (match m with | none => false | some (_, l) => hasB l.length i) ∧ Only [] w w' := by
  match m, h with
  | some (wd, l), ⟨b, g, h1, h2, h3⟩ => subst h1; exact there_tab h3 rfl
  | none, h =>
    refine enter_side_Table_there rfl ?_
    unfold x_side_Table_there
    (repeat (first | with_reducible refine run_seq ?_ | with_reducible refine run_reg ?_ | with_reducible refine run_block ?_ | with_reducible refine run_blk ?_ | with_reducible refine run_skip ?_ | with_reducible refine run_exit rfl ?_ | with_reducible refine run_drw ?_ | with_reducible refine run_condT ?_ | with_reducible refine run_ret' ?_ | with_reducible refine run_end' ?_ | simp only [go_sem, ↓reduceIte, Nat.reduceAdd, Nat.reduceEqDiff, Nat.reduceBEq, reduceCtorEq, Int.reduceBEq, Int.reduceBNe, Int.reduceLT, Int.reduceLE]))
    refine callT0 (made_none h) ?_
    (repeat (first | with_reducible refine run_seq ?_ | with_reducible refine run_reg ?_ | with_reducible refine run_block ?_ | with_reducible refine run_blk ?_ | with_reducible refine run_skip ?_ | with_reducible refine run_exit rfl ?_ | with_reducible refine run_drw ?_ | with_reducible refine run_condT ?_ | with_reducible refine run_ret' ?_ | with_reducible refine run_end' ?_ | simp only [go_sem, ↓reduceIte, Nat.reduceAdd, Nat.reduceEqDiff, Nat.reduceBEq, reduceCtorEq, Int.reduceBEq, Int.reduceBNe, Int.reduceLT, Int.reduceLE]))
    exact Only.refl _ _

theorem check_m {w : World} {a : Option Addr} {S : List Nat} {m : MT} (h : Tab w a S m) {i : Int} {s : Option Addr} {xs : List Int} {cap : Nat} (hs : xs ≠ [] → ∃ q rest, s = some ⟨q, 0, none⟩ ∧ At w q (ints xs ++ rest)) (hlen : xs.length ≤ 1000) {e : Int} (he : m.check i xs = e) :
    Cs Tryz.prog 195 [.pointer a, .int .i64 i, .slice s xs.length cap] w fun v w' => v = .int .i64 e ∧ Only [] w w' := by
  match m, h with
  | some (wd, l), ⟨b, g, h1, h2, h3⟩ => subst h1; exact check_tab h3 hs hlen he
  | none, h =>
    subst he
    refine enter_side_Table_check rfl ?_
    unfold x_side_Table_check
    (repeat (first | with_reducible refine run_seq ?_ | with_reducible refine run_reg ?_ | with_reducible refine run_block ?_ | with_reducible refine run_blk ?_ | with_reducible refine run_skip ?_ | with_reducible refine run_exit rfl ?_ | with_reducible refine run_drw ?_ | with_reducible refine run_condT ?_ | with_reducible refine run_ret' ?_ | with_reducible refine run_end' ?_ | simp only [go_sem, ↓reduceIte, Nat.reduceAdd, Nat.reduceEqDiff, Nat.reduceBEq, reduceCtorEq, Int.reduceBEq, Int.reduceBNe, Int.reduceLT, Int.reduceLE]))
    refine boxT fun q w1 hq hsz hat ho => ?_
    (repeat (first | with_reducible refine run_seq ?_ | with_reducible refine run_reg ?_ | with_reducible refine run_block ?_ | with_reducible refine run_blk ?_ | with_reducible refine run_skip ?_ | with_reducible refine run_exit rfl ?_ | with_reducible refine run_drw ?_ | with_reducible refine run_condT ?_ | with_reducible refine run_ret' ?_ | with_reducible refine run_end' ?_ | simp only [go_sem, ↓reduceIte, Nat.reduceAdd, Nat.reduceEqDiff, Nat.reduceBEq, reduceCtorEq, Int.reduceBEq, Int.reduceBNe, Int.reduceLT, Int.reduceLE, hat.cell]))
    refine callT0 (made_none (h.keep0 ho)) ?_
    (repeat (first | with_reducible refine run_seq ?_ | with_reducible refine run_reg ?_ | with_reducible refine run_block ?_ | with_reducible refine run_blk ?_ | with_reducible refine run_skip ?_ | with_reducible refine run_exit rfl ?_ | with_reducible refine run_drw ?_ | with_reducible refine run_condT ?_ | with_reducible refine run_ret' ?_ | with_reducible refine run_end' ?_ | simp only [go_sem, ↓reduceIte, Nat.reduceAdd, Nat.reduceEqDiff, Nat.reduceBEq, reduceCtorEq, Int.reduceBEq, Int.reduceBNe, Int.reduceLT, Int.reduceLE, hat.cell]))
    exact ⟨rfl, ho⟩

theorem check0_m {w : World} {a : Option Addr} {S : List Nat} {m : MT} (h : Tab w a S m) (i : Int) {e : Int} (he : m.check i [] = e) :
    Cs Tryz.prog 195 [.pointer a, .int .i64 i, .slice none 0 0] w fun v w' => v = .int .i64 e ∧ Only [] w w' := check_m h (xs := []) (by simp) (by simp) he
theorem check1_m {w : World} {a : Option Addr} {S : List Nat} {m : MT} (h : Tab w a S m) (i : Int) {q : Nat} {x : Int} (hat : At w q [.int .i64 x]) {e : Int} (he : m.check i [x] = e) :
    Cs Tryz.prog 195 [.pointer a, .int .i64 i, .slice (some ⟨q, 0, none⟩) 1 1] w fun v w' => v = .int .i64 e ∧ Only [] w w' := check_m h (xs := [x]) (fun _ => ⟨q, [], rfl, hat⟩) (by simp) he
theorem check2_m {w : World} {a : Option Addr} {S : List Nat} {m : MT} (h : Tab w a S m) (i : Int) {q : Nat} {x y : Int} (hat : At w q [.int .i64 x, .int .i64 y]) {e : Int} (he : m.check i [x, y] = e) :
    Cs Tryz.prog 195 [.pointer a, .int .i64 i, .slice (some ⟨q, 0, none⟩) 2 2] w fun v w' => v = .int .i64 e ∧ Only [] w w' := check_m h (xs := [x, y]) (fun _ => ⟨q, [], rfl, hat⟩) (by simp) he

theorem Get_m {w : World} {a : Option Addr} {S : List Nat} {m : MT} (h : Tab w a S m) (i : Int) : Cs Tryz.prog 130 [.pointer a, .int .i64 i] w fun v w' => v = .int .i64 (m.get i) ∧ Only [] w w' := by
  refine enter_side_Table_Get rfl ?_
  unfold x_side_Table_Get
  (repeat (first | with_reducible refine run_seq ?_ | with_reducible refine run_reg ?_ | with_reducible refine run_block ?_ | with_reducible refine run_blk ?_ | with_reducible refine run_skip ?_ | with_reducible refine run_exit rfl ?_ | with_reducible refine run_drw ?_ | with_reducible refine run_condT ?_ | with_reducible refine run_ret' ?_ | with_reducible refine run_end' ?_ | simp only [go_sem, ↓reduceIte, Nat.reduceAdd, Nat.reduceEqDiff, Nat.reduceBEq, reduceCtorEq, Int.reduceBEq, Int.reduceBNe, Int.reduceLT, Int.reduceLE]))
  refine callT1 (there_m h i) fun w1 ho => ?_
  match m, h with
  | none, h =>
    (repeat (first | with_reducible refine run_seq ?_ | with_reducible refine run_reg ?_ | with_reducible refine run_block ?_ | with_reducible refine run_blk ?_ | with_reducible refine run_skip ?_ | with_reducible refine run_exit rfl ?_ | with_reducible refine run_drw ?_ | with_reducible refine run_condT ?_ | with_reducible refine run_ret' ?_ | with_reducible refine run_end' ?_ | simp only [go_sem, ↓reduceIte, Nat.reduceAdd, Nat.reduceEqDiff, Nat.reduceBEq, reduceCtorEq, Int.reduceBEq, Int.reduceBNe, Int.reduceLT, Int.reduceLE]))
    exact ⟨rfl, ho⟩
  | some (wd, l), ⟨b, g, h1, h2, h3⟩ =>
    subst h1
    simp only []
    by_cases hi : hasB l.length i = true
    · obtain ⟨k, rfl, hk⟩ := hasB_nat hi
      (repeat (first | with_reducible refine run_seq ?_ | with_reducible refine run_reg ?_ | with_reducible refine run_block ?_ | with_reducible refine run_blk ?_ | with_reducible refine run_skip ?_ | with_reducible refine run_exit rfl ?_ | with_reducible refine run_drw ?_ | with_reducible refine run_condT ?_ | with_reducible refine run_ret' ?_ | with_reducible refine run_end' ?_ | simp only [go_sem, ↓reduceIte, Nat.reduceAdd, Nat.reduceEqDiff, Nat.reduceBEq, reduceCtorEq, Int.reduceBEq, Int.reduceBNe, Int.reduceLT, Int.reduceLE, hi]))
      refine callT1 (get_tab (h3.keep ho (by simp) (by simp)) hk) fun w2 ho2 => ?_
      (repeat (first | with_reducible refine run_seq ?_ | with_reducible refine run_reg ?_ | with_reducible refine run_block ?_ | with_reducible refine run_blk ?_ | with_reducible refine run_skip ?_ | with_reducible refine run_exit rfl ?_ | with_reducible refine run_drw ?_ | with_reducible refine run_condT ?_ | with_reducible refine run_ret' ?_ | with_reducible refine run_end' ?_ | simp only [go_sem, ↓reduceIte, Nat.reduceAdd, Nat.reduceEqDiff, Nat.reduceBEq, reduceCtorEq, Int.reduceBEq, Int.reduceBNe, Int.reduceLT, Int.reduceLE]))
      exact ⟨by simp [MT.get, hi], ho.same ho2⟩
    · rw [Bool.not_eq_true] at hi
      (repeat (first | with_reducible refine run_seq ?_ | with_reducible refine run_reg ?_ | with_reducible refine run_block ?_ | with_reducible refine run_blk ?_ | with_reducible refine run_skip ?_ | with_reducible refine run_exit rfl ?_ | with_reducible refine run_drw ?_ | with_reducible refine run_condT ?_ | with_reducible refine run_ret' ?_ | with_reducible refine run_end' ?_ | simp only [go_sem, ↓reduceIte, Nat.reduceAdd, Nat.reduceEqDiff, Nat.reduceBEq, reduceCtorEq, Int.reduceBEq, Int.reduceBNe, Int.reduceLT, Int.reduceLE, hi]))
      exact ⟨by simp [MT.get, hi], ho⟩

theorem Set_m {w : World} {a : Option Addr} {S : List Nat} {m : MT} (h : Tab w a S m) (i v : Int) : Cs Tryz.prog 127 [.pointer a, .int .i64 i, .int .i64 v] w fun r w' => r = .int .i64 (m.check i [v]) ∧ Tab w' a S (m.setM i v) ∧ Only S w w' := by
  refine enter_side_Table_Set rfl ?_
  unfold x_side_Table_Set
  (repeat (first | with_reducible refine run_seq ?_ | with_reducible refine run_reg ?_ | with_reducible refine run_block ?_ | with_reducible refine run_blk ?_ | with_reducible refine run_skip ?_ | with_reducible refine run_exit rfl ?_ | with_reducible refine run_drw ?_ | with_reducible refine run_condT ?_ | with_reducible refine run_ret' ?_ | with_reducible refine run_end' ?_ | simp only [go_sem, ↓reduceIte, Nat.reduceAdd, Nat.reduceEqDiff, Nat.reduceBEq, reduceCtorEq, Int.reduceBEq, Int.reduceBNe, Int.reduceLT, Int.reduceLE]))
  rw [fillL_one rfl rfl]
  (repeat (first | with_reducible refine run_seq ?_ | with_reducible refine run_reg ?_ | with_reducible refine run_block ?_ | with_reducible refine run_blk ?_ | with_reducible refine run_skip ?_ | with_reducible refine run_exit rfl ?_ | with_reducible refine run_drw ?_ | with_reducible refine run_condT ?_ | with_reducible refine run_ret' ?_ | with_reducible refine run_end' ?_ | simp only [go_sem, ↓reduceIte, Nat.reduceAdd, Nat.reduceEqDiff, Nat.reduceBEq, reduceCtorEq, Int.reduceBEq, Int.reduceBNe, Int.reduceLT, Int.reduceLE]))
  refine bslT fun q w1 hq hsz hat ho => ?_
  (repeat (first | with_reducible refine run_seq ?_ | with_reducible refine run_reg ?_ | with_reducible refine run_block ?_ | with_reducible refine run_blk ?_ | with_reducible refine run_skip ?_ | with_reducible refine run_exit rfl ?_ | with_reducible refine run_drw ?_ | with_reducible refine run_condT ?_ | with_reducible refine run_ret' ?_ | with_reducible refine run_end' ?_ | simp only [go_sem, ↓reduceIte, Nat.reduceAdd, Nat.reduceEqDiff, Nat.reduceBEq, reduceCtorEq, Int.reduceBEq, Int.reduceBNe, Int.reduceLT, Int.reduceLE]))
  refine callT1 (check1_m (h.keep0 ho) i hat rfl) fun w2 ho2 => ?_
  match m, h with
  | none, h =>
    (repeat (first | with_reducible refine run_seq ?_ | with_reducible refine run_reg ?_ | with_reducible refine run_block ?_ | with_reducible refine run_blk ?_ | with_reducible refine run_skip ?_ | with_reducible refine run_exit rfl ?_ | with_reducible refine run_drw ?_ | with_reducible refine run_condT ?_ | with_reducible refine run_ret' ?_ | with_reducible refine run_end' ?_ | simp only [go_sem, ↓reduceIte, Nat.reduceAdd, Nat.reduceEqDiff, Nat.reduceBEq, reduceCtorEq, Int.reduceBEq, Int.reduceBNe, Int.reduceLT, Int.reduceLE, MT.check_none]))
    exact ⟨h.keep0 (ho.same ho2), (ho.same ho2).of_nil⟩
  | some (wd, l), ⟨b, g, h1, h2, h3⟩ =>
    subst h1 h2
    have h3 := (h3.keep ho (by simp) (by simp)).keep ho2 (by simp) (by simp)
    rcases MT.check_cases (wd := wd) (l := l) (i := i) (vs := [v]) with ⟨e, e1, e2⟩ | ⟨e, e1⟩
    · obtain ⟨k, rfl, hk⟩ := hasB_nat e1
      obtain ⟨x, rfl, hx⟩ := mayB_nat (v := v) (by simpa using e2)
      (repeat (first | with_reducible refine run_seq ?_ | with_reducible refine run_reg ?_ | with_reducible refine run_block ?_ | with_reducible refine run_blk ?_ | with_reducible refine run_skip ?_ | with_reducible refine run_exit rfl ?_ | with_reducible refine run_drw ?_ | with_reducible refine run_condT ?_ | with_reducible refine run_ret' ?_ | with_reducible refine run_end' ?_ | simp only [go_sem, ↓reduceIte, Nat.reduceAdd, Nat.reduceEqDiff, Nat.reduceBEq, reduceCtorEq, Int.reduceBEq, Int.reduceBNe, Int.reduceLT, Int.reduceLE, e]))
      refine callT (put_tab h3 hk hx) ?_
      rintro r w3 ⟨rfl, h4, ho3⟩
      (repeat (first | with_reducible refine run_seq ?_ | with_reducible refine run_reg ?_ | with_reducible refine run_block ?_ | with_reducible refine run_blk ?_ | with_reducible refine run_skip ?_ | with_reducible refine run_exit rfl ?_ | with_reducible refine run_drw ?_ | with_reducible refine run_condT ?_ | with_reducible refine run_ret' ?_ | with_reducible refine run_end' ?_ | simp only [go_sem, ↓reduceIte, Nat.reduceAdd, Nat.reduceEqDiff, Nat.reduceBEq, reduceCtorEq, Int.reduceBEq, Int.reduceBNe, Int.reduceLT, Int.reduceLE]))
      exact ⟨by simp only [MT.setM, e, if_true, Int.toNat_natCast]; exact .mk h4, (ho.same ho2).of_nil.same ho3.g⟩
    · (repeat (first | with_reducible refine run_seq ?_ | with_reducible refine run_reg ?_ | with_reducible refine run_block ?_ | with_reducible refine run_blk ?_ | with_reducible refine run_skip ?_ | with_reducible refine run_exit rfl ?_ | with_reducible refine run_drw ?_ | with_reducible refine run_condT ?_ | with_reducible refine run_ret' ?_ | with_reducible refine run_end' ?_ | simp only [go_sem, ↓reduceIte, Nat.reduceAdd, Nat.reduceEqDiff, Nat.reduceBEq, reduceCtorEq, Int.reduceBEq, Int.reduceBNe, Int.reduceLT, Int.reduceLE, e]))
      exact ⟨by simp only [MT.setM, e]; exact .mk h3, (ho.same ho2).of_nil⟩
end Go.Proofs.YtgcofabdialaaaaGreat
