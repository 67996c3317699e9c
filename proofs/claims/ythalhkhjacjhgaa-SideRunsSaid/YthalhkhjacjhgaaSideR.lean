/- The reference's tables. -/
import Derived.Test.YthalhkhjacjhgaaSideF
namespace Go.Proofs.Ythalhkhjacjhgaa
set_option linter.unusedSimpArgs false
set_option linter.unusedVariables false
set_option maxRecDepth 8000

def nats (l : List Nat) : List Value := l.map fun (x : Nat) => .int .i64 (x : Int)
theorem nats_get {l : List Nat} {i : Nat} (rest : List Value) (h : i < l.length) : (nats l ++ rest)[i]? = some (.int .i64 ((l.getD i 0 : Nat) : Int)) := by
  rw [List.getElem?_append_left (by simpa [nats] using h)]
  simp [nats, h]
theorem nats_set {l : List Nat} {i v : Nat} (rest : List Value) (h : i < l.length) : (nats l ++ rest).set i (.int .i64 (v : Int)) = nats (l.set i v) ++ rest := by
  rw [List.set_append_left _ _ (by simpa [nats] using h)]
  simp [nats, List.map_set]

structure RTab (w : World) (b g wd : Nat) (l : List Nat) : Prop where
  hw : Wd wd
  n1 : 1 ≤ l.length
  n2 : l.length ≤ 4096
  el : ∀ i, l.getD i 0 < 2 ^ wd
  mem : ∃ (cap : Nat) (rest : List Value), At w b [.int .i64 wd, .int .i64 ((2 ^ wd - 1 : Nat) : Int), .slice (some ⟨g, 0, none⟩) l.length cap] ∧ At w g (nats l ++ rest) ∧ b ≠ g
theorem RTab.keep {S : List Nat} {w w' : World} {b g wd : Nat} {l : List Nat} (h : RTab w b g wd l) (k : Only S w w') (hb : b ∉ S) (hg : g ∉ S) : RTab w' b g wd l :=
  ⟨h.hw, h.n1, h.n2, h.el, let ⟨cap, rest, h2, h3, h4⟩ := h.mem; ⟨cap, rest, h2.keep k hb, h3.keep k hg, h4⟩⟩
/-- a pointer to a table of the reference, or to none; S: its blocks -/
def RT (w : World) (a : Option Addr) (S : List Nat) (m : MT) : Prop := match m with
  | some (wd, l) => ∃ b g, a = some ⟨b, 0, none⟩ ∧ S = [b, g] ∧ RTab w b g wd l
  | none => a = none ∧ S = []
theorem RT.mk {w : World} {b g wd : Nat} {l : List Nat} (h : RTab w b g wd l) : RT w (some ⟨b, 0, none⟩) [b, g] (some (wd, l)) := ⟨b, g, rfl, rfl, h⟩
theorem RT.keep {w w' : World} {a : Option Addr} {S T : List Nat} {m : MT} (h : RT w a S m) (k : Only T w w') (hd : ∀ x, x ∈ S → x ∉ T) : RT w' a S m := by
  match m, h with
  | some (wd, l), ⟨b, g, h1, h2, h3⟩ => subst h2; exact ⟨b, g, h1, rfl, h3.keep k (hd b (by simp)) (hd g (by simp))⟩
  | none, h => exact h
theorem RT.keep0 {w w' : World} {a : Option Addr} {S : List Nat} {m : MT} (h : RT w a S m) (k : Only [] w w') : RT w' a S m := h.keep k fun _ _ => by simp
theorem RT.lt {w : World} {a : Option Addr} {S : List Nat} {m : MT} (h : RT w a S m) : ∀ x, x ∈ S → x < w.heap.size := by
  match m, h with
  | some (wd, l), ⟨b, g, h1, h2, h3⟩ =>
    subst h2
    obtain ⟨cap, rest, e2, e3, _⟩ := h3.mem
    intro x hx
    rcases List.mem_cons.1 hx with rfl | hx
    · exact e2.lt
    · rcases List.mem_cons.1 hx with rfl | hx
      · exact e3.lt
      · cases hx
  | none, h => rw [h.2]; intro x hx; cases hx

theorem rmade {w : World} {a : Option Addr} {S : List Nat} {m : MT} (h : RT w a S m) : Cs Try.prog 48 [.pointer a] w fun v w' => v = .bool m.isSome ∧ w' = w := by
  refine enter_ref01_Table_made rfl ?_
  unfold x_ref01_Table_made
  match m, h with
  | none, ⟨h1, _⟩ =>
    subst h1
    (repeat (first | with_reducible refine run_seq ?_ | with_reducible refine run_reg ?_ | with_reducible refine run_block ?_ | with_reducible refine run_blk ?_ | with_reducible refine run_skip ?_ | with_reducible refine run_exit rfl ?_ | with_reducible refine run_drw ?_ | with_reducible refine run_condT ?_ | with_reducible refine run_ret' ?_ | with_reducible refine run_end' ?_ | simp only [go_sem, ↓reduceIte, Nat.reduceAdd, Nat.reduceEqDiff, Nat.reduceBEq, reduceCtorEq, Int.reduceBEq, Int.reduceBNe, Int.reduceLT, Int.reduceLE, Option.isSome_none]))
  | some (wd, l), ⟨b, g, h1, h2, h3⟩ =>
    subst h1
    obtain ⟨cap, rest, e2, e3, _⟩ := h3.mem
    have hp : (0 : Int) < (wd : Int) := by have := h3.hw.pos; omega
    (repeat (first | with_reducible refine run_seq ?_ | with_reducible refine run_reg ?_ | with_reducible refine run_block ?_ | with_reducible refine run_blk ?_ | with_reducible refine run_skip ?_ | with_reducible refine run_exit rfl ?_ | with_reducible refine run_drw ?_ | with_reducible refine run_condT ?_ | with_reducible refine run_ret' ?_ | with_reducible refine run_end' ?_ | simp only [go_sem, ↓reduceIte, Nat.reduceAdd, Nat.reduceEqDiff, Nat.reduceBEq, reduceCtorEq, Int.reduceBEq, Int.reduceBNe, Int.reduceLT, Int.reduceLE, e2.cell, decide_eq_true hp, Option.isSome_some]))
theorem rhas {w : World} {b g wd : Nat} {l : List Nat} (h : RTab w b g wd l) {i : Int} {t : Bool} (ht : hasB l.length i = t) : Cs Try.prog 66 [.pointer (some ⟨b, 0, none⟩), .int .i64 i] w fun r w' => r = .bool t ∧ w' = w := by
  subst ht
  obtain ⟨cap, rest, h2, h3, h4⟩ := h.mem
  refine enter_ref01_Table_has rfl ?_
  unfold x_ref01_Table_has
  by_cases hv : 0 ≤ i
  · (repeat (first | with_reducible refine run_seq ?_ | with_reducible refine run_reg ?_ | with_reducible refine run_block ?_ | with_reducible refine run_blk ?_ | with_reducible refine run_skip ?_ | with_reducible refine run_exit rfl ?_ | with_reducible refine run_drw ?_ | with_reducible refine run_condT ?_ | with_reducible refine run_ret' ?_ | with_reducible refine run_end' ?_ | simp only [go_sem, ↓reduceIte, Nat.reduceAdd, Nat.reduceEqDiff, Nat.reduceBEq, reduceCtorEq, Int.reduceBEq, Int.reduceBNe, Int.reduceLT, Int.reduceLE, decide_eq_true hv, h2.cell]))
    refine callT0 (rmade (.mk h)) ?_
    (repeat (first | with_reducible refine run_seq ?_ | with_reducible refine run_reg ?_ | with_reducible refine run_block ?_ | with_reducible refine run_blk ?_ | with_reducible refine run_skip ?_ | with_reducible refine run_exit rfl ?_ | with_reducible refine run_drw ?_ | with_reducible refine run_condT ?_ | with_reducible refine run_ret' ?_ | with_reducible refine run_end' ?_ | simp only [go_sem, ↓reduceIte, Nat.reduceAdd, Nat.reduceEqDiff, Nat.reduceBEq, reduceCtorEq, Int.reduceBEq, Int.reduceBNe, Int.reduceLT, Int.reduceLE, decide_eq_true hv, h2.cell, Option.isSome_some]))
    simp [hasB, hv]
  · (repeat (first | with_reducible refine run_seq ?_ | with_reducible refine run_reg ?_ | with_reducible refine run_block ?_ | with_reducible refine run_blk ?_ | with_reducible refine run_skip ?_ | with_reducible refine run_exit rfl ?_ | with_reducible refine run_drw ?_ | with_reducible refine run_condT ?_ | with_reducible refine run_ret' ?_ | with_reducible refine run_end' ?_ | simp only [go_sem, ↓reduceIte, Nat.reduceAdd, Nat.reduceEqDiff, Nat.reduceBEq, reduceCtorEq, Int.reduceBEq, Int.reduceBNe, Int.reduceLT, Int.reduceLE, decide_eq_false hv, h2.cell]))
    refine callT0 (rmade (.mk h)) ?_
    (repeat (first | with_reducible refine run_seq ?_ | with_reducible refine run_reg ?_ | with_reducible refine run_block ?_ | with_reducible refine run_blk ?_ | with_reducible refine run_skip ?_ | with_reducible refine run_exit rfl ?_ | with_reducible refine run_drw ?_ | with_reducible refine run_condT ?_ | with_reducible refine run_ret' ?_ | with_reducible refine run_end' ?_ | simp only [go_sem, ↓reduceIte, Nat.reduceAdd, Nat.reduceEqDiff, Nat.reduceBEq, reduceCtorEq, Int.reduceBEq, Int.reduceBNe, Int.reduceLT, Int.reduceLE, decide_eq_false hv, h2.cell, Option.isSome_some]))
    simp [hasB, hv]
theorem rmay {w : World} {b g wd : Nat} {l : List Nat} (h : RTab w b g wd l) {i : Int} {t : Bool} (ht : mayB wd i = t) : Cs Try.prog 67 [.pointer (some ⟨b, 0, none⟩), .int .i64 i] w fun r w' => r = .bool t ∧ w' = w := by
  subst ht
  obtain ⟨cap, rest, h2, h3, h4⟩ := h.mem
  refine enter_ref01_Table_may rfl ?_
  unfold x_ref01_Table_may
  by_cases hv : 0 ≤ i
  · (repeat (first | with_reducible refine run_seq ?_ | with_reducible refine run_reg ?_ | with_reducible refine run_block ?_ | with_reducible refine run_blk ?_ | with_reducible refine run_skip ?_ | with_reducible refine run_exit rfl ?_ | with_reducible refine run_drw ?_ | with_reducible refine run_condT ?_ | with_reducible refine run_ret' ?_ | with_reducible refine run_end' ?_ | simp only [go_sem, ↓reduceIte, Nat.reduceAdd, Nat.reduceEqDiff, Nat.reduceBEq, reduceCtorEq, Int.reduceBEq, Int.reduceBNe, Int.reduceLT, Int.reduceLE, decide_eq_true hv, h2.cell]))
    simp [mayB, hv]
  · (repeat (first | with_reducible refine run_seq ?_ | with_reducible refine run_reg ?_ | with_reducible refine run_block ?_ | with_reducible refine run_blk ?_ | with_reducible refine run_skip ?_ | with_reducible refine run_exit rfl ?_ | with_reducible refine run_drw ?_ | with_reducible refine run_condT ?_ | with_reducible refine run_ret' ?_ | with_reducible refine run_end' ?_ | simp only [go_sem, ↓reduceIte, Nat.reduceAdd, Nat.reduceEqDiff, Nat.reduceBEq, reduceCtorEq, Int.reduceBEq, Int.reduceBNe, Int.reduceLT, Int.reduceLE, decide_eq_false hv, h2.cell]))
    simp [mayB, hv]
theorem rhas_none {w : World} {S : List Nat} {a : Option Addr} (h : RT w a S none) {i : Int} : Cs Try.prog 66 [.pointer a, .int .i64 i] w fun r w' => r = .bool false ∧ w' = w := by
  refine enter_ref01_Table_has rfl ?_
  unfold x_ref01_Table_has
  (repeat (first | with_reducible refine run_seq ?_ | with_reducible refine run_reg ?_ | with_reducible refine run_block ?_ | with_reducible refine run_blk ?_ | with_reducible refine run_skip ?_ | with_reducible refine run_exit rfl ?_ | with_reducible refine run_drw ?_ | with_reducible refine run_condT ?_ | with_reducible refine run_ret' ?_ | with_reducible refine run_end' ?_ | simp only [go_sem, ↓reduceIte, Nat.reduceAdd, Nat.reduceEqDiff, Nat.reduceBEq, reduceCtorEq, Int.reduceBEq, Int.reduceBNe, Int.reduceLT, Int.reduceLE]))
  refine callT0 (rmade h) ?_
  (repeat (first | with_reducible refine run_seq ?_ | with_reducible refine run_reg ?_ | with_reducible refine run_block ?_ | with_reducible refine run_blk ?_ | with_reducible refine run_skip ?_ | with_reducible refine run_exit rfl ?_ | with_reducible refine run_drw ?_ | with_reducible refine run_condT ?_ | with_reducible refine run_ret' ?_ | with_reducible refine run_end' ?_ | simp only [go_sem, ↓reduceIte, Nat.reduceAdd, Nat.reduceEqDiff, Nat.reduceBEq, reduceCtorEq, Int.reduceBEq, Int.reduceBNe, Int.reduceLT, Int.reduceLE, Option.isSome_none]))

theorem rGet {w : World} {a : Option Addr} {S : List Nat} {m : MT} (h : RT w a S m) (i : Int) : Cs Try.prog 57 [.pointer a, .int .i64 i] w fun v w' => v = .int .i64 (m.get i) ∧ Only [] w w' := by
  refine enter_ref01_Table_Get rfl ?_
  unfold x_ref01_Table_Get
  match m, h with
  | none, h =>
    (repeat (first | with_reducible refine run_seq ?_ | with_reducible refine run_reg ?_ | with_reducible refine run_block ?_ | with_reducible refine run_blk ?_ | with_reducible refine run_skip ?_ | with_reducible refine run_exit rfl ?_ | with_reducible refine run_drw ?_ | with_reducible refine run_condT ?_ | with_reducible refine run_ret' ?_ | with_reducible refine run_end' ?_ | simp only [go_sem, ↓reduceIte, Nat.reduceAdd, Nat.reduceEqDiff, Nat.reduceBEq, reduceCtorEq, Int.reduceBEq, Int.reduceBNe, Int.reduceLT, Int.reduceLE]))
    refine callT0 (rhas_none h) ?_
    (repeat (first | with_reducible refine run_seq ?_ | with_reducible refine run_reg ?_ | with_reducible refine run_block ?_ | with_reducible refine run_blk ?_ | with_reducible refine run_skip ?_ | with_reducible refine run_exit rfl ?_ | with_reducible refine run_drw ?_ | with_reducible refine run_condT ?_ | with_reducible refine run_ret' ?_ | with_reducible refine run_end' ?_ | simp only [go_sem, ↓reduceIte, Nat.reduceAdd, Nat.reduceEqDiff, Nat.reduceBEq, reduceCtorEq, Int.reduceBEq, Int.reduceBNe, Int.reduceLT, Int.reduceLE]))
    exact ⟨rfl, Only.refl _ _⟩
  | some (wd, l), ⟨b, g, h1, h2, h3⟩ =>
    subst h1
    obtain ⟨cap, rest, e2, e3, _⟩ := h3.mem
    by_cases hi : hasB l.length i = true
    · obtain ⟨k, rfl, hk⟩ := hasB_nat hi
      have c1 : (0 : Int) ≤ (k : Int) ∧ (k : Int) < (l.length : Int) := ⟨by omega, by omega⟩
      (repeat (first | with_reducible refine run_seq ?_ | with_reducible refine run_reg ?_ | with_reducible refine run_block ?_ | with_reducible refine run_blk ?_ | with_reducible refine run_skip ?_ | with_reducible refine run_exit rfl ?_ | with_reducible refine run_drw ?_ | with_reducible refine run_condT ?_ | with_reducible refine run_ret' ?_ | with_reducible refine run_end' ?_ | simp only [go_sem, ↓reduceIte, Nat.reduceAdd, Nat.reduceEqDiff, Nat.reduceBEq, reduceCtorEq, Int.reduceBEq, Int.reduceBNe, Int.reduceLT, Int.reduceLE]))
      refine callT0 (rhas h3 hi) ?_
      (repeat (first | with_reducible refine run_seq ?_ | with_reducible refine run_reg ?_ | with_reducible refine run_block ?_ | with_reducible refine run_blk ?_ | with_reducible refine run_skip ?_ | with_reducible refine run_exit rfl ?_ | with_reducible refine run_drw ?_ | with_reducible refine run_condT ?_ | with_reducible refine run_ret' ?_ | with_reducible refine run_end' ?_ | simp only [go_sem, ↓reduceIte, Nat.reduceAdd, Nat.reduceEqDiff, Nat.reduceBEq, reduceCtorEq, Int.reduceBEq, Int.reduceBNe, Int.reduceLT, Int.reduceLE, e2.cell, e3.cell, if_pos c1, nats_get rest hk, Int.toNat_natCast, Nat.mul_one]))
      exact ⟨by simp [MT.get, hi], Only.refl _ _⟩
    · rw [Bool.not_eq_true] at hi
      (repeat (first | with_reducible refine run_seq ?_ | with_reducible refine run_reg ?_ | with_reducible refine run_block ?_ | with_reducible refine run_blk ?_ | with_reducible refine run_skip ?_ | with_reducible refine run_exit rfl ?_ | with_reducible refine run_drw ?_ | with_reducible refine run_condT ?_ | with_reducible refine run_ret' ?_ | with_reducible refine run_end' ?_ | simp only [go_sem, ↓reduceIte, Nat.reduceAdd, Nat.reduceEqDiff, Nat.reduceBEq, reduceCtorEq, Int.reduceBEq, Int.reduceBNe, Int.reduceLT, Int.reduceLE]))
      refine callT0 (rhas h3 hi) ?_
      (repeat (first | with_reducible refine run_seq ?_ | with_reducible refine run_reg ?_ | with_reducible refine run_block ?_ | with_reducible refine run_blk ?_ | with_reducible refine run_skip ?_ | with_reducible refine run_exit rfl ?_ | with_reducible refine run_drw ?_ | with_reducible refine run_condT ?_ | with_reducible refine run_ret' ?_ | with_reducible refine run_end' ?_ | simp only [go_sem, ↓reduceIte, Nat.reduceAdd, Nat.reduceEqDiff, Nat.reduceBEq, reduceCtorEq, Int.reduceBEq, Int.reduceBNe, Int.reduceLT, Int.reduceLE]))
      exact ⟨by simp [MT.get, hi], Only.refl _ _⟩
theorem rEntries {w : World} {a : Option Addr} {S : List Nat} {m : MT} (h : RT w a S m) : Cs Try.prog 55 [.pointer a] w fun r w' => r = .int .i64 m.entries ∧ Only [] w w' := by
  refine enter_ref01_Table_Entries rfl ?_
  unfold x_ref01_Table_Entries
  (repeat (first | with_reducible refine run_seq ?_ | with_reducible refine run_reg ?_ | with_reducible refine run_block ?_ | with_reducible refine run_blk ?_ | with_reducible refine run_skip ?_ | with_reducible refine run_exit rfl ?_ | with_reducible refine run_drw ?_ | with_reducible refine run_condT ?_ | with_reducible refine run_ret' ?_ | with_reducible refine run_end' ?_ | simp only [go_sem, ↓reduceIte, Nat.reduceAdd, Nat.reduceEqDiff, Nat.reduceBEq, reduceCtorEq, Int.reduceBEq, Int.reduceBNe, Int.reduceLT, Int.reduceLE]))
  refine callT0 (rmade h) ?_
  match m, h with
  | none, h =>
    (repeat (first | with_reducible refine run_seq ?_ | with_reducible refine run_reg ?_ | with_reducible refine run_block ?_ | with_reducible refine run_blk ?_ | with_reducible refine run_skip ?_ | with_reducible refine run_exit rfl ?_ | with_reducible refine run_drw ?_ | with_reducible refine run_condT ?_ | with_reducible refine run_ret' ?_ | with_reducible refine run_end' ?_ | simp only [go_sem, ↓reduceIte, Nat.reduceAdd, Nat.reduceEqDiff, Nat.reduceBEq, reduceCtorEq, Int.reduceBEq, Int.reduceBNe, Int.reduceLT, Int.reduceLE, Option.isSome_none]))
    exact ⟨rfl, Only.refl _ _⟩
  | some (wd, l), ⟨b, g, h1, h2, h3⟩ =>
    subst h1
    obtain ⟨cap, rest, e2, e3, _⟩ := h3.mem
    (repeat (first | with_reducible refine run_seq ?_ | with_reducible refine run_reg ?_ | with_reducible refine run_block ?_ | with_reducible refine run_blk ?_ | with_reducible refine run_skip ?_ | with_reducible refine run_exit rfl ?_ | with_reducible refine run_drw ?_ | with_reducible refine run_condT ?_ | with_reducible refine run_ret' ?_ | with_reducible refine run_end' ?_ | simp only [go_sem, ↓reduceIte, Nat.reduceAdd, Nat.reduceEqDiff, Nat.reduceBEq, reduceCtorEq, Int.reduceBEq, Int.reduceBNe, Int.reduceLT, Int.reduceLE, e2.cell, Option.isSome_some]))
    exact ⟨rfl, Only.refl _ _⟩
theorem rWidth {w : World} {a : Option Addr} {S : List Nat} {m : MT} (h : RT w a S m) : Cs Try.prog 56 [.pointer a] w fun r w' => r = .int .i64 m.width ∧ Only [] w w' := by
  refine enter_ref01_Table_Width rfl ?_
  unfold x_ref01_Table_Width
  (repeat (first | with_reducible refine run_seq ?_ | with_reducible refine run_reg ?_ | with_reducible refine run_block ?_ | with_reducible refine run_blk ?_ | with_reducible refine run_skip ?_ | with_reducible refine run_exit rfl ?_ | with_reducible refine run_drw ?_ | with_reducible refine run_condT ?_ | with_reducible refine run_ret' ?_ | with_reducible refine run_end' ?_ | simp only [go_sem, ↓reduceIte, Nat.reduceAdd, Nat.reduceEqDiff, Nat.reduceBEq, reduceCtorEq, Int.reduceBEq, Int.reduceBNe, Int.reduceLT, Int.reduceLE]))
  refine callT0 (rmade h) ?_
  match m, h with
  | none, h =>
    (repeat (first | with_reducible refine run_seq ?_ | with_reducible refine run_reg ?_ | with_reducible refine run_block ?_ | with_reducible refine run_blk ?_ | with_reducible refine run_skip ?_ | with_reducible refine run_exit rfl ?_ | with_reducible refine run_drw ?_ | with_reducible refine run_condT ?_ | with_reducible refine run_ret' ?_ | with_reducible refine run_end' ?_ | simp only [go_sem, ↓reduceIte, Nat.reduceAdd, Nat.reduceEqDiff, Nat.reduceBEq, reduceCtorEq, Int.reduceBEq, Int.reduceBNe, Int.reduceLT, Int.reduceLE, Option.isSome_none]))
    exact ⟨rfl, Only.refl _ _⟩
  | some (wd, l), ⟨b, g, h1, h2, h3⟩ =>
    subst h1
    obtain ⟨cap, rest, e2, e3, _⟩ := h3.mem
    (repeat (first | with_reducible refine run_seq ?_ | with_reducible refine run_reg ?_ | with_reducible refine run_block ?_ | with_reducible refine run_blk ?_ | with_reducible refine run_skip ?_ | with_reducible refine run_exit rfl ?_ | with_reducible refine run_drw ?_ | with_reducible refine run_condT ?_ | with_reducible refine run_ret' ?_ | with_reducible refine run_end' ?_ | simp only [go_sem, ↓reduceIte, Nat.reduceAdd, Nat.reduceEqDiff, Nat.reduceBEq, reduceCtorEq, Int.reduceBEq, Int.reduceBNe, Int.reduceLT, Int.reduceLE, e2.cell, Option.isSome_some]))
    exact ⟨rfl, Only.refl _ _⟩

/-- behind a store of an entry -/
theorem RTab.put {w w' : World} {b g wd k x : Nat} {l : List Nat} {rest : List Value} (h : RTab w b g wd l) (hk : k < l.length) (hx : x < 2 ^ wd) (hr : At w g (nats l ++ rest)) (ha : At w' g ((nats l ++ rest).set k (.int .i64 (x : Int)))) (ho : Only [g] w w') : RTab w' b g wd (l.set k x) := by
  obtain ⟨cap, rest', e2, e3, e4⟩ := h.mem
  refine ⟨h.hw, by simpa using h.n1, by simpa using h.n2, fun i => ?_, cap, rest, ?_, ?_, e4⟩
  · rw [getD_set]; split
    · exact hx
    · exact h.el i
  · rw [List.length_set]; exact e2.keep ho (by simp [e4])
  · rw [nats_set rest hk] at ha; exact ha

theorem rSet {w : World} {a : Option Addr} {S : List Nat} {m : MT} (h : RT w a S m) (i v : Int) : Cs Try.prog 49 [.pointer a, .int .i64 i, .int .i64 v] w fun r w' => r = .int .i64 (m.check i [v]) ∧ RT w' a S (m.setM i v) ∧ Only S w w' := by
  refine enter_ref01_Table_Set rfl ?_
  unfold x_ref01_Table_Set
  (repeat (first | with_reducible refine run_seq ?_ | with_reducible refine run_reg ?_ | with_reducible refine run_block ?_ | with_reducible refine run_blk ?_ | with_reducible refine run_skip ?_ | with_reducible refine run_exit rfl ?_ | with_reducible refine run_drw ?_ | with_reducible refine run_condT ?_ | with_reducible refine run_ret' ?_ | with_reducible refine run_end' ?_ | simp only [go_sem, ↓reduceIte, Nat.reduceAdd, Nat.reduceEqDiff, Nat.reduceBEq, reduceCtorEq, Int.reduceBEq, Int.reduceBNe, Int.reduceLT, Int.reduceLE]))
  refine callT0 (rmade h) ?_
  match m, h with
  | none, h =>
    (repeat (first | with_reducible refine run_seq ?_ | with_reducible refine run_reg ?_ | with_reducible refine run_block ?_ | with_reducible refine run_blk ?_ | with_reducible refine run_skip ?_ | with_reducible refine run_exit rfl ?_ | with_reducible refine run_drw ?_ | with_reducible refine run_condT ?_ | with_reducible refine run_ret' ?_ | with_reducible refine run_end' ?_ | simp only [go_sem, ↓reduceIte, Nat.reduceAdd, Nat.reduceEqDiff, Nat.reduceBEq, reduceCtorEq, Int.reduceBEq, Int.reduceBNe, Int.reduceLT, Int.reduceLE, MT.check_none, Option.isSome_none]))
    exact ⟨h, Only.refl _ _⟩
  | some (wd, l), ⟨b, g, h1, h2, h3⟩ =>
    subst h1 h2
    obtain ⟨cap, rest, e2, e3, e4⟩ := h3.mem
    rcases MT.check_cases (wd := wd) (l := l) (i := i) (vs := [v]) with ⟨e, q1, q2⟩ | ⟨e, q1⟩
    · obtain ⟨k, rfl, hk⟩ := hasB_nat q1
      obtain ⟨x, rfl, hx⟩ := mayB_nat (v := v) (by simpa using q2)
      have c1 : (0 : Int) ≤ (k : Int) ∧ (k : Int) < (l.length : Int) := ⟨by omega, by omega⟩
      (repeat (first | with_reducible refine run_seq ?_ | with_reducible refine run_reg ?_ | with_reducible refine run_block ?_ | with_reducible refine run_blk ?_ | with_reducible refine run_skip ?_ | with_reducible refine run_exit rfl ?_ | with_reducible refine run_drw ?_ | with_reducible refine run_condT ?_ | with_reducible refine run_ret' ?_ | with_reducible refine run_end' ?_ | simp only [go_sem, ↓reduceIte, Nat.reduceAdd, Nat.reduceEqDiff, Nat.reduceBEq, reduceCtorEq, Int.reduceBEq, Int.reduceBNe, Int.reduceLT, Int.reduceLE, Option.isSome_some]))
      refine callT0 (rhas h3 q1) ?_
      (repeat (first | with_reducible refine run_seq ?_ | with_reducible refine run_reg ?_ | with_reducible refine run_block ?_ | with_reducible refine run_blk ?_ | with_reducible refine run_skip ?_ | with_reducible refine run_exit rfl ?_ | with_reducible refine run_drw ?_ | with_reducible refine run_condT ?_ | with_reducible refine run_ret' ?_ | with_reducible refine run_end' ?_ | simp only [go_sem, ↓reduceIte, Nat.reduceAdd, Nat.reduceEqDiff, Nat.reduceBEq, reduceCtorEq, Int.reduceBEq, Int.reduceBNe, Int.reduceLT, Int.reduceLE]))
      refine callT0 (rmay h3 (by simpa using q2)) ?_
      (repeat (first | with_reducible refine run_seq ?_ | with_reducible refine run_reg ?_ | with_reducible refine run_block ?_ | with_reducible refine run_blk ?_ | with_reducible refine run_skip ?_ | with_reducible refine run_exit rfl ?_ | with_reducible refine run_drw ?_ | with_reducible refine run_condT ?_ | with_reducible refine run_ret' ?_ | with_reducible refine run_end' ?_ | simp only [go_sem, ↓reduceIte, Nat.reduceAdd, Nat.reduceEqDiff, Nat.reduceBEq, reduceCtorEq, Int.reduceBEq, Int.reduceBNe, Int.reduceLT, Int.reduceLE, e2.cell, if_pos c1, Int.toNat_natCast, Nat.mul_one]))
      refine stT e3 (by simp [nats]; omega) rfl fun w' hs ha ho => ?_
      (repeat (first | with_reducible refine run_seq ?_ | with_reducible refine run_reg ?_ | with_reducible refine run_block ?_ | with_reducible refine run_blk ?_ | with_reducible refine run_skip ?_ | with_reducible refine run_exit rfl ?_ | with_reducible refine run_drw ?_ | with_reducible refine run_condT ?_ | with_reducible refine run_ret' ?_ | with_reducible refine run_end' ?_ | simp only [go_sem, ↓reduceIte, Nat.reduceAdd, Nat.reduceEqDiff, Nat.reduceBEq, reduceCtorEq, Int.reduceBEq, Int.reduceBNe, Int.reduceLT, Int.reduceLE, e]))
      exact ⟨by simp only [MT.setM, e, if_true, Int.toNat_natCast]; exact .mk (h3.put hk hx e3 ha ho), ho.g⟩
    · have hM : MT.setM (some (wd, l)) i v = some (wd, l) := by simp [MT.setM, e]
      by_cases hi : hasB l.length i = true
      · have hb : mayB wd v = false := by simpa [hi] using q1
        (repeat (first | with_reducible refine run_seq ?_ | with_reducible refine run_reg ?_ | with_reducible refine run_block ?_ | with_reducible refine run_blk ?_ | with_reducible refine run_skip ?_ | with_reducible refine run_exit rfl ?_ | with_reducible refine run_drw ?_ | with_reducible refine run_condT ?_ | with_reducible refine run_ret' ?_ | with_reducible refine run_end' ?_ | simp only [go_sem, ↓reduceIte, Nat.reduceAdd, Nat.reduceEqDiff, Nat.reduceBEq, reduceCtorEq, Int.reduceBEq, Int.reduceBNe, Int.reduceLT, Int.reduceLE, Option.isSome_some]))
        refine callT0 (rhas h3 hi) ?_
        (repeat (first | with_reducible refine run_seq ?_ | with_reducible refine run_reg ?_ | with_reducible refine run_block ?_ | with_reducible refine run_blk ?_ | with_reducible refine run_skip ?_ | with_reducible refine run_exit rfl ?_ | with_reducible refine run_drw ?_ | with_reducible refine run_condT ?_ | with_reducible refine run_ret' ?_ | with_reducible refine run_end' ?_ | simp only [go_sem, ↓reduceIte, Nat.reduceAdd, Nat.reduceEqDiff, Nat.reduceBEq, reduceCtorEq, Int.reduceBEq, Int.reduceBNe, Int.reduceLT, Int.reduceLE]))
        refine callT0 (rmay h3 hb) ?_
        (repeat (first | with_reducible refine run_seq ?_ | with_reducible refine run_reg ?_ | with_reducible refine run_block ?_ | with_reducible refine run_blk ?_ | with_reducible refine run_skip ?_ | with_reducible refine run_exit rfl ?_ | with_reducible refine run_drw ?_ | with_reducible refine run_condT ?_ | with_reducible refine run_ret' ?_ | with_reducible refine run_end' ?_ | simp only [go_sem, ↓reduceIte, Nat.reduceAdd, Nat.reduceEqDiff, Nat.reduceBEq, reduceCtorEq, Int.reduceBEq, Int.reduceBNe, Int.reduceLT, Int.reduceLE, e, hM]))
        exact ⟨.mk h3, Only.refl _ _⟩
      · rw [Bool.not_eq_true] at hi
        (repeat (first | with_reducible refine run_seq ?_ | with_reducible refine run_reg ?_ | with_reducible refine run_block ?_ | with_reducible refine run_blk ?_ | with_reducible refine run_skip ?_ | with_reducible refine run_exit rfl ?_ | with_reducible refine run_drw ?_ | with_reducible refine run_condT ?_ | with_reducible refine run_ret' ?_ | with_reducible refine run_end' ?_ | simp only [go_sem, ↓reduceIte, Nat.reduceAdd, Nat.reduceEqDiff, Nat.reduceBEq, reduceCtorEq, Int.reduceBEq, Int.reduceBNe, Int.reduceLT, Int.reduceLE, Option.isSome_some]))
        refine callT0 (rhas h3 hi) ?_
        (repeat (first | with_reducible refine run_seq ?_ | with_reducible refine run_reg ?_ | with_reducible refine run_block ?_ | with_reducible refine run_blk ?_ | with_reducible refine run_skip ?_ | with_reducible refine run_exit rfl ?_ | with_reducible refine run_drw ?_ | with_reducible refine run_condT ?_ | with_reducible refine run_ret' ?_ | with_reducible refine run_end' ?_ | simp only [go_sem, ↓reduceIte, Nat.reduceAdd, Nat.reduceEqDiff, Nat.reduceBEq, reduceCtorEq, Int.reduceBEq, Int.reduceBNe, Int.reduceLT, Int.reduceLE, e, hM]))
        exact ⟨.mk h3, Only.refl _ _⟩

theorem rSwap {w : World} {a : Option Addr} {S : List Nat} {m : MT} (h : RT w a S m) (i old v : Int) : Cs Try.prog 51 [.pointer a, .int .i64 i, .int .i64 old, .int .i64 v] w fun r w' => r = .tuple #[.bool (m.swapB i old v), .int .i64 (m.check i [old, v])] ∧ RT w' a S (m.swapM i old v) ∧ Only S w w' := by
  refine enter_ref01_Table_Swap rfl ?_
  unfold x_ref01_Table_Swap
  (repeat (first | with_reducible refine run_seq ?_ | with_reducible refine run_reg ?_ | with_reducible refine run_block ?_ | with_reducible refine run_blk ?_ | with_reducible refine run_skip ?_ | with_reducible refine run_exit rfl ?_ | with_reducible refine run_drw ?_ | with_reducible refine run_condT ?_ | with_reducible refine run_ret' ?_ | with_reducible refine run_end' ?_ | simp only [go_sem, ↓reduceIte, Nat.reduceAdd, Nat.reduceEqDiff, Nat.reduceBEq, reduceCtorEq, Int.reduceBEq, Int.reduceBNe, Int.reduceLT, Int.reduceLE]))
  refine callT0 (rmade h) ?_
  match m, h with
  | none, h =>
    (repeat (first | with_reducible refine run_seq ?_ | with_reducible refine run_reg ?_ | with_reducible refine run_block ?_ | with_reducible refine run_blk ?_ | with_reducible refine run_skip ?_ | with_reducible refine run_exit rfl ?_ | with_reducible refine run_drw ?_ | with_reducible refine run_condT ?_ | with_reducible refine run_ret' ?_ | with_reducible refine run_end' ?_ | simp only [go_sem, ↓reduceIte, Nat.reduceAdd, Nat.reduceEqDiff, Nat.reduceBEq, reduceCtorEq, Int.reduceBEq, Int.reduceBNe, Int.reduceLT, Int.reduceLE, MT.check_none, Option.isSome_none]))
    exact ⟨rfl, h, Only.refl _ _⟩
  | some (wd, l), ⟨b, g, h1, h2, h3⟩ =>
    subst h1 h2
    obtain ⟨cap, rest, e2, e3, e4⟩ := h3.mem
    rcases MT.check_cases (wd := wd) (l := l) (i := i) (vs := [old, v]) with ⟨e, q1, q2⟩ | ⟨e, q1⟩
    · obtain ⟨k, rfl, hk⟩ := hasB_nat q1
      have q2 : mayB wd old = true ∧ mayB wd v = true := by simpa using q2
      obtain ⟨x, rfl, hx⟩ := mayB_nat q2.2
      have c1 : (0 : Int) ≤ (k : Int) ∧ (k : Int) < (l.length : Int) := ⟨by omega, by omega⟩
      (repeat (first | with_reducible refine run_seq ?_ | with_reducible refine run_reg ?_ | with_reducible refine run_block ?_ | with_reducible refine run_blk ?_ | with_reducible refine run_skip ?_ | with_reducible refine run_exit rfl ?_ | with_reducible refine run_drw ?_ | with_reducible refine run_condT ?_ | with_reducible refine run_ret' ?_ | with_reducible refine run_end' ?_ | simp only [go_sem, ↓reduceIte, Nat.reduceAdd, Nat.reduceEqDiff, Nat.reduceBEq, reduceCtorEq, Int.reduceBEq, Int.reduceBNe, Int.reduceLT, Int.reduceLE, Option.isSome_some]))
      refine callT0 (rhas h3 q1) ?_
      (repeat (first | with_reducible refine run_seq ?_ | with_reducible refine run_reg ?_ | with_reducible refine run_block ?_ | with_reducible refine run_blk ?_ | with_reducible refine run_skip ?_ | with_reducible refine run_exit rfl ?_ | with_reducible refine run_drw ?_ | with_reducible refine run_condT ?_ | with_reducible refine run_ret' ?_ | with_reducible refine run_end' ?_ | simp only [go_sem, ↓reduceIte, Nat.reduceAdd, Nat.reduceEqDiff, Nat.reduceBEq, reduceCtorEq, Int.reduceBEq, Int.reduceBNe, Int.reduceLT, Int.reduceLE]))
      refine callT0 (rmay h3 q2.1) ?_
      (repeat (first | with_reducible refine run_seq ?_ | with_reducible refine run_reg ?_ | with_reducible refine run_block ?_ | with_reducible refine run_blk ?_ | with_reducible refine run_skip ?_ | with_reducible refine run_exit rfl ?_ | with_reducible refine run_drw ?_ | with_reducible refine run_condT ?_ | with_reducible refine run_ret' ?_ | with_reducible refine run_end' ?_ | simp only [go_sem, ↓reduceIte, Nat.reduceAdd, Nat.reduceEqDiff, Nat.reduceBEq, reduceCtorEq, Int.reduceBEq, Int.reduceBNe, Int.reduceLT, Int.reduceLE]))
      refine callT0 (rmay h3 q2.2) ?_
      (repeat (first | with_reducible refine run_seq ?_ | with_reducible refine run_reg ?_ | with_reducible refine run_block ?_ | with_reducible refine run_blk ?_ | with_reducible refine run_skip ?_ | with_reducible refine run_exit rfl ?_ | with_reducible refine run_drw ?_ | with_reducible refine run_condT ?_ | with_reducible refine run_ret' ?_ | with_reducible refine run_end' ?_ | simp only [go_sem, ↓reduceIte, Nat.reduceAdd, Nat.reduceEqDiff, Nat.reduceBEq, reduceCtorEq, Int.reduceBEq, Int.reduceBNe, Int.reduceLT, Int.reduceLE, e2.cell, e3.cell, if_pos c1, Int.toNat_natCast, Nat.mul_one, nats_get rest hk]))
      refine condT (fun hc => ?_) (fun hc => ?_)
      · (repeat (first | with_reducible refine run_seq ?_ | with_reducible refine run_reg ?_ | with_reducible refine run_block ?_ | with_reducible refine run_blk ?_ | with_reducible refine run_skip ?_ | with_reducible refine run_exit rfl ?_ | with_reducible refine run_drw ?_ | with_reducible refine run_condT ?_ | with_reducible refine run_ret' ?_ | with_reducible refine run_end' ?_ | simp only [go_sem, ↓reduceIte, Nat.reduceAdd, Nat.reduceEqDiff, Nat.reduceBEq, reduceCtorEq, Int.reduceBEq, Int.reduceBNe, Int.reduceLT, Int.reduceLE, e]))
        have hne : ¬ ((l.getD k 0 : Nat) : Int) = old := by simpa using hc
        have hb : MT.swapB (some (wd, l)) (k : Int) old (x : Int) = false := by simp only [MT.swapB, Int.toNat_natCast, hne, decide_false, Bool.and_false]
        exact ⟨by rw [hb], by simp only [MT.swapM, hb]; exact .mk h3, Only.refl _ _⟩
      · have hne : ((l.getD k 0 : Nat) : Int) = old := by simpa using hc
        have hb : MT.swapB (some (wd, l)) (k : Int) old (x : Int) = true := by simp only [MT.swapB, Int.toNat_natCast, hne, e, decide_true, Bool.and_true]
        (repeat (first | with_reducible refine run_seq ?_ | with_reducible refine run_reg ?_ | with_reducible refine run_block ?_ | with_reducible refine run_blk ?_ | with_reducible refine run_skip ?_ | with_reducible refine run_exit rfl ?_ | with_reducible refine run_drw ?_ | with_reducible refine run_condT ?_ | with_reducible refine run_ret' ?_ | with_reducible refine run_end' ?_ | simp only [go_sem, ↓reduceIte, Nat.reduceAdd, Nat.reduceEqDiff, Nat.reduceBEq, reduceCtorEq, Int.reduceBEq, Int.reduceBNe, Int.reduceLT, Int.reduceLE, e2.cell, if_pos c1, Int.toNat_natCast, Nat.mul_one]))
        refine stT e3 (by simp [nats]; omega) rfl fun w' hs ha ho => ?_
        (repeat (first | with_reducible refine run_seq ?_ | with_reducible refine run_reg ?_ | with_reducible refine run_block ?_ | with_reducible refine run_blk ?_ | with_reducible refine run_skip ?_ | with_reducible refine run_exit rfl ?_ | with_reducible refine run_drw ?_ | with_reducible refine run_condT ?_ | with_reducible refine run_ret' ?_ | with_reducible refine run_end' ?_ | simp only [go_sem, ↓reduceIte, Nat.reduceAdd, Nat.reduceEqDiff, Nat.reduceBEq, reduceCtorEq, Int.reduceBEq, Int.reduceBNe, Int.reduceLT, Int.reduceLE, e]))
        exact ⟨by rw [hb], by simp only [MT.swapM, hb, if_true, Int.toNat_natCast]; exact .mk (h3.put hk hx e3 ha ho), ho.g⟩
    · have hb : MT.swapB (some (wd, l)) i old v = false := by simp [MT.swapB, e]
      have hM : MT.swapM (some (wd, l)) i old v = some (wd, l) := by simp only [MT.swapM, hb]; rfl
      rw [hb, hM, e]
      (repeat (first | with_reducible refine run_seq ?_ | with_reducible refine run_reg ?_ | with_reducible refine run_block ?_ | with_reducible refine run_blk ?_ | with_reducible refine run_skip ?_ | with_reducible refine run_exit rfl ?_ | with_reducible refine run_drw ?_ | with_reducible refine run_condT ?_ | with_reducible refine run_ret' ?_ | with_reducible refine run_end' ?_ | simp only [go_sem, ↓reduceIte, Nat.reduceAdd, Nat.reduceEqDiff, Nat.reduceBEq, reduceCtorEq, Int.reduceBEq, Int.reduceBNe, Int.reduceLT, Int.reduceLE, Option.isSome_some]))
      by_cases hi : hasB l.length i = true
      · refine callT0 (rhas h3 hi) ?_
        (repeat (first | with_reducible refine run_seq ?_ | with_reducible refine run_reg ?_ | with_reducible refine run_block ?_ | with_reducible refine run_blk ?_ | with_reducible refine run_skip ?_ | with_reducible refine run_exit rfl ?_ | with_reducible refine run_drw ?_ | with_reducible refine run_condT ?_ | with_reducible refine run_ret' ?_ | with_reducible refine run_end' ?_ | simp only [go_sem, ↓reduceIte, Nat.reduceAdd, Nat.reduceEqDiff, Nat.reduceBEq, reduceCtorEq, Int.reduceBEq, Int.reduceBNe, Int.reduceLT, Int.reduceLE]))
        by_cases ho : mayB wd old = true
        · have hv : mayB wd v = false := by simpa [hi, ho] using q1
          refine callT0 (rmay h3 ho) ?_
          (repeat (first | with_reducible refine run_seq ?_ | with_reducible refine run_reg ?_ | with_reducible refine run_block ?_ | with_reducible refine run_blk ?_ | with_reducible refine run_skip ?_ | with_reducible refine run_exit rfl ?_ | with_reducible refine run_drw ?_ | with_reducible refine run_condT ?_ | with_reducible refine run_ret' ?_ | with_reducible refine run_end' ?_ | simp only [go_sem, ↓reduceIte, Nat.reduceAdd, Nat.reduceEqDiff, Nat.reduceBEq, reduceCtorEq, Int.reduceBEq, Int.reduceBNe, Int.reduceLT, Int.reduceLE]))
          refine callT0 (rmay h3 hv) ?_
          (repeat (first | with_reducible refine run_seq ?_ | with_reducible refine run_reg ?_ | with_reducible refine run_block ?_ | with_reducible refine run_blk ?_ | with_reducible refine run_skip ?_ | with_reducible refine run_exit rfl ?_ | with_reducible refine run_drw ?_ | with_reducible refine run_condT ?_ | with_reducible refine run_ret' ?_ | with_reducible refine run_end' ?_ | simp only [go_sem, ↓reduceIte, Nat.reduceAdd, Nat.reduceEqDiff, Nat.reduceBEq, reduceCtorEq, Int.reduceBEq, Int.reduceBNe, Int.reduceLT, Int.reduceLE]))
          exact ⟨.mk h3, Only.refl _ _⟩
        · rw [Bool.not_eq_true] at ho
          refine callT0 (rmay h3 ho) ?_
          (repeat (first | with_reducible refine run_seq ?_ | with_reducible refine run_reg ?_ | with_reducible refine run_block ?_ | with_reducible refine run_blk ?_ | with_reducible refine run_skip ?_ | with_reducible refine run_exit rfl ?_ | with_reducible refine run_drw ?_ | with_reducible refine run_condT ?_ | with_reducible refine run_ret' ?_ | with_reducible refine run_end' ?_ | simp only [go_sem, ↓reduceIte, Nat.reduceAdd, Nat.reduceEqDiff, Nat.reduceBEq, reduceCtorEq, Int.reduceBEq, Int.reduceBNe, Int.reduceLT, Int.reduceLE]))
          exact ⟨.mk h3, Only.refl _ _⟩
      · rw [Bool.not_eq_true] at hi
        refine callT0 (rhas h3 hi) ?_
        (repeat (first | with_reducible refine run_seq ?_ | with_reducible refine run_reg ?_ | with_reducible refine run_block ?_ | with_reducible refine run_blk ?_ | with_reducible refine run_skip ?_ | with_reducible refine run_exit rfl ?_ | with_reducible refine run_drw ?_ | with_reducible refine run_condT ?_ | with_reducible refine run_ret' ?_ | with_reducible refine run_end' ?_ | simp only [go_sem, ↓reduceIte, Nat.reduceAdd, Nat.reduceEqDiff, Nat.reduceBEq, reduceCtorEq, Int.reduceBEq, Int.reduceBNe, Int.reduceLT, Int.reduceLE]))
        exact ⟨.mk h3, Only.refl _ _⟩
end Go.Proofs.Ythalhkhjacjhgaa
