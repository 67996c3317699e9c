/- Side tables: what check asks. -/
import Derived.Test.YtgcofabdialaaaaGreatSideA
import Derived.Test.YtgcofabdialaaaaGreatSideM
namespace Go.Proofs.YtgcofabdialaaaaGreat
set_option linter.unusedSimpArgs false
set_option linter.unusedVariables false
set_option maxRecDepth 8000

def ints (xs : List Int) : List Value := xs.map fun (x : Int) => .int .i64 x
theorem ints_append_get {xs : List Int} {i : Nat} (rest : List Value) (h : i < xs.length) : (ints xs ++ rest)[i]? = some (.int .i64 (xs.getD i 0)) := by
  rw [List.getElem?_append_left (by simpa [ints] using h)]
  simp [ints, h]
/-- how far slot t is below n -/
def upTo (n : Nat) (t : Nat) (g : Env) : Nat := match g t with | .int _ i => (n - i).toNat | _ => 0
theorem upTo_int {n t : Nat} {g : Env} {k : IntKind} {i : Nat} (h : g t = .int k i) : upTo n t g = n - i := by unfold upTo; rw [h]; show ((n : Int) - i).toNat = _; omega
theorem i64_succ (i : Nat) (h : i ≤ 4611686018427387903) : IntKind.i64.wrap ((i : Int) + 1) = ((i + 1 : Nat) : Int) := i64_of_nat (i + 1) (by omega)
theorem any_take_succ {xs : List Int} {p : Int → Bool} {i : Nat} (h : i < xs.length) : (xs.take (i + 1)).any p = ((xs.take i).any p || p (xs.getD i 0)) := by
  rw [List.take_succ_eq_append_getElem h, List.any_append]
  simp [h]

theorem indexFunc {w : World} {F : Nat} {caps : Array Value} {p : Int → Bool} {a : Option Addr} {xs : List Int} {cap : Nat} (hs : xs ≠ [] → ∃ s rest, a = some ⟨s, 0, none⟩ ∧ At w s (ints xs ++ rest)) (hok : okF Tryz.prog F = true)
    (hlen : xs.length ≤ 1000) (hF : ∀ w' x, Only [] w w' → x ∈ xs → Cs Tryz.prog F ([.int .i64 x] ++ caps.toList) w' fun v w'' => v = .bool (p x) ∧ Only [] w' w'') :
    Cs Tryz.prog 138 [.slice a xs.length cap, .func (.func F) #[] caps] w fun v w' => (∃ k : Int, v = .int .i64 k ∧ decide (0 ≤ k) = xs.any p) ∧ Only [] w w' := by
  refine enter_slices_IndexFunc___int_int_ rfl ?_
  unfold x_slices_IndexFunc___int_int_
  (repeat (first | with_reducible refine run_seq ?_ | with_reducible refine run_reg ?_ | with_reducible refine run_block ?_ | with_reducible refine run_blk ?_ | with_reducible refine run_skip ?_ | with_reducible refine run_exit rfl ?_ | with_reducible refine run_drw ?_ | with_reducible refine run_condT ?_ | with_reducible refine run_ret' ?_ | with_reducible refine run_end' ?_ | simp only [go_sem, ↓reduceIte, Nat.reduceAdd, Nat.reduceEqDiff, Nat.reduceBEq, reduceCtorEq, Int.reduceBEq, Int.reduceBNe, Int.reduceLT, Int.reduceLE]))
  refine run_loop [5, 8, 9, 10, 11, 12, 13, 14, 15, 16, 18] (fun g w' => ∃ i : Nat, g 8 = .int .i64 i ∧ i ≤ xs.length ∧ (xs.take i).any p = false ∧ Only [] w w') (fun g _ => upTo xs.length 8 g) ⟨0, by simp only [go_sem, ↓reduceIte, Nat.reduceAdd, Nat.reduceEqDiff, Nat.reduceBEq, reduceCtorEq, Int.reduceBEq, Int.reduceBNe, Int.reduceLT, Int.reduceLE]; rfl, by omega, by simp, Only.refl _ _⟩ fun g w' hI hnext => ?_
  obtain ⟨i, h8, hi, hany, ho⟩ := hI
  (repeat (first | with_reducible refine run_seq ?_ | with_reducible refine run_reg ?_ | with_reducible refine run_block ?_ | with_reducible refine run_blk ?_ | with_reducible refine run_skip ?_ | with_reducible refine run_exit rfl ?_ | with_reducible refine run_drw ?_ | with_reducible refine run_condT ?_ | with_reducible refine run_ret' ?_ | with_reducible refine run_end' ?_ | simp only [go_sem, ↓reduceIte, Nat.reduceAdd, Nat.reduceEqDiff, Nat.reduceBEq, reduceCtorEq, Int.reduceBEq, Int.reduceBNe, Int.reduceLT, Int.reduceLE, h8]))
  refine condT (fun hlt => ?_) (fun hge => ?_)
  · have hlt : i < xs.length := by simpa using hlt
    obtain ⟨s, rest, rfl, hat⟩ := hs (by intro e; subst e; simp at hlt)
    have c1 : (0 : Int) ≤ (i : Int) ∧ (i : Int) < (xs.length : Int) := ⟨by omega, by omega⟩
    (repeat (first | with_reducible refine run_seq ?_ | with_reducible refine run_reg ?_ | with_reducible refine run_block ?_ | with_reducible refine run_blk ?_ | with_reducible refine run_skip ?_ | with_reducible refine run_exit rfl ?_ | with_reducible refine run_drw ?_ | with_reducible refine run_condT ?_ | with_reducible refine run_ret' ?_ | with_reducible refine run_end' ?_ | simp only [go_sem, ↓reduceIte, Nat.reduceAdd, Nat.reduceEqDiff, Nat.reduceBEq, reduceCtorEq, Int.reduceBEq, Int.reduceBNe, Int.reduceLT, Int.reduceLE, h8, if_pos c1, hat.cell, (hat.keep0 ho).cell, ints_append_get rest hlt, Int.toNat_natCast, Nat.mul_one]))
    have hF' : Cs Tryz.prog F ((#[] : Array Value).toList ++ [.int .i64 (xs.getD i 0)] ++ caps.toList) w' fun v w'' => v = .bool (p (xs.getD i 0)) ∧ Only [] w' w'' := by
      have := hF w' (xs.getD i 0) ho (by simp [hlt])
      simpa using this
    refine callVT (callVals_f F #[] [.int .i64 (xs.getD i 0)] caps) hok hF' ?_
    rintro v w2 ⟨rfl, ho2⟩
    (repeat (first | with_reducible refine run_seq ?_ | with_reducible refine run_reg ?_ | with_reducible refine run_block ?_ | with_reducible refine run_blk ?_ | with_reducible refine run_skip ?_ | with_reducible refine run_exit rfl ?_ | with_reducible refine run_drw ?_ | with_reducible refine run_condT ?_ | with_reducible refine run_ret' ?_ | with_reducible refine run_end' ?_ | simp only [go_sem, ↓reduceIte, Nat.reduceAdd, Nat.reduceEqDiff, Nat.reduceBEq, reduceCtorEq, Int.reduceBEq, Int.reduceBNe, Int.reduceLT, Int.reduceLE]))
    refine condT (fun hp => ?_) (fun hp => ?_)
    · (repeat (first | with_reducible refine run_seq ?_ | with_reducible refine run_reg ?_ | with_reducible refine run_block ?_ | with_reducible refine run_blk ?_ | with_reducible refine run_skip ?_ | with_reducible refine run_exit rfl ?_ | with_reducible refine run_drw ?_ | with_reducible refine run_condT ?_ | with_reducible refine run_ret' ?_ | with_reducible refine run_end' ?_ | simp only [go_sem, ↓reduceIte, Nat.reduceAdd, Nat.reduceEqDiff, Nat.reduceBEq, reduceCtorEq, Int.reduceBEq, Int.reduceBNe, Int.reduceLT, Int.reduceLE]))
      refine ⟨⟨i, rfl, ?_⟩, ho.nil ho2⟩
      have : xs.any p = true := List.any_eq_true.2 ⟨_, by simp [hlt], hp⟩
      simp [this]
    · (repeat (first | with_reducible refine run_seq ?_ | with_reducible refine run_reg ?_ | with_reducible refine run_block ?_ | with_reducible refine run_blk ?_ | with_reducible refine run_skip ?_ | with_reducible refine run_exit rfl ?_ | with_reducible refine run_drw ?_ | with_reducible refine run_condT ?_ | with_reducible refine run_ret' ?_ | with_reducible refine run_end' ?_ | simp only [go_sem, ↓reduceIte, Nat.reduceAdd, Nat.reduceEqDiff, Nat.reduceBEq, reduceCtorEq, Int.reduceBEq, Int.reduceBNe, Int.reduceLT, Int.reduceLE, h8, i64_succ i (by omega)]))
      refine hnext _ w2 ?_ ⟨i + 1, ?_, by omega, by rw [any_take_succ hlt, hany, hp]; rfl, ho.nil ho2⟩ ?_
      · (repeat (first | with_reducible exact Keeps.refl _ _ | with_reducible exact Keeps.ovr _ _ _ | refine Keeps.put ?_ rfl _ | exact Keeps.refl _ _ | exact Keeps.ovr _ _ _ | refine Keeps.ovr2 ?_ rfl _))
      · simp only [go_sem, ↓reduceIte, Nat.reduceAdd, Nat.reduceEqDiff, Nat.reduceBEq, reduceCtorEq, Int.reduceBEq, Int.reduceBNe, Int.reduceLT, Int.reduceLE]
      · rw [upTo_int h8, upTo_int (k := .i64) (i := i + 1) (by simp only [go_sem, ↓reduceIte, Nat.reduceAdd, Nat.reduceEqDiff, Nat.reduceBEq, reduceCtorEq, Int.reduceBEq, Int.reduceBNe, Int.reduceLT, Int.reduceLE])]; omega
  · have : i = xs.length := by have : ¬ (i < xs.length) := by simpa using hge
                               omega
    subst this
    (repeat (first | with_reducible refine run_seq ?_ | with_reducible refine run_reg ?_ | with_reducible refine run_block ?_ | with_reducible refine run_blk ?_ | with_reducible refine run_skip ?_ | with_reducible refine run_exit rfl ?_ | with_reducible refine run_drw ?_ | with_reducible refine run_condT ?_ | with_reducible refine run_ret' ?_ | with_reducible refine run_end' ?_ | simp only [go_sem, ↓reduceIte, Nat.reduceAdd, Nat.reduceEqDiff, Nat.reduceBEq, reduceCtorEq, Int.reduceBEq, Int.reduceBNe, Int.reduceLT, Int.reduceLE]))
    refine ⟨⟨-1, rfl, ?_⟩, ho⟩
    rw [List.take_length] at hany
    simp [hany]

theorem containsFunc {w : World} {F : Nat} {caps : Array Value} {p : Int → Bool} {a : Option Addr} {xs : List Int} {cap : Nat} (hs : xs ≠ [] → ∃ s rest, a = some ⟨s, 0, none⟩ ∧ At w s (ints xs ++ rest)) (hok : okF Tryz.prog F = true)
    (hlen : xs.length ≤ 1000) (hF : ∀ w' x, Only [] w w' → x ∈ xs → Cs Tryz.prog F ([.int .i64 x] ++ caps.toList) w' fun v w'' => v = .bool (p x) ∧ Only [] w' w'') :
    Cs Tryz.prog 133 [.slice a xs.length cap, .func (.func F) #[] caps] w fun v w' => v = .bool (xs.any p) ∧ Only [] w w' := by
  refine enter_slices_ContainsFunc___int_int_ rfl ?_
  unfold x_slices_ContainsFunc___int_int_
  (repeat (first | with_reducible refine run_seq ?_ | with_reducible refine run_reg ?_ | with_reducible refine run_block ?_ | with_reducible refine run_blk ?_ | with_reducible refine run_skip ?_ | with_reducible refine run_exit rfl ?_ | with_reducible refine run_drw ?_ | with_reducible refine run_condT ?_ | with_reducible refine run_ret' ?_ | with_reducible refine run_end' ?_ | simp only [go_sem, ↓reduceIte, Nat.reduceAdd, Nat.reduceEqDiff, Nat.reduceBEq, reduceCtorEq, Int.reduceBEq, Int.reduceBNe, Int.reduceLT, Int.reduceLE]))
  refine callT (indexFunc hs hok hlen hF) ?_
  rintro v w' ⟨⟨k, rfl, hk⟩, ho⟩
  (repeat (first | with_reducible refine run_seq ?_ | with_reducible refine run_reg ?_ | with_reducible refine run_block ?_ | with_reducible refine run_blk ?_ | with_reducible refine run_skip ?_ | with_reducible refine run_exit rfl ?_ | with_reducible refine run_drw ?_ | with_reducible refine run_condT ?_ | with_reducible refine run_ret' ?_ | with_reducible refine run_end' ?_ | simp only [go_sem, ↓reduceIte, Nat.reduceAdd, Nat.reduceEqDiff, Nat.reduceBEq, reduceCtorEq, Int.reduceBEq, Int.reduceBNe, Int.reduceLT, Int.reduceLE, hk]))
  exact ho

theorem value_tab {w : World} {b g n wd : Nat} {l : List Nat} (h : STab w b g n wd l) (v : Int) : Cs Tryz.prog 229 [.pointer (some ⟨b, 0, none⟩), .int .i64 v] w fun r w' => r = .bool (mayB wd v) ∧ Only [] w w' := by
  refine enter_side_Table_value rfl ?_
  unfold x_side_Table_value
  by_cases hv : 0 ≤ v
  · (repeat (first | with_reducible refine run_seq ?_ | with_reducible refine run_reg ?_ | with_reducible refine run_block ?_ | with_reducible refine run_blk ?_ | with_reducible refine run_skip ?_ | with_reducible refine run_exit rfl ?_ | with_reducible refine run_drw ?_ | with_reducible refine run_condT ?_ | with_reducible refine run_ret' ?_ | with_reducible refine run_end' ?_ | simp only [go_sem, ↓reduceIte, Nat.reduceAdd, Nat.reduceEqDiff, Nat.reduceBEq, reduceCtorEq, Int.reduceBEq, Int.reduceBNe, Int.reduceLT, Int.reduceLE, decide_eq_true hv]))
    refine callT0 (most_tab h) ?_
    (repeat (first | with_reducible refine run_seq ?_ | with_reducible refine run_reg ?_ | with_reducible refine run_block ?_ | with_reducible refine run_blk ?_ | with_reducible refine run_skip ?_ | with_reducible refine run_exit rfl ?_ | with_reducible refine run_drw ?_ | with_reducible refine run_condT ?_ | with_reducible refine run_ret' ?_ | with_reducible refine run_end' ?_ | simp only [go_sem, ↓reduceIte, Nat.reduceAdd, Nat.reduceEqDiff, Nat.reduceBEq, reduceCtorEq, Int.reduceBEq, Int.reduceBNe, Int.reduceLT, Int.reduceLE]))
    exact ⟨by simp [mayB, hv], Only.refl _ _⟩
  · (repeat (first | with_reducible refine run_seq ?_ | with_reducible refine run_reg ?_ | with_reducible refine run_block ?_ | with_reducible refine run_blk ?_ | with_reducible refine run_skip ?_ | with_reducible refine run_exit rfl ?_ | with_reducible refine run_drw ?_ | with_reducible refine run_condT ?_ | with_reducible refine run_ret' ?_ | with_reducible refine run_end' ?_ | simp only [go_sem, ↓reduceIte, Nat.reduceAdd, Nat.reduceEqDiff, Nat.reduceBEq, reduceCtorEq, Int.reduceBEq, Int.reduceBNe, Int.reduceLT, Int.reduceLE, decide_eq_false hv]))
    exact ⟨by simp [mayB, hv], Only.refl _ _⟩

theorem check1_tab {w : World} {b g n wd q : Nat} {l : List Nat} (h : STab w b g n wd l) (hq : At w q [.pointer (some ⟨b, 0, none⟩)]) (v : Int) : Cs Tryz.prog 228 [.int .i64 v, .pointer (some ⟨q, 0, none⟩)] w fun r w' => r = .bool (!mayB wd v) ∧ Only [] w w' := by
  refine enter_side_Table_check_1 rfl ?_
  unfold x_side_Table_check_1
  (repeat (first | with_reducible refine run_seq ?_ | with_reducible refine run_reg ?_ | with_reducible refine run_block ?_ | with_reducible refine run_blk ?_ | with_reducible refine run_skip ?_ | with_reducible refine run_exit rfl ?_ | with_reducible refine run_drw ?_ | with_reducible refine run_condT ?_ | with_reducible refine run_ret' ?_ | with_reducible refine run_end' ?_ | simp only [go_sem, ↓reduceIte, Nat.reduceAdd, Nat.reduceEqDiff, Nat.reduceBEq, reduceCtorEq, Int.reduceBEq, Int.reduceBNe, Int.reduceLT, Int.reduceLE, hq.cell]))
  refine callT1 (value_tab h v) fun w' ho => ?_
  (repeat (first | with_reducible refine run_seq ?_ | with_reducible refine run_reg ?_ | with_reducible refine run_block ?_ | with_reducible refine run_blk ?_ | with_reducible refine run_skip ?_ | with_reducible refine run_exit rfl ?_ | with_reducible refine run_drw ?_ | with_reducible refine run_condT ?_ | with_reducible refine run_ret' ?_ | with_reducible refine run_end' ?_ | simp only [go_sem, ↓reduceIte, Nat.reduceAdd, Nat.reduceEqDiff, Nat.reduceBEq, reduceCtorEq, Int.reduceBEq, Int.reduceBNe, Int.reduceLT, Int.reduceLE]))
  exact ho

theorem there_tab {w : World} {b g n wd : Nat} {l : List Nat} (h : STab w b g n wd l) {i : Int} {t : Bool} (ht : hasB n i = t) : Cs Tryz.prog 197 [.pointer (some ⟨b, 0, none⟩), .int .i64 i] w fun r w' => r = .bool t ∧ Only [] w w' := by
  subst ht
  obtain ⟨ws, cap, rest, h1, h2, h3, h4⟩ := h.mem
  refine enter_side_Table_there rfl ?_
  unfold x_side_Table_there
  by_cases hv : 0 ≤ i
  · (repeat (first | with_reducible refine run_seq ?_ | with_reducible refine run_reg ?_ | with_reducible refine run_block ?_ | with_reducible refine run_blk ?_ | with_reducible refine run_skip ?_ | with_reducible refine run_exit rfl ?_ | with_reducible refine run_drw ?_ | with_reducible refine run_condT ?_ | with_reducible refine run_ret' ?_ | with_reducible refine run_end' ?_ | simp only [go_sem, ↓reduceIte, Nat.reduceAdd, Nat.reduceEqDiff, Nat.reduceBEq, reduceCtorEq, Int.reduceBEq, Int.reduceBNe, Int.reduceLT, Int.reduceLE, decide_eq_true hv, h2.cell]))
    refine callT0 (made_tab h) ?_
    (repeat (first | with_reducible refine run_seq ?_ | with_reducible refine run_reg ?_ | with_reducible refine run_block ?_ | with_reducible refine run_blk ?_ | with_reducible refine run_skip ?_ | with_reducible refine run_exit rfl ?_ | with_reducible refine run_drw ?_ | with_reducible refine run_condT ?_ | with_reducible refine run_ret' ?_ | with_reducible refine run_end' ?_ | simp only [go_sem, ↓reduceIte, Nat.reduceAdd, Nat.reduceEqDiff, Nat.reduceBEq, reduceCtorEq, Int.reduceBEq, Int.reduceBNe, Int.reduceLT, Int.reduceLE, decide_eq_true hv, h2.cell]))
    exact ⟨by simp [hasB, hv], Only.refl _ _⟩
  · (repeat (first | with_reducible refine run_seq ?_ | with_reducible refine run_reg ?_ | with_reducible refine run_block ?_ | with_reducible refine run_blk ?_ | with_reducible refine run_skip ?_ | with_reducible refine run_exit rfl ?_ | with_reducible refine run_drw ?_ | with_reducible refine run_condT ?_ | with_reducible refine run_ret' ?_ | with_reducible refine run_end' ?_ | simp only [go_sem, ↓reduceIte, Nat.reduceAdd, Nat.reduceEqDiff, Nat.reduceBEq, reduceCtorEq, Int.reduceBEq, Int.reduceBNe, Int.reduceLT, Int.reduceLE, decide_eq_false hv, h2.cell]))
    refine callT0 (made_tab h) ?_
    (repeat (first | with_reducible refine run_seq ?_ | with_reducible refine run_reg ?_ | with_reducible refine run_block ?_ | with_reducible refine run_blk ?_ | with_reducible refine run_skip ?_ | with_reducible refine run_exit rfl ?_ | with_reducible refine run_drw ?_ | with_reducible refine run_condT ?_ | with_reducible refine run_ret' ?_ | with_reducible refine run_end' ?_ | simp only [go_sem, ↓reduceIte, Nat.reduceAdd, Nat.reduceEqDiff, Nat.reduceBEq, reduceCtorEq, Int.reduceBEq, Int.reduceBNe, Int.reduceLT, Int.reduceLE, decide_eq_false hv, h2.cell]))
    exact ⟨by simp [hasB, hv], Only.refl _ _⟩
end Go.Proofs.YtgcofabdialaaaaGreat
