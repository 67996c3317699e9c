/- Roots: searching; Leads of the program. -/
import Derived.Test.YtblfmacnkacalaaRtE
namespace Go.Proofs.Ytblfmacnkacalaa
set_option linter.unusedSimpArgs false
set_option linter.unusedVariables false
set_option maxRecDepth 8000

/-- integers that may be read through a slice; D: the block in which they lie -/
def RdB (w : World) (D : List Nat) (v : Value) (xs : List Int) : Prop := ∃ (a : Option Addr) (cap : Nat), v = .slice a xs.length cap ∧ ∀ i, i < xs.length → ∃ p, a = some p ∧ p.block ∈ D ∧ w.cell? (p.add i) = some (.int .i64 (xs.getD i 0))
theorem RdB.keep {w w' : World} {D S : List Nat} {v : Value} {xs : List Int} (h : RdB w D v xs) (k : Only S w w') (hd : ∀ x, x ∈ D → x ∉ S) : RdB w' D v xs := by
  obtain ⟨a, cap, h1, h2⟩ := h
  refine ⟨a, cap, h1, fun i hi => ?_⟩
  obtain ⟨p, h3, h4, h5⟩ := h2 i hi
  refine ⟨p, h3, h4, ?_⟩
  have hlt := cell_lt h5
  rw [add_block] at hlt
  rw [cell_of_heap (w := w) (w' := w') (a := p.add i) (by rw [add_block]; exact k.block _ hlt (hd _ h4))]
  exact h5
theorem RdB.keep0 {w w' : World} {D : List Nat} {v : Value} {xs : List Int} (h : RdB w D v xs) (k : Only [] w w') : RdB w' D v xs := h.keep k (by simp)
theorem Sl.rd {w : World} {v : Value} {n : Nat} {xs : List Int} {fp : List Nat} (h : Sl w 1 v n (ints xs) fp) : RdB w fp v xs := by
  have hn : xs.length = n := by have := h.1; rw [ints_length] at this; omega
  subst hn
  rcases h.2 with ⟨h1, h2, h3⟩ | ⟨g, cap, ys, T, h1, h2, h3, h4⟩
  · exact ⟨none, 0, by rw [h1, h2], fun i hi => by omega⟩
  · refine ⟨_, cap, h1, fun i hi => ⟨_, rfl, by rw [h2]; simp, ?_⟩⟩
    have hat : At w g (ints xs ++ ys) := ⟨T, h3⟩
    rw [addr_add, Nat.zero_add, hat.cell]
    exact ints_get ys hi
theorem RdB.nil (w : World) (c : Nat) (a : Option Addr) : RdB w [] (.slice a 0 c) [] := ⟨a, c, rfl, fun i hi => absurd hi (by simp)⟩

theorem take_contains_succ {xs : List Int} {i : Nat} {y : Int} (h : i < xs.length) : (xs.take (i + 1)).contains y = ((xs.take i).contains y || decide (y = xs.getD i 0)) := by
  have e : xs.take (i + 1) = xs.take i ++ [xs.getD i 0] := by rw [List.take_succ_eq_append_getElem h]; simp [h]
  rw [e, Bool.eq_iff_iff]
  simp

theorem Index_m {w : World} {D : List Nat} {v : Value} {xs : List Int} (h : RdB w D v xs) (hl : xs.length ≤ 100000) (y : Int) : Cs Try.prog 51 [v, .int .i64 y] w fun r w' => (∃ k : Int, r = .int .i64 k ∧ decide (0 ≤ k) = xs.contains y) ∧ w' = w := by
  refine enter_slices_Index___int_int_ rfl ?_
  unfold x_slices_Index___int_int_
  obtain ⟨a, cap, rfl, hrd⟩ := h
  (repeat (first | with_reducible refine run_seq ?_ | with_reducible refine run_reg ?_ | with_reducible refine run_block ?_ | with_reducible refine run_blk ?_ | with_reducible refine run_skip ?_ | with_reducible refine run_exit rfl ?_ | with_reducible refine run_drw ?_ | with_reducible refine run_condT ?_ | with_reducible refine run_ret' ?_ | with_reducible refine run_end' ?_ | simp only [go_sem, ↓reduceIte, Nat.reduceAdd, Nat.reduceEqDiff, Nat.reduceBEq, reduceCtorEq, Int.reduceBEq, Int.reduceBNe, Int.reduceLT, Int.reduceLE]))
  refine run_loop (4 :: 5 :: 6 :: 7 :: 8 :: 9 :: 10 :: 11 :: 12 :: 13 :: 14 :: 15 :: 16 :: 17 :: 18 :: []) (fun g w' => ∃ i : Nat, g 8 = .int .i64 i ∧ g 7 = .int .i64 xs.length ∧ i ≤ xs.length ∧ (xs.take i).contains y = false ∧ w' = w) (fun g _ => upTo xs.length 8 g) ⟨0, by simp only [go_sem, ↓reduceIte, Nat.reduceAdd, Nat.reduceEqDiff, Nat.reduceBEq, reduceCtorEq, Int.reduceBEq, Int.reduceBNe, Int.reduceLT, Int.reduceLE]; rfl, by simp only [go_sem, ↓reduceIte, Nat.reduceAdd, Nat.reduceEqDiff, Nat.reduceBEq, reduceCtorEq, Int.reduceBEq, Int.reduceBNe, Int.reduceLT, Int.reduceLE], by omega, by simp, rfl⟩ fun g w' hI hnext => ?_
  obtain ⟨i, h8, h7, hi, hno, rfl⟩ := hI
  (repeat (first | with_reducible refine run_seq ?_ | with_reducible refine run_reg ?_ | with_reducible refine run_block ?_ | with_reducible refine run_blk ?_ | with_reducible refine run_skip ?_ | with_reducible refine run_exit rfl ?_ | with_reducible refine run_drw ?_ | with_reducible refine run_condT ?_ | with_reducible refine run_ret' ?_ | with_reducible refine run_end' ?_ | simp only [go_sem, ↓reduceIte, Nat.reduceAdd, Nat.reduceEqDiff, Nat.reduceBEq, reduceCtorEq, Int.reduceBEq, Int.reduceBNe, Int.reduceLT, Int.reduceLE, h8, h7]))
  refine condT (fun hlt => ?_) (fun hge => ?_)
  · have hlt : i < xs.length := by simpa using hlt
    obtain ⟨p, rfl, _, hc⟩ := hrd i hlt
    have c1 : (0 : Int) ≤ (i : Int) ∧ (i : Int) < (xs.length : Int) := ⟨by omega, by omega⟩
    by_cases e : y = xs.getD i 0
    · (repeat (first | with_reducible refine run_seq ?_ | with_reducible refine run_reg ?_ | with_reducible refine run_block ?_ | with_reducible refine run_blk ?_ | with_reducible refine run_skip ?_ | with_reducible refine run_exit rfl ?_ | with_reducible refine run_drw ?_ | with_reducible refine run_condT ?_ | with_reducible refine run_ret' ?_ | with_reducible refine run_end' ?_ | simp only [go_sem, ↓reduceIte, Nat.reduceAdd, Nat.reduceEqDiff, Nat.reduceBEq, reduceCtorEq, Int.reduceBEq, Int.reduceBNe, Int.reduceLT, Int.reduceLE, h8, h7, if_pos c1, Int.toNat_natCast, Nat.mul_one, hc, beq_int_true e]))
      refine ⟨i, rfl, ?_⟩
      have : xs.contains y = true := by
        rw [List.contains_iff_mem, e, List.getD_eq_getElem?_getD, List.getElem?_eq_getElem hlt]; simp
      rw [this]; simp
    · (repeat (first | with_reducible refine run_seq ?_ | with_reducible refine run_reg ?_ | with_reducible refine run_block ?_ | with_reducible refine run_blk ?_ | with_reducible refine run_skip ?_ | with_reducible refine run_exit rfl ?_ | with_reducible refine run_drw ?_ | with_reducible refine run_condT ?_ | with_reducible refine run_ret' ?_ | with_reducible refine run_end' ?_ | simp only [go_sem, ↓reduceIte, Nat.reduceAdd, Nat.reduceEqDiff, Nat.reduceBEq, reduceCtorEq, Int.reduceBEq, Int.reduceBNe, Int.reduceLT, Int.reduceLE, h8, h7, if_pos c1, Int.toNat_natCast, Nat.mul_one, hc, beq_int_false e, i64_succ i (by omega)]))
      refine hnext _ w' ?_ ⟨i + 1, ?_, ?_, by omega, by rw [take_contains_succ hlt, hno]; simpa using e, rfl⟩ ?_
      · (repeat (first | with_reducible exact Keeps.refl _ _ | with_reducible exact Keeps.ovr _ _ _ | refine Keeps.put ?_ rfl _ | exact Keeps.refl _ _ | exact Keeps.ovr _ _ _ | refine Keeps.ovr2 ?_ rfl _))
      · simp only [go_sem, ↓reduceIte, Nat.reduceAdd, Nat.reduceEqDiff, Nat.reduceBEq, reduceCtorEq, Int.reduceBEq, Int.reduceBNe, Int.reduceLT, Int.reduceLE]
      · simp only [go_sem, ↓reduceIte, Nat.reduceAdd, Nat.reduceEqDiff, Nat.reduceBEq, reduceCtorEq, Int.reduceBEq, Int.reduceBNe, Int.reduceLT, Int.reduceLE, h7]
      · rw [upTo_int h8, upTo_int (k := .i64) (i := i + 1) (by simp only [go_sem, ↓reduceIte, Nat.reduceAdd, Nat.reduceEqDiff, Nat.reduceBEq, reduceCtorEq, Int.reduceBEq, Int.reduceBNe, Int.reduceLT, Int.reduceLE])]; omega
  · have : i = xs.length := by have : ¬ (i < xs.length) := by simpa using hge
                               omega
    subst this
    (repeat (first | with_reducible refine run_seq ?_ | with_reducible refine run_reg ?_ | with_reducible refine run_block ?_ | with_reducible refine run_blk ?_ | with_reducible refine run_skip ?_ | with_reducible refine run_exit rfl ?_ | with_reducible refine run_drw ?_ | with_reducible refine run_condT ?_ | with_reducible refine run_ret' ?_ | with_reducible refine run_end' ?_ | simp only [go_sem, ↓reduceIte, Nat.reduceAdd, Nat.reduceEqDiff, Nat.reduceBEq, reduceCtorEq, Int.reduceBEq, Int.reduceBNe, Int.reduceLT, Int.reduceLE]))
    refine ⟨-1, rfl, ?_⟩
    rw [List.take_length] at hno
    rw [hno]; rfl

theorem Contains_m {w : World} {D : List Nat} {v : Value} {xs : List Int} (h : RdB w D v xs) (hl : xs.length ≤ 100000) (y : Int) : Cs Try.prog 37 [v, .int .i64 y] w fun r w' => r = .bool (xs.contains y) ∧ w' = w := by
  refine enter_slices_Contains___int_int_ rfl ?_
  unfold x_slices_Contains___int_int_
  (repeat (first | with_reducible refine run_seq ?_ | with_reducible refine run_reg ?_ | with_reducible refine run_block ?_ | with_reducible refine run_blk ?_ | with_reducible refine run_skip ?_ | with_reducible refine run_exit rfl ?_ | with_reducible refine run_drw ?_ | with_reducible refine run_condT ?_ | with_reducible refine run_ret' ?_ | with_reducible refine run_end' ?_ | simp only [go_sem, ↓reduceIte, Nat.reduceAdd, Nat.reduceEqDiff, Nat.reduceBEq, reduceCtorEq, Int.reduceBEq, Int.reduceBNe, Int.reduceLT, Int.reduceLE]))
  refine callT (Index_m h hl y) ?_
  rintro r w' ⟨⟨k, rfl, hk⟩, rfl⟩
  (repeat (first | with_reducible refine run_seq ?_ | with_reducible refine run_reg ?_ | with_reducible refine run_block ?_ | with_reducible refine run_blk ?_ | with_reducible refine run_skip ?_ | with_reducible refine run_exit rfl ?_ | with_reducible refine run_drw ?_ | with_reducible refine run_condT ?_ | with_reducible refine run_ret' ?_ | with_reducible refine run_end' ?_ | simp only [go_sem, ↓reduceIte, Nat.reduceAdd, Nat.reduceEqDiff, Nat.reduceBEq, reduceCtorEq, Int.reduceBEq, Int.reduceBNe, Int.reduceLT, Int.reduceLE, hk]))

theorem nan1_m (w : World) (y : Int) : Cs Try.prog 53 [.int .i64 y] w fun r w' => r = .bool false ∧ w' = w := by
  refine enter_slices_isNaN_int_ rfl ?_
  unfold x_slices_isNaN_int_
  (repeat (first | with_reducible refine run_seq ?_ | with_reducible refine run_reg ?_ | with_reducible refine run_block ?_ | with_reducible refine run_blk ?_ | with_reducible refine run_skip ?_ | with_reducible refine run_exit rfl ?_ | with_reducible refine run_drw ?_ | with_reducible refine run_condT ?_ | with_reducible refine run_ret' ?_ | with_reducible refine run_end' ?_ | simp only [go_sem, ↓reduceIte, Nat.reduceAdd, Nat.reduceEqDiff, Nat.reduceBEq, reduceCtorEq, Int.reduceBEq, Int.reduceBNe, Int.reduceLT, Int.reduceLE, bne_int_false (rfl : y = y)]))
theorem nan2_m (w : World) (y : Int) : Cs Try.prog 58 [.int .i64 y] w fun r w' => r = .bool false ∧ w' = w := by
  refine enter_cmp_isNaN_int_ rfl ?_
  unfold x_cmp_isNaN_int_
  (repeat (first | with_reducible refine run_seq ?_ | with_reducible refine run_reg ?_ | with_reducible refine run_block ?_ | with_reducible refine run_blk ?_ | with_reducible refine run_skip ?_ | with_reducible refine run_exit rfl ?_ | with_reducible refine run_drw ?_ | with_reducible refine run_condT ?_ | with_reducible refine run_ret' ?_ | with_reducible refine run_end' ?_ | simp only [go_sem, ↓reduceIte, Nat.reduceAdd, Nat.reduceEqDiff, Nat.reduceBEq, reduceCtorEq, Int.reduceBEq, Int.reduceBNe, Int.reduceLT, Int.reduceLE, bne_int_false (rfl : y = y)]))
theorem less_m (w : World) (x y : Int) : Cs Try.prog 52 [.int .i64 x, .int .i64 y] w fun r w' => r = .bool (decide (x < y)) ∧ w' = w := by
  refine enter_cmp_Less_int_ rfl ?_
  unfold x_cmp_Less_int_
  (repeat (first | with_reducible refine run_seq ?_ | with_reducible refine run_reg ?_ | with_reducible refine run_block ?_ | with_reducible refine run_blk ?_ | with_reducible refine run_skip ?_ | with_reducible refine run_exit rfl ?_ | with_reducible refine run_drw ?_ | with_reducible refine run_condT ?_ | with_reducible refine run_ret' ?_ | with_reducible refine run_end' ?_ | simp only [go_sem, ↓reduceIte, Nat.reduceAdd, Nat.reduceEqDiff, Nat.reduceBEq, reduceCtorEq, Int.reduceBEq, Int.reduceBNe, Int.reduceLT, Int.reduceLE]))
  refine callT0 (nan2_m w x) ?_
  (repeat (first | with_reducible refine run_seq ?_ | with_reducible refine run_reg ?_ | with_reducible refine run_block ?_ | with_reducible refine run_blk ?_ | with_reducible refine run_skip ?_ | with_reducible refine run_exit rfl ?_ | with_reducible refine run_drw ?_ | with_reducible refine run_condT ?_ | with_reducible refine run_ret' ?_ | with_reducible refine run_end' ?_ | simp only [go_sem, ↓reduceIte, Nat.reduceAdd, Nat.reduceEqDiff, Nat.reduceBEq, reduceCtorEq, Int.reduceBEq, Int.reduceBNe, Int.reduceLT, Int.reduceLE]))

theorem shr1 (n : Nat) (h : n ≤ 4611686018427387904) : shiftO 1 (.int .u64 ((n : Int).fdiv (2 ^ (min (1 : Int).toNat 64)))) = some (.int .u64 ((n / 2 : Nat) : Int)) := by
  have e : (2 : Int) ^ (min (1 : Int).toNat 64) = 2 := by decide
  rw [e, shiftO_of (by omega), Int.fdiv_eq_ediv_of_nonneg _ (by omega)]
  congr 2
theorem BinarySearch_m {w : World} {D : List Nat} {v : Value} {xs : List Int} (h : RdB w D v xs) (hl : xs.length ≤ 100000) (hs : ∀ i j, i < j → j < xs.length → xs.getD i 0 < xs.getD j 0) (y : Int) :
    Cs Try.prog 38 [v, .int .i64 y] w fun r w' => (∃ k : Nat, r = .tuple #[.int .i64 k, .bool (xs.contains y)] ∧ (xs.contains y = true → k < xs.length ∧ xs.getD k 0 = y)) ∧ w' = w := by
  refine enter_slices_BinarySearch___int_int_ rfl ?_
  unfold x_slices_BinarySearch___int_int_
  obtain ⟨a, cap, rfl, hrd⟩ := h
  (repeat (first | with_reducible refine run_seq ?_ | with_reducible refine run_reg ?_ | with_reducible refine run_block ?_ | with_reducible refine run_blk ?_ | with_reducible refine run_skip ?_ | with_reducible refine run_exit rfl ?_ | with_reducible refine run_drw ?_ | with_reducible refine run_condT ?_ | with_reducible refine run_ret' ?_ | with_reducible refine run_end' ?_ | simp only [go_sem, ↓reduceIte, Nat.reduceAdd, Nat.reduceEqDiff, Nat.reduceBEq, reduceCtorEq, Int.reduceBEq, Int.reduceBNe, Int.reduceLT, Int.reduceLE]))
  refine run_loop (7 :: 8 :: 9 :: 13 :: 14 :: 15 :: 16 :: 17 :: 18 :: 19 :: 20 :: 21 :: 22 :: 23 :: 24 :: 25 :: 26 :: 27 :: 28 :: 29 :: 30 :: []) (fun g w' => ∃ lo hi : Nat, g 7 = .int .i64 lo ∧ g 8 = .int .i64 hi ∧ lo ≤ hi ∧ hi ≤ xs.length ∧ (∀ j, j < lo → xs.getD j 0 < y) ∧ (∀ j, hi ≤ j → j < xs.length → y ≤ xs.getD j 0) ∧ w' = w)
    (fun g _ => match g 7, g 8 with | .int _ a, .int _ b => (b - a).toNat | _, _ => 0) ⟨0, xs.length, by simp only [go_sem, ↓reduceIte, Nat.reduceAdd, Nat.reduceEqDiff, Nat.reduceBEq, reduceCtorEq, Int.reduceBEq, Int.reduceBNe, Int.reduceLT, Int.reduceLE]; rfl, by simp only [go_sem, ↓reduceIte, Nat.reduceAdd, Nat.reduceEqDiff, Nat.reduceBEq, reduceCtorEq, Int.reduceBEq, Int.reduceBNe, Int.reduceLT, Int.reduceLE], by omega, by omega, by omega, by omega, rfl⟩ fun g w' hI hnext => ?_
  obtain ⟨lo, hi, h7, h8, hlh, hhi, hlow, hup, rfl⟩ := hI
  (repeat (first | with_reducible refine run_seq ?_ | with_reducible refine run_reg ?_ | with_reducible refine run_block ?_ | with_reducible refine run_blk ?_ | with_reducible refine run_skip ?_ | with_reducible refine run_exit rfl ?_ | with_reducible refine run_drw ?_ | with_reducible refine run_condT ?_ | with_reducible refine run_ret' ?_ | with_reducible refine run_end' ?_ | simp only [go_sem, ↓reduceIte, Nat.reduceAdd, Nat.reduceEqDiff, Nat.reduceBEq, reduceCtorEq, Int.reduceBEq, Int.reduceBNe, Int.reduceLT, Int.reduceLE, h7, h8]))
  refine condT (fun hlt => ?_) (fun hge => ?_)
  · have hlt : lo < hi := by simpa using hlt
    have e1 : IntKind.i64.wrap ((lo : Int) + (hi : Int)) = ((lo + hi : Nat) : Int) := by rw [show ((lo : Int) + (hi : Int)) = ((lo + hi : Nat) : Int) by omega, i64_of_nat _ (by omega)]
    obtain ⟨p, rfl, _, hc⟩ := hrd ((lo + hi) / 2) (by omega)
    have c1 : (0 : Int) ≤ (((lo + hi) / 2 : Nat) : Int) ∧ (((lo + hi) / 2 : Nat) : Int) < (xs.length : Int) := ⟨by omega, by omega⟩
    (repeat (first | with_reducible refine run_seq ?_ | with_reducible refine run_reg ?_ | with_reducible refine run_block ?_ | with_reducible refine run_blk ?_ | with_reducible refine run_skip ?_ | with_reducible refine run_exit rfl ?_ | with_reducible refine run_drw ?_ | with_reducible refine run_condT ?_ | with_reducible refine run_ret' ?_ | with_reducible refine run_end' ?_ | simp only [go_sem, ↓reduceIte, Nat.reduceAdd, Nat.reduceEqDiff, Nat.reduceBEq, reduceCtorEq, Int.reduceBEq, Int.reduceBNe, Int.reduceLT, Int.reduceLE, h7, h8, e1, u64_of_nat (lo + hi) (by omega), shr1 (lo + hi) (by omega), i64_of_nat ((lo + hi) / 2) (by omega), if_pos c1, Int.toNat_natCast, Nat.mul_one, hc]))
    refine callT0 (less_m _ _ _) ?_
    by_cases e : xs.getD ((lo + hi) / 2) 0 < y
    · (repeat (first | with_reducible refine run_seq ?_ | with_reducible refine run_reg ?_ | with_reducible refine run_block ?_ | with_reducible refine run_blk ?_ | with_reducible refine run_skip ?_ | with_reducible refine run_exit rfl ?_ | with_reducible refine run_drw ?_ | with_reducible refine run_condT ?_ | with_reducible refine run_ret' ?_ | with_reducible refine run_end' ?_ | simp only [go_sem, ↓reduceIte, Nat.reduceAdd, Nat.reduceEqDiff, Nat.reduceBEq, reduceCtorEq, Int.reduceBEq, Int.reduceBNe, Int.reduceLT, Int.reduceLE, decide_eq_true e, i64_succ ((lo + hi) / 2) (by omega)]))
      refine hnext _ w' ?_ ⟨(lo + hi) / 2 + 1, hi, ?_, ?_, by omega, hhi, fun j hj => ?_, hup, rfl⟩ ?_
      · (repeat (first | with_reducible exact Keeps.refl _ _ | with_reducible exact Keeps.ovr _ _ _ | refine Keeps.put ?_ rfl _ | exact Keeps.refl _ _ | exact Keeps.ovr _ _ _ | refine Keeps.ovr2 ?_ rfl _))
      · simp only [go_sem, ↓reduceIte, Nat.reduceAdd, Nat.reduceEqDiff, Nat.reduceBEq, reduceCtorEq, Int.reduceBEq, Int.reduceBNe, Int.reduceLT, Int.reduceLE]
      · simp only [go_sem, ↓reduceIte, Nat.reduceAdd, Nat.reduceEqDiff, Nat.reduceBEq, reduceCtorEq, Int.reduceBEq, Int.reduceBNe, Int.reduceLT, Int.reduceLE, h8]
      · by_cases ej : j = (lo + hi) / 2
        · subst ej; exact e
        · have := hs j ((lo + hi) / 2) (by omega) (by omega); omega
      · simp only [go_sem, ↓reduceIte, Nat.reduceAdd, Nat.reduceEqDiff, Nat.reduceBEq, reduceCtorEq, Int.reduceBEq, Int.reduceBNe, Int.reduceLT, Int.reduceLE, h7, h8]
        omega
    · (repeat (first | with_reducible refine run_seq ?_ | with_reducible refine run_reg ?_ | with_reducible refine run_block ?_ | with_reducible refine run_blk ?_ | with_reducible refine run_skip ?_ | with_reducible refine run_exit rfl ?_ | with_reducible refine run_drw ?_ | with_reducible refine run_condT ?_ | with_reducible refine run_ret' ?_ | with_reducible refine run_end' ?_ | simp only [go_sem, ↓reduceIte, Nat.reduceAdd, Nat.reduceEqDiff, Nat.reduceBEq, reduceCtorEq, Int.reduceBEq, Int.reduceBNe, Int.reduceLT, Int.reduceLE, decide_eq_false e]))
      refine hnext _ w' ?_ ⟨lo, (lo + hi) / 2, ?_, ?_, by omega, by omega, hlow, fun j hj hjl => ?_, rfl⟩ ?_
      · (repeat (first | with_reducible exact Keeps.refl _ _ | with_reducible exact Keeps.ovr _ _ _ | refine Keeps.put ?_ rfl _ | exact Keeps.refl _ _ | exact Keeps.ovr _ _ _ | refine Keeps.ovr2 ?_ rfl _))
      · simp only [go_sem, ↓reduceIte, Nat.reduceAdd, Nat.reduceEqDiff, Nat.reduceBEq, reduceCtorEq, Int.reduceBEq, Int.reduceBNe, Int.reduceLT, Int.reduceLE, h7]
      · simp only [go_sem, ↓reduceIte, Nat.reduceAdd, Nat.reduceEqDiff, Nat.reduceBEq, reduceCtorEq, Int.reduceBEq, Int.reduceBNe, Int.reduceLT, Int.reduceLE]
      · by_cases ej : j = (lo + hi) / 2
        · subst ej; omega
        · have := hs ((lo + hi) / 2) j (by omega) hjl; omega
      · simp only [go_sem, ↓reduceIte, Nat.reduceAdd, Nat.reduceEqDiff, Nat.reduceBEq, reduceCtorEq, Int.reduceBEq, Int.reduceBNe, Int.reduceLT, Int.reduceLE, h7, h8]
        omega
  · have : lo = hi := by have : ¬ (lo < hi) := by simpa using hge
                         omega
    subst this
    have hnot : lo < xs.length → ¬ xs.getD lo 0 = y → xs.contains y = false := by
      intro hlt hne
      cases e : xs.contains y with
      | false => rfl
      | true =>
        rw [List.contains_iff_mem] at e
        obtain ⟨j, hj, ej⟩ := List.mem_iff_getElem.1 e
        have ej' : xs.getD j 0 = y := by simp [hj, ej]
        rcases Nat.lt_trichotomy j lo with h1 | h1 | h1
        · have := hlow j h1; omega
        · subst h1; exact absurd ej' hne
        · have := hs lo j h1 hj; have := hup lo (by omega) hlt; omega
    by_cases hlt : lo < xs.length
    · obtain ⟨p, rfl, _, hc⟩ := hrd lo hlt
      have c1 : (0 : Int) ≤ (lo : Int) ∧ (lo : Int) < (xs.length : Int) := ⟨by omega, by omega⟩
      have c2 : (lo : Int) < (xs.length : Int) := by omega
      by_cases e : xs.getD lo 0 = y
      · (repeat (first | with_reducible refine run_seq ?_ | with_reducible refine run_reg ?_ | with_reducible refine run_block ?_ | with_reducible refine run_blk ?_ | with_reducible refine run_skip ?_ | with_reducible refine run_exit rfl ?_ | with_reducible refine run_drw ?_ | with_reducible refine run_condT ?_ | with_reducible refine run_ret' ?_ | with_reducible refine run_end' ?_ | simp only [go_sem, ↓reduceIte, Nat.reduceAdd, Nat.reduceEqDiff, Nat.reduceBEq, reduceCtorEq, Int.reduceBEq, Int.reduceBNe, Int.reduceLT, Int.reduceLE, h7, h8, decide_eq_true c2, if_pos c1, Int.toNat_natCast, Nat.mul_one, hc, beq_int_true e]))
        have : xs.contains y = true := by
          rw [List.contains_iff_mem, ← e, List.getD_eq_getElem?_getD, List.getElem?_eq_getElem hlt]; simp
        exact ⟨lo, by rw [this], fun _ => ⟨hlt, e⟩⟩
      · (repeat (first | with_reducible refine run_seq ?_ | with_reducible refine run_reg ?_ | with_reducible refine run_block ?_ | with_reducible refine run_blk ?_ | with_reducible refine run_skip ?_ | with_reducible refine run_exit rfl ?_ | with_reducible refine run_drw ?_ | with_reducible refine run_condT ?_ | with_reducible refine run_ret' ?_ | with_reducible refine run_end' ?_ | simp only [go_sem, ↓reduceIte, Nat.reduceAdd, Nat.reduceEqDiff, Nat.reduceBEq, reduceCtorEq, Int.reduceBEq, Int.reduceBNe, Int.reduceLT, Int.reduceLE, h7, h8, decide_eq_true c2, if_pos c1, Int.toNat_natCast, Nat.mul_one, hc, beq_int_false e]))
        refine callT0 (nan1_m _ _) ?_
        (repeat (first | with_reducible refine run_seq ?_ | with_reducible refine run_reg ?_ | with_reducible refine run_block ?_ | with_reducible refine run_blk ?_ | with_reducible refine run_skip ?_ | with_reducible refine run_exit rfl ?_ | with_reducible refine run_drw ?_ | with_reducible refine run_condT ?_ | with_reducible refine run_ret' ?_ | with_reducible refine run_end' ?_ | simp only [go_sem, ↓reduceIte, Nat.reduceAdd, Nat.reduceEqDiff, Nat.reduceBEq, reduceCtorEq, Int.reduceBEq, Int.reduceBNe, Int.reduceLT, Int.reduceLE]))
        have := hnot hlt e
        exact ⟨lo, by rw [this], fun h => by rw [this] at h; cases h⟩
    · have c2 : ¬ (lo : Int) < (xs.length : Int) := by omega
      (repeat (first | with_reducible refine run_seq ?_ | with_reducible refine run_reg ?_ | with_reducible refine run_block ?_ | with_reducible refine run_blk ?_ | with_reducible refine run_skip ?_ | with_reducible refine run_exit rfl ?_ | with_reducible refine run_drw ?_ | with_reducible refine run_condT ?_ | with_reducible refine run_ret' ?_ | with_reducible refine run_end' ?_ | simp only [go_sem, ↓reduceIte, Nat.reduceAdd, Nat.reduceEqDiff, Nat.reduceBEq, reduceCtorEq, Int.reduceBEq, Int.reduceBNe, Int.reduceLT, Int.reduceLE, h7, h8, decide_eq_false c2]))
      have : xs.contains y = false := by
        cases e : xs.contains y with
        | false => rfl
        | true =>
          rw [List.contains_iff_mem] at e
          obtain ⟨j, hj, ej⟩ := List.mem_iff_getElem.1 e
          have ej' : xs.getD j 0 = y := by simp [hj, ej]
          have := hlow j (by omega); omega
      exact ⟨lo, by rw [this], fun h => by rw [this] at h; cases h⟩
end Go.Proofs.Ytblfmacnkacalaa
