/- The law SideFound, walked. -/
import Derived.Test.YthalhkhjacjhgaaSideLD
namespace Go.Proofs.Ythalhkhjacjhgaa
set_option linter.unusedSimpArgs false
set_option linter.unusedVariables false
set_option maxRecDepth 8000

theorem firstI_no {p : Nat → Bool} : ∀ {n : Nat}, firstI p n = none → ∀ j, j < n → p j = false
  | 0, _, j, hj => by omega
  | n + 1, h, j, hj => by
    simp only [firstI] at h
    split at h
    · cases h
    · rename_i hk
      split at h
      · cases h
      · rename_i hp
        rcases Nat.lt_or_ge j n with h' | h'
        · exact firstI_no hk j h'
        · have : j = n := by omega
          subst this; simpa using hp
theorem firstI_spec {p : Nat → Bool} {i : Nat} : ∀ {n : Nat}, firstI p n = some i → p i = true ∧ i < n ∧ ∀ j, j < i → p j = false
  | 0, h => by cases h
  | n + 1, h => by
    simp only [firstI] at h
    split at h
    · rename_i k hk
      cases h
      obtain ⟨h1, h2, h3⟩ := firstI_spec hk
      exact ⟨h1, by omega, h3⟩
    · rename_i hk
      split at h
      · rename_i hp
        cases h
        exact ⟨hp, by omega, firstI_no hk⟩
      · cases h
theorem lastI_no {p : Nat → Bool} : ∀ {n : Nat}, lastI p n = none → ∀ j, j < n → p j = false
  | 0, _, j, hj => by omega
  | n + 1, h, j, hj => by
    simp only [lastI] at h
    split at h
    · cases h
    · rename_i hp
      rcases Nat.lt_or_ge j n with h' | h'
      · exact lastI_no h j h'
      · have : j = n := by omega
        subst this; simpa using hp
theorem lastI_spec {p : Nat → Bool} {i : Nat} : ∀ {n : Nat}, lastI p n = some i → p i = true ∧ i < n ∧ ∀ j, i < j → j < n → p j = false
  | 0, h => by cases h
  | n + 1, h => by
    simp only [lastI] at h
    split at h
    · rename_i hp
      cases h
      exact ⟨hp, by omega, fun j h1 h2 => by omega⟩
    · rename_i hp
      obtain ⟨h1, h2, h3⟩ := lastI_spec h
      refine ⟨h1, by omega, fun j h4 h5 => ?_⟩
      rcases Nat.lt_or_ge j n with h' | h'
      · exact h3 j h4 h'
      · have : j = n := by omega
        subst this; simpa using hp

/-- what Next has found -/
theorem next_spec (wd : Nat) (l : List Nat) (i v : Int) : (∃ k : Nat, MT.nextO (some (wd, l)) i v = some k ∧ i ≤ (k : Int) ∧ k < l.length ∧ MT.get (some (wd, l)) k = v ∧ ∀ j : Nat, j < l.length → i ≤ (j : Int) → ((l.getD j 0 : Nat) : Int) = v → k ≤ j) ∨
    (MT.nextO (some (wd, l)) i v = none ∧ ∀ j : Nat, j < l.length → i ≤ (j : Int) → ¬ ((l.getD j 0 : Nat) : Int) = v) := by
  cases h : MT.nextO (some (wd, l)) i v with
  | none =>
    refine .inr ⟨rfl, fun j hj h1 h2 => ?_⟩
    have := firstI_no h j hj
    simp [h1, ← h2] at this
  | some k =>
    obtain ⟨h1, h2, h3⟩ := firstI_spec h
    simp only [Bool.and_eq_true, decide_eq_true_eq] at h1
    refine .inl ⟨k, rfl, h1.1, h2, ?_, fun j hj h4 h5 => ?_⟩
    · simp only [MT.get, hasB_of h2, if_true, Int.toNat_natCast]; exact h1.2
    · rcases Nat.lt_or_ge j k with h' | h'
      · have := h3 j h'
        simp [h4, ← h5] at this
      · exact h'
theorem last_spec (wd : Nat) (l : List Nat) (i v : Int) : (∃ k : Nat, MT.lastO (some (wd, l)) i v = some k ∧ (k : Int) < i ∧ k < l.length ∧ MT.get (some (wd, l)) k = v ∧ ∀ j : Nat, j < l.length → (j : Int) < i → ((l.getD j 0 : Nat) : Int) = v → j ≤ k) ∨
    (MT.lastO (some (wd, l)) i v = none ∧ ∀ j : Nat, j < l.length → (j : Int) < i → ¬ ((l.getD j 0 : Nat) : Int) = v) := by
  cases h : MT.lastO (some (wd, l)) i v with
  | none =>
    refine .inr ⟨rfl, fun j hj h1 h2 => ?_⟩
    have := lastI_no h j hj
    simp [h1, ← h2] at this
  | some k =>
    obtain ⟨h1, h2, h3⟩ := lastI_spec h
    simp only [Bool.and_eq_true, decide_eq_true_eq] at h1
    refine .inl ⟨k, rfl, h1.1, h2, ?_, fun j hj h4 h5 => ?_⟩
    · simp only [MT.get, hasB_of h2, if_true, Int.toNat_natCast]; exact h1.2
    · rcases Nat.lt_or_ge k j with h' | h'
      · have := h3 j h' hj
        simp [h4, ← h5] at this
      · exact h'

theorem found_walk {w : World} {v : Value} {l : List Act4} (n wd : Int) (from_ x : Int) (hl : ActsAt w.heap.size w v l) : Cs Try.prog 5 [.int .i64 n, .int .i64 wd, v, .int .i64 from_, .int .i64 x] w fun r w' => r = .bool true ∧ Only [] w w' := by
  refine enter_law01_SideFound rfl ?_
  unfold x_law01_SideFound
  by_cases h80 : 80 < l.length
  · (repeat (first | with_reducible refine run_seq ?_ | with_reducible refine run_reg ?_ | with_reducible refine run_block ?_ | with_reducible refine run_blk ?_ | with_reducible refine run_skip ?_ | with_reducible refine run_exit rfl ?_ | with_reducible refine run_drw ?_ | with_reducible refine run_condT ?_ | with_reducible refine run_ret' ?_ | with_reducible refine run_end' ?_ | simp only [go_sem, ↓reduceIte, Nat.reduceAdd, Nat.reduceEqDiff, Nat.reduceBEq, reduceCtorEq, Int.reduceBEq, Int.reduceBNe, Int.reduceLT, Int.reduceLE]))
    refine callT (law_made_great hl n wd h80) ?_
    rintro r w1 ⟨rfl, o1⟩
    (repeat (first | with_reducible refine run_seq ?_ | with_reducible refine run_reg ?_ | with_reducible refine run_block ?_ | with_reducible refine run_blk ?_ | with_reducible refine run_skip ?_ | with_reducible refine run_exit rfl ?_ | with_reducible refine run_drw ?_ | with_reducible refine run_condT ?_ | with_reducible refine run_ret' ?_ | with_reducible refine run_end' ?_ | simp only [go_sem, ↓reduceIte, Nat.reduceAdd, Nat.reduceEqDiff, Nat.reduceBEq, reduceCtorEq, Int.reduceBEq, Int.reduceBNe, Int.reduceLT, Int.reduceLE]))
    refine callT0 (law_great hl) ?_
    (repeat (first | with_reducible refine run_seq ?_ | with_reducible refine run_reg ?_ | with_reducible refine run_block ?_ | with_reducible refine run_blk ?_ | with_reducible refine run_skip ?_ | with_reducible refine run_exit rfl ?_ | with_reducible refine run_drw ?_ | with_reducible refine run_condT ?_ | with_reducible refine run_ret' ?_ | with_reducible refine run_end' ?_ | simp only [go_sem, ↓reduceIte, Nat.reduceAdd, Nat.reduceEqDiff, Nat.reduceBEq, reduceCtorEq, Int.reduceBEq, Int.reduceBNe, Int.reduceLT, Int.reduceLE, decide_eq_true h80]))
    refine callT1 (law_alive w1) fun w2 o2 => ?_
    (repeat (first | with_reducible refine run_seq ?_ | with_reducible refine run_reg ?_ | with_reducible refine run_block ?_ | with_reducible refine run_blk ?_ | with_reducible refine run_skip ?_ | with_reducible refine run_exit rfl ?_ | with_reducible refine run_drw ?_ | with_reducible refine run_condT ?_ | with_reducible refine run_ret' ?_ | with_reducible refine run_end' ?_ | simp only [go_sem, ↓reduceIte, Nat.reduceAdd, Nat.reduceEqDiff, Nat.reduceBEq, reduceCtorEq, Int.reduceBEq, Int.reduceBNe, Int.reduceLT, Int.reduceLE]))
    exact o1.same o2
  (repeat (first | with_reducible refine run_seq ?_ | with_reducible refine run_reg ?_ | with_reducible refine run_block ?_ | with_reducible refine run_blk ?_ | with_reducible refine run_skip ?_ | with_reducible refine run_exit rfl ?_ | with_reducible refine run_drw ?_ | with_reducible refine run_condT ?_ | with_reducible refine run_ret' ?_ | with_reducible refine run_end' ?_ | simp only [go_sem, ↓reduceIte, Nat.reduceAdd, Nat.reduceEqDiff, Nat.reduceBEq, reduceCtorEq, Int.reduceBEq, Int.reduceBNe, Int.reduceLT, Int.reduceLE]))
  refine callT (law_made hl (Nat.le_refl _) n wd h80) ?_
  rintro r w1 ⟨a, u, S, T, rfl, hN, hR, hT, hd, o1⟩
  (repeat (first | with_reducible refine run_seq ?_ | with_reducible refine run_reg ?_ | with_reducible refine run_block ?_ | with_reducible refine run_blk ?_ | with_reducible refine run_skip ?_ | with_reducible refine run_exit rfl ?_ | with_reducible refine run_drw ?_ | with_reducible refine run_condT ?_ | with_reducible refine run_ret' ?_ | with_reducible refine run_end' ?_ | simp only [go_sem, ↓reduceIte, Nat.reduceAdd, Nat.reduceEqDiff, Nat.reduceBEq, reduceCtorEq, Int.reduceBEq, Int.reduceBNe, Int.reduceLT, Int.reduceLE]))
  refine callT0 (law_great hl) ?_
  generalize madeM n wd l = m at *
  rcases hN.elim with ⟨rfl, rfl⟩ | ⟨wd', l', b, g, rfl, rfl, rfl⟩
  · (repeat (first | with_reducible refine run_seq ?_ | with_reducible refine run_reg ?_ | with_reducible refine run_block ?_ | with_reducible refine run_blk ?_ | with_reducible refine run_skip ?_ | with_reducible refine run_exit rfl ?_ | with_reducible refine run_drw ?_ | with_reducible refine run_condT ?_ | with_reducible refine run_ret' ?_ | with_reducible refine run_end' ?_ | simp only [go_sem, ↓reduceIte, Nat.reduceAdd, Nat.reduceEqDiff, Nat.reduceBEq, reduceCtorEq, Int.reduceBEq, Int.reduceBNe, Int.reduceLT, Int.reduceLE, decide_eq_false h80]))
    refine callT1 (law_alive w1) fun w2 o2 => ?_
    (repeat (first | with_reducible refine run_seq ?_ | with_reducible refine run_reg ?_ | with_reducible refine run_block ?_ | with_reducible refine run_blk ?_ | with_reducible refine run_skip ?_ | with_reducible refine run_exit rfl ?_ | with_reducible refine run_drw ?_ | with_reducible refine run_condT ?_ | with_reducible refine run_ret' ?_ | with_reducible refine run_end' ?_ | simp only [go_sem, ↓reduceIte, Nat.reduceAdd, Nat.reduceEqDiff, Nat.reduceBEq, reduceCtorEq, Int.reduceBEq, Int.reduceBNe, Int.reduceLT, Int.reduceLE]))
    exact o1.same o2
  have h1 := hN.tab
  have hmax : l'.length ≤ 4096 := h1.max
  (repeat (first | with_reducible refine run_seq ?_ | with_reducible refine run_reg ?_ | with_reducible refine run_block ?_ | with_reducible refine run_blk ?_ | with_reducible refine run_skip ?_ | with_reducible refine run_exit rfl ?_ | with_reducible refine run_drw ?_ | with_reducible refine run_condT ?_ | with_reducible refine run_ret' ?_ | with_reducible refine run_end' ?_ | simp only [go_sem, ↓reduceIte, Nat.reduceAdd, Nat.reduceEqDiff, Nat.reduceBEq, reduceCtorEq, Int.reduceBEq, Int.reduceBNe, Int.reduceLT, Int.reduceLE, decide_eq_false h80]))
  refine callT1 (Next_m h1 from_ x) fun w2 o2 => ?_
  (repeat (first | with_reducible refine run_seq ?_ | with_reducible refine run_reg ?_ | with_reducible refine run_block ?_ | with_reducible refine run_blk ?_ | with_reducible refine run_skip ?_ | with_reducible refine run_exit rfl ?_ | with_reducible refine run_drw ?_ | with_reducible refine run_condT ?_ | with_reducible refine run_ret' ?_ | with_reducible refine run_end' ?_ | simp only [go_sem, ↓reduceIte, Nat.reduceAdd, Nat.reduceEqDiff, Nat.reduceBEq, reduceCtorEq, Int.reduceBEq, Int.reduceBNe, Int.reduceLT, Int.reduceLE]))
  refine callT1 (Last_m (h1.keep0 o2) from_ x) fun w3 o3 => ?_
  have h3 := (h1.keep0 o2).keep0 o3
  have o3 := (o1.same o2).same o3
  have sA := next_spec wd' l' from_ x
  have sB := last_spec wd' l' from_ x
  have eA : MT.err (some (wd', l')) (MT.nextO (some (wd', l')) from_ x) = optE (MT.nextO (some (wd', l')) from_ x) := rfl
  have eB : MT.err (some (wd', l')) (MT.lastO (some (wd', l')) from_ x) = optE (MT.lastO (some (wd', l')) from_ x) := rfl
  rw [eA, eB]
  generalize MT.nextO (some (wd', l')) from_ x = oA at *
  generalize MT.lastO (some (wd', l')) from_ x = oB at *
  simp only [go_sem, ↓reduceIte, Nat.reduceAdd, Nat.reduceEqDiff, Nat.reduceBEq, reduceCtorEq, Int.reduceBEq, Int.reduceBNe, Int.reduceLT, Int.reduceLE]
  refine run_seq ?_
  refine run_cut (46 :: 47 :: 48 :: 49 :: 50 :: 51 :: 52 :: 53 :: 54 :: 55 :: 56 :: 57 :: 58 :: 59 :: 60 :: 61 :: 62 :: 63 :: 64 :: 65 :: 66 :: 67 :: 68 :: 69 :: 70 :: 71 :: 72 :: 73 :: 74 :: 75 :: 76 :: 77 :: 78 :: 79 :: 80 :: 81 :: 82 :: 83 :: 84 :: 85 :: 86 :: 87 :: 88 :: 89 :: 90 :: 91 :: []) (fun _ w' => Only [] w3 w') ?_ ?_
  · intro kx hk
    have z0 : (optE none == 0) = false := rfl
    have z1 : (optE none != 0) = true := rfl
    have z2 : (optE none != 4) = false := rfl
    have y0 : ∀ k, (optE (some k) == 0) = true := fun _ => rfl
    have y1 : ∀ k, (optE (some k) != 0) = false := fun _ => rfl
    have y2 : ∀ k, optR (some k) = (k : Int) := fun _ => rfl
    rcases sA with ⟨k, rfl, a1, a2, a3, a4⟩ | ⟨rfl, a1⟩
    · have d1 : decide ((k : Int) < from_) = false := decide_eq_false (by omega)
      (repeat (first | with_reducible refine run_seq ?_ | with_reducible refine run_reg ?_ | with_reducible refine run_block ?_ | with_reducible refine run_blk ?_ | with_reducible refine run_skip ?_ | with_reducible refine run_exit rfl ?_ | with_reducible refine run_drw ?_ | with_reducible refine run_condT ?_ | with_reducible refine run_ret' ?_ | with_reducible refine run_end' ?_ | simp only [go_sem, ↓reduceIte, Nat.reduceAdd, Nat.reduceEqDiff, Nat.reduceBEq, reduceCtorEq, Int.reduceBEq, Int.reduceBNe, Int.reduceLT, Int.reduceLE, y0, y1, y2, d1]))
      refine callT1 (Get_m h3 k) fun w4 o4 => ?_
      rw [a3]
      rcases sB with ⟨j, rfl, b1, b2, b3, b4⟩ | ⟨rfl, b1⟩
      · have d2 : decide (from_ ≤ (j : Int)) = false := decide_eq_false (by omega)
        (repeat (first | with_reducible refine run_seq ?_ | with_reducible refine run_reg ?_ | with_reducible refine run_block ?_ | with_reducible refine run_blk ?_ | with_reducible refine run_skip ?_ | with_reducible refine run_exit rfl ?_ | with_reducible refine run_drw ?_ | with_reducible refine run_condT ?_ | with_reducible refine run_ret' ?_ | with_reducible refine run_end' ?_ | simp only [go_sem, ↓reduceIte, Nat.reduceAdd, Nat.reduceEqDiff, Nat.reduceBEq, reduceCtorEq, Int.reduceBEq, Int.reduceBNe, Int.reduceLT, Int.reduceLE, bne_self_eq_false, y0, y1, y2, d2]))
        refine callT1 (Get_m (h3.keep0 o4) j) fun w5 o5 => ?_
        rw [b3]
        (repeat (first | with_reducible refine run_seq ?_ | with_reducible refine run_reg ?_ | with_reducible refine run_block ?_ | with_reducible refine run_blk ?_ | with_reducible refine run_skip ?_ | with_reducible refine run_exit rfl ?_ | with_reducible refine run_drw ?_ | with_reducible refine run_condT ?_ | with_reducible refine run_ret' ?_ | with_reducible refine run_end' ?_ | simp only [go_sem, ↓reduceIte, Nat.reduceAdd, Nat.reduceEqDiff, Nat.reduceBEq, reduceCtorEq, Int.reduceBEq, Int.reduceBNe, Int.reduceLT, Int.reduceLE, bne_self_eq_false, y0, y1, y2]))
        refine hk _ _ ?_ (o4.same o5)
        (repeat (first | with_reducible exact Keeps.refl _ _ | with_reducible exact Keeps.ovr _ _ _ | refine Keeps.put ?_ rfl _ | exact Keeps.refl _ _ | exact Keeps.ovr _ _ _ | refine Keeps.ovr2 ?_ rfl _))
      · (repeat (first | with_reducible refine run_seq ?_ | with_reducible refine run_reg ?_ | with_reducible refine run_block ?_ | with_reducible refine run_blk ?_ | with_reducible refine run_skip ?_ | with_reducible refine run_exit rfl ?_ | with_reducible refine run_drw ?_ | with_reducible refine run_condT ?_ | with_reducible refine run_ret' ?_ | with_reducible refine run_end' ?_ | simp only [go_sem, ↓reduceIte, Nat.reduceAdd, Nat.reduceEqDiff, Nat.reduceBEq, reduceCtorEq, Int.reduceBEq, Int.reduceBNe, Int.reduceLT, Int.reduceLE, bne_self_eq_false, y0, y1, y2, z0, z1, z2]))
        refine hk _ _ ?_ o4
        (repeat (first | with_reducible exact Keeps.refl _ _ | with_reducible exact Keeps.ovr _ _ _ | refine Keeps.put ?_ rfl _ | exact Keeps.refl _ _ | exact Keeps.ovr _ _ _ | refine Keeps.ovr2 ?_ rfl _))
    · rcases sB with ⟨j, rfl, b1, b2, b3, b4⟩ | ⟨rfl, b1⟩
      · have d2 : decide (from_ ≤ (j : Int)) = false := decide_eq_false (by omega)
        (repeat (first | with_reducible refine run_seq ?_ | with_reducible refine run_reg ?_ | with_reducible refine run_block ?_ | with_reducible refine run_blk ?_ | with_reducible refine run_skip ?_ | with_reducible refine run_exit rfl ?_ | with_reducible refine run_drw ?_ | with_reducible refine run_condT ?_ | with_reducible refine run_ret' ?_ | with_reducible refine run_end' ?_ | simp only [go_sem, ↓reduceIte, Nat.reduceAdd, Nat.reduceEqDiff, Nat.reduceBEq, reduceCtorEq, Int.reduceBEq, Int.reduceBNe, Int.reduceLT, Int.reduceLE, y0, y1, y2, z0, z1, z2, d2]))
        refine callT1 (Get_m h3 j) fun w5 o5 => ?_
        rw [b3]
        (repeat (first | with_reducible refine run_seq ?_ | with_reducible refine run_reg ?_ | with_reducible refine run_block ?_ | with_reducible refine run_blk ?_ | with_reducible refine run_skip ?_ | with_reducible refine run_exit rfl ?_ | with_reducible refine run_drw ?_ | with_reducible refine run_condT ?_ | with_reducible refine run_ret' ?_ | with_reducible refine run_end' ?_ | simp only [go_sem, ↓reduceIte, Nat.reduceAdd, Nat.reduceEqDiff, Nat.reduceBEq, reduceCtorEq, Int.reduceBEq, Int.reduceBNe, Int.reduceLT, Int.reduceLE, bne_self_eq_false, y0, y1, y2, z0, z1, z2]))
        refine hk _ _ ?_ o5
        (repeat (first | with_reducible exact Keeps.refl _ _ | with_reducible exact Keeps.ovr _ _ _ | refine Keeps.put ?_ rfl _ | exact Keeps.refl _ _ | exact Keeps.ovr _ _ _ | refine Keeps.ovr2 ?_ rfl _))
      · (repeat (first | with_reducible refine run_seq ?_ | with_reducible refine run_reg ?_ | with_reducible refine run_block ?_ | with_reducible refine run_blk ?_ | with_reducible refine run_skip ?_ | with_reducible refine run_exit rfl ?_ | with_reducible refine run_drw ?_ | with_reducible refine run_condT ?_ | with_reducible refine run_ret' ?_ | with_reducible refine run_end' ?_ | simp only [go_sem, ↓reduceIte, Nat.reduceAdd, Nat.reduceEqDiff, Nat.reduceBEq, reduceCtorEq, Int.reduceBEq, Int.reduceBNe, Int.reduceLT, Int.reduceLE, z0, z1, z2]))
        refine hk _ _ ?_ (Only.refl _ _)
        (repeat (first | with_reducible exact Keeps.refl _ _ | with_reducible exact Keeps.ovr _ _ _ | refine Keeps.put ?_ rfl _ | exact Keeps.refl _ _ | exact Keeps.ovr _ _ _ | refine Keeps.ovr2 ?_ rfl _))
  · intro g3 w4 o4
    have h4 := h3.keep0 o4
    (repeat (first | with_reducible refine run_seq ?_ | with_reducible refine run_reg ?_ | with_reducible refine run_block ?_ | with_reducible refine run_blk ?_ | with_reducible refine run_skip ?_ | with_reducible refine run_exit rfl ?_ | with_reducible refine run_drw ?_ | with_reducible refine run_condT ?_ | with_reducible refine run_ret' ?_ | with_reducible refine run_end' ?_ | simp only [go_sem, ↓reduceIte, Nat.reduceAdd, Nat.reduceEqDiff, Nat.reduceBEq, reduceCtorEq, Int.reduceBEq, Int.reduceBNe, Int.reduceLT, Int.reduceLE]))
    refine run_loop (17 :: 92 :: 93 :: 94 :: 95 :: 96 :: 97 :: 98 :: 99 :: 100 :: 101 :: 102 :: 103 :: 104 :: 105 :: 106 :: 107 :: 108 :: 109 :: 110 :: 111 :: 112 :: 113 :: 114 :: 115 :: 116 :: 117 :: 118 :: 119 :: 120 :: 121 :: 122 :: 123 :: 124 :: 125 :: 126 :: 127 :: 128 :: []) (fun g' w' => ∃ i : Nat, g' 17 = .int .i64 i ∧ i ≤ l'.length ∧ Only [] w4 w') (fun g' _ => upTo l'.length 17 g') ⟨0, by simp only [go_sem, ↓reduceIte, Nat.reduceAdd, Nat.reduceEqDiff, Nat.reduceBEq, reduceCtorEq, Int.reduceBEq, Int.reduceBNe, Int.reduceLT, Int.reduceLE]; rfl, by omega, Only.refl _ _⟩ fun g' w' hI hnext => ?_
    obtain ⟨i, hi, hin, ho⟩ := hI
    (repeat (first | with_reducible refine run_seq ?_ | with_reducible refine run_reg ?_ | with_reducible refine run_block ?_ | with_reducible refine run_blk ?_ | with_reducible refine run_skip ?_ | with_reducible refine run_exit rfl ?_ | with_reducible refine run_drw ?_ | with_reducible refine run_condT ?_ | with_reducible refine run_ret' ?_ | with_reducible refine run_end' ?_ | simp only [go_sem, ↓reduceIte, Nat.reduceAdd, Nat.reduceEqDiff, Nat.reduceBEq, reduceCtorEq, Int.reduceBEq, Int.reduceBNe, Int.reduceLT, Int.reduceLE, hi]))
    refine callT1 (Entries_m (h4.keep0 ho)) fun w5 o5 => ?_
    have o5 := ho.same o5
    (repeat (first | with_reducible refine run_seq ?_ | with_reducible refine run_reg ?_ | with_reducible refine run_block ?_ | with_reducible refine run_blk ?_ | with_reducible refine run_skip ?_ | with_reducible refine run_exit rfl ?_ | with_reducible refine run_drw ?_ | with_reducible refine run_condT ?_ | with_reducible refine run_ret' ?_ | with_reducible refine run_end' ?_ | simp only [go_sem, ↓reduceIte, Nat.reduceAdd, Nat.reduceEqDiff, Nat.reduceBEq, reduceCtorEq, Int.reduceBEq, Int.reduceBNe, Int.reduceLT, Int.reduceLE, hi, MT.entries]))
    refine condT (fun hlt => ?_) (fun hge => ?_)
    · have hlt : i < l'.length := by simpa using hlt
      have hg : MT.get (some (wd', l')) (i : Int) = ((l'.getD i 0 : Nat) : Int) := by simp only [MT.get, hasB_of hlt, if_true, Int.toNat_natCast]
      (repeat (first | with_reducible refine run_seq ?_ | with_reducible refine run_reg ?_ | with_reducible refine run_block ?_ | with_reducible refine run_blk ?_ | with_reducible refine run_skip ?_ | with_reducible refine run_exit rfl ?_ | with_reducible refine run_drw ?_ | with_reducible refine run_condT ?_ | with_reducible refine run_ret' ?_ | with_reducible refine run_end' ?_ | simp only [go_sem, ↓reduceIte, Nat.reduceAdd, Nat.reduceEqDiff, Nat.reduceBEq, reduceCtorEq, Int.reduceBEq, Int.reduceBNe, Int.reduceLT, Int.reduceLE, hi]))
      refine callT1 (Get_m (h4.keep0 o5) i) fun w6 o6 => ?_
      rw [hg]
      have o6 := o5.same o6
      (repeat (first | with_reducible refine run_seq ?_ | with_reducible refine run_reg ?_ | with_reducible refine run_block ?_ | with_reducible refine run_blk ?_ | with_reducible refine run_skip ?_ | with_reducible refine run_exit rfl ?_ | with_reducible refine run_drw ?_ | with_reducible refine run_condT ?_ | with_reducible refine run_ret' ?_ | with_reducible refine run_end' ?_ | simp only [go_sem, ↓reduceIte, Nat.reduceAdd, Nat.reduceEqDiff, Nat.reduceBEq, reduceCtorEq, Int.reduceBEq, Int.reduceBNe, Int.reduceLT, Int.reduceLE]))
      refine condT (fun hne => ?_) (fun he => ?_)
      · (repeat (first | with_reducible refine run_seq ?_ | with_reducible refine run_reg ?_ | with_reducible refine run_block ?_ | with_reducible refine run_blk ?_ | with_reducible refine run_skip ?_ | with_reducible refine run_exit rfl ?_ | with_reducible refine run_drw ?_ | with_reducible refine run_condT ?_ | with_reducible refine run_ret' ?_ | with_reducible refine run_end' ?_ | simp only [go_sem, ↓reduceIte, Nat.reduceAdd, Nat.reduceEqDiff, Nat.reduceBEq, reduceCtorEq, Int.reduceBEq, Int.reduceBNe, Int.reduceLT, Int.reduceLE, hi, i64_succ i (by omega)]))
        refine hnext _ _ ?_ ⟨i + 1, ?_, hlt, o6⟩ ?_
        · (repeat (first | with_reducible exact Keeps.refl _ _ | with_reducible exact Keeps.ovr _ _ _ | refine Keeps.put ?_ rfl _ | exact Keeps.refl _ _ | exact Keeps.ovr _ _ _ | refine Keeps.ovr2 ?_ rfl _))
        · simp only [go_sem, ↓reduceIte, Nat.reduceAdd, Nat.reduceEqDiff, Nat.reduceBEq, reduceCtorEq, Int.reduceBEq, Int.reduceBNe, Int.reduceLT, Int.reduceLE]
        · rw [upTo_int hi, upTo_int (k := .i64) (i := i + 1) (by simp only [go_sem, ↓reduceIte, Nat.reduceAdd, Nat.reduceEqDiff, Nat.reduceBEq, reduceCtorEq, Int.reduceBEq, Int.reduceBNe, Int.reduceLT, Int.reduceLE])]; omega
      · have he : ((l'.getD i 0 : Nat) : Int) = x := by simpa using he
        by_cases c : from_ ≤ (i : Int)
        · obtain ⟨k, ek, hk⟩ : ∃ k : Nat, oA = some k ∧ k ≤ i := by
            rcases sA with ⟨k, rfl, _, _, _, a4⟩ | ⟨_, a1⟩
            · exact ⟨k, rfl, a4 i hlt c he⟩
            · exact absurd he (a1 i hlt c)
          have y1 : (optE oA != 0) = false := by rw [ek]; rfl
          have d1 : decide ((i : Int) < optR oA) = false := by rw [ek]; exact decide_eq_false (by show ¬ (i : Int) < (k : Int); omega)
          have d2 : decide ((i : Int) < from_) = false := decide_eq_false (by omega)
          (repeat (first | with_reducible refine run_seq ?_ | with_reducible refine run_reg ?_ | with_reducible refine run_block ?_ | with_reducible refine run_blk ?_ | with_reducible refine run_skip ?_ | with_reducible refine run_exit rfl ?_ | with_reducible refine run_drw ?_ | with_reducible refine run_condT ?_ | with_reducible refine run_ret' ?_ | with_reducible refine run_end' ?_ | simp only [go_sem, ↓reduceIte, Nat.reduceAdd, Nat.reduceEqDiff, Nat.reduceBEq, reduceCtorEq, Int.reduceBEq, Int.reduceBNe, Int.reduceLT, Int.reduceLE, hi, decide_eq_true c, y1, d1, d2, i64_succ i (by omega)]))
          refine hnext _ _ ?_ ⟨i + 1, ?_, hlt, o6⟩ ?_
          · (repeat (first | with_reducible exact Keeps.refl _ _ | with_reducible exact Keeps.ovr _ _ _ | refine Keeps.put ?_ rfl _ | exact Keeps.refl _ _ | exact Keeps.ovr _ _ _ | refine Keeps.ovr2 ?_ rfl _))
          · simp only [go_sem, ↓reduceIte, Nat.reduceAdd, Nat.reduceEqDiff, Nat.reduceBEq, reduceCtorEq, Int.reduceBEq, Int.reduceBNe, Int.reduceLT, Int.reduceLE]
          · rw [upTo_int hi, upTo_int (k := .i64) (i := i + 1) (by simp only [go_sem, ↓reduceIte, Nat.reduceAdd, Nat.reduceEqDiff, Nat.reduceBEq, reduceCtorEq, Int.reduceBEq, Int.reduceBNe, Int.reduceLT, Int.reduceLE])]; omega
        · obtain ⟨k, ek, hk⟩ : ∃ k : Nat, oB = some k ∧ i ≤ k := by
            rcases sB with ⟨k, rfl, _, _, _, a4⟩ | ⟨_, a1⟩
            · exact ⟨k, rfl, a4 i hlt (by omega) he⟩
            · exact absurd he (a1 i hlt (by omega))
          have y1 : (optE oB != 0) = false := by rw [ek]; rfl
          have d1 : decide (optR oB < (i : Int)) = false := by rw [ek]; exact decide_eq_false (by show ¬ (k : Int) < (i : Int); omega)
          have d2 : decide ((i : Int) < from_) = true := decide_eq_true (by omega)
          (repeat (first | with_reducible refine run_seq ?_ | with_reducible refine run_reg ?_ | with_reducible refine run_block ?_ | with_reducible refine run_blk ?_ | with_reducible refine run_skip ?_ | with_reducible refine run_exit rfl ?_ | with_reducible refine run_drw ?_ | with_reducible refine run_condT ?_ | with_reducible refine run_ret' ?_ | with_reducible refine run_end' ?_ | simp only [go_sem, ↓reduceIte, Nat.reduceAdd, Nat.reduceEqDiff, Nat.reduceBEq, reduceCtorEq, Int.reduceBEq, Int.reduceBNe, Int.reduceLT, Int.reduceLE, hi, decide_eq_false c, y1, d1, d2, i64_succ i (by omega)]))
          refine hnext _ _ ?_ ⟨i + 1, ?_, hlt, o6⟩ ?_
          · (repeat (first | with_reducible exact Keeps.refl _ _ | with_reducible exact Keeps.ovr _ _ _ | refine Keeps.put ?_ rfl _ | exact Keeps.refl _ _ | exact Keeps.ovr _ _ _ | refine Keeps.ovr2 ?_ rfl _))
          · simp only [go_sem, ↓reduceIte, Nat.reduceAdd, Nat.reduceEqDiff, Nat.reduceBEq, reduceCtorEq, Int.reduceBEq, Int.reduceBNe, Int.reduceLT, Int.reduceLE]
          · rw [upTo_int hi, upTo_int (k := .i64) (i := i + 1) (by simp only [go_sem, ↓reduceIte, Nat.reduceAdd, Nat.reduceEqDiff, Nat.reduceBEq, reduceCtorEq, Int.reduceBEq, Int.reduceBNe, Int.reduceLT, Int.reduceLE])]; omega
    · have hge : ¬ i < l'.length := by simpa using hge
      (repeat (first | with_reducible refine run_seq ?_ | with_reducible refine run_reg ?_ | with_reducible refine run_block ?_ | with_reducible refine run_blk ?_ | with_reducible refine run_skip ?_ | with_reducible refine run_exit rfl ?_ | with_reducible refine run_drw ?_ | with_reducible refine run_condT ?_ | with_reducible refine run_ret' ?_ | with_reducible refine run_end' ?_ | simp only [go_sem, ↓reduceIte, Nat.reduceAdd, Nat.reduceEqDiff, Nat.reduceBEq, reduceCtorEq, Int.reduceBEq, Int.reduceBNe, Int.reduceLT, Int.reduceLE]))
      refine callT1 (law_alive _) fun w6 o6 => ?_
      (repeat (first | with_reducible refine run_seq ?_ | with_reducible refine run_reg ?_ | with_reducible refine run_block ?_ | with_reducible refine run_blk ?_ | with_reducible refine run_skip ?_ | with_reducible refine run_exit rfl ?_ | with_reducible refine run_drw ?_ | with_reducible refine run_condT ?_ | with_reducible refine run_ret' ?_ | with_reducible refine run_end' ?_ | simp only [go_sem, ↓reduceIte, Nat.reduceAdd, Nat.reduceEqDiff, Nat.reduceBEq, reduceCtorEq, Int.reduceBEq, Int.reduceBNe, Int.reduceLT, Int.reduceLE]))
      exact ((o3.same o4).same o5).same o6
end Go.Proofs.Ythalhkhjacjhgaa
