/- Runs in plain Lean: they cover what they should, with gaps between; the counts of all values. No program in sight. -/
import Derived.Test.YthalhkhjacjhgaaSideM
namespace Go.Proofs.Ythalhkhjacjhgaa
set_option linter.unusedSimpArgs false
set_option linter.unusedVariables false

/-- what holds of the runs of the indices below n -/
structure RInv (p : Nat → Bool) (n : Nat) (rs : Runs) : Prop where
  sz : ∀ i, i < rs.length → 1 ≤ (rs.getD i (0, 0)).2 ∧ (rs.getD i (0, 0)).1 + (rs.getD i (0, 0)).2 ≤ n
  gap : ∀ i, 0 < i → i < rs.length → (rs.getD (i - 1) (0, 0)).1 + (rs.getD (i - 1) (0, 0)).2 < (rs.getD i (0, 0)).1
  cov : ∀ k, k < n → (p k = true ↔ ∃ i, i < rs.length ∧ (rs.getD i (0, 0)).1 ≤ k ∧ k < (rs.getD i (0, 0)).1 + (rs.getD i (0, 0)).2)
  last : 0 < n → p (n - 1) = true → 0 < rs.length ∧ (rs.getD (rs.length - 1) (0, 0)).1 + (rs.getD (rs.length - 1) (0, 0)).2 = n
  free : 0 < rs.length → (0 < n → p (n - 1) = false) → (rs.getD (rs.length - 1) (0, 0)).1 + (rs.getD (rs.length - 1) (0, 0)).2 < n

theorem getD_bump (rs : Runs) (i : Nat) (h : i < rs.length) : (bump rs).getD i (0, 0) = if i = rs.length - 1 then ((rs.getD i (0, 0)).1, (rs.getD i (0, 0)).2 + 1) else rs.getD i (0, 0) := by
  unfold bump
  simp only [List.getD_eq_getElem?_getD, List.getElem?_set]
  by_cases e : rs.length - 1 = i
  · subst e
    simp [h]
  · rw [if_neg e, if_neg (fun h => e h.symm)]
theorem getD_snoc (rs : Runs) (r : Nat × Nat) (i : Nat) : (rs ++ [r]).getD i (0, 0) = if i < rs.length then rs.getD i (0, 0) else if i = rs.length then r else (0, 0) := by
  simp only [List.getD_eq_getElem?_getD]
  by_cases h : i < rs.length
  · rw [if_pos h, List.getElem?_append_left h]
  · rw [if_neg h, List.getElem?_append_right (by omega)]
    by_cases e : i = rs.length
    · subst e; simp
    · rw [if_neg e, List.getElem?_eq_none (by simp; omega)]; rfl

theorem runs_inv (p : Nat → Bool) : ∀ n, RInv p n (runsN p n)
  | 0 => ⟨fun i h => by simp [runsN] at h, fun i _ h => by simp [runsN] at h, fun k h => by omega, fun h => by omega, fun h => by simp [runsN] at h⟩
  | n + 1 => by
    have ih := runs_inv p n
    generalize hrs : runsN p n = rs at ih
    by_cases hp : p n = true
    · by_cases hq : 0 < n ∧ p (n - 1) = true
      · have e : runsN p (n + 1) = bump rs := by simp only [runsN, hp, if_true, hrs]; rw [if_pos hq]
        obtain ⟨hl, hend⟩ := ih.last hq.1 hq.2
        rw [e]
        have bl := bump_len rs
        refine ⟨fun i hi => ?_, fun i h0 hi => ?_, fun k hk => ?_, fun _ _ => ?_, fun _ hf => ?_⟩
        · rw [bl] at hi
          rw [getD_bump rs i hi]
          have := ih.sz i hi
          split
          · rename_i e2; subst e2; simp only; omega
          · omega
        · rw [bl] at hi
          have := ih.gap i h0 hi
          rw [getD_bump rs i hi, getD_bump rs (i - 1) (by omega), if_neg (by omega)]
          split
          · exact this
          · exact this
        · rw [bl]
          constructor
          · intro hpk
            by_cases hkn : k = n
            · subst hkn
              refine ⟨rs.length - 1, by omega, ?_⟩
              have := (ih.sz (rs.length - 1) (by omega))
              rw [getD_bump rs _ (by omega), if_pos rfl]
              simp only; omega
            · obtain ⟨i, hi, h1, h2⟩ := (ih.cov k (by omega)).1 hpk
              refine ⟨i, hi, ?_⟩
              rw [getD_bump rs i hi]
              split
              · simp only; omega
              · exact ⟨h1, h2⟩
          · rintro ⟨i, hi, h1, h2⟩
            by_cases hkn : k = n
            · rw [hkn]; exact hp
            · refine (ih.cov k (by omega)).2 ⟨i, hi, ?_⟩
              rw [getD_bump rs i hi] at h1 h2
              split at h1
              · rename_i e2
                rw [if_pos e2] at h2
                subst e2
                simp only at h1 h2
                omega
              · rename_i e2
                rw [if_neg e2] at h2
                exact ⟨h1, h2⟩
        · rw [bl]
          refine ⟨hl, ?_⟩
          rw [getD_bump rs _ (by omega), if_pos rfl]
          simp only; omega
        · have := hf (by omega)
          rw [show n + 1 - 1 = n by omega, hp] at this
          cases this
      · have e : runsN p (n + 1) = rs ++ [(n, 1)] := by simp only [runsN, hp, if_true, hrs]; rw [if_neg hq]
        have hfr : 0 < rs.length → (rs.getD (rs.length - 1) (0, 0)).1 + (rs.getD (rs.length - 1) (0, 0)).2 < n := fun h => ih.free h fun h0 => by
          cases h2 : p (n - 1) with
          | false => rfl
          | true => exact absurd ⟨h0, h2⟩ hq
        rw [e]
        have bl : (rs ++ [(n, 1)]).length = rs.length + 1 := by simp
        refine ⟨fun i hi => ?_, fun i h0 hi => ?_, fun k hk => ?_, fun _ _ => ?_, fun _ hf => ?_⟩
        · rw [bl] at hi
          rw [getD_snoc]
          split
          · rename_i h; have := ih.sz i h; omega
          · rw [if_pos (by omega)]; simp only; omega
        · rw [bl] at hi
          rw [getD_snoc, getD_snoc, if_pos (by omega)]
          split
          · rename_i h; exact ih.gap i h0 h
          · rename_i h
            have e2 : i = rs.length := by omega
            rw [if_pos e2]
            subst e2
            exact hfr h0
        · rw [bl]
          constructor
          · intro hpk
            by_cases hkn : k = n
            · subst hkn
              refine ⟨rs.length, by omega, ?_⟩
              rw [getD_snoc, if_neg (by omega), if_pos rfl]; simp only; omega
            · obtain ⟨i, hi, h1, h2⟩ := (ih.cov k (by omega)).1 hpk
              refine ⟨i, by omega, ?_⟩
              rw [getD_snoc, if_pos hi]; exact ⟨h1, h2⟩
          · rintro ⟨i, hi, h1, h2⟩
            by_cases hkn : k = n
            · rw [hkn]; exact hp
            · rw [getD_snoc] at h1 h2
              split at h1
              · rename_i h
                rw [if_pos h] at h2
                exact (ih.cov k (by omega)).2 ⟨i, h, h1, h2⟩
              · rename_i h
                rw [if_pos (by omega)] at h1
                simp only at h1
                omega
        · rw [bl]
          refine ⟨by omega, ?_⟩
          rw [getD_snoc, if_neg (by omega), if_pos (by omega)]
        · have := hf (by omega)
          rw [show n + 1 - 1 = n by omega, hp] at this
          cases this
    · have e : runsN p (n + 1) = rs := by simp only [runsN, hrs]; rw [if_neg hp]
      rw [e]
      refine ⟨fun i hi => ?_, ih.gap, fun k hk => ?_, fun _ h => ?_, fun h _ => ?_⟩
      · have := ih.sz i hi; omega
      · by_cases hkn : k = n
        · subst hkn
          constructor
          · intro h; exact absurd h hp
          · rintro ⟨i, hi, h1, h2⟩
            have := ih.sz i hi; omega
        · exact ih.cov k (by omega)
      · rw [show n + 1 - 1 = n by omega] at h; exact absurd h hp
      · have := ih.sz (rs.length - 1) (by omega); omega

/-- the counts of the values below c -/
def sumC (l : List Nat) : Nat → Nat
  | 0 => 0
  | c + 1 => sumC l c + cntN (fun k => decide (((l.getD k 0 : Nat) : Int) = (c : Int))) l.length
theorem cnt_add (p q r : Nat → Bool) (n : Nat) (h : ∀ k, k < n → (if r k then 1 else 0) = (if p k then 1 else 0) + (if q k then 1 else 0)) : cntN r n = cntN p n + cntN q n := by
  induction n with
  | zero => rfl
  | succ n ih =>
    simp only [cntN]
    rw [ih fun k hk => h k (by omega), h n (by omega)]; omega
theorem sumC_eq (l : List Nat) : ∀ c, sumC l c = cntN (fun k => decide (l.getD k 0 < c)) l.length
  | 0 => by
    simp only [sumC]
    have : ∀ n, cntN (fun k => decide (l.getD k 0 < 0)) n = 0 := by
      intro n
      induction n with
      | zero => rfl
      | succ n ih => simpa [cntN] using ih
    exact (this _).symm
  | c + 1 => by
    simp only [sumC]
    rw [sumC_eq l c]
    refine (cnt_add _ _ _ _ fun k _ => ?_).symm
    by_cases h1 : l.getD k 0 < c
    · have h2 : ¬ ((l.getD k 0 : Nat) : Int) = (c : Int) := by omega
      have h3 : l.getD k 0 < c + 1 := by omega
      simp only [h1, h2, h3, decide_true, decide_false, if_true]; rfl
    · by_cases h2 : ((l.getD k 0 : Nat) : Int) = (c : Int)
      · have h3 : l.getD k 0 < c + 1 := by omega
        simp only [h1, h2, h3, decide_true, decide_false, if_true]; rfl
      · have h3 : ¬ l.getD k 0 < c + 1 := by omega
        simp only [h1, h2, h3, decide_false]; rfl
theorem cnt_all (p : Nat → Bool) (n : Nat) (h : ∀ k, k < n → p k = true) : cntN p n = n := by
  induction n with
  | zero => rfl
  | succ n ih => simp only [cntN]; rw [ih fun k hk => h k (by omega), h n (by omega)]; rfl
theorem sumC_all (l : List Nat) (c : Nat) (h : ∀ k, l.getD k 0 < c) : sumC l c = l.length := by
  rw [sumC_eq]; exact cnt_all _ _ fun k _ => decide_eq_true (h k)
theorem sumC_le (l : List Nat) (c : Nat) : sumC l c ≤ l.length := by rw [sumC_eq]; exact cntN_le _ _
end Go.Proofs.Ythalhkhjacjhgaa
