/- Roots: all places by number. No program in sight but the model. -/
import Derived.Test.YtblfmacnkacalaaRtU
namespace Go.Proofs.Ytblfmacnkacalaa
set_option linter.unusedSimpArgs false
set_option linter.unusedVariables false
set_option maxRecDepth 8000

/-- place number j -/
def pj (s : MS) (j : Nat) : PT := if j < 16 * s.M then (0, ((j / 16 : Nat) : Int), ((j % 16 : Nat) : Int)) else if j < 16 * s.M + 16 then (1, 0, ((j - 16 * s.M : Nat) : Int)) else (2, 0, ((j - 16 * s.M - 16 : Nat) : Int))
def segJ (s : MS) (j : Nat) : Nat × Nat := if j < 16 * s.M then (0, j) else if j < 16 * s.M + 16 then (1, j - 16 * s.M) else (2, j - 16 * s.M - 16)
theorem V_length {s : MS} (h : s.Ok) : s.V.length = 16 * s.M + 16 + s.Q.length := by simp only [MS.V, List.length_append, h.ls, h.lg]
theorem every_length (s : MS) : (everyS s).length = 16 * s.M + 16 + s.Q.length := by simp [everyS]; omega
theorem every_eq {s : MS} : everyS s = (List.range (16 * s.M + 16 + s.Q.length)).map (pj s) := by
  apply List.ext_getElem (by simp [every_length])
  intro j h1 h2
  have hj : j < 16 * s.M + 16 + s.Q.length := by simpa using h2
  simp only [everyS, List.getElem_map, List.getElem_range]
  unfold pj
  by_cases c1 : j < 16 * s.M
  · rw [if_pos c1, List.getElem_append_left (by simp; omega), List.getElem_append_left (by simp; omega)]; simp
  · rw [if_neg c1]
    by_cases c2 : j < 16 * s.M + 16
    · rw [if_pos c2, List.getElem_append_left (by simp; omega), List.getElem_append_right (by simp; omega)]; simp
    · rw [if_neg c2, List.getElem_append_right (by simp; omega)]
      simp only [List.getElem_map, List.getElem_range, List.length_append, List.length_map, List.length_range, Nat.sub_sub]
theorem seg_pj {s : MS} {j : Nat} (hj : j < 16 * s.M + 16 + s.Q.length) : seg s (pj s j) = some (segJ s j) := by
  unfold pj segJ
  by_cases c1 : j < 16 * s.M
  · rw [if_pos c1, if_pos c1]
    unfold seg
    have a1 : (0 : Int) ≤ ((j / 16 : Nat) : Int) := by omega
    have a2 : ((j / 16 : Nat) : Int) < (s.M : Int) := by omega
    have a3 : (0 : Int) ≤ ((j % 16 : Nat) : Int) ∧ ((j % 16 : Nat) : Int) < 16 := by omega
    rw [if_pos ⟨rfl, a1, a2⟩, if_pos a3]
    simp only [Option.some.injEq, Prod.mk.injEq, true_and]
    omega
  · rw [if_neg c1, if_neg c1]
    by_cases c2 : j < 16 * s.M + 16
    · rw [if_pos c2, if_pos c2]
      unfold seg
      have a3 : (0 : Int) ≤ ((j - 16 * s.M : Nat) : Int) ∧ ((j - 16 * s.M : Nat) : Int) < 16 := by omega
      rw [if_neg (by simp), if_pos ⟨rfl, rfl⟩, if_pos a3]
      simp only [Option.some.injEq, Prod.mk.injEq, true_and]
      omega
    · rw [if_neg c2, if_neg c2]
      unfold seg
      have a3 : (0 : Int) ≤ ((j - 16 * s.M - 16 : Nat) : Int) ∧ ((j - 16 * s.M - 16 : Nat) : Int) < s.Q.length := by omega
      rw [if_neg (by simp), if_neg (by simp), if_pos ⟨rfl, rfl⟩, if_pos a3]
      simp only [Option.some.injEq, Prod.mk.injEq, true_and]
      omega
theorem rd_segJ {s : MS} (h : s.Ok) {j : Nat} (hj : j < 16 * s.M + 16 + s.Q.length) : s.rd (segJ s j) = s.V.getD j 0 := by
  have h1 := h.ls; have h2 := h.lg
  unfold segJ MS.V
  simp only [List.getD_eq_getElem?_getD]
  by_cases c1 : j < 16 * s.M
  · rw [if_pos c1, List.getElem?_append_left (by simp; omega), List.getElem?_append_left (by omega)]; simp [MS.rd]
  · rw [if_neg c1]
    by_cases c2 : j < 16 * s.M + 16
    · rw [if_pos c2, List.getElem?_append_left (by simp; omega), List.getElem?_append_right (by omega), h1]; simp [MS.rd]
    · rw [if_neg c2, List.getElem?_append_right (by simp; omega), List.length_append, h1, h2, show j - (16 * s.M + 16) = j - 16 * s.M - 16 by omega]; simp [MS.rd]
theorem wr_segJ {s : MS} (h : s.Ok) {j : Nat} (hj : j < 16 * s.M + 16 + s.Q.length) (a : Int) : (s.wr (segJ s j) a).V = s.V.set j a := by
  have h1 := h.ls; have h2 := h.lg
  unfold segJ MS.V
  by_cases c1 : j < 16 * s.M
  · rw [if_pos c1, List.set_append_left _ _ (by simp; omega), List.set_append_left _ _ (by omega)]; rfl
  · rw [if_neg c1]
    by_cases c2 : j < 16 * s.M + 16
    · rw [if_pos c2, List.set_append_left _ _ (by simp; omega), List.set_append_right _ _ (by omega), h1]; rfl
    · rw [if_neg c2, List.set_append_right _ _ (by simp; omega), List.length_append, h1, h2, show j - (16 * s.M + 16) = j - 16 * s.M - 16 by omega]; rfl
theorem wr_M (s : MS) (x : Nat × Nat) (a : Int) : (s.wr x a).M = s.M := by unfold MS.wr; split <;> rfl
theorem wr_Q (s : MS) (x : Nat × Nat) (a : Int) : (s.wr x a).Q.length = s.Q.length := by unfold MS.wr; split <;> simp
theorem pj_wr (s : MS) (x : Nat × Nat) (a : Int) (j : Nat) : pj (s.wr x a) j = pj s j := by unfold pj; rw [wr_M]
theorem segJ_wr (s : MS) (x : Nat × Nat) (a : Int) (j : Nat) : segJ (s.wr x a) j = segJ s j := by unfold segJ; rw [wr_M]
/-- every place is one of them -/
theorem seg_inv {s : MS} (h : s.Ok) {p : PT} {x : Nat × Nat} (e : seg s p = some x) : ∃ j, j < 16 * s.M + 16 + s.Q.length ∧ x = segJ s j ∧ p = pj s j := by
  have h1 := h.ls; have h2 := h.lg
  obtain ⟨k, m, i⟩ := p
  rcases seg_cases h e with ⟨e1, e2, e3, e4, e5, j, rfl, ej, hj⟩ | ⟨e1, e2, e4, e5, j, rfl, ej, hj⟩ | ⟨e1, e2, e4, e5, j, rfl, ej, hj⟩
  · simp only at e1 e2 e3 e4 e5 ej
    refine ⟨j, by omega, ?_, ?_⟩
    · unfold segJ; rw [if_pos (by omega)]
    · unfold pj; rw [if_pos (by omega)]
      simp only [Prod.mk.injEq]; omega
  · simp only at e1 e2 e4 e5 ej
    refine ⟨16 * s.M + j, by omega, ?_, ?_⟩
    · unfold segJ; rw [if_neg (by omega), if_pos (by omega)]
      simp only [Prod.mk.injEq, true_and]; omega
    · unfold pj; rw [if_neg (by omega), if_pos (by omega)]
      simp only [Prod.mk.injEq]; omega
  · simp only at e1 e2 e4 e5 ej
    refine ⟨16 * s.M + 16 + j, by omega, ?_, ?_⟩
    · unfold segJ; rw [if_neg (by omega), if_neg (by omega)]
      simp only [Prod.mk.injEq, true_and]; omega
    · unfold pj; rw [if_neg (by omega), if_neg (by omega)]
      simp only [Prod.mk.injEq]; omega
theorem pj_inj {s : MS} {i j : Nat} (h : pj s i = pj s j) : i = j := by
  unfold pj at h
  split at h <;> split at h <;> (try split at h) <;> (try split at h) <;> simp only [Prod.mk.injEq] at h <;> omega

/-- the numbers of the places that are not empty -/
def idx (s : MS) : List Nat := (List.range (16 * s.M + 16 + s.Q.length)).filter fun j => s.V.getD j 0 != 0
theorem zip_range {α : Type} (n : Nat) (f : Nat → α) (V : List Int) (h : V.length = n) : ((List.range n).map f).zip V = (List.range n).map fun j => (f j, V.getD j 0) := by
  apply List.ext_getElem (by simp [h])
  intro j h1 h2
  have hj : j < V.length := by simp at h2; omega
  simp [hj]
theorem filled_idx {s : MS} (h : s.Ok) : filled s = (idx s).map fun j => (pj s j, s.V.getD j 0) := by
  unfold filled idx
  rw [every_eq, zip_range _ _ _ (V_length h), List.filter_map]
  rfl
theorem places_idx {s : MS} (h : s.Ok) : placesO (some s) = (idx s).map (pj s) := by
  simp only [placesO, filled_idx h, List.map_map]; rfl
theorem idx_nodup (s : MS) : (idx s).Nodup := List.Nodup.sublist List.filter_sublist List.nodup_range
theorem idx_lt {s : MS} {j : Nat} (h : j ∈ idx s) : j < 16 * s.M + 16 + s.Q.length ∧ s.V.getD j 0 ≠ 0 := by
  unfold idx at h
  rw [List.mem_filter] at h
  exact ⟨by simpa using h.1, by simpa using h.2⟩
theorem idx_mem {s : MS} {j : Nat} (h1 : j < 16 * s.M + 16 + s.Q.length) (h2 : s.V.getD j 0 ≠ 0) : j ∈ idx s := by
  unfold idx
  rw [List.mem_filter]
  exact ⟨by simpa using h1, by simpa using h2⟩
theorem map_V (s : MS) (f : Int → Int) : (s.map f).V = s.V.map f := by simp [MS.map, MS.V]
theorem MS.ext_V {s t : MS} (hs : s.Ok) (ht : t.Ok) (hM : s.M = t.M) (hV : s.V = t.V) : s = t := by
  obtain ⟨M, S, G, Q⟩ := s
  obtain ⟨M', S', G', Q'⟩ := t
  have h1 := hs.ls; have h2 := ht.ls; have h3 := hs.lg; have h4 := ht.lg
  simp only at hM h1 h2 h3 h4
  subst hM
  simp only [MS.V] at hV
  obtain ⟨h5, h6⟩ := List.append_inj hV (by simp; omega)
  obtain ⟨h7, h8⟩ := List.append_inj h5 (by omega)
  subst h6 h7 h8
  rfl
theorem MS.Ok.map {s : MS} (h : s.Ok) (f : Int → Int) : (s.map f).Ok :=
  ⟨h.m1, h.m4, by have := h.ls; simpa [MS.map] using this, by have := h.lg; simpa [MS.map] using this, by have := h.lq; simpa [MS.map] using this⟩
theorem V_le {s : MS} (h : s.Ok) : s.V.length ≤ 144 := by rw [V_length h]; have := h.m4; have := h.lq; omega
end Go.Proofs.Ytblfmacnkacalaa
