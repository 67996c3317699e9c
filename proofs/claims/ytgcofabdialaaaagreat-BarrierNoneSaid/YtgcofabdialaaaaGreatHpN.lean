/- Heaps in plain Lean: what holds goes on to hold. -/
import Derived.Test.YtgcofabdialaaaaGreatHpM
namespace Go.Proofs.YtgcofabdialaaaaGreat
set_option linter.unusedSimpArgs false
set_option linter.unusedVariables false

theorem HL.Ok.sz {s : HL} (h : s.Ok) {i : Nat} (hi : s.st.getD i 0 = 1) : 2 ≤ s.size (2 * i) ∧ ((2 * i : Nat) : Int) + s.size (2 * i) ≤ s.W.length ∧ s.size (2 * i) % 2 = 0 ∧ ∃ r d k : Nat, validS (r, d, k) = true ∧ shapeN (s.W.getD (2 * i + 1) 0) = ((r : Int), (d : Int), (k : Int)) ∧ s.size (2 * i) = wordsS (r, d, k) := by
  obtain ⟨r, d, k, h1, h2, h3⟩ := h.fit i hi
  have e : s.size (2 * i) = wordsS (r, d, k) := by unfold HL.size; rw [h2, shape_num h1]
  have := words_le h1
  exact ⟨by rw [e]; omega, by rw [e]; exact h3, by rw [e]; omega, r, d, k, h1, by rw [h2]; exact shape_num h1, e⟩
theorem find_of {s : HL} (h : s.Ok) {j : Nat} (hj : s.st.getD j 0 = 1) {a : Nat} (h1 : 2 * j ≤ a) (h2 : (a : Int) < ((2 * j : Nat) : Int) + s.size (2 * j)) : findO (some s) a = (2 * (j : Int), 0) := by
  obtain ⟨g1, g2, g3, _⟩ := h.sz hj
  have hl : s.starts.lastO ((a : Int) / 2 + 1) 1 = some j := by
    show lastI (fun k => decide ((k : Int) < (a : Int) / 2 + 1) && decide (((s.st.getD k 0 : Nat) : Int) = 1)) s.st.length = some j
    have hlt : j < s.st.length := by
      rcases Nat.lt_or_ge j s.st.length with h' | h'
      · exact h'
      · rw [List.getD_eq_getElem?_getD, List.getElem?_eq_none h'] at hj; simp at hj
    refine lastI_some ?_ hlt fun k hk1 hk2 => ?_
    · simp only [Bool.and_eq_true, decide_eq_true_eq]; omega
    · simp only [Bool.and_eq_false_iff, decide_eq_false_iff_not]
      by_cases hk : s.st.getD k 0 = 1
      · have := h.dj j k hj hk hk1
        left; omega
      · right; omega
  simp only [findO, hl]
  rw [if_neg (by omega), if_neg (by omega)]
theorem HL.size_set {s : HL} {k : Nat} {x : Int} {i : Nat} (hk : 2 * i + 1 ≠ k) : HL.size { s with W := s.W.set k x } (2 * i) = s.size (2 * i) := by
  unfold HL.size
  simp only [List.getD_eq_getElem?_getD]
  rw [List.getElem?_set_ne (fun e => hk e.symm)]
theorem HL.Ok.setW {s : HL} (h : s.Ok) {k : Nat} {x : Int} (hk : ∀ j, s.st.getD j 0 = 1 → 2 * j + 1 ≠ k) : HL.Ok { s with W := s.W.set k x } := by
  refine ⟨h.b2, h.b64, by simpa using h.wl, h.sl, h.pl, fun i hi => ?_, fun i j hi hj hij => ?_⟩
  · obtain ⟨r, d, q, h1, h2, h3⟩ := h.fit i hi
    refine ⟨r, d, q, h1, ?_, by simpa using h3⟩
    simp only [List.getD_eq_getElem?_getD] at h2 ⊢
    rw [List.getElem?_set_ne (fun e => hk i hi e.symm)]; exact h2
  · rw [HL.size_set (hk i hi)]; exact h.dj i j hi hj hij
/-- a word of an object beyond its header is no header -/
theorem HL.Ok.inside {s : HL} (h : s.Ok) {i k : Nat} (hi : s.st.getD i 0 = 1) (h1 : 2 * i + 2 ≤ k) (h2 : (k : Int) < ((2 * i : Nat) : Int) + s.size (2 * i)) : ∀ j, s.st.getD j 0 = 1 → 2 * j + 1 ≠ k := by
  intro j hj e
  rcases Nat.lt_trichotomy i j with hij | hij | hij
  · have := h.dj i j hi hj hij; omega
  · subst hij; omega
  · have := h.dj j i hj hi hij
    have := (h.sz hj).1
    omega
theorem tails_le (B : List (Int × Int)) (b : Nat) : ∀ f n, b + n ≤ B.length → b + tails B b f n ≤ B.length ∧ n ≤ tails B b f n
  | 0, n, h => ⟨h, Nat.le_refl _⟩
  | f + 1, n, h => by
    unfold tails
    split
    · rename_i hc
      have := tails_le B b f (n + 1) (by omega)
      omega
    · exact ⟨h, Nat.le_refl _⟩
theorem span_le {s : HL} {b : Nat} (h : b < s.B.length) : b + s.span b ≤ s.B.length ∧ 1 ≤ s.span b := by
  unfold HL.span
  split
  · exact tails_le _ _ _ _ (by omega)
  · omega
/-- where an object fits: it is within, and no object has one of its words -/
theorem fits_spec {s : HL} (h : s.Ok) {a words but : Int} (hw : 2 ≤ words) (hw2 : words % 2 = 0) (hw3 : words ≤ 218) (hf : fitsE s a words but = 0) : ∃ k : Nat, a = ((2 * k : Nat) : Int) ∧ k < s.st.length ∧ a + words ≤ s.W.length ∧
    (∀ j, j < (words / 2).toNat → takenB s a but j = false) := by
  unfold fitsE at hf
  have c1 : argB s a = false := by
    cases c : argB s a with
    | false => rfl
    | true => rw [if_pos c] at hf; cases hf
  rw [c1, if_neg (by simp)] at hf
  have c2 : wrongB s a words = false := by
    cases c : wrongB s a words with
    | false => rfl
    | true => rw [if_pos c] at hf; cases hf
  rw [c2, if_neg (by simp)] at hf
  have c3 : (List.range ((words + 1) / 2).toNat).any (takenB s a but) = false := by
    cases c : (List.range ((words + 1) / 2).toNat).any (takenB s a but) with
    | false => rfl
    | true => rw [if_pos c] at hf; cases hf
  have hsl := h.sl
  have hwl := h.wl
  simp only [argB, Bool.or_eq_false_iff, decide_eq_false_iff_not, Decidable.not_not] at c1
  refine ⟨(a / 2).toNat, by omega, by omega, ?_, fun j hj => ?_⟩
  · unfold wrongB at c2
    by_cases hw4 : words ≤ 32
    · rw [if_pos hw4] at c2
      simp only [Bool.or_eq_false_iff, decide_eq_false_iff_not, Decidable.not_not] at c2
      omega
    · rw [if_neg hw4] at c2
      simp only [Bool.or_eq_false_iff, decide_eq_false_iff_not, Decidable.not_not] at c2
      have := span_le (s := s) (b := (a / 64).toNat) (by omega)
      omega
  · cases ht : takenB s a but j with
    | false => rfl
    | true =>
      have := List.any_eq_true.2 ⟨j, List.mem_range.2 (show j < ((words + 1) / 2).toNat by omega), ht⟩
      rw [this] at c3; cases c3
theorem taken_none {s : HL} {a : Int} {j : Nat} (hn : takenB s a (-1) j = false) : (findO (some s) (a + 2 * (j : Int))).2 ≠ 0 := by
  intro e
  unfold takenB at hn
  rw [e] at hn
  simp only [beq_self_eq_true, Bool.true_and, bne_eq_false_iff_eq] at hn
  unfold findO at hn e
  simp only at hn e
  split at hn
  · simp at hn
  · rename_i h1
    rw [if_neg h1] at e
    split at hn
    · simp at hn
    · split at hn
      · simp at hn
      · simp only at hn; omega
theorem HL.Ok.place {s : HL} (h : s.Ok) {k : Nat} {sh : Sh} {id : Int} {pl : IM} {born : Nat} (hv : validS sh = true) (hk : k < s.st.length) (hin : ((2 * k : Nat) : Int) + wordsS sh ≤ s.W.length)
    (hfree : ∀ j, j < (wordsS sh / 2).toNat → takenB s ((2 * k : Nat) : Int) (-1) j = false) : HL.Ok { s with W := (s.W.set (2 * k) id).set (2 * k + 1) (numS sh), st := s.st.set k 1, pl := pl, born := born } := by
  obtain ⟨r, d, q⟩ := sh
  have hvv := hv
  simp only [validS, Bool.and_eq_true, decide_eq_true_eq] at hvv
  obtain ⟨r, rfl⟩ : ∃ n : Nat, r = n := ⟨r.toNat, by omega⟩
  obtain ⟨d, rfl⟩ : ∃ n : Nat, d = n := ⟨d.toNat, by omega⟩
  obtain ⟨q, rfl⟩ : ∃ n : Nat, q = n := ⟨q.toNat, by omega⟩
  have hw := words_le hv
  -- no object has a word there
  have hno : ∀ i, s.st.getD i 0 = 1 → ((2 * i : Nat) : Int) + s.size (2 * i) ≤ ((2 * k : Nat) : Int) ∨ ((2 * k : Nat) : Int) + wordsS ((r : Int), (d : Int), (q : Int)) ≤ ((2 * i : Nat) : Int) := by
    intro i hi
    obtain ⟨g1, g2, g3, _⟩ := h.sz hi
    by_cases c1 : k ≤ i
    · right
      refine Decidable.byContradiction fun c2 => ?_
      have h1 := taken_none (hfree (i - k) (by omega))
      have e1 : ((2 * k : Nat) : Int) + 2 * ((i - k : Nat) : Int) = ((2 * i : Nat) : Int) := by omega
      rw [e1, find_of h hi (Nat.le_refl _) (by omega)] at h1
      exact h1 rfl
    · left
      refine Decidable.byContradiction fun c2 => ?_
      have h1 := taken_none (hfree 0 (by omega))
      have e1 : ((2 * k : Nat) : Int) + 2 * ((0 : Nat) : Int) = ((2 * k : Nat) : Int) := by omega
      rw [e1, find_of h hi (by omega) (by omega)] at h1
      exact h1 rfl
  have hni : s.st.getD k 0 ≠ 1 := fun e => by
    have := hno k e
    have := (h.sz e).1
    omega
  have hst : ∀ i, (s.st.set k 1).getD i 0 = 1 → i = k ∨ (i ≠ k ∧ s.st.getD i 0 = 1) := by
    intro i hi
    by_cases e : i = k
    · exact .inl e
    · refine .inr ⟨e, ?_⟩
      simp only [List.getD_eq_getElem?_getD] at hi ⊢
      rw [List.getElem?_set_ne (fun h => e h.symm)] at hi; exact hi
  have hWk : ((s.W.set (2 * k) id).set (2 * k + 1) (numS ((r : Int), (d : Int), (q : Int)))).getD (2 * k + 1) 0 = numS ((r : Int), (d : Int), (q : Int)) := by
    simp only [List.getD_eq_getElem?_getD]
    rw [List.getElem?_set_self (by simp; omega)]; rfl
  have hWi : ∀ i, i ≠ k → ((s.W.set (2 * k) id).set (2 * k + 1) (numS ((r : Int), (d : Int), (q : Int)))).getD (2 * i + 1) 0 = s.W.getD (2 * i + 1) 0 := by
    intro i hi
    simp only [List.getD_eq_getElem?_getD]
    rw [List.getElem?_set_ne (by omega), List.getElem?_set_ne (by omega)]
  have hszk : HL.size { s with W := (s.W.set (2 * k) id).set (2 * k + 1) (numS ((r : Int), (d : Int), (q : Int))), st := s.st.set k 1, pl := pl, born := born } (2 * k) = wordsS ((r : Int), (d : Int), (q : Int)) := by
    unfold HL.size
    simp only
    rw [hWk, shape_num hv]
  have hszi : ∀ i, i ≠ k → HL.size { s with W := (s.W.set (2 * k) id).set (2 * k + 1) (numS ((r : Int), (d : Int), (q : Int))), st := s.st.set k 1, pl := pl, born := born } (2 * i) = s.size (2 * i) := by
    intro i hi
    unfold HL.size
    simp only
    rw [hWi i hi]
  refine ⟨h.b2, h.b64, by simpa using h.wl, by simpa using h.sl, h.pl, fun i hi => ?_, fun i j hi hj hij => ?_⟩
  · rcases hst i hi with rfl | ⟨hne, hi'⟩
    · exact ⟨r, d, q, hv, hWk, by simpa using hin⟩
    · obtain ⟨r', d', q', h1, h2, h3⟩ := h.fit i hi'
      exact ⟨r', d', q', h1, by rw [hWi i hne]; exact h2, by simpa using h3⟩
  · rcases hst i hi with rfl | ⟨hne, hi'⟩
    · rcases hst j hj with rfl | ⟨hne', hj'⟩
      · omega
      · rw [hszk]
        have := hno j hj'
        have := (h.sz hj').1
        omega
    · rw [hszi i hne]
      rcases hst j hj with rfl | ⟨hne', hj'⟩
      · have := hno i hi'
        omega
      · exact h.dj i j hi' hj' hij
/-- where a reference, or a data word, lies -/
theorem field_spec {s : HL} (h : s.Ok) {x i : Int} {data : Bool} (hf : (fieldO (some s) x i data).2 = 0) : ∃ o k : Nat, x = ((2 * o : Nat) : Int) ∧ s.st.getD o 0 = 1 ∧ (fieldO (some s) x i data).1 = (k : Int) ∧ 2 * o + 2 ≤ k ∧ (k : Int) < ((2 * o : Nat) : Int) + s.size (2 * o) ∧ k < s.W.length := by
  unfold fieldO at hf ⊢
  simp only at hf ⊢
  by_cases c1 : objE (some s) x ≠ 0
  · rw [if_pos c1] at hf; exact absurd hf c1
  · rw [if_neg c1] at hf ⊢
    have hh : hasO (some s) x = true := by
      cases hh : hasO (some s) x with
      | true => rfl
      | false => simp [objE, hh] at c1
    simp only [hasO, Bool.and_eq_true, decide_eq_true_eq] at hh
    obtain ⟨⟨h1, h2⟩, h3⟩ := hh
    change (if hasB s.st.length (x / 2) = true then ((s.st.getD (x / 2).toNat 0 : Nat) : Int) else -1) = 1 at h3
    have hst : s.st.getD (x / 2).toNat 0 = 1 := by
      by_cases hb : hasB s.st.length (x / 2) = true
      · rw [if_pos hb] at h3; omega
      · rw [if_neg hb] at h3; omega
    obtain ⟨g1, g2, g3, r, d, k, g4, g5, g6⟩ := h.sz hst
    have hw := words_le g4
    have e1 : 2 * (x / 2).toNat + 1 = x.toNat + 1 := by omega
    rw [e1] at g5
    have e2 : s.shapeAt x = ((r : Int), (d : Int), (k : Int)) := g5
    rw [e2] at hf ⊢
    simp only at hf ⊢ hw
    have hv := g4
    simp only [validS, Bool.and_eq_true, decide_eq_true_eq] at hv
    cases data with
    | true =>
      simp only [cond_true] at hf ⊢
      by_cases c2 : i < 0 ∨ (d : Int) ≤ i
      · rw [if_pos c2] at hf; cases hf
      · rw [if_neg c2]
        exact ⟨(x / 2).toNat, (x + 2 + r + i).toNat, by omega, hst, by simp only; omega, by omega, by omega, by omega⟩
    | false =>
      simp only [cond_false] at hf ⊢
      by_cases c2 : i < 0 ∨ (r : Int) ≤ i
      · rw [if_pos c2] at hf; cases hf
      · rw [if_neg c2]
        exact ⟨(x / 2).toNat, (x + 2 + i).toNat, by omega, hst, by simp only; omega, by omega, by omega, by omega⟩
theorem newH_ok {n : Int} {s : HL} (h : newH n = some s) : s.Ok := by
  unfold newH at h
  split at h
  · rename_i hn
    cases h
    have hz : ∀ i, ¬ (List.replicate (32 * n.toNat) 0).getD i 0 = 1 := by
      intro i
      simp only [List.getD_eq_getElem?_getD, List.getElem?_replicate]
      split <;> simp
    refine ⟨by simp; omega, by simp; omega, by simp, by simp, by simp, fun i hi => absurd hi (hz i), fun i j hi => absurd hi (hz i)⟩
  · cases h
end Go.Proofs.YtgcofabdialaaaaGreat
