/- Slices of the call's own, and lists that may be read: ground. -/
import Derived.Test.YtgcofabdialaaaaGreatHpG
namespace Go.Proofs.YtgcofabdialaaaaGreat
set_option linter.unusedSimpArgs false
set_option linter.unusedVariables false
set_option maxRecDepth 8000

theorem ints_length (xs : List Int) : (ints xs).length = xs.length := by simp [ints]
theorem ints_append (xs ys : List Int) : ints (xs ++ ys) = ints xs ++ ints ys := by simp [ints]
theorem ints_one {xs : List Int} : ∀ u, u ∈ ints xs → oneC u = true := by
  intro u hu
  simp only [ints, List.mem_map] at hu
  obtain ⟨x, _, rfl⟩ := hu
  rfl
theorem add_block (a : Addr) (i : Nat) : (a.add i).block = a.block := by unfold Addr.add; split <;> rfl
theorem Sl.nil1 (w : World) : Sl w 1 (.slice none 0 0) 0 [] [] := ⟨rfl, .inl ⟨rfl, rfl, rfl⟩⟩
theorem Sl.pos {w : World} {v : Value} {n : Nat} {xs : List Value} {fp : List Nat} (h : Sl w 1 v n xs fp) (hn : 0 < n) : ∃ g cap ys, v = .slice (some ⟨g, 0, none⟩) n cap ∧ At w g (xs ++ ys) ∧ fp = [g] ∧ n ≤ cap := by
  rcases h.2 with ⟨_, h0, _⟩ | ⟨g, cap, ys, T, h1, h2, h3, h4, h5⟩
  · omega
  · exact ⟨g, cap, ys, h1, ⟨T, h3⟩, h2, h5⟩
theorem Sl.mk1 {w : World} {g n cap : Nat} {xs ys : List Value} (h : At w g (xs ++ ys)) (h1 : xs.length = n) (h2 : (xs ++ ys).length = cap) : Sl w 1 (.slice (some ⟨g, 0, none⟩) n cap) n xs [g] := by
  obtain ⟨T, h⟩ := h
  refine ⟨by simpa using h1, .inr ⟨g, cap, ys, T, rfl, rfl, h, by simpa using h2, ?_⟩⟩
  simp at h2; omega
theorem Sl.keep {w w' : World} {sz : Nat} {v : Value} {n : Nat} {xs : List Value} {fp S : List Nat} (h : Sl w sz v n xs fp) (k : Only S w w') (hd : ∀ x, x ∈ fp → x ∉ S) : Sl w' sz v n xs fp := by
  refine ⟨h.1, ?_⟩
  rcases h.2 with h1 | ⟨g, cap, ys, T, h1, h2, h3, h4⟩
  · exact .inl h1
  · subst h2
    exact .inr ⟨g, cap, ys, T, h1, rfl, by rw [k.block g (Array.getElem?_eq_some_iff.1 h3).1 (hd g (by simp))]; exact h3, h4⟩
theorem Sl.keep0 {w w' : World} {sz : Nat} {v : Value} {n : Nat} {xs : List Value} {fp : List Nat} (h : Sl w sz v n xs fp) (k : Only [] w w') : Sl w' sz v n xs fp := h.keep k (by simp)
theorem Sl.lt {w : World} {sz : Nat} {v : Value} {n : Nat} {xs : List Value} {fp : List Nat} (h : Sl w sz v n xs fp) : ∀ x, x ∈ fp → x < w.heap.size := by
  rcases h.2 with ⟨_, _, h1⟩ | ⟨g, cap, ys, T, h1, h2, h3, h4⟩
  · subst h1; intro x hx; cases hx
  · subst h2; intro x hx; simp only [List.mem_singleton] at hx; subst hx; exact (Array.getElem?_eq_some_iff.1 h3).1
theorem Sl.val {w : World} {sz : Nat} {v : Value} {n : Nat} {xs : List Value} {fp : List Nat} (h : Sl w sz v n xs fp) : ∃ (a : Option Addr) (cap : Nat), v = .slice a n cap := by
  rcases h.2 with ⟨h1, h2, _⟩ | ⟨g, cap, ys, T, h1, h2, h3, h4⟩
  · subst h2; exact ⟨none, 0, h1⟩
  · exact ⟨_, _, h1⟩
theorem Sl.nodup {w : World} {sz : Nat} {v : Value} {n : Nat} {xs : List Value} {fp : List Nat} (h : Sl w sz v n xs fp) : fp.Nodup := by
  rcases h.2 with ⟨_, _, h1⟩ | ⟨g, cap, ys, T, h1, h2, h3, h4⟩
  · subst h1; simp
  · subst h2; simp
theorem SrcIs.at {w : World} {sz q m c : Nat} {us : List Value} (h : At w q us) (h1 : us.length = m * sz) : SrcIs w sz (.slice (some ⟨q, 0, none⟩) m c) m us :=
  ⟨h1, .inr ⟨_, c, rfl, by rw [cellsAt_at h 0 _ (by omega)]; simp [← h1]⟩⟩
/-- a row as the source of an append -/
theorem Sl.src {w : World} {v : Value} {n : Nat} {xs : List Value} {fp : List Nat} (h : Sl w 1 v n xs fp) : SrcIs w 1 v n xs := by
  refine ⟨h.1, ?_⟩
  rcases h.2 with ⟨h1, h2, _⟩ | ⟨g, cap, ys, T, h1, h2, h3, h4⟩
  · exact .inl ⟨0, h1, h2⟩
  · refine .inr ⟨_, cap, h1, ?_⟩
    have hl := h.1
    rw [cellsAt_at (vs := xs ++ ys) ⟨T, h3⟩ 0 _ (by simp; omega)]
    simp [← hl]

theorem cell_lt {w : World} {a : Addr} {v : Value} (h : w.cell? a = some v) : a.block < w.heap.size := World.block_lt_of_cell? w a h
/-- integers that may be read through a slice; D: the block in which they lie -/
def RdB (w : World) (D : List Nat) (v : Value) (xs : List Int) : Prop := ∃ (a : Option Addr) (cap : Nat), v = .slice a xs.length cap ∧ ∀ i, i < xs.length → ∃ p, a = some p ∧ p.block ∈ D ∧ w.cell? (p.add i) = some (.int .i64 (xs.getD i 0))
theorem RdB.keep {w w' : World} {D S : List Nat} {v : Value} {xs : List Int} (h : RdB w D v xs) (k : Only S w w') (hd : ∀ x, x ∈ D → x ∉ S) : RdB w' D v xs := by
  obtain ⟨a, cap, h1, h2⟩ := h
  refine ⟨a, cap, h1, fun i hi => ?_⟩
  obtain ⟨p, h3, h4, h5⟩ := h2 i hi
  refine ⟨p, h3, h4, ?_⟩
  have hlt := cell_lt h5
  rw [add_block] at hlt
  rw [cell_of_heap (w := w) (w' := w') (a := p.add i) (by rw [add_block]; exact k.block _ hlt (hd _ h4))]
  exact h5
theorem RdB.keep0 {w w' : World} {D : List Nat} {v : Value} {xs : List Int} (h : RdB w D v xs) (k : Only [] w w') : RdB w' D v xs := h.keep k (by simp)
theorem Sl.rd {w : World} {v : Value} {n : Nat} {xs : List Int} {fp : List Nat} (h : Sl w 1 v n (ints xs) fp) : RdB w fp v xs := by
  have hn : xs.length = n := by have := h.1; rw [ints_length] at this; omega
  subst hn
  rcases h.2 with ⟨h1, h2, h3⟩ | ⟨g, cap, ys, T, h1, h2, h3, h4⟩
  · exact ⟨none, 0, by rw [h1, h2], fun i hi => by omega⟩
  · refine ⟨_, cap, h1, fun i hi => ⟨_, rfl, by rw [h2]; simp, ?_⟩⟩
    have hat : At w g (ints xs ++ ys) := ⟨T, h3⟩
    rw [addr_add, Nat.zero_add, hat.cell]
    exact ints_append_get ys hi
theorem RdB.nil (w : World) (c : Nat) (a : Option Addr) : RdB w [] (.slice a 0 c) [] := ⟨a, c, rfl, fun i hi => absurd hi (by simp)⟩

theorem RdB.get {w : World} {D : List Nat} {a : Option Addr} {n cap i : Nat} {xs : List Int} (h : RdB w D (.slice a n cap) xs) (hi : i < xs.length) : ∃ p, a = some p ∧ w.cell? (p.add i) = some (.int .i64 (xs.getD i 0)) := by
  obtain ⟨a', cap', h1, h2⟩ := h
  cases h1
  obtain ⟨p, h3, _, h4⟩ := h2 i hi
  exact ⟨p, h3, h4⟩
theorem RdB.val {w : World} {D : List Nat} {v : Value} {xs : List Int} (h : RdB w D v xs) : ∃ (a : Option Addr) (cap : Nat), v = .slice a xs.length cap := by
  obtain ⟨a, cap, h1, _⟩ := h; exact ⟨a, cap, h1⟩

end Go.Proofs.YtgcofabdialaaaaGreat
