/- The laws' arguments, opened. -/
import Derived.Test.YthalhkhjacjhgaaSideLD
import Derived.Test.YthalhkhjacjhgaaFrame
import Derived.Test.YthalhkhjacjhgaaRows
namespace Go.Proofs.Ythalhkhjacjhgaa
set_option linter.unusedSimpArgs false
set_option linter.unusedVariables false
open Go.ChangeShapes Go.WideShapes Go.ChangeAt Go.RowKit Go.Deep
theorem Try.own : ownKnob Try.prog.godebug = none := by kernel_rfl
theorem Try.laidOut : laidOutB Try.prog = true := by kernel_rfl
theorem Try.cells47 : Try.prog.cellsOf 47 = 4 := by kernel_rfl

theorem Try.cells3 : Try.prog.cellsOf 3 = 1 := by kernel_rfl
theorem open_act {H : Type} {enc : TypeId × Value → H} {w : World} {base : Nat} {spare : Nat → Bool} {held : Bool} {n : Nat} {cs : List Value} {x : DataW H × List MemPlace} (h : DataW.trod enc Try.prog w base spare held n 47 cs = some x) : ∃ a : Act4, cs = actV a := by
  obtain ⟨y0, y1, y2, y3, m, _, hl, h0, h1, h2, h3⟩ := Go.Joins.trod_struct4 Try.underlying47 h
  rw [Try.cells47] at hl
  match cs, hl with
  | [c0, c1, c2, c3], _ =>
    obtain ⟨k0, e0, _⟩ := DataW.trod_int Try.underlying3 h0
    obtain ⟨k1, e1, _⟩ := DataW.trod_int Try.underlying3 h1
    obtain ⟨k2, e2, _⟩ := DataW.trod_int Try.underlying3 h2
    obtain ⟨k3, e3, _⟩ := DataW.trod_int Try.underlying3 h3
    simp only [Try.cells3, List.drop_zero, List.take_succ_cons, List.take_zero, List.drop_succ_cons, List.cons.injEq, and_true] at e0 e1 e2 e3
    exact ⟨(k0, k1, k2, k3), by rw [e0, e1, e2, e3]; rfl⟩

/-- cells read by the model's row of cells -/
theorem cellsAt_of {w : World} {base : Nat} {a : Addr} {n : Nat} {cs : List Value} (h : w.cells? base a n = some cs) : cellsAt w a n = some cs := by
  obtain ⟨_, hl, hc⟩ := World.cells?_some h
  unfold cellsAt
  rw [mapM_range_of (g := fun i => cs.getD i undef) n (fun i hi => by rw [hc i hi]; simp [hl, hi])]
  congr 1
  apply List.ext_getElem
  · simp [hl]
  · intro i h1 h2; simp [h2]

theorem open_acts {H : Type} {enc : TypeId × Value → H} {W : World} {v : Value} {d : DataW H} {ps : List MemPlace} {r : Reach} {b0 : Nat} (hval : Value.okWide Try.prog W r b0 22 v) (h : DataW.Trod enc Try.prog W 0 (fun _ => true) true 22 v d ps) : ∃ l : List Act4, ActsAt W.heap.size W v l := by
  obtain ⟨a0, len0, cap0, rfl⟩ := okWide_slice Try.underlying22 hval
  obtain ⟨fuel, h⟩ := h
  rcases open_slice Try.underlying22 h with ⟨e, _⟩ | ⟨a, len, cap, m, n, D, Pl, e, _, hle, _, hm, _, hel⟩
  · simp only [Value.cells, List.cons.injEq, and_true] at e
    exact ⟨[], .inl ⟨e, rfl⟩⟩
  · simp only [Value.cells, List.cons.injEq, and_true] at e
    rw [if_pos rfl] at hm
    obtain ⟨F, hF⟩ := choose_lt (α := Act4) (n := len) (p := fun i x => cellsAt W (a.add (i * 4)) 4 = some (actV x)) fun i hi => by
      obtain ⟨cs', h1, h2⟩ := hel i (by omega)
      rw [Try.cells47] at h1
      obtain ⟨x, rfl⟩ := open_act h2
      exact ⟨x, cellsAt_of h1⟩
    refine ⟨(List.range len).map F, .inr ⟨a, cap, by rw [e]; simp, fun h0 => ?_, fun i hi => ?_⟩⟩
    · have h0 : 0 < len := by simpa using h0
      have := (cellsAt_spec (hF 0 h0)).2 0 (by omega)
      have hb := World.block_lt_of_cell? W _ (this.trans rfl)
      rwa [add_block, add_block] at hb
    · have hi : i < len := by simpa using hi
      rw [hF i hi]; simp [hi]

theorem open_act_v {H : Type} {enc : TypeId × Value → H} {W : World} {v : Value} {d : DataW H} {ps : List MemPlace} {r : Reach} {b0 : Nat} (hval : Value.okWide Try.prog W r b0 47 v) (h : DataW.Trod enc Try.prog W 0 (fun _ => true) true 47 v d ps) : ∃ x : Act4, v = .agg ⟨actV x⟩ := by
  obtain ⟨⟨cs⟩, rfl, _⟩ := okWide_struct Try.underlying47 hval
  obtain ⟨fuel, h⟩ := h
  obtain ⟨x, e⟩ := open_act h
  exact ⟨x, by have e : cs = actV x := e
               rw [e]⟩

/-- the numbers of an argument -/
def IntsAt (h0 : Nat) (w : World) (v : Value) (l : List Int) : Prop := (v = .slice none 0 0 ∧ l = []) ∨
  ∃ (a : Addr) (cap : Nat), v = .slice (some a) l.length cap ∧ (0 < l.length → a.block < h0) ∧ ∀ i, i < l.length → w.cell? (a.add i) = some (.int .i64 (l.getD i 0))
theorem IntsAt.keep {h0 : Nat} {w w' : World} {v : Value} {l : List Int} {S : List Nat} (h : IntsAt h0 w v l) (hw : h0 ≤ w.heap.size) (k : Only S w w') (hs : ∀ x, x ∈ S → h0 ≤ x) : IntsAt h0 w' v l := by
  rcases h with h | ⟨a, cap, h1, h2, h3⟩
  · exact .inl h
  · refine .inr ⟨a, cap, h1, h2, fun i hi => ?_⟩
    rw [cell_of_heap (w := w) (w' := w') (a := a.add i) (by rw [add_block]; have := h2 (by omega); exact k.block _ (by omega) fun hx => by have := hs _ hx; omega)]
    exact h3 i hi
theorem IntsAt.keep0 {w w' : World} {v : Value} {l : List Int} {h0 : Nat} (h : IntsAt h0 w v l) (hw : h0 ≤ w.heap.size) (k : Only [] w w') : IntsAt h0 w' v l := h.keep hw k (by simp)
theorem open_ints_v {H : Type} {enc : TypeId × Value → H} {W : World} {v : Value} {d : DataW H} {ps : List MemPlace} {r : Reach} {b0 : Nat} (hval : Value.okWide Try.prog W r b0 29 v) (h : DataW.Trod enc Try.prog W 0 (fun _ => true) true 29 v d ps) : ∃ l : List Int, IntsAt W.heap.size W v l := by
  obtain ⟨a0, len0, cap0, rfl⟩ := okWide_slice Try.underlying29 hval
  obtain ⟨fuel, h⟩ := h
  rcases open_slice1 Try.underlying29 Try.cells3 h with ⟨e, _⟩ | ⟨a, len, cap, m, n, V, D, Pl, e, _, hle, _, hm, _, hel⟩
  · simp only [Value.cells, List.cons.injEq, and_true] at e
    exact ⟨[], .inl ⟨e, rfl⟩⟩
  · simp only [Value.cells, List.cons.injEq, and_true] at e
    rw [if_pos rfl] at hm
    obtain ⟨F, hF⟩ := choose_lt (α := Int) (n := len) (p := fun i x => W.cell? (a.add i) = some (.int .i64 x)) fun i hi => by
      obtain ⟨h1, h2⟩ := hel i (by omega)
      obtain ⟨k, e2, _⟩ := DataW.trod_int Try.underlying3 h2
      simp only [List.cons.injEq, and_true] at e2
      exact ⟨k, by rw [h1, e2]⟩
    refine ⟨(List.range len).map F, .inr ⟨a, cap, by rw [e]; simp, fun h0 => ?_, fun i hi => ?_⟩⟩
    · have h0 : 0 < len := by simpa using h0
      have hb := World.block_lt_of_cell? W _ (hF 0 h0)
      rwa [add_block] at hb
    · have hi : i < len := by simpa using hi
      rw [hF i hi]; simp [hi]
end Go.Proofs.Ythalhkhjacjhgaa
