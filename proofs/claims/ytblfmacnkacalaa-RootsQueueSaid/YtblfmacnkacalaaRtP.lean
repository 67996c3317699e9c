/- Roots: the laws' arguments, opened. -/
import Derived.Test.YtblfmacnkacalaaRtLD
import Derived.Test.YtblfmacnkacalaaFrame
import Derived.Test.YtblfmacnkacalaaRows
import Derived.Deep.Strs
namespace Go.Proofs.Ytblfmacnkacalaa
set_option linter.unusedSimpArgs false
set_option linter.unusedVariables false
open Go.ChangeShapes Go.WideShapes Go.ChangeAt Go.RowKit Go.Deep
theorem Try.own : ownKnob Try.prog.godebug = none := by kernel_rfl
theorem Try.laidOut : laidOutB Try.prog = true := by kernel_rfl
theorem Try.cells50 : Try.prog.cellsOf 50 = 7 := by kernel_rfl
theorem Try.cells24 : Try.prog.cellsOf 24 = 3 := by kernel_rfl
theorem Try.cells3 : Try.prog.cellsOf 3 = 1 := by kernel_rfl
theorem Try.cells4 : Try.prog.cellsOf 4 = 1 := by kernel_rfl
theorem Try.cells30 : Try.prog.cellsOf 30 = 1 := by kernel_rfl

/-- cells read by the model's row of cells -/
theorem cellsAt_of {w : World} {base : Nat} {a : Addr} {n : Nat} {cs : List Value} (h : w.cells? base a n = some cs) : cellsAt w a n = some cs := by
  obtain ⟨_, hl, hc⟩ := World.cells?_some h
  unfold cellsAt
  rw [mapM_range_of (g := fun i => cs.getD i undef) n (fun i hi => by rw [hc i hi]; simp [hl, hi])]
  congr 1
  apply List.ext_getElem
  · simp [hl]
  · intro i h1 h2; simp [h2]

theorem open_place {H : Type} {enc : TypeId × Value → H} {w : World} {base : Nat} {spare : Nat → Bool} {held : Bool} {n : Nat} {cs : List Value} {x : DataW H × List MemPlace} (h : DataW.trod enc Try.prog w base spare held n 24 cs = some x) : ∃ p : PT, cs = plV p := by
  obtain ⟨y0, y1, y2, m, _, hl, h0, h1, h2⟩ := trod_struct3 Try.underlying24 h
  rw [Try.cells24] at hl
  match cs, hl with
  | [c0, c1, c2], _ =>
    obtain ⟨k0, e0, _⟩ := DataW.trod_int Try.underlying3 h0
    obtain ⟨k1, e1, _⟩ := DataW.trod_int Try.underlying3 h1
    obtain ⟨k2, e2, _⟩ := DataW.trod_int Try.underlying3 h2
    simp only [Try.cells3, List.drop_zero, List.take_succ_cons, List.take_zero, List.drop_succ_cons, List.cons.injEq, and_true] at e0 e1 e2
    exact ⟨(k0, k1, k2), by rw [e0, e1, e2]; rfl⟩

theorem open_ints_c {H : Type} {enc : TypeId × Value → H} {w : World} {n : Nat} {cs : List Value} {x : DataW H × List MemPlace} (h : DataW.trod enc Try.prog w 0 (fun _ => true) true n 30 cs = some x) : ∃ (v : Value) (l : List Int), cs = [v] ∧ RdH w.heap.size w v l ∧ l.length ≤ 9223372036854775807 := by
  rcases open_slice1 Try.underlying30 Try.cells3 h with ⟨e, _⟩ | ⟨a, len, cap, m, n, V, D, Pl, e, _, hle, hcap, hm, _, hel⟩
  · exact ⟨_, [], e, ⟨[], RdB.nil w 0 none, by simp⟩, by simp⟩
  · rw [if_pos rfl] at hm
    obtain ⟨F, hF⟩ := choose_lt (α := Int) (n := len) (p := fun i x => w.cell? (a.add i) = some (.int .i64 x)) fun i hi => by
      obtain ⟨h1, h2⟩ := hel i (by omega)
      obtain ⟨k, e2, _⟩ := DataW.trod_int Try.underlying3 h2
      simp only [List.cons.injEq, and_true] at e2
      exact ⟨k, by rw [h1, e2]⟩
    refine ⟨_, (List.range len).map F, e, ⟨if len = 0 then [] else [a.block], ⟨some a, cap, by simp, fun i hi => ?_⟩, fun y hy => ?_⟩, ?_⟩
    · have hi : i < len := by simpa using hi
      refine ⟨a, rfl, by rw [if_neg (by omega)]; simp, ?_⟩
      rw [hF i hi]; simp [hi]
    · split at hy
      · cases hy
      · simp only [List.mem_singleton] at hy
        subst hy
        have := cell_lt (hF 0 (by omega))
        rwa [add_block] at this
    · simp only [List.length_map, List.length_range]
      have : maxLen = 2 ^ 63 - 1 := rfl
      omega
theorem open_act {H : Type} {enc : TypeId × Value → H} {w : World} {n : Nat} {cs : List Value} {x : DataW H × List MemPlace} (h : DataW.trod enc Try.prog w 0 (fun _ => true) true n 50 cs = some x) : ∃ a : A7, ActIs w.heap.size w cs a := by
  obtain ⟨xs, n, _, _, hl, hlen, hf⟩ := DataW.trod_struct Try.underlying50 h
  rw [Try.cells50] at hl
  match xs, hlen with
  | [y0, y1, y2, y3, y4], _ =>
  have g0 := by simpa using hf 0 _ rfl
  have g1 := by simpa using hf 1 _ rfl
  have g2 := by simpa using hf 2 _ rfl
  have g3 := by simpa using hf 3 _ rfl
  have g4 := by simpa using hf 4 _ rfl
  match cs, hl with
  | [c0, c1, c2, c3, c4, c5, c6], _ =>
    obtain ⟨k0, e0, _⟩ := DataW.trod_int Try.underlying3 g0
    obtain ⟨p, e1⟩ := open_place g1
    obtain ⟨k2, e2, _⟩ := DataW.trod_int Try.underlying3 g2
    obtain ⟨vF, F, e3, hF, _⟩ := open_ints_c g3
    obtain ⟨vT, T, e4, hT, _⟩ := open_ints_c g4
    simp only [Try.cells3, Try.cells24, Try.cells30, plV, List.drop_zero, List.take_succ_cons, List.take_zero, List.drop_succ_cons, List.cons.injEq, and_true] at e0 e1 e2 e3 e4
    obtain ⟨rfl, rfl, rfl⟩ := e1
    exact ⟨⟨k0, p, k2, F, T⟩, vF, vT, by rw [e0, e2, e3, e4]; rfl, hF, hT⟩

theorem open_acts {H : Type} {enc : TypeId × Value → H} {W : World} {v : Value} {d : DataW H} {ps : List MemPlace} {r : Reach} {b0 : Nat} (hval : Value.okWide Try.prog W r b0 22 v) (h : DataW.Trod enc Try.prog W 0 (fun _ => true) true 22 v d ps) : ∃ l : List A7, ActsAt W.heap.size W v l := by
  obtain ⟨a0, len0, cap0, rfl⟩ := okWide_slice Try.underlying22 hval
  obtain ⟨fuel, h⟩ := h
  rcases open_slice Try.underlying22 h with ⟨e, _⟩ | ⟨a, len, cap, m, n, D, Pl, e, _, hle, hcap, hm, _, hel⟩
  · simp only [Value.cells, List.cons.injEq, and_true] at e
    exact ⟨[], none, 0, e, by simp, fun i hi => by simp at hi⟩
  · simp only [Value.cells, List.cons.injEq, and_true] at e
    rw [if_pos rfl] at hm
    obtain ⟨F, hF⟩ := choose_lt (α := List Value × A7) (n := len) (p := fun i x => cellsAt W (a.add (i * 7)) 7 = some x.1 ∧ ActIs W.heap.size W x.1 x.2) fun i hi => by
      obtain ⟨cs', h1, h2⟩ := hel i (by omega)
      rw [Try.cells50] at h1
      obtain ⟨x, hx⟩ := open_act h2
      exact ⟨(cs', x), cellsAt_of h1, hx⟩
    have hml : maxLen = 2 ^ 63 - 1 := rfl
    refine ⟨(List.range len).map fun i => (F i).2, some a, cap, by rw [e]; simp, by simp only [List.length_map, List.length_range]; omega, fun i hi => ?_⟩
    have hi : i < len := by simpa using hi
    obtain ⟨h1, h2⟩ := hF i hi
    refine ⟨a, (F i).1, rfl, ?_, h1, ?_⟩
    · have h3 := (cellsAt_spec h1).2 0 (by omega)
      have h4 : ∃ u, (F i).1[0]? = some u := by
        have := (cellsAt_spec h1).1
        exact ⟨(F i).1[0]'(by omega), List.getElem?_eq_getElem _⟩
      obtain ⟨u, hu⟩ := h4
      rw [hu] at h3
      have hb := cell_lt h3
      rwa [add_block, add_block] at hb
    · have : ((List.range len).map fun i => (F i).2).getD i default = (F i).2 := by simp [hi]
      rw [this]; exact h2

theorem open_act_v {H : Type} {enc : TypeId × Value → H} {W : World} {v : Value} {d : DataW H} {ps : List MemPlace} {r : Reach} {b0 : Nat} (hval : Value.okWide Try.prog W r b0 50 v) (h : DataW.Trod enc Try.prog W 0 (fun _ => true) true 50 v d ps) : ∃ (x : A7) (vF vT : Value), v = .agg ⟨actV x vF vT⟩ ∧ RdH W.heap.size W vF x.F ∧ RdH W.heap.size W vT x.T := by
  obtain ⟨⟨cs⟩, rfl, _⟩ := okWide_struct Try.underlying50 hval
  obtain ⟨fuel, h⟩ := h
  obtain ⟨x, vF, vT, e, h1, h2⟩ := open_act h
  exact ⟨x, vF, vT, by have e : cs = actV x vF vT := e
                       rw [e], h1, h2⟩
theorem open_place_v {H : Type} {enc : TypeId × Value → H} {W : World} {v : Value} {d : DataW H} {ps : List MemPlace} {r : Reach} {b0 : Nat} (hval : Value.okWide Try.prog W r b0 24 v) (h : DataW.Trod enc Try.prog W 0 (fun _ => true) true 24 v d ps) : ∃ p : PT, v = .agg ⟨plV p⟩ := by
  obtain ⟨⟨cs⟩, rfl, _⟩ := okWide_struct Try.underlying24 hval
  obtain ⟨fuel, h⟩ := h
  obtain ⟨x, e⟩ := open_place h
  exact ⟨x, by have e : cs = plV x := e
               rw [e]⟩
theorem open_ints_v {H : Type} {enc : TypeId × Value → H} {W : World} {v : Value} {d : DataW H} {ps : List MemPlace} {r : Reach} {b0 : Nat} (hval : Value.okWide Try.prog W r b0 30 v) (h : DataW.Trod enc Try.prog W 0 (fun _ => true) true 30 v d ps) : ∃ l : List Int, RdH W.heap.size W v l := by
  obtain ⟨a0, len0, cap0, rfl⟩ := okWide_slice Try.underlying30 hval
  obtain ⟨fuel, h⟩ := h
  obtain ⟨u, l, e, h1, _⟩ := open_ints_c h
  simp only [Value.cells, List.cons.injEq, and_true] at e
  exact ⟨l, by rw [e]; exact h1⟩
/-- bools below h0 -/
def BlsAt (h0 : Nat) (w : World) (v : Value) (l : List Bool) : Prop := ∃ (a : Option Addr) (cap : Nat), v = .slice a l.length cap ∧ ∀ i, i < l.length → ∃ p, a = some p ∧ p.block < h0 ∧ w.cell? (p.add i) = some (.bool (l.getD i false))
theorem open_bools_v {H : Type} {enc : TypeId × Value → H} {W : World} {v : Value} {d : DataW H} {ps : List MemPlace} {r : Reach} {b0 : Nat} (hval : Value.okWide Try.prog W r b0 43 v) (h : DataW.Trod enc Try.prog W 0 (fun _ => true) true 43 v d ps) : ∃ l : List Bool, BlsAt W.heap.size W v l := by
  obtain ⟨a0, len0, cap0, rfl⟩ := okWide_slice Try.underlying43 hval
  obtain ⟨fuel, h⟩ := h
  rcases open_slice1 Try.underlying43 Try.cells4 h with ⟨e, _⟩ | ⟨a, len, cap, m, n, V, D, Pl, e, _, hle, hcap, hm, _, hel⟩
  · simp only [Value.cells, List.cons.injEq, and_true] at e
    exact ⟨[], none, 0, e, fun i hi => by simp at hi⟩
  · simp only [Value.cells, List.cons.injEq, and_true] at e
    rw [if_pos rfl] at hm
    obtain ⟨F, hF⟩ := choose_lt (α := Bool) (n := len) (p := fun i x => W.cell? (a.add i) = some (.bool x)) fun i hi => by
      obtain ⟨h1, h2⟩ := hel i (by omega)
      obtain ⟨k, e2, _⟩ := DataW.trod_bool Try.underlying4 h2
      simp only [List.cons.injEq, and_true] at e2
      exact ⟨k, by rw [h1, e2]⟩
    refine ⟨(List.range len).map F, some a, cap, by rw [e]; simp, fun i hi => ?_⟩
    have hi : i < len := by simpa using hi
    refine ⟨a, rfl, ?_, by rw [hF i hi]; simp [hi]⟩
    have := cell_lt (hF i hi)
    rwa [add_block] at this
end Go.Proofs.Ytblfmacnkacalaa
