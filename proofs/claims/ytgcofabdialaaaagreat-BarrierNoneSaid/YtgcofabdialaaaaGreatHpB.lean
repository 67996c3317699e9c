/- Heaps: shapes of words, Find, Has, references. -/
import Derived.Test.YtgcofabdialaaaaGreatHpA
namespace Go.Proofs.YtgcofabdialaaaaGreat
set_option linter.unusedSimpArgs false
set_option linter.unusedVariables false
set_option maxRecDepth 8000

def tup2 (o : Option Value) (v : Value) : Option Value := match o with | some x => some (.tuple #[x, v]) | none => none
theorem tup2_some (x v : Value) : tup2 (some x) v = some (.tuple #[x, v]) := Eq.trans rfl rfl
theorem RetV_cNt (a n t : Nat) (ρ : Env) (w : World) (R : Value → World → Prop) : RetV [.cN a n, .t t] ρ w R = RetC (tup2 (cellsO w n (ρ a)) (ρ t)) w R := by
  unfold RetV RetC
  simp only [retO, resL, resX]
  cases cellsO w n (ρ a) <;> rfl
attribute [go_sem] tup2_some RetV_cNt
theorem shV_one (s : Sh) : ∀ u, u ∈ shV s → oneC u = true := by simp [shV, oneC]
theorem setL_sh (a b c : Value) (s : Sh) : setL [a, b, c] 0 (shV s) = shV s := rfl
theorem hShapeN (w : World) (n : Int) (h0 : 0 ≤ n) (h1 : n ≤ 100000) : Cs Tryz.prog 132 [.int .i64 n] w fun v w' => v = .agg ⟨shV (shapeN n)⟩ ∧ Only [] w w' := by
  refine enter_heap_shape rfl ?_
  unfold x_heap_shape
  have m1 := Int.tmod_eq_emod_of_nonneg (b := 4096) h0
  have e1 : IntKind.i64.wrap ((n.tmod 4096).tdiv 16) = (n.tmod 4096).tdiv 16 := by
    rw [m1, Int.tdiv_eq_ediv_of_nonneg (by omega)]; exact IntWalk.i64_in _ (by omega)
  have e2 : IntKind.i64.wrap (n.tdiv 4096) = n.tdiv 4096 := by rw [Int.tdiv_eq_ediv_of_nonneg h0]; exact IntWalk.i64_in _ (by omega)
  (repeat (first | with_reducible refine run_seq ?_ | with_reducible refine run_reg ?_ | with_reducible refine run_block ?_ | with_reducible refine run_blk ?_ | with_reducible refine run_skip ?_ | with_reducible refine run_exit rfl ?_ | with_reducible refine run_drw ?_ | with_reducible refine run_condT ?_ | with_reducible refine run_ret' ?_ | with_reducible refine run_end' ?_ | simp only [go_sem, ↓reduceIte, Nat.reduceAdd, Nat.reduceEqDiff, Nat.reduceBEq, reduceCtorEq, Int.reduceBEq, Int.reduceBNe, Int.reduceLT, Int.reduceLE]))
  refine boxT fun q w1 hq hs1 hat ho => ?_
  (repeat (first | with_reducible refine run_seq ?_ | with_reducible refine run_reg ?_ | with_reducible refine run_block ?_ | with_reducible refine run_blk ?_ | with_reducible refine run_skip ?_ | with_reducible refine run_exit rfl ?_ | with_reducible refine run_drw ?_ | with_reducible refine run_condT ?_ | with_reducible refine run_ret' ?_ | with_reducible refine run_end' ?_ | simp only [go_sem, ↓reduceIte, Nat.reduceAdd, Nat.reduceEqDiff, Nat.reduceBEq, reduceCtorEq, Int.reduceBEq, Int.reduceBNe, Int.reduceLT, Int.reduceLE, e1, e2]))
  rw [fillL_one rfl rfl, fillL_one rfl rfl, fillL_one rfl rfl]
  (repeat (first | with_reducible refine run_seq ?_ | with_reducible refine run_reg ?_ | with_reducible refine run_block ?_ | with_reducible refine run_blk ?_ | with_reducible refine run_skip ?_ | with_reducible refine run_exit rfl ?_ | with_reducible refine run_drw ?_ | with_reducible refine run_condT ?_ | with_reducible refine run_ret' ?_ | with_reducible refine run_end' ?_ | simp only [go_sem, ↓reduceIte, Nat.reduceAdd, Nat.reduceEqDiff, Nat.reduceBEq, reduceCtorEq, Int.reduceBEq, Int.reduceBNe, Int.reduceLT, Int.reduceLE]))
  refine stNT (cs := shV (shapeN n)) hat rfl (by simp) (shV_one _) fun w2 hs2 hat2 ho2 => ?_
  rw [setL_sh] at hat2
  have hc : cellsAt w2 ⟨q, 0, none⟩ 3 = some (shV (shapeN n)) := cellsAt_at hat2 0 3 (by simp [shV])
  (repeat (first | with_reducible refine run_seq ?_ | with_reducible refine run_reg ?_ | with_reducible refine run_block ?_ | with_reducible refine run_blk ?_ | with_reducible refine run_skip ?_ | with_reducible refine run_exit rfl ?_ | with_reducible refine run_drw ?_ | with_reducible refine run_condT ?_ | with_reducible refine run_ret' ?_ | with_reducible refine run_end' ?_ | simp only [go_sem, ↓reduceIte, Nat.reduceAdd, Nat.reduceEqDiff, Nat.reduceBEq, reduceCtorEq, Int.reduceBEq, Int.reduceBNe, Int.reduceLT, Int.reduceLE, hc]))
  exact ho.trans ho2 fun x hx => by simp only [List.mem_singleton] at hx; subst hx; exact .inr (by omega)

section
variable {w : World} {b : Nat} {s : HL} {gB gW cB cW : Nat} {yB yW : List Value} {sb sg pb pg bl bf : Nat}
theorem HMs.wcell (h : HMs w b s gB gW cB cW yB yW sb sg pb pg bl bf) {i : Nat} (hi : i < s.W.length) : w.cell? ⟨gW, i, none⟩ = some (.int .i64 (s.W.getD i 0)) := by
  rw [h.hW.cell, ints_append_get yW hi]
theorem HL.Ok.start {s : HL} (h : s.Ok) {i : Nat} (hi : s.st.getD i 0 = 1) : i < s.st.length ∧ 2 * i + 1 < s.W.length ∧ ∃ r d k : Nat, validS (r, d, k) = true ∧ s.W.getD (2 * i + 1) 0 = numS (r, d, k) ∧ ((2 * i : Nat) : Int) + wordsS (r, d, k) ≤ s.W.length ∧ 0 ≤ numS (r, d, k) ∧ numS (r, d, k) ≤ 100000 ∧ shapeN (s.W.getD (2 * i + 1) 0) = ((r : Int), (d : Int), (k : Int)) := by
  have hlt : i < s.st.length := by
    rcases Nat.lt_or_ge i s.st.length with h' | h'
    · exact h'
    · rw [List.getD_eq_getElem?_getD, List.getElem?_eq_none h'] at hi; simp at hi
  obtain ⟨r, d, k, h1, h2, h3⟩ := h.fit i hi
  have hv := h1
  simp only [validS, Bool.and_eq_true, decide_eq_true_eq] at hv
  have e : numS (r, d, k) = (r : Int) + 16 * d + 4096 * k := rfl
  refine ⟨hlt, by have := h.sl; have := h.wl; omega, r, d, k, h1, h2, h3, by rw [e]; omega, by rw [e]; omega, by rw [h2]; exact shape_num h1⟩
theorem hSize (h : HMs w b s gB gW cB cW yB yW sb sg pb pg bl bf) {i : Nat} (hi : s.st.getD i 0 = 1) : Cs Tryz.prog 155 [.pointer (some ⟨b, 0, none⟩), .int .i64 ((2 * i : Nat) : Int)] w fun v w' => v = .int .i64 (s.size (2 * i)) ∧ Only [] w w' := by
  obtain ⟨h1, h2, r, d, k, h3, h4, h5, h6, h7, h8⟩ := h.ok.start hi
  have hl := h.ok.wl
  have hB := h.ok.b64
  have e1 : IntKind.i64.wrap (((2 * i : Nat) : Int) + 1) = ((2 * i + 1 : Nat) : Int) := i64_succ _ (by omega)
  have e2 : (0 : Int) ≤ ((2 * i + 1 : Nat) : Int) ∧ ((2 * i + 1 : Nat) : Int) < (s.W.length : Int) := ⟨by omega, by omega⟩
  have hc := h.wcell h2
  refine enter_heap_Heap_size rfl ?_
  unfold x_heap_Heap_size
  (repeat (first | with_reducible refine run_seq ?_ | with_reducible refine run_reg ?_ | with_reducible refine run_block ?_ | with_reducible refine run_blk ?_ | with_reducible refine run_skip ?_ | with_reducible refine run_exit rfl ?_ | with_reducible refine run_drw ?_ | with_reducible refine run_condT ?_ | with_reducible refine run_ret' ?_ | with_reducible refine run_end' ?_ | simp only [go_sem, ↓reduceIte, Nat.reduceAdd, Nat.reduceEqDiff, Nat.reduceBEq, reduceCtorEq, Int.reduceBEq, Int.reduceBNe, Int.reduceLT, Int.reduceLE, h.hb.cell, e1, if_pos e2, Int.toNat_natCast, Nat.mul_one, hc]))
  refine callT1 (hShapeN w _ (by rw [h4]; exact h6) (by rw [h4]; exact h7)) fun w1 ho1 => ?_
  (repeat (first | with_reducible refine run_seq ?_ | with_reducible refine run_reg ?_ | with_reducible refine run_block ?_ | with_reducible refine run_blk ?_ | with_reducible refine run_skip ?_ | with_reducible refine run_exit rfl ?_ | with_reducible refine run_drw ?_ | with_reducible refine run_condT ?_ | with_reducible refine run_ret' ?_ | with_reducible refine run_end' ?_ | simp only [go_sem, ↓reduceIte, Nat.reduceAdd, Nat.reduceEqDiff, Nat.reduceBEq, reduceCtorEq, Int.reduceBEq, Int.reduceBNe, Int.reduceLT, Int.reduceLE]))
  refine callT1 (hWords w1 _) fun w2 ho2 => ?_
  (repeat (first | with_reducible refine run_seq ?_ | with_reducible refine run_reg ?_ | with_reducible refine run_block ?_ | with_reducible refine run_blk ?_ | with_reducible refine run_skip ?_ | with_reducible refine run_exit rfl ?_ | with_reducible refine run_drw ?_ | with_reducible refine run_condT ?_ | with_reducible refine run_ret' ?_ | with_reducible refine run_end' ?_ | simp only [go_sem, ↓reduceIte, Nat.reduceAdd, Nat.reduceEqDiff, Nat.reduceBEq, reduceCtorEq, Int.reduceBEq, Int.reduceBNe, Int.reduceLT, Int.reduceLE]))
  exact ⟨rfl, ho1.nil ho2⟩
theorem tdiv2 (n : Nat) (h : n ≤ 4611686018427387904) : IntKind.i64.wrap ((n : Int).tdiv 2) = ((n / 2 : Nat) : Int) := by
  rw [Int.tdiv_eq_ediv_of_nonneg (by omega), show ((n : Int) / 2) = ((n / 2 : Nat) : Int) by omega, i64_of_nat _ (by omega)]
theorem tmod2 (n : Nat) : ((n : Int).tmod 2) = ((n % 2 : Nat) : Int) := by
  rw [Int.tmod_eq_emod_of_nonneg (by omega)]; omega
theorem hMadeS (h : HMs w b s gB gW cB cW yB yW sb sg pb pg bl bf) : Cs Tryz.prog 122 [.pointer (some ⟨b, 0, none⟩)] w fun v w' => v = .bool true ∧ w' = w :=
  hMade (m := some s) ⟨b, rfl, gB, gW, cB, cW, yB, yW, sb, sg, pb, pg, bl, bf, rfl, h⟩
end
theorem hHas {w : World} {a : Option Addr} {fp : List Nat} {m : HO} (h : HR w a fp m) (x : Int) (hx : x ≤ 4611686018427387904) : Cs Tryz.prog 57 [.pointer a, .int .i64 x] w fun v w' => v = .bool (hasO m x) ∧ Only [] w w' := by
  refine enter_heap_Heap_Has rfl ?_
  unfold x_heap_Heap_Has
  (repeat (first | with_reducible refine run_seq ?_ | with_reducible refine run_reg ?_ | with_reducible refine run_block ?_ | with_reducible refine run_blk ?_ | with_reducible refine run_skip ?_ | with_reducible refine run_exit rfl ?_ | with_reducible refine run_drw ?_ | with_reducible refine run_condT ?_ | with_reducible refine run_ret' ?_ | with_reducible refine run_end' ?_ | simp only [go_sem, ↓reduceIte, Nat.reduceAdd, Nat.reduceEqDiff, Nat.reduceBEq, reduceCtorEq, Int.reduceBEq, Int.reduceBNe, Int.reduceLT, Int.reduceLE]))
  refine callT0 (hMade h) ?_
  match m, h with
  | none, _ => (repeat (first | with_reducible refine run_seq ?_ | with_reducible refine run_reg ?_ | with_reducible refine run_block ?_ | with_reducible refine run_blk ?_ | with_reducible refine run_skip ?_ | with_reducible refine run_exit rfl ?_ | with_reducible refine run_drw ?_ | with_reducible refine run_condT ?_ | with_reducible refine run_ret' ?_ | with_reducible refine run_end' ?_ | simp only [go_sem, ↓reduceIte, Nat.reduceAdd, Nat.reduceEqDiff, Nat.reduceBEq, reduceCtorEq, Int.reduceBEq, Int.reduceBNe, Int.reduceLT, Int.reduceLE])); exact ⟨rfl, Only.refl _ _⟩
  | some s, ⟨b, h1, gB, gW, cB, cW, yB, yW, sb, sg, pb, pg, bl, bf, h2, h3⟩ =>
    subst h1
    by_cases c1 : 0 ≤ x
    rotate_left
    · (repeat (first | with_reducible refine run_seq ?_ | with_reducible refine run_reg ?_ | with_reducible refine run_block ?_ | with_reducible refine run_blk ?_ | with_reducible refine run_skip ?_ | with_reducible refine run_exit rfl ?_ | with_reducible refine run_drw ?_ | with_reducible refine run_condT ?_ | with_reducible refine run_ret' ?_ | with_reducible refine run_end' ?_ | simp only [go_sem, ↓reduceIte, Nat.reduceAdd, Nat.reduceEqDiff, Nat.reduceBEq, reduceCtorEq, Int.reduceBEq, Int.reduceBNe, Int.reduceLT, Int.reduceLE, decide_eq_false c1]))
      exact ⟨by simp [hasO, c1], Only.refl _ _⟩
    obtain ⟨k, rfl⟩ : ∃ k : Nat, x = k := ⟨x.toNat, by omega⟩
    by_cases c2 : k % 2 = 0
    rotate_left
    · (repeat (first | with_reducible refine run_seq ?_ | with_reducible refine run_reg ?_ | with_reducible refine run_block ?_ | with_reducible refine run_blk ?_ | with_reducible refine run_skip ?_ | with_reducible refine run_exit rfl ?_ | with_reducible refine run_drw ?_ | with_reducible refine run_condT ?_ | with_reducible refine run_ret' ?_ | with_reducible refine run_end' ?_ | simp only [go_sem, ↓reduceIte, Nat.reduceAdd, Nat.reduceEqDiff, Nat.reduceBEq, reduceCtorEq, Int.reduceBEq, Int.reduceBNe, Int.reduceLT, Int.reduceLE, decide_eq_true c1, tmod2 k, beq_int_false (show ¬ ((k % 2 : Nat) : Int) = 0 by omega)]))
      refine ⟨?_, Only.refl _ _⟩
      have : ¬ (k : Int) % 2 = 0 := by omega
      simp [hasO, this]
    (repeat (first | with_reducible refine run_seq ?_ | with_reducible refine run_reg ?_ | with_reducible refine run_block ?_ | with_reducible refine run_blk ?_ | with_reducible refine run_skip ?_ | with_reducible refine run_exit rfl ?_ | with_reducible refine run_drw ?_ | with_reducible refine run_condT ?_ | with_reducible refine run_ret' ?_ | with_reducible refine run_end' ?_ | simp only [go_sem, ↓reduceIte, Nat.reduceAdd, Nat.reduceEqDiff, Nat.reduceBEq, reduceCtorEq, Int.reduceBEq, Int.reduceBNe, Int.reduceLT, Int.reduceLE, decide_eq_true c1, tmod2 k, beq_int_true (show ((k % 2 : Nat) : Int) = 0 by omega), h3.hb.cell, tdiv2 k (by omega)]))
    refine callT1 (Get_m (Tab.mk h3.hs) _) fun w' ho => ?_
    have e1 : (k : Int) / 2 = ((k / 2 : Nat) : Int) := by omega
    have e2 : (k : Int) % 2 = 0 := by omega
    (repeat (first | with_reducible refine run_seq ?_ | with_reducible refine run_reg ?_ | with_reducible refine run_block ?_ | with_reducible refine run_blk ?_ | with_reducible refine run_skip ?_ | with_reducible refine run_exit rfl ?_ | with_reducible refine run_drw ?_ | with_reducible refine run_condT ?_ | with_reducible refine run_ret' ?_ | with_reducible refine run_end' ?_ | simp only [go_sem, ↓reduceIte, Nat.reduceAdd, Nat.reduceEqDiff, Nat.reduceBEq, reduceCtorEq, Int.reduceBEq, Int.reduceBNe, Int.reduceLT, Int.reduceLE]))
    refine ⟨?_, ho⟩
    simp only [hasO, e1, e2, decide_true, decide_eq_true c1, Bool.true_and, HL.starts]
    rfl
theorem hObject {w : World} {a : Option Addr} {fp : List Nat} {m : HO} (h : HR w a fp m) (x : Int) (hx : x ≤ 4611686018427387904) : Cs Tryz.prog 131 [.pointer a, .int .i64 x] w fun v w' => v = .int .i64 (objE m x) ∧ Only [] w w' := by
  refine enter_heap_Heap_object rfl ?_
  unfold x_heap_Heap_object
  (repeat (first | with_reducible refine run_seq ?_ | with_reducible refine run_reg ?_ | with_reducible refine run_block ?_ | with_reducible refine run_blk ?_ | with_reducible refine run_skip ?_ | with_reducible refine run_exit rfl ?_ | with_reducible refine run_drw ?_ | with_reducible refine run_condT ?_ | with_reducible refine run_ret' ?_ | with_reducible refine run_end' ?_ | simp only [go_sem, ↓reduceIte, Nat.reduceAdd, Nat.reduceEqDiff, Nat.reduceBEq, reduceCtorEq, Int.reduceBEq, Int.reduceBNe, Int.reduceLT, Int.reduceLE]))
  refine callT0 (hMade h) ?_
  cases m with
  | none => (repeat (first | with_reducible refine run_seq ?_ | with_reducible refine run_reg ?_ | with_reducible refine run_block ?_ | with_reducible refine run_blk ?_ | with_reducible refine run_skip ?_ | with_reducible refine run_exit rfl ?_ | with_reducible refine run_drw ?_ | with_reducible refine run_condT ?_ | with_reducible refine run_ret' ?_ | with_reducible refine run_end' ?_ | simp only [go_sem, ↓reduceIte, Nat.reduceAdd, Nat.reduceEqDiff, Nat.reduceBEq, reduceCtorEq, Int.reduceBEq, Int.reduceBNe, Int.reduceLT, Int.reduceLE])); exact ⟨rfl, Only.refl _ _⟩
  | some s =>
    (repeat (first | with_reducible refine run_seq ?_ | with_reducible refine run_reg ?_ | with_reducible refine run_block ?_ | with_reducible refine run_blk ?_ | with_reducible refine run_skip ?_ | with_reducible refine run_exit rfl ?_ | with_reducible refine run_drw ?_ | with_reducible refine run_condT ?_ | with_reducible refine run_ret' ?_ | with_reducible refine run_end' ?_ | simp only [go_sem, ↓reduceIte, Nat.reduceAdd, Nat.reduceEqDiff, Nat.reduceBEq, reduceCtorEq, Int.reduceBEq, Int.reduceBNe, Int.reduceLT, Int.reduceLE]))
    refine callT1 (hHas h x hx) fun w' ho => ?_
    cases hh : hasO (some s) x with
    | true => (repeat (first | with_reducible refine run_seq ?_ | with_reducible refine run_reg ?_ | with_reducible refine run_block ?_ | with_reducible refine run_blk ?_ | with_reducible refine run_skip ?_ | with_reducible refine run_exit rfl ?_ | with_reducible refine run_drw ?_ | with_reducible refine run_condT ?_ | with_reducible refine run_ret' ?_ | with_reducible refine run_end' ?_ | simp only [go_sem, ↓reduceIte, Nat.reduceAdd, Nat.reduceEqDiff, Nat.reduceBEq, reduceCtorEq, Int.reduceBEq, Int.reduceBNe, Int.reduceLT, Int.reduceLE])); exact ⟨by simp [objE, hh], ho⟩
    | false => (repeat (first | with_reducible refine run_seq ?_ | with_reducible refine run_reg ?_ | with_reducible refine run_block ?_ | with_reducible refine run_blk ?_ | with_reducible refine run_skip ?_ | with_reducible refine run_exit rfl ?_ | with_reducible refine run_drw ?_ | with_reducible refine run_condT ?_ | with_reducible refine run_ret' ?_ | with_reducible refine run_end' ?_ | simp only [go_sem, ↓reduceIte, Nat.reduceAdd, Nat.reduceEqDiff, Nat.reduceBEq, reduceCtorEq, Int.reduceBEq, Int.reduceBNe, Int.reduceLT, Int.reduceLE])); exact ⟨by simp [objE, hh], ho⟩
/-- an object that is there -/
theorem has_spec {s : HL} (h : s.Ok) {x : Int} (hx : hasO (some s) x = true) : ∃ i : Nat, x = ((2 * i : Nat) : Int) ∧ s.st.getD i 0 = 1 := by
  simp only [hasO, Bool.and_eq_true, decide_eq_true_eq] at hx
  obtain ⟨⟨h1, h2⟩, h3⟩ := hx
  refine ⟨(x / 2).toNat, by omega, ?_⟩
  change (if hasB s.st.length (x / 2) = true then ((s.st.getD (x / 2).toNat 0 : Nat) : Int) else -1) = 1 at h3
  by_cases hb : hasB s.st.length (x / 2) = true
  · rw [if_pos hb] at h3; omega
  · rw [if_neg hb] at h3; omega
theorem hShape {w : World} {a : Option Addr} {fp : List Nat} {m : HO} (h : HR w a fp m) (x : Int) (hx : x ≤ 4611686018427387904) : Cs Tryz.prog 58 [.pointer a, .int .i64 x] w fun v w' => v = .tuple #[.agg ⟨shV (shapeO m x).1⟩, .int .i64 (shapeO m x).2] ∧ Only [] w w' := by
  refine enter_heap_Heap_Shape rfl ?_
  unfold x_heap_Heap_Shape
  (repeat (first | with_reducible refine run_seq ?_ | with_reducible refine run_reg ?_ | with_reducible refine run_block ?_ | with_reducible refine run_blk ?_ | with_reducible refine run_skip ?_ | with_reducible refine run_exit rfl ?_ | with_reducible refine run_drw ?_ | with_reducible refine run_condT ?_ | with_reducible refine run_ret' ?_ | with_reducible refine run_end' ?_ | simp only [go_sem, ↓reduceIte, Nat.reduceAdd, Nat.reduceEqDiff, Nat.reduceBEq, reduceCtorEq, Int.reduceBEq, Int.reduceBNe, Int.reduceLT, Int.reduceLE]))
  refine boxT fun q w1 hq hs1 hat ho1 => ?_
  (repeat (first | with_reducible refine run_seq ?_ | with_reducible refine run_reg ?_ | with_reducible refine run_block ?_ | with_reducible refine run_blk ?_ | with_reducible refine run_skip ?_ | with_reducible refine run_exit rfl ?_ | with_reducible refine run_drw ?_ | with_reducible refine run_condT ?_ | with_reducible refine run_ret' ?_ | with_reducible refine run_end' ?_ | simp only [go_sem, ↓reduceIte, Nat.reduceAdd, Nat.reduceEqDiff, Nat.reduceBEq, reduceCtorEq, Int.reduceBEq, Int.reduceBNe, Int.reduceLT, Int.reduceLE]))
  refine callT1 (hObject (h.keep0 ho1) x hx) fun w2 ho2 => ?_
  have hat2 := hat.keep0 ho2
  by_cases he : objE m x = 0
  · match m, h with
    | none, _ => simp [objE] at he
    | some s, ⟨b, h1, gB, gW, cB, cW, yB, yW, sb, sg, pb, pg, bl, bf, h2, h3⟩ =>
      subst h1
      have hh : hasO (some s) x = true := by
        cases hh : hasO (some s) x with
        | true => rfl
        | false => simp [objE, hh] at he
      obtain ⟨i, rfl, hi⟩ := has_spec h3.ok hh
      obtain ⟨g1, g2, r, d, k, g3, g4, g5, g6, g7, g8⟩ := h3.ok.start hi
      have h3' := h3.keep0 (ho1.nil ho2)
      have hl := h3.ok.wl
      have hB := h3.ok.b64
      have e1 : IntKind.i64.wrap (((2 * i : Nat) : Int) + 1) = ((2 * i + 1 : Nat) : Int) := i64_succ _ (by omega)
      have e2 : (0 : Int) ≤ ((2 * i + 1 : Nat) : Int) ∧ ((2 * i + 1 : Nat) : Int) < (s.W.length : Int) := ⟨by omega, by omega⟩
      have hc := h3'.wcell g2
      (repeat (first | with_reducible refine run_seq ?_ | with_reducible refine run_reg ?_ | with_reducible refine run_block ?_ | with_reducible refine run_blk ?_ | with_reducible refine run_skip ?_ | with_reducible refine run_exit rfl ?_ | with_reducible refine run_drw ?_ | with_reducible refine run_condT ?_ | with_reducible refine run_ret' ?_ | with_reducible refine run_end' ?_ | simp only [go_sem, ↓reduceIte, Nat.reduceAdd, Nat.reduceEqDiff, Nat.reduceBEq, reduceCtorEq, Int.reduceBEq, Int.reduceBNe, Int.reduceLT, Int.reduceLE, bne_int_false he, h3'.hb.cell, e1, if_pos e2, Int.toNat_natCast, Nat.mul_one, hc]))
      refine callT1 (hShapeN w2 _ (by rw [g4]; exact g6) (by rw [g4]; exact g7)) fun w3 ho3 => ?_
      (repeat (first | with_reducible refine run_seq ?_ | with_reducible refine run_reg ?_ | with_reducible refine run_block ?_ | with_reducible refine run_blk ?_ | with_reducible refine run_skip ?_ | with_reducible refine run_exit rfl ?_ | with_reducible refine run_drw ?_ | with_reducible refine run_condT ?_ | with_reducible refine run_ret' ?_ | with_reducible refine run_end' ?_ | simp only [go_sem, ↓reduceIte, Nat.reduceAdd, Nat.reduceEqDiff, Nat.reduceBEq, reduceCtorEq, Int.reduceBEq, Int.reduceBNe, Int.reduceLT, Int.reduceLE]))
      refine stNT (cs := shV (shapeN (s.W.getD (2 * i + 1) 0))) (hat2.keep0 ho3) rfl (by simp) (shV_one _) fun w4 hs4 hat4 ho4 => ?_
      rw [setL_sh] at hat4
      have hc4 : cellsAt w4 ⟨q, 0, none⟩ 3 = some (shV (shapeN (s.W.getD (2 * i + 1) 0))) := cellsAt_at hat4 0 3 (by simp [shV])
      have hsh : shapeO (some s) ((2 * i : Nat) : Int) = (shapeN (s.W.getD (2 * i + 1) 0), 0) := by simp only [shapeO, he, if_true, HL.shapeAt, Int.toNat_natCast]
      rw [hsh]
      (repeat (first | with_reducible refine run_seq ?_ | with_reducible refine run_reg ?_ | with_reducible refine run_block ?_ | with_reducible refine run_blk ?_ | with_reducible refine run_skip ?_ | with_reducible refine run_exit rfl ?_ | with_reducible refine run_drw ?_ | with_reducible refine run_condT ?_ | with_reducible refine run_ret' ?_ | with_reducible refine run_end' ?_ | simp only [go_sem, ↓reduceIte, Nat.reduceAdd, Nat.reduceEqDiff, Nat.reduceBEq, reduceCtorEq, Int.reduceBEq, Int.reduceBNe, Int.reduceLT, Int.reduceLE, hc4]))
      exact ((ho1.nil ho2).nil ho3).trans ho4 fun y hy => by simp only [List.mem_singleton] at hy; subst hy; exact .inr (by omega)
  · (repeat (first | with_reducible refine run_seq ?_ | with_reducible refine run_reg ?_ | with_reducible refine run_block ?_ | with_reducible refine run_blk ?_ | with_reducible refine run_skip ?_ | with_reducible refine run_exit rfl ?_ | with_reducible refine run_drw ?_ | with_reducible refine run_condT ?_ | with_reducible refine run_ret' ?_ | with_reducible refine run_end' ?_ | simp only [go_sem, ↓reduceIte, Nat.reduceAdd, Nat.reduceEqDiff, Nat.reduceBEq, reduceCtorEq, Int.reduceBEq, Int.reduceBNe, Int.reduceLT, Int.reduceLE, bne_int_true he]))
    have hsh : shapeO m x = ((0, 0, 0), objE m x) := by
      cases m with
      | none => rfl
      | some s => simp only [shapeO, he, if_false]
    rw [hsh]
    refine stNT (cs := shV (0, 0, 0)) hat2 rfl (by simp) (shV_one _) fun w4 hs4 hat4 ho4 => ?_
    rw [setL_sh] at hat4
    have hc4 : cellsAt w4 ⟨q, 0, none⟩ 3 = some (shV (0, 0, 0)) := cellsAt_at hat4 0 3 (by simp [shV])
    (repeat (first | with_reducible refine run_seq ?_ | with_reducible refine run_reg ?_ | with_reducible refine run_block ?_ | with_reducible refine run_blk ?_ | with_reducible refine run_skip ?_ | with_reducible refine run_exit rfl ?_ | with_reducible refine run_drw ?_ | with_reducible refine run_condT ?_ | with_reducible refine run_ret' ?_ | with_reducible refine run_end' ?_ | simp only [go_sem, ↓reduceIte, Nat.reduceAdd, Nat.reduceEqDiff, Nat.reduceBEq, reduceCtorEq, Int.reduceBEq, Int.reduceBNe, Int.reduceLT, Int.reduceLE, hc4]))
    exact (ho1.nil ho2).trans ho4 fun y hy => by simp only [List.mem_singleton] at hy; subst hy; exact .inr (by omega)
end Go.Proofs.YtgcofabdialaaaaGreat
