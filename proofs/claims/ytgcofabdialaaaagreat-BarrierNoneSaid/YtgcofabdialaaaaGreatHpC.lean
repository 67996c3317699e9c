/- Heaps: references, Find, fits, Place. -/
import Derived.Test.YtgcofabdialaaaaGreatHpB
import Derived.Test.YtgcofabdialaaaaGreatHpN
namespace Go.Proofs.YtgcofabdialaaaaGreat
set_option linter.unusedSimpArgs false
set_option linter.unusedVariables false
set_option maxRecDepth 8000

theorem hField {w : World} {a : Option Addr} {fp : List Nat} {m : HO} (h : HR w a fp m) (x i : Int) (data : Bool) (hx : x ≤ 4611686018427387904) : Cs Tryz.prog 135 [.pointer a, .int .i64 x, .int .i64 i, .bool data] w fun v w' => v = .tuple #[.int .i64 (fieldO m x i data).1, .int .i64 (fieldO m x i data).2] ∧ Only [] w w' := by
  refine enter_heap_Heap_field rfl ?_
  unfold x_heap_Heap_field
  (repeat (first | with_reducible refine run_seq ?_ | with_reducible refine run_reg ?_ | with_reducible refine run_block ?_ | with_reducible refine run_blk ?_ | with_reducible refine run_skip ?_ | with_reducible refine run_exit rfl ?_ | with_reducible refine run_drw ?_ | with_reducible refine run_condT ?_ | with_reducible refine run_ret' ?_ | with_reducible refine run_end' ?_ | simp only [go_sem, ↓reduceIte, Nat.reduceAdd, Nat.reduceEqDiff, Nat.reduceBEq, reduceCtorEq, Int.reduceBEq, Int.reduceBNe, Int.reduceLT, Int.reduceLE]))
  refine callT1 (hObject h x hx) fun w2 ho2 => ?_
  by_cases he : objE m x = 0
  rotate_left
  · (repeat (first | with_reducible refine run_seq ?_ | with_reducible refine run_reg ?_ | with_reducible refine run_block ?_ | with_reducible refine run_blk ?_ | with_reducible refine run_skip ?_ | with_reducible refine run_exit rfl ?_ | with_reducible refine run_drw ?_ | with_reducible refine run_condT ?_ | with_reducible refine run_ret' ?_ | with_reducible refine run_end' ?_ | simp only [go_sem, ↓reduceIte, Nat.reduceAdd, Nat.reduceEqDiff, Nat.reduceBEq, reduceCtorEq, Int.reduceBEq, Int.reduceBNe, Int.reduceLT, Int.reduceLE, bne_int_true he]))
    have hsh : fieldO m x i data = (0, objE m x) := by
      cases m with
      | none => rfl
      | some s => simp only [fieldO, he, ne_eq, not_false_eq_true, if_true]
    rw [hsh]
    exact ⟨rfl, ho2⟩
  match m, h with
  | none, _ => simp [objE] at he
  | some s, ⟨b, h1, gB, gW, cB, cW, yB, yW, sb, sg, pb, pg, bl, bf, h2, h3⟩ =>
    subst h1
    have hh : hasO (some s) x = true := by
      cases hh : hasO (some s) x with
      | true => rfl
      | false => simp [objE, hh] at he
    obtain ⟨o, rfl, hi⟩ := has_spec h3.ok hh
    obtain ⟨g1, g2, r, d, k, g3, g4, g5, g6, g7, g8⟩ := h3.ok.start hi
    have h3' := h3.keep0 ho2
    have hl := h3.ok.wl
    have hB := h3.ok.b64
    have hv := g3
    simp only [validS, Bool.and_eq_true, decide_eq_true_eq] at hv
    have e1 : IntKind.i64.wrap (((2 * o : Nat) : Int) + 1) = ((2 * o + 1 : Nat) : Int) := i64_succ _ (by omega)
    have e2 : (0 : Int) ≤ ((2 * o + 1 : Nat) : Int) ∧ ((2 * o + 1 : Nat) : Int) < (s.W.length : Int) := ⟨by omega, by omega⟩
    have hc := h3'.wcell g2
    have hsa : s.shapeAt ((2 * o : Nat) : Int) = ((r : Int), (d : Int), (k : Int)) := by unfold HL.shapeAt; rw [Int.toNat_natCast]; exact g8
    have e3 : IntKind.i64.wrap (((2 * o : Nat) : Int) + 2) = ((2 * o : Nat) : Int) + 2 := IntWalk.i64_in _ (by omega)
    have e4 : IntKind.i64.wrap (((2 * o : Nat) : Int) + 2 + r) = ((2 * o : Nat) : Int) + 2 + r := IntWalk.i64_in _ (by omega)
    (repeat (first | with_reducible refine run_seq ?_ | with_reducible refine run_reg ?_ | with_reducible refine run_block ?_ | with_reducible refine run_blk ?_ | with_reducible refine run_skip ?_ | with_reducible refine run_exit rfl ?_ | with_reducible refine run_drw ?_ | with_reducible refine run_condT ?_ | with_reducible refine run_ret' ?_ | with_reducible refine run_end' ?_ | simp only [go_sem, ↓reduceIte, Nat.reduceAdd, Nat.reduceEqDiff, Nat.reduceBEq, reduceCtorEq, Int.reduceBEq, Int.reduceBNe, Int.reduceLT, Int.reduceLE, bne_int_false he, h3'.hb.cell, e1, if_pos e2, Int.toNat_natCast, Nat.mul_one, hc]))
    refine callT1 (hShapeN w2 _ (by rw [g4]; exact g6) (by rw [g4]; exact g7)) fun w3 ho3 => ?_
    rw [g8]
    (repeat (first | with_reducible refine run_seq ?_ | with_reducible refine run_reg ?_ | with_reducible refine run_block ?_ | with_reducible refine run_blk ?_ | with_reducible refine run_skip ?_ | with_reducible refine run_exit rfl ?_ | with_reducible refine run_drw ?_ | with_reducible refine run_condT ?_ | with_reducible refine run_ret' ?_ | with_reducible refine run_end' ?_ | simp only [go_sem, ↓reduceIte, Nat.reduceAdd, Nat.reduceEqDiff, Nat.reduceBEq, reduceCtorEq, Int.reduceBEq, Int.reduceBNe, Int.reduceLT, Int.reduceLE]))
    refine boxT fun q w4 hq hs4 hat4 ho4 => ?_
    (repeat (first | with_reducible refine run_seq ?_ | with_reducible refine run_reg ?_ | with_reducible refine run_block ?_ | with_reducible refine run_blk ?_ | with_reducible refine run_skip ?_ | with_reducible refine run_exit rfl ?_ | with_reducible refine run_drw ?_ | with_reducible refine run_condT ?_ | with_reducible refine run_ret' ?_ | with_reducible refine run_end' ?_ | simp only [go_sem, ↓reduceIte, Nat.reduceAdd, Nat.reduceEqDiff, Nat.reduceBEq, reduceCtorEq, Int.reduceBEq, Int.reduceBNe, Int.reduceLT, Int.reduceLE]))
    refine stNT (cs := shV ((r : Int), (d : Int), (k : Int))) hat4 rfl (by simp) (shV_one _) fun w5 hs5 hat5 ho5 => ?_
    rw [setL_sh] at hat5
    have ho : Only [] w w5 := ((ho2.nil ho3).nil ho4).trans ho5 fun y hy => by have := ho2.size; have := ho3.size; simp only [List.mem_singleton] at hy; subst hy; exact .inr (by omega)
    have c0 := hat5.cell 0
    have c1 := hat5.cell 1
    simp only [shV, List.getElem?_cons_zero, List.getElem?_cons_succ] at c0 c1
    have hfO : fieldO (some s) ((2 * o : Nat) : Int) i data = if i < 0 ∨ (bif data then (d : Int) else (r : Int)) ≤ i then (0, 1) else ((bif data then ((2 * o : Nat) : Int) + 2 + r else ((2 * o : Nat) : Int) + 2) + i, 0) := by
      simp only [fieldO, he, ne_eq, not_true_eq_false, if_false, hsa]
    rw [hfO]
    cases data with
    | false =>
      simp only [cond_false]
      by_cases c2 : i < 0
      · (repeat (first | with_reducible refine run_seq ?_ | with_reducible refine run_reg ?_ | with_reducible refine run_block ?_ | with_reducible refine run_blk ?_ | with_reducible refine run_skip ?_ | with_reducible refine run_exit rfl ?_ | with_reducible refine run_drw ?_ | with_reducible refine run_condT ?_ | with_reducible refine run_ret' ?_ | with_reducible refine run_end' ?_ | simp only [go_sem, ↓reduceIte, Nat.reduceAdd, Nat.reduceEqDiff, Nat.reduceBEq, reduceCtorEq, Int.reduceBEq, Int.reduceBNe, Int.reduceLT, Int.reduceLE, c0, c1, e3, decide_eq_true c2]))
        rw [if_pos (.inl c2)]
        exact ⟨rfl, ho.nil (Only.drew [] _)⟩
      · by_cases c3 : (r : Int) ≤ i
        · (repeat (first | with_reducible refine run_seq ?_ | with_reducible refine run_reg ?_ | with_reducible refine run_block ?_ | with_reducible refine run_blk ?_ | with_reducible refine run_skip ?_ | with_reducible refine run_exit rfl ?_ | with_reducible refine run_drw ?_ | with_reducible refine run_condT ?_ | with_reducible refine run_ret' ?_ | with_reducible refine run_end' ?_ | simp only [go_sem, ↓reduceIte, Nat.reduceAdd, Nat.reduceEqDiff, Nat.reduceBEq, reduceCtorEq, Int.reduceBEq, Int.reduceBNe, Int.reduceLT, Int.reduceLE, c0, c1, e3, decide_eq_false c2, decide_eq_true c3]))
          rw [if_pos (.inr c3)]
          exact ⟨rfl, ho.nil (Only.drew [] _)⟩
        · have e5 : IntKind.i64.wrap (((2 * o : Nat) : Int) + 2 + i) = ((2 * o : Nat) : Int) + 2 + i := IntWalk.i64_in _ (by omega)
          (repeat (first | with_reducible refine run_seq ?_ | with_reducible refine run_reg ?_ | with_reducible refine run_block ?_ | with_reducible refine run_blk ?_ | with_reducible refine run_skip ?_ | with_reducible refine run_exit rfl ?_ | with_reducible refine run_drw ?_ | with_reducible refine run_condT ?_ | with_reducible refine run_ret' ?_ | with_reducible refine run_end' ?_ | simp only [go_sem, ↓reduceIte, Nat.reduceAdd, Nat.reduceEqDiff, Nat.reduceBEq, reduceCtorEq, Int.reduceBEq, Int.reduceBNe, Int.reduceLT, Int.reduceLE, c0, c1, e3, decide_eq_false c2, decide_eq_false c3, e5]))
          rw [if_neg (by omega)]
          exact ⟨rfl, ho.nil (Only.drew [] _)⟩
    | true =>
      simp only [cond_true]
      by_cases c2 : i < 0
      · (repeat (first | with_reducible refine run_seq ?_ | with_reducible refine run_reg ?_ | with_reducible refine run_block ?_ | with_reducible refine run_blk ?_ | with_reducible refine run_skip ?_ | with_reducible refine run_exit rfl ?_ | with_reducible refine run_drw ?_ | with_reducible refine run_condT ?_ | with_reducible refine run_ret' ?_ | with_reducible refine run_end' ?_ | simp only [go_sem, ↓reduceIte, Nat.reduceAdd, Nat.reduceEqDiff, Nat.reduceBEq, reduceCtorEq, Int.reduceBEq, Int.reduceBNe, Int.reduceLT, Int.reduceLE, c0, c1, e3, e4, decide_eq_true c2]))
        rw [if_pos (.inl c2)]
        exact ⟨rfl, (ho.nil (Only.drew [] _)).nil (Only.drew [] _)⟩
      · by_cases c3 : (d : Int) ≤ i
        · (repeat (first | with_reducible refine run_seq ?_ | with_reducible refine run_reg ?_ | with_reducible refine run_block ?_ | with_reducible refine run_blk ?_ | with_reducible refine run_skip ?_ | with_reducible refine run_exit rfl ?_ | with_reducible refine run_drw ?_ | with_reducible refine run_condT ?_ | with_reducible refine run_ret' ?_ | with_reducible refine run_end' ?_ | simp only [go_sem, ↓reduceIte, Nat.reduceAdd, Nat.reduceEqDiff, Nat.reduceBEq, reduceCtorEq, Int.reduceBEq, Int.reduceBNe, Int.reduceLT, Int.reduceLE, c0, c1, e3, e4, decide_eq_false c2, decide_eq_true c3]))
          rw [if_pos (.inr c3)]
          exact ⟨rfl, (ho.nil (Only.drew [] _)).nil (Only.drew [] _)⟩
        · have e5 : IntKind.i64.wrap (((2 * o : Nat) : Int) + 2 + r + i) = ((2 * o : Nat) : Int) + 2 + r + i := IntWalk.i64_in _ (by omega)
          (repeat (first | with_reducible refine run_seq ?_ | with_reducible refine run_reg ?_ | with_reducible refine run_block ?_ | with_reducible refine run_blk ?_ | with_reducible refine run_skip ?_ | with_reducible refine run_exit rfl ?_ | with_reducible refine run_drw ?_ | with_reducible refine run_condT ?_ | with_reducible refine run_ret' ?_ | with_reducible refine run_end' ?_ | simp only [go_sem, ↓reduceIte, Nat.reduceAdd, Nat.reduceEqDiff, Nat.reduceBEq, reduceCtorEq, Int.reduceBEq, Int.reduceBNe, Int.reduceLT, Int.reduceLE, c0, c1, e3, e4, decide_eq_false c2, decide_eq_false c3, e5]))
          rw [if_neg (by omega)]
          exact ⟨rfl, (ho.nil (Only.drew [] _)).nil (Only.drew [] _)⟩
theorem hRef {w : World} {a : Option Addr} {fp : List Nat} {m : HO} (h : HR w a fp m) (x i : Int) (hx : x ≤ 4611686018427387904) : Cs Tryz.prog 60 [.pointer a, .int .i64 x, .int .i64 i] w fun v w' => v = .tuple #[.int .i64 (refO m x i).1, .int .i64 (refO m x i).2] ∧ Only [] w w' := by
  refine enter_heap_Heap_Ref rfl ?_
  unfold x_heap_Heap_Ref
  (repeat (first | with_reducible refine run_seq ?_ | with_reducible refine run_reg ?_ | with_reducible refine run_block ?_ | with_reducible refine run_blk ?_ | with_reducible refine run_skip ?_ | with_reducible refine run_exit rfl ?_ | with_reducible refine run_drw ?_ | with_reducible refine run_condT ?_ | with_reducible refine run_ret' ?_ | with_reducible refine run_end' ?_ | simp only [go_sem, ↓reduceIte, Nat.reduceAdd, Nat.reduceEqDiff, Nat.reduceBEq, reduceCtorEq, Int.reduceBEq, Int.reduceBNe, Int.reduceLT, Int.reduceLE]))
  refine callT1 (hField h x i false hx) fun w2 ho2 => ?_
  by_cases he : (fieldO m x i false).2 = 0
  rotate_left
  · (repeat (first | with_reducible refine run_seq ?_ | with_reducible refine run_reg ?_ | with_reducible refine run_block ?_ | with_reducible refine run_blk ?_ | with_reducible refine run_skip ?_ | with_reducible refine run_exit rfl ?_ | with_reducible refine run_drw ?_ | with_reducible refine run_condT ?_ | with_reducible refine run_ret' ?_ | with_reducible refine run_end' ?_ | simp only [go_sem, ↓reduceIte, Nat.reduceAdd, Nat.reduceEqDiff, Nat.reduceBEq, reduceCtorEq, Int.reduceBEq, Int.reduceBNe, Int.reduceLT, Int.reduceLE, bne_int_true he]))
    have hsh : refO m x i = (0, (fieldO m x i false).2) := by
      cases m with
      | none => rfl
      | some s => simp only [refO, he, if_false]
    rw [hsh]
    exact ⟨rfl, ho2⟩
  match m, h with
  | none, _ => simp [fieldO] at he
  | some s, ⟨b, h1, gB, gW, cB, cW, yB, yW, sb, sg, pb, pg, bl, bf, h2, h3⟩ =>
    subst h1
    obtain ⟨o, k, rfl, g1, g2, g3, g4, g5⟩ := field_spec h3.ok he
    have h3' := h3.keep0 ho2
    have hsh : refO (some s) ((2 * o : Nat) : Int) i = (s.W.getD k 0, 0) := by simp only [refO, he, if_true, g2, Int.toNat_natCast]
    rw [hsh, g2]
    have e2 : (0 : Int) ≤ (k : Int) ∧ (k : Int) < (s.W.length : Int) := ⟨by omega, by omega⟩
    have hc := h3'.wcell g5
    (repeat (first | with_reducible refine run_seq ?_ | with_reducible refine run_reg ?_ | with_reducible refine run_block ?_ | with_reducible refine run_blk ?_ | with_reducible refine run_skip ?_ | with_reducible refine run_exit rfl ?_ | with_reducible refine run_drw ?_ | with_reducible refine run_condT ?_ | with_reducible refine run_ret' ?_ | with_reducible refine run_end' ?_ | simp only [go_sem, ↓reduceIte, Nat.reduceAdd, Nat.reduceEqDiff, Nat.reduceBEq, reduceCtorEq, Int.reduceBEq, Int.reduceBNe, Int.reduceLT, Int.reduceLE, bne_int_false he, h3'.hb.cell, if_pos e2, Int.toNat_natCast, Nat.mul_one, hc]))
    exact ho2
theorem ints_set {xs : List Int} {k : Nat} {x : Int} (rest : List Value) (h : k < xs.length) : (ints xs ++ rest).set k (.int .i64 x) = ints (xs.set k x) ++ rest := by
  rw [List.set_append_left _ _ (by simpa [ints] using h)]
  simp [ints, List.map_set]
theorem nd9 {b gB gW sb sg pb pg bl bf : Nat} (h : [b, gB, gW, sb, sg, pb, pg, bl, bf].Nodup) : (b ≠ gB ∧ b ≠ gW ∧ b ≠ sb ∧ b ≠ sg ∧ b ≠ pb ∧ b ≠ pg ∧ b ≠ bl ∧ b ≠ bf) ∧ (gB ≠ gW ∧ gB ≠ sb ∧ gB ≠ sg ∧ gB ≠ pb ∧ gB ≠ pg ∧ gB ≠ bl ∧ gB ≠ bf) ∧ (gW ≠ sb ∧ gW ≠ sg ∧ gW ≠ pb ∧ gW ≠ pg ∧ gW ≠ bl ∧ gW ≠ bf) ∧ (sb ≠ sg ∧ sb ≠ pb ∧ sb ≠ pg ∧ sb ≠ bl ∧ sb ≠ bf) ∧ (sg ≠ pb ∧ sg ≠ pg ∧ sg ≠ bl ∧ sg ≠ bf) ∧ (pb ≠ pg ∧ pb ≠ bl ∧ pb ≠ bf) ∧ (pg ≠ bl ∧ pg ≠ bf) ∧ bl ≠ bf := by
  simp only [List.nodup_cons, List.mem_cons, List.not_mem_nil, or_false, not_or, List.nodup_nil, not_false_eq_true, and_true] at h
  exact h
theorem off1 {x y : Nat} (h : x ≠ y) : x ∉ [y] := by simpa using h
/-- a word is written -/
theorem HMs.setW {w w' : World} {b : Nat} {s : HL} {gB gW cB cW : Nat} {yB yW : List Value} {sb sg pb pg bl bf : Nat} (h : HMs w b s gB gW cB cW yB yW sb sg pb pg bl bf) {W' : List Int} (hl : W'.length = s.W.length) (hok : HL.Ok { s with W := W' }) (hat : At w' gW (ints W' ++ yW)) (ho : Only [gW] w w') :
    HMs w' b { s with W := W' } gB gW cB cW yB yW sb sg pb pg bl bf := by
  obtain ⟨⟨n1, n2, n3, n4, n5, n6, n7, n8⟩, ⟨m2, m3, m4, m5, m6, m7, m8⟩, ⟨p3, p4, p5, p6, p7, p8⟩, _⟩ := nd9 h.nd
  refine ⟨hok, ?_, h.hB.keep ho (off1 m2), hat, h.cB, by simpa only [hl] using h.cW, h.hs.keep ho (off1 p3.symm) (off1 p4.symm), h.hp.keep ho (off1 p5.symm) (off1 p6.symm), h.hl.keep ho (off1 p7.symm), h.hf.keep ho (off1 p8.symm), h.nd⟩
  rw [show ({ s with W := W' } : HL).W.length = s.W.length from hl]
  exact h.hb.keep ho (off1 n2)
theorem hSetRef {w : World} {a : Option Addr} {fp : List Nat} {m : HO} (h : HR w a fp m) (x i to : Int) (hx : x ≤ 4611686018427387904) (hto : to ≤ 4611686018427387904) : Cs Tryz.prog 61 [.pointer a, .int .i64 x, .int .i64 i, .int .i64 to] w fun v w' => v = .int .i64 (setRefE m x i to) ∧ HR w' a fp (setRefM m x i to) ∧ Only fp w w' := by
  refine enter_heap_Heap_SetRef rfl ?_
  unfold x_heap_Heap_SetRef
  (repeat (first | with_reducible refine run_seq ?_ | with_reducible refine run_reg ?_ | with_reducible refine run_block ?_ | with_reducible refine run_blk ?_ | with_reducible refine run_skip ?_ | with_reducible refine run_exit rfl ?_ | with_reducible refine run_drw ?_ | with_reducible refine run_condT ?_ | with_reducible refine run_ret' ?_ | with_reducible refine run_end' ?_ | simp only [go_sem, ↓reduceIte, Nat.reduceAdd, Nat.reduceEqDiff, Nat.reduceBEq, reduceCtorEq, Int.reduceBEq, Int.reduceBNe, Int.reduceLT, Int.reduceLE]))
  refine callT1 (hField h x i false hx) fun w2 ho2 => ?_
  by_cases he : (fieldO m x i false).2 = 0
  rotate_left
  · (repeat (first | with_reducible refine run_seq ?_ | with_reducible refine run_reg ?_ | with_reducible refine run_block ?_ | with_reducible refine run_blk ?_ | with_reducible refine run_skip ?_ | with_reducible refine run_exit rfl ?_ | with_reducible refine run_drw ?_ | with_reducible refine run_condT ?_ | with_reducible refine run_ret' ?_ | with_reducible refine run_end' ?_ | simp only [go_sem, ↓reduceIte, Nat.reduceAdd, Nat.reduceEqDiff, Nat.reduceBEq, reduceCtorEq, Int.reduceBEq, Int.reduceBNe, Int.reduceLT, Int.reduceLE, bne_int_true he]))
    have hE : setRefE m x i to = (fieldO m x i false).2 := by
      cases m with
      | none => rfl
      | some s => simp only [setRefE, ne_eq, he, not_false_eq_true, if_true]
    have hM : setRefM m x i to = m := by
      cases m with
      | none => rfl
      | some s => simp only [setRefM, hE, he, if_false]
    rw [hE, hM]
    exact ⟨rfl, h.keep0 ho2, ho2.of_nil⟩
  match m, h with
  | none, _ => simp [fieldO] at he
  | some s, h0@⟨b, h1, gB, gW, cB, cW, yB, yW, sb, sg, pb, pg, bl, bf, h2, h3⟩ =>
    subst h1
    have hnext : (to ≠ 0 → hasO (some s) to = true) → ∀ w3, Only [] w w3 → setRefE (some s) x i to = 0 ∧ ∃ k : Nat, (fieldO (some s) x i false).1 = k ∧ k < s.W.length ∧ setRefM (some s) x i to = some { s with W := s.W.set k to } ∧ HL.Ok { s with W := s.W.set k to } := by
      intro hh w3 ho3
      obtain ⟨o, k, rfl, g1, g2, g3, g4, g5⟩ := field_spec h3.ok he
      have hE : setRefE (some s) ((2 * o : Nat) : Int) i to = 0 := by
        simp only [setRefE, he, ne_eq, not_true_eq_false, if_false]
        rw [if_neg]
        rintro ⟨h4, h5⟩
        rw [hh h4] at h5; cases h5
      refine ⟨hE, k, g2, g5, ?_, h3.ok.setW (h3.ok.inside g1 g3 g4)⟩
      simp only [setRefM, hE, if_true, g2, Int.toNat_natCast]
    have hstore : ∀ (w3 : World) (k : Nat), Only [] w w3 → k < s.W.length → HL.Ok { s with W := s.W.set k to } → ∀ w4, At w4 gW (ints (s.W.set k to) ++ yW) → Only [gW] w3 w4 → HR w4 (some ⟨b, 0, none⟩) fp (some { s with W := s.W.set k to }) ∧ Only fp w w4 := by
      intro w3 k ho3 hk hok w4 hat4 ho4
      refine ⟨⟨b, rfl, gB, gW, cB, cW, yB, yW, sb, sg, pb, pg, bl, bf, h2, (h3.keep0 ho3).setW (by simp) hok hat4 ho4⟩, ?_⟩
      exact (ho3.of_nil (T := fp)).trans ho4 fun y hy => by simp only [List.mem_singleton] at hy; subst hy; exact .inl (by rw [h2]; simp)
    by_cases c0 : to = 0
    · obtain ⟨hE, k, g2, g5, hM, hok⟩ := hnext (fun h => absurd c0 h) w2 ho2
      have h3' := h3.keep0 ho2
      have e2 : (0 : Int) ≤ (k : Int) ∧ (k : Int) < (s.W.length : Int) := ⟨by omega, by omega⟩
      rw [hE, hM, g2]
      (repeat (first | with_reducible refine run_seq ?_ | with_reducible refine run_reg ?_ | with_reducible refine run_block ?_ | with_reducible refine run_blk ?_ | with_reducible refine run_skip ?_ | with_reducible refine run_exit rfl ?_ | with_reducible refine run_drw ?_ | with_reducible refine run_condT ?_ | with_reducible refine run_ret' ?_ | with_reducible refine run_end' ?_ | simp only [go_sem, ↓reduceIte, Nat.reduceAdd, Nat.reduceEqDiff, Nat.reduceBEq, reduceCtorEq, Int.reduceBEq, Int.reduceBNe, Int.reduceLT, Int.reduceLE, bne_int_false he, bne_int_false c0, h3'.hb.cell, if_pos e2, Int.toNat_natCast, Nat.mul_one]))
      refine stT h3'.hW (by simp [ints]; omega) rfl fun w4 hs4 hat4 ho4 => ?_
      rw [ints_set yW g5] at hat4
      obtain ⟨r1, r2⟩ := hstore w2 k ho2 g5 hok w4 hat4 ho4
      (repeat (first | with_reducible refine run_seq ?_ | with_reducible refine run_reg ?_ | with_reducible refine run_block ?_ | with_reducible refine run_blk ?_ | with_reducible refine run_skip ?_ | with_reducible refine run_exit rfl ?_ | with_reducible refine run_drw ?_ | with_reducible refine run_condT ?_ | with_reducible refine run_ret' ?_ | with_reducible refine run_end' ?_ | simp only [go_sem, ↓reduceIte, Nat.reduceAdd, Nat.reduceEqDiff, Nat.reduceBEq, reduceCtorEq, Int.reduceBEq, Int.reduceBNe, Int.reduceLT, Int.reduceLE]))
      exact ⟨r1, r2⟩
    · (repeat (first | with_reducible refine run_seq ?_ | with_reducible refine run_reg ?_ | with_reducible refine run_block ?_ | with_reducible refine run_blk ?_ | with_reducible refine run_skip ?_ | with_reducible refine run_exit rfl ?_ | with_reducible refine run_drw ?_ | with_reducible refine run_condT ?_ | with_reducible refine run_ret' ?_ | with_reducible refine run_end' ?_ | simp only [go_sem, ↓reduceIte, Nat.reduceAdd, Nat.reduceEqDiff, Nat.reduceBEq, reduceCtorEq, Int.reduceBEq, Int.reduceBNe, Int.reduceLT, Int.reduceLE, bne_int_false he, bne_int_true c0]))
      refine callT1 (hHas (h0.keep0 ho2) to hto) fun w3 ho3 => ?_
      cases hh : hasO (some s) to with
      | false =>
        (repeat (first | with_reducible refine run_seq ?_ | with_reducible refine run_reg ?_ | with_reducible refine run_block ?_ | with_reducible refine run_blk ?_ | with_reducible refine run_skip ?_ | with_reducible refine run_exit rfl ?_ | with_reducible refine run_drw ?_ | with_reducible refine run_condT ?_ | with_reducible refine run_ret' ?_ | with_reducible refine run_end' ?_ | simp only [go_sem, ↓reduceIte, Nat.reduceAdd, Nat.reduceEqDiff, Nat.reduceBEq, reduceCtorEq, Int.reduceBEq, Int.reduceBNe, Int.reduceLT, Int.reduceLE]))
        have hE : setRefE (some s) x i to = 1 := by
          simp only [setRefE, he, ne_eq, not_true_eq_false, if_false, c0, not_false_eq_true, hh, and_self, if_true]
        have hM : setRefM (some s) x i to = some s := by
          simp only [setRefM, hE]; rfl
        rw [hE, hM]
        exact ⟨rfl, h0.keep0 (ho2.nil ho3), (ho2.nil ho3).of_nil⟩
      | true =>
        obtain ⟨hE, k, g2, g5, hM, hok⟩ := hnext (fun _ => hh) w3 (ho2.nil ho3)
        have h3' := h3.keep0 (ho2.nil ho3)
        have e2 : (0 : Int) ≤ (k : Int) ∧ (k : Int) < (s.W.length : Int) := ⟨by omega, by omega⟩
        rw [hE, hM, g2]
        (repeat (first | with_reducible refine run_seq ?_ | with_reducible refine run_reg ?_ | with_reducible refine run_block ?_ | with_reducible refine run_blk ?_ | with_reducible refine run_skip ?_ | with_reducible refine run_exit rfl ?_ | with_reducible refine run_drw ?_ | with_reducible refine run_condT ?_ | with_reducible refine run_ret' ?_ | with_reducible refine run_end' ?_ | simp only [go_sem, ↓reduceIte, Nat.reduceAdd, Nat.reduceEqDiff, Nat.reduceBEq, reduceCtorEq, Int.reduceBEq, Int.reduceBNe, Int.reduceLT, Int.reduceLE, h3'.hb.cell, if_pos e2, Int.toNat_natCast, Nat.mul_one]))
        refine stT h3'.hW (by simp [ints]; omega) rfl fun w4 hs4 hat4 ho4 => ?_
        rw [ints_set yW g5] at hat4
        obtain ⟨r1, r2⟩ := hstore w3 k (ho2.nil ho3) g5 hok w4 hat4 ho4
        (repeat (first | with_reducible refine run_seq ?_ | with_reducible refine run_reg ?_ | with_reducible refine run_block ?_ | with_reducible refine run_blk ?_ | with_reducible refine run_skip ?_ | with_reducible refine run_exit rfl ?_ | with_reducible refine run_drw ?_ | with_reducible refine run_condT ?_ | with_reducible refine run_ret' ?_ | with_reducible refine run_end' ?_ | simp only [go_sem, ↓reduceIte, Nat.reduceAdd, Nat.reduceEqDiff, Nat.reduceBEq, reduceCtorEq, Int.reduceBEq, Int.reduceBNe, Int.reduceLT, Int.reduceLE]))
        exact ⟨r1, r2⟩
end Go.Proofs.YtgcofabdialaaaaGreat
