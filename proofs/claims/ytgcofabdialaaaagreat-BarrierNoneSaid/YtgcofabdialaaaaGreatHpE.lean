/- Heaps: Place, for small objects. -/
import Derived.Test.YtgcofabdialaaaaGreatHpD
namespace Go.Proofs.YtgcofabdialaaaaGreat
set_option linter.unusedSimpArgs false
set_option linter.unusedVariables false
set_option maxRecDepth 8000

theorem hPlace {w : World} {a : Option Addr} {fp : List Nat} {m : HO} (h : HR w a fp m) (x : Int) (sh : Sh) (hx : x ≤ 4611686018427387904) (hsm : wordsS sh ≤ 32) (hborn : ∀ s, m = some s → s.born ≤ 4611686018427387900) :
    Cs Tryz.prog 49 [.pointer a, .int .i64 x, .agg ⟨shV sh⟩] w fun v w' => v = .tuple #[.int .i64 (placeR m x sh).1, .int .i64 (placeR m x sh).2] ∧ HR w' a fp (placeM m x sh) ∧ Only fp w w' := by
  refine enter_heap_Heap_Place rfl ?_
  unfold x_heap_Heap_Place
  (repeat (first | with_reducible refine run_seq ?_ | with_reducible refine run_reg ?_ | with_reducible refine run_block ?_ | with_reducible refine run_blk ?_ | with_reducible refine run_skip ?_ | with_reducible refine run_exit rfl ?_ | with_reducible refine run_drw ?_ | with_reducible refine run_condT ?_ | with_reducible refine run_ret' ?_ | with_reducible refine run_end' ?_ | simp only [go_sem, ↓reduceIte, Nat.reduceAdd, Nat.reduceEqDiff, Nat.reduceBEq, reduceCtorEq, Int.reduceBEq, Int.reduceBNe, Int.reduceLT, Int.reduceLE]))
  refine boxT fun q w1 hq hs1 hat1 ho1 => ?_
  (repeat (first | with_reducible refine run_seq ?_ | with_reducible refine run_reg ?_ | with_reducible refine run_block ?_ | with_reducible refine run_blk ?_ | with_reducible refine run_skip ?_ | with_reducible refine run_exit rfl ?_ | with_reducible refine run_drw ?_ | with_reducible refine run_condT ?_ | with_reducible refine run_ret' ?_ | with_reducible refine run_end' ?_ | simp only [go_sem, ↓reduceIte, Nat.reduceAdd, Nat.reduceEqDiff, Nat.reduceBEq, reduceCtorEq, Int.reduceBEq, Int.reduceBNe, Int.reduceLT, Int.reduceLE]))
  refine callT0 (hMade (h.keep0 ho1)) ?_
  match m, h with
  | none, h => (repeat (first | with_reducible refine run_seq ?_ | with_reducible refine run_reg ?_ | with_reducible refine run_block ?_ | with_reducible refine run_blk ?_ | with_reducible refine run_skip ?_ | with_reducible refine run_exit rfl ?_ | with_reducible refine run_drw ?_ | with_reducible refine run_condT ?_ | with_reducible refine run_ret' ?_ | with_reducible refine run_end' ?_ | simp only [go_sem, ↓reduceIte, Nat.reduceAdd, Nat.reduceEqDiff, Nat.reduceBEq, reduceCtorEq, Int.reduceBEq, Int.reduceBNe, Int.reduceLT, Int.reduceLE])); exact ⟨rfl, h.keep0 ho1, ho1.of_nil⟩
  | some s, h0@⟨b, h1, gB, gW, cB, cW, yB, yW, sb, sg, pb, pg, bl, bf, h2, h3⟩ =>
    subst h1
    have hc1 : cellsAt w1 ⟨q, 0, none⟩ 3 = some (shV sh) := cellsAt_at hat1 0 3 (by simp [shV])
    (repeat (first | with_reducible refine run_seq ?_ | with_reducible refine run_reg ?_ | with_reducible refine run_block ?_ | with_reducible refine run_blk ?_ | with_reducible refine run_skip ?_ | with_reducible refine run_exit rfl ?_ | with_reducible refine run_drw ?_ | with_reducible refine run_condT ?_ | with_reducible refine run_ret' ?_ | with_reducible refine run_end' ?_ | simp only [go_sem, ↓reduceIte, Nat.reduceAdd, Nat.reduceEqDiff, Nat.reduceBEq, reduceCtorEq, Int.reduceBEq, Int.reduceBNe, Int.reduceLT, Int.reduceLE, hc1]))
    refine callT1 (hValid w1 sh) fun w2 ho2 => ?_
    have hc2 : cellsAt w2 ⟨q, 0, none⟩ 3 = some (shV sh) := cellsAt_at (hat1.keep0 ho2) 0 3 (by simp [shV])
    cases hv : validS sh with
    | false =>
      (repeat (first | with_reducible refine run_seq ?_ | with_reducible refine run_reg ?_ | with_reducible refine run_block ?_ | with_reducible refine run_blk ?_ | with_reducible refine run_skip ?_ | with_reducible refine run_exit rfl ?_ | with_reducible refine run_drw ?_ | with_reducible refine run_condT ?_ | with_reducible refine run_ret' ?_ | with_reducible refine run_end' ?_ | simp only [go_sem, ↓reduceIte, Nat.reduceAdd, Nat.reduceEqDiff, Nat.reduceBEq, reduceCtorEq, Int.reduceBEq, Int.reduceBNe, Int.reduceLT, Int.reduceLE]))
      have hR : placeR (some s) x sh = (0, 2) := by simp [placeR, hv]
      have hM : placeM (some s) x sh = some s := by unfold placeM; simp only [hR]; rfl
      rw [hR, hM]
      exact ⟨rfl, HR.keep0 (m := some s) h0 (ho1.nil ho2), (ho1.nil ho2).of_nil⟩
    | true =>
      (repeat (first | with_reducible refine run_seq ?_ | with_reducible refine run_reg ?_ | with_reducible refine run_block ?_ | with_reducible refine run_blk ?_ | with_reducible refine run_skip ?_ | with_reducible refine run_exit rfl ?_ | with_reducible refine run_drw ?_ | with_reducible refine run_condT ?_ | with_reducible refine run_ret' ?_ | with_reducible refine run_end' ?_ | simp only [go_sem, ↓reduceIte, Nat.reduceAdd, Nat.reduceEqDiff, Nat.reduceBEq, reduceCtorEq, Int.reduceBEq, Int.reduceBNe, Int.reduceLT, Int.reduceLE, hc2]))
      refine callT1 (hWords w2 sh) fun w3 ho3 => ?_
      have hw := words_le hv
      have o3 := (ho1.nil ho2).nil ho3
      (repeat (first | with_reducible refine run_seq ?_ | with_reducible refine run_reg ?_ | with_reducible refine run_block ?_ | with_reducible refine run_blk ?_ | with_reducible refine run_skip ?_ | with_reducible refine run_exit rfl ?_ | with_reducible refine run_drw ?_ | with_reducible refine run_condT ?_ | with_reducible refine run_ret' ?_ | with_reducible refine run_end' ?_ | simp only [go_sem, ↓reduceIte, Nat.reduceAdd, Nat.reduceEqDiff, Nat.reduceBEq, reduceCtorEq, Int.reduceBEq, Int.reduceBNe, Int.reduceLT, Int.reduceLE]))
      refine callT1 (hFits (h3.keep0 o3) x (wordsS sh) (-1) hx hw.1 hsm hw.2.2.1) fun w4 ho4 => ?_
      have o4 := o3.nil ho4
      by_cases he : fitsE s x (wordsS sh) (-1) = 0
      rotate_left
      · (repeat (first | with_reducible refine run_seq ?_ | with_reducible refine run_reg ?_ | with_reducible refine run_block ?_ | with_reducible refine run_blk ?_ | with_reducible refine run_skip ?_ | with_reducible refine run_exit rfl ?_ | with_reducible refine run_drw ?_ | with_reducible refine run_condT ?_ | with_reducible refine run_ret' ?_ | with_reducible refine run_end' ?_ | simp only [go_sem, ↓reduceIte, Nat.reduceAdd, Nat.reduceEqDiff, Nat.reduceBEq, reduceCtorEq, Int.reduceBEq, Int.reduceBNe, Int.reduceLT, Int.reduceLE, bne_int_true he]))
        have hR : placeR (some s) x sh = (0, fitsE s x (wordsS sh) (-1)) := by simp [placeR, hv, he]
        have hM : placeM (some s) x sh = some s := by unfold placeM; simp only [hR, he, if_false]
        rw [hR, hM]
        exact ⟨rfl, HR.keep0 (m := some s) h0 o4, o4.of_nil⟩
      obtain ⟨k, rfl, hk, hin, hfree⟩ := fits_spec h3.ok hw.1 hw.2.2.1 hw.2.1 he
      have hR : placeR (some s) ((2 * k : Nat) : Int) sh = (((s.born + 1 : Nat) : Int), 0) := by
        unfold placeR
        simp only [hv, he, Bool.true_eq_false, if_false, ne_eq, not_true_eq_false]
      have hM : placeM (some s) ((2 * k : Nat) : Int) sh = some { s with W := (s.W.set (2 * k) ((s.born + 1 : Nat) : Int)).set (2 * k + 1) (numS sh), st := s.st.set k 1, pl := putM s.pl ((s.born + 1 : Nat) : Int) (.int .i64 ((2 * k : Nat) : Int)), born := s.born + 1 } := by
        unfold placeM
        simp only [hR, if_true, Int.toNat_natCast, Nat.mul_div_cancel_left k (show 0 < 2 by omega)]
      have hok := h3.ok.place (id := ((s.born + 1 : Nat) : Int)) (pl := putM s.pl ((s.born + 1 : Nat) : Int) (.int .i64 ((2 * k : Nat) : Int))) (born := s.born + 1) hv hk hin hfree
      rw [hR, hM]
      have hbn := hborn s rfl
      have h4 := h3.keep0 o4
      have hz4 := o4.size
      have hlt := h3.lt
      obtain ⟨⟨n1, n2, n3, n4, n5, n6, n7, n8⟩, ⟨m2, m3, m4, m5, m6, m7, m8⟩, ⟨p3, p4, p5, p6, p7, p8⟩, ⟨r4, r5, r6, r7, r8⟩, ⟨t5, t6, t7, t8⟩, ⟨u6, u7, u8⟩, ⟨v7, v8⟩, y8⟩ := nd9 h3.nd
      have hqn : ∀ z, z ∈ [b, gB, gW, sb, sg, pb, pg, bl, bf] → z ≠ q := fun z hz e => by have := hlt z hz; omega
      have e1 : IntKind.i64.wrap ((s.born : Int) + 1) = ((s.born + 1 : Nat) : Int) := i64_succ _ (by omega)
      (repeat (first | with_reducible refine run_seq ?_ | with_reducible refine run_reg ?_ | with_reducible refine run_block ?_ | with_reducible refine run_blk ?_ | with_reducible refine run_skip ?_ | with_reducible refine run_exit rfl ?_ | with_reducible refine run_drw ?_ | with_reducible refine run_condT ?_ | with_reducible refine run_ret' ?_ | with_reducible refine run_end' ?_ | simp only [go_sem, ↓reduceIte, Nat.reduceAdd, Nat.reduceEqDiff, Nat.reduceBEq, reduceCtorEq, Int.reduceBEq, Int.reduceBNe, Int.reduceLT, Int.reduceLE, bne_int_false he, h4.hb.cell, e1]))
      refine stT h4.hb (by simp) rfl fun w5 hs5 hb5 ho5 => ?_
      simp only [List.set_cons_zero, List.set_cons_succ] at hb5
      have hat5 : At w5 q (shV sh) := ((hat1.keep0 ((ho2.nil ho3).nil ho4))).keep ho5 (off1 (hqn b (by simp)).symm)
      have hW5 := h4.hW.keep ho5 (off1 n2.symm)
      have hc5 : cellsAt w5.drew ⟨q, 0, none⟩ 3 = some (shV sh) := cellsAt_at hat5.drew 0 3 (by simp [shV])
      have hsl := h3.ok.sl
      have hwl := h3.ok.wl
      have hB64 := h3.ok.b64
      have e2 : IntKind.i64.wrap (((2 * k : Nat) : Int) + 1) = ((2 * k + 1 : Nat) : Int) := i64_succ _ (by omega)
      have c1 : (0 : Int) ≤ ((2 * k : Nat) : Int) ∧ ((2 * k : Nat) : Int) < (s.W.length : Int) := ⟨by omega, by omega⟩
      have c2 : (0 : Int) ≤ ((2 * k + 1 : Nat) : Int) ∧ ((2 * k + 1 : Nat) : Int) < (s.W.length : Int) := ⟨by omega, by omega⟩
      (repeat (first | with_reducible refine run_seq ?_ | with_reducible refine run_reg ?_ | with_reducible refine run_block ?_ | with_reducible refine run_blk ?_ | with_reducible refine run_skip ?_ | with_reducible refine run_exit rfl ?_ | with_reducible refine run_drw ?_ | with_reducible refine run_condT ?_ | with_reducible refine run_ret' ?_ | with_reducible refine run_end' ?_ | simp only [go_sem, ↓reduceIte, Nat.reduceAdd, Nat.reduceEqDiff, Nat.reduceBEq, reduceCtorEq, Int.reduceBEq, Int.reduceBNe, Int.reduceLT, Int.reduceLE]))
      refine run_drt [b, q] ?_
      (repeat (first | with_reducible refine run_seq ?_ | with_reducible refine run_reg ?_ | with_reducible refine run_block ?_ | with_reducible refine run_blk ?_ | with_reducible refine run_skip ?_ | with_reducible refine run_exit rfl ?_ | with_reducible refine run_drw ?_ | with_reducible refine run_condT ?_ | with_reducible refine run_ret' ?_ | with_reducible refine run_end' ?_ | simp only [go_sem, ↓reduceIte, Nat.reduceAdd, Nat.reduceEqDiff, Nat.reduceBEq, reduceCtorEq, Int.reduceBEq, Int.reduceBNe, Int.reduceLT, Int.reduceLE, hb5.cell, hb5.drew.cell, hc5, e2]))
      have hb5' := hb5.lt
      have hq5' := hat5.lt
      refine callS1 (hNumber w5.drew sh hv) (.inr ⟨SB.refl _ _, fun z hz => ⟨?_, by simp⟩⟩) fun w6 ho6 => ?_
      · simp only [List.mem_cons, List.not_mem_nil, or_false] at hz
        show z < w5.heap.size
        rcases hz with rfl | rfl
        · exact hb5'
        · exact hq5'
      have hW6 := hW5.drew.keep0 ho6
      (repeat (first | with_reducible refine run_seq ?_ | with_reducible refine run_reg ?_ | with_reducible refine run_block ?_ | with_reducible refine run_blk ?_ | with_reducible refine run_skip ?_ | with_reducible refine run_exit rfl ?_ | with_reducible refine run_drw ?_ | with_reducible refine run_condT ?_ | with_reducible refine run_ret' ?_ | with_reducible refine run_end' ?_ | simp only [go_sem, ↓reduceIte, Nat.reduceAdd, Nat.reduceEqDiff, Nat.reduceBEq, reduceCtorEq, Int.reduceBEq, Int.reduceBNe, Int.reduceLT, Int.reduceLE, if_pos c1, if_pos c2, Int.toNat_natCast, Nat.mul_one]))
      refine stS hW6 (by simp [ints]; omega) rfl fun w7 hs7 hW7 ho7 => ⟨.inl rfl, ?_⟩
      rw [ints_set yW (by omega)] at hW7
      (repeat (first | with_reducible refine run_seq ?_ | with_reducible refine run_reg ?_ | with_reducible refine run_block ?_ | with_reducible refine run_blk ?_ | with_reducible refine run_skip ?_ | with_reducible refine run_exit rfl ?_ | with_reducible refine run_drw ?_ | with_reducible refine run_condT ?_ | with_reducible refine run_ret' ?_ | with_reducible refine run_end' ?_ | simp only [go_sem, ↓reduceIte, Nat.reduceAdd, Nat.reduceEqDiff, Nat.reduceBEq, reduceCtorEq, Int.reduceBEq, Int.reduceBNe, Int.reduceLT, Int.reduceLE, if_pos c2, Int.toNat_natCast, Nat.mul_one]))
      refine stS hW7 (by simp [ints]; omega) rfl fun w8 hs8 hW8 ho8 => ⟨.inl rfl, ?_⟩
      rw [ints_set yW (by simp; omega)] at hW8
      have o8 : Only [gW] w5 w8 := (((Only.drew [] w5).nil ho6).of_nil (T := [gW])).same (ho7.same ho8)
      have hb8 := hb5.keep o8 (off1 n2)
      have hs8' := (h4.hs.keep ho5 (off1 n3.symm) (off1 n4.symm)).keep o8 (off1 p3.symm) (off1 p4.symm)
      have e3 : IntKind.i64.wrap (((2 * k : Nat) : Int).tdiv 2) = (k : Int) := by rw [tdiv2 _ (by omega)]; omega
      (repeat (first | with_reducible refine run_seq ?_ | with_reducible refine run_reg ?_ | with_reducible refine run_block ?_ | with_reducible refine run_blk ?_ | with_reducible refine run_skip ?_ | with_reducible refine run_exit rfl ?_ | with_reducible refine run_drw ?_ | with_reducible refine run_condT ?_ | with_reducible refine run_ret' ?_ | with_reducible refine run_end' ?_ | simp only [go_sem, ↓reduceIte, Nat.reduceAdd, Nat.reduceEqDiff, Nat.reduceBEq, reduceCtorEq, Int.reduceBEq, Int.reduceBNe, Int.reduceLT, Int.reduceLE, hb8.cell, e3]))
      refine callT (Set_m (Tab.mk hs8') (k : Int) 1) ?_
      rintro r w9 ⟨rfl, htab9, ho9⟩
      have hchk : MT.check (some (1, s.st)) (k : Int) [1] = 0 := by
        have h1 : hasB s.st.length (k : Int) = true := hasB_of hk
        simp only [MT.check, h1]
        rfl
      have hsetM : MT.setM (some (1, s.st)) (k : Int) 1 = some (1, s.st.set k 1) := by
        simp only [MT.setM, hchk, if_true, Int.toNat_natCast]; rfl
      rw [hsetM] at htab9
      obtain ⟨sb', sg', g1, g2, hs9⟩ := htab9
      cases g2
      have o9 : Only [sb, sg] w8 w9 := ho9
      have off2 : ∀ {z : Nat}, z ≠ sb → z ≠ sg → z ∉ [sb, sg] := fun h1 h2 => by simpa using ⟨h1, h2⟩
      have hb9 := hb8.keep o9 (off2 n3 n4)
      have hl9 := ((h4.hl.keep ho5 (off1 n7.symm)).keep o8 (off1 p7.symm)).keep o9 (off2 r7.symm t7.symm)
      (repeat (first | with_reducible refine run_seq ?_ | with_reducible refine run_reg ?_ | with_reducible refine run_block ?_ | with_reducible refine run_blk ?_ | with_reducible refine run_skip ?_ | with_reducible refine run_exit rfl ?_ | with_reducible refine run_drw ?_ | with_reducible refine run_condT ?_ | with_reducible refine run_ret' ?_ | with_reducible refine run_end' ?_ | simp only [go_sem, ↓reduceIte, Nat.reduceAdd, Nat.reduceEqDiff, Nat.reduceBEq, reduceCtorEq, Int.reduceBEq, Int.reduceBNe, Int.reduceLT, Int.reduceLE, hb9.cell, hb9.drew.cell]))
      refine mputT Tryz.underlying68 Tryz.underlying3 (hl9.keep0 (Only.drew [] w9)) fun w10 hs10 hl10 ho10 => ?_
      have o10 : Only [bl] w9 w10 := ((Only.drew [] w9).of_nil (T := [bl])).same ho10
      have hb10 := hb9.keep o10 (off1 n7)
      (repeat (first | with_reducible refine run_seq ?_ | with_reducible refine run_reg ?_ | with_reducible refine run_block ?_ | with_reducible refine run_blk ?_ | with_reducible refine run_skip ?_ | with_reducible refine run_exit rfl ?_ | with_reducible refine run_drw ?_ | with_reducible refine run_condT ?_ | with_reducible refine run_ret' ?_ | with_reducible refine run_end' ?_ | simp only [go_sem, ↓reduceIte, Nat.reduceAdd, Nat.reduceEqDiff, Nat.reduceBEq, reduceCtorEq, Int.reduceBEq, Int.reduceBNe, Int.reduceLT, Int.reduceLE, hb10.cell]))
      refine ⟨⟨b, rfl, gB, gW, cB, cW, yB, yW, sb, sg, pb, pg, bl, bf, h2, ⟨hok, ?_, ?_, ?_, h3.cB, by simpa using h3.cW, ?_, ?_, hl10, ?_, h3.nd⟩⟩, ?_⟩
      · simpa using hb10
      · exact (((h4.hB.keep ho5 (off1 n1.symm)).keep o8 (off1 m2)).keep o9 (off2 m3 m4)).keep o10 (off1 m7)
      · exact (hW8.keep o9 (off2 p3 p4)).keep o10 (off1 p7)
      · exact hs9.keep o10 (off1 r7) (off1 t7)
      · exact (((h4.hp.keep ho5 (off1 n5.symm) (off1 n6.symm)).keep o8 (off1 p5.symm) (off1 p6.symm)).keep o9 (off2 r5.symm t5.symm) (off2 r6.symm t6.symm)).keep o10 (off1 u7) (off1 v7)
      · exact (((h4.hf.keep ho5 (off1 n8.symm)).keep o8 (off1 p8.symm)).keep o9 (off2 r8.symm t8.symm)).keep o10 (off1 y8.symm)
      · have f : ∀ z, z ∈ [b, gB, gW, sb, sg, pb, pg, bl, bf] → z ∈ fp := fun z hz => by rw [h2]; exact hz
        refine ((((o4.of_nil (T := fp)).trans ho5 fun z hz => .inl (f z ?_)).trans o8 fun z hz => .inl (f z ?_)).trans o9 fun z hz => .inl (f z ?_)).trans o10 fun z hz => .inl (f z ?_)
        all_goals (simp only [List.mem_cons, List.not_mem_nil, or_false] at hz ⊢; omega)
end Go.Proofs.YtgcofabdialaaaaGreat
