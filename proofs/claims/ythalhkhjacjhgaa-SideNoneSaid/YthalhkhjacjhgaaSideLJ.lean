/- The law SideNone, walked. -/
import Derived.Test.YthalhkhjacjhgaaSideLI
namespace Go.Proofs.Ythalhkhjacjhgaa
set_option linter.unusedSimpArgs false
set_option linter.unusedVariables false
set_option maxRecDepth 8000

theorem MT.act_none (x : Act4) : MT.act none x = none := by
  have := MT.act_some none x
  cases h : MT.act none x with
  | none => rfl
  | some y => rw [h] at this; cases this
theorem newT_none {h0 : Nat} {w : World} {a : Option Addr} {S : List Nat} (h : NewT h0 w a S none) : a = none := newT_nil h

theorem none_walk {w : World} (x : Act4) : Cs Try.prog 11 [.agg ⟨actV x⟩] w fun r w' => r = .bool true ∧ Only [] w w' := by
  refine enter_law01_SideNone rfl ?_
  unfold x_law01_SideNone
  obtain ⟨k, A, B, C⟩ := x
  have hv : actV (k, A, B, C) = [.int .i64 k, .int .i64 A, .int .i64 B, .int .i64 C] := rfl
  rw [hv]
  (repeat (first | with_reducible refine run_seq ?_ | with_reducible refine run_reg ?_ | with_reducible refine run_block ?_ | with_reducible refine run_blk ?_ | with_reducible refine run_skip ?_ | with_reducible refine run_exit rfl ?_ | with_reducible refine run_drw ?_ | with_reducible refine run_condT ?_ | with_reducible refine run_ret' ?_ | with_reducible refine run_end' ?_ | simp only [go_sem, ↓reduceIte, Nat.reduceAdd, Nat.reduceEqDiff, Nat.reduceBEq, reduceCtorEq, Int.reduceBEq, Int.reduceBNe, Int.reduceLT, Int.reduceLE]))
  refine boxT fun q w1 hq hs1 hat o1 => ?_
  (repeat (first | with_reducible refine run_seq ?_ | with_reducible refine run_reg ?_ | with_reducible refine run_block ?_ | with_reducible refine run_blk ?_ | with_reducible refine run_skip ?_ | with_reducible refine run_exit rfl ?_ | with_reducible refine run_drw ?_ | with_reducible refine run_condT ?_ | with_reducible refine run_ret' ?_ | with_reducible refine run_end' ?_ | simp only [go_sem, ↓reduceIte, Nat.reduceAdd, Nat.reduceEqDiff, Nat.reduceBEq, reduceCtorEq, Int.reduceBEq, Int.reduceBNe, Int.reduceLT, Int.reduceLE]))
  refine boxT fun z w2 hz hs2 hatz o2 => ?_
  have hat := hat.keep0 o2
  have t0 : Tab w2 none [] none := .inl ⟨rfl, rfl⟩
  have z0 : Tab w2 (some ⟨z, 0, none⟩) [z] none := .inr ⟨z, rfl, rfl, hatz⟩
  have u0 : RT w2 none [] none := ⟨rfl, rfl⟩
  have o2 := o1.same o2
  (repeat (first | with_reducible refine run_seq ?_ | with_reducible refine run_reg ?_ | with_reducible refine run_block ?_ | with_reducible refine run_blk ?_ | with_reducible refine run_skip ?_ | with_reducible refine run_exit rfl ?_ | with_reducible refine run_drw ?_ | with_reducible refine run_condT ?_ | with_reducible refine run_ret' ?_ | with_reducible refine run_end' ?_ | simp only [go_sem, ↓reduceIte, Nat.reduceAdd, Nat.reduceEqDiff, Nat.reduceBEq, reduceCtorEq, Int.reduceBEq, Int.reduceBNe, Int.reduceLT, Int.reduceLE, hat.cell]))
  refine callT (Merge_m t0 z0 A) ?_
  rintro r w3 ⟨c, X, rfl, hc, o3⟩
  have em : MT.merge none none A = none := rfl
  have er : errOf none = 1 := rfl
  rw [em] at hc ⊢
  rw [er]
  have o3' := o2.same o3
  have hat3 := hat.keep0 o3
  have ec : cellsAt w3 ⟨q, 0, none⟩ 4 = some [.int .i64 k, .int .i64 A, .int .i64 B, .int .i64 C] := by
    rw [cellsAt_at hat3 0 4 (by simp)]; rfl
  (repeat (first | with_reducible refine run_seq ?_ | with_reducible refine run_reg ?_ | with_reducible refine run_block ?_ | with_reducible refine run_blk ?_ | with_reducible refine run_skip ?_ | with_reducible refine run_exit rfl ?_ | with_reducible refine run_drw ?_ | with_reducible refine run_condT ?_ | with_reducible refine run_ret' ?_ | with_reducible refine run_end' ?_ | simp only [go_sem, ↓reduceIte, Nat.reduceAdd, Nat.reduceEqDiff, Nat.reduceBEq, reduceCtorEq, Int.reduceBEq, Int.reduceBNe, Int.reduceLT, Int.reduceLE, ec, hat3.cell]))
  refine callT (play (k, A, B, C) (t0.keep0 o3) (u0.keep0 o3) (fun _ h => by cases h)) ?_
  rintro r w4 ⟨rfl, t4, u4, o4⟩
  rw [MT.act_none] at t4 u4
  have o4 : Only [] w3 w4 := o4
  have z4 := (z0.keep0 o3).keep0 o4
  have hat4 := hat3.keep0 o4
  have o4' := o3'.same o4
  have ec : cellsAt w4 ⟨q, 0, none⟩ 4 = some [.int .i64 k, .int .i64 A, .int .i64 B, .int .i64 C] := by
    rw [cellsAt_at hat4 0 4 (by simp)]; rfl
  (repeat (first | with_reducible refine run_seq ?_ | with_reducible refine run_reg ?_ | with_reducible refine run_block ?_ | with_reducible refine run_blk ?_ | with_reducible refine run_skip ?_ | with_reducible refine run_exit rfl ?_ | with_reducible refine run_drw ?_ | with_reducible refine run_condT ?_ | with_reducible refine run_ret' ?_ | with_reducible refine run_end' ?_ | simp only [go_sem, ↓reduceIte, Nat.reduceAdd, Nat.reduceEqDiff, Nat.reduceBEq, reduceCtorEq, Int.reduceBEq, Int.reduceBNe, Int.reduceLT, Int.reduceLE, ec, hat4.cell]))
  refine callT (play (k, A, B, C) z4 u4 (fun _ _ h => by cases h)) ?_
  rintro r w5 ⟨rfl, z5, u5, o5⟩
  rw [MT.act_none] at z5 u5
  have o5 : Only [z] w4 w5 := o5
  have hzq : z ≠ q := by have := hat.lt; subst hz; intro e; subst e; have := hatz.lt; omega
  have hat5 := hat4.keep o5 (by simp; exact fun e => hzq e.symm)
  have t5 : Tab w5 none [] none := .inl ⟨rfl, rfl⟩
  have hzn : ∀ x, x ∈ [z] → w.heap.size ≤ x := fun x hx => by
    rcases List.mem_cons.1 hx with rfl | hx
    · have := o1.size; omega
    · cases hx
  have o5' := o4'.same5 o5 hzn
  (repeat (first | with_reducible refine run_seq ?_ | with_reducible refine run_reg ?_ | with_reducible refine run_block ?_ | with_reducible refine run_blk ?_ | with_reducible refine run_skip ?_ | with_reducible refine run_exit rfl ?_ | with_reducible refine run_drw ?_ | with_reducible refine run_condT ?_ | with_reducible refine run_ret' ?_ | with_reducible refine run_end' ?_ | simp only [go_sem, ↓reduceIte, Nat.reduceAdd, Nat.reduceEqDiff, Nat.reduceBEq, reduceCtorEq, Int.reduceBEq, Int.reduceBNe, Int.reduceLT, Int.reduceLE, hat5.cell]))
  refine callT1 (law_looks t5 u5 B) fun w6 o6 => ?_
  have z6 := z5.keep0 o6
  have u6 := u5.keep0 o6
  have hat6 := hat5.keep0 o6
  have o6' := o5'.same o6
  (repeat (first | with_reducible refine run_seq ?_ | with_reducible refine run_reg ?_ | with_reducible refine run_block ?_ | with_reducible refine run_blk ?_ | with_reducible refine run_skip ?_ | with_reducible refine run_exit rfl ?_ | with_reducible refine run_drw ?_ | with_reducible refine run_condT ?_ | with_reducible refine run_ret' ?_ | with_reducible refine run_end' ?_ | simp only [go_sem, ↓reduceIte, Nat.reduceAdd, Nat.reduceEqDiff, Nat.reduceBEq, reduceCtorEq, Int.reduceBEq, Int.reduceBNe, Int.reduceLT, Int.reduceLE, hat6.cell]))
  refine callT1 (law_looks z6 u6 B) fun w7 o7 => ?_
  have z7 := z6.keep0 o7
  have hat7 := hat6.keep0 o7
  have o7' := o6'.same o7
  have tn : ∀ w, Tab w none [] none := fun _ => .inl ⟨rfl, rfl⟩
  have eg : ∀ i, MT.get none i = -1 := fun _ => rfl
  have ee : ((MT.entries none : Nat) : Int) = 0 := rfl
  have ew : ((MT.width none : Nat) : Int) = 0 := rfl
  have es : MT.same none none = false := rfl
  (repeat (first | with_reducible refine run_seq ?_ | with_reducible refine run_reg ?_ | with_reducible refine run_block ?_ | with_reducible refine run_blk ?_ | with_reducible refine run_skip ?_ | with_reducible refine run_exit rfl ?_ | with_reducible refine run_drw ?_ | with_reducible refine run_condT ?_ | with_reducible refine run_ret' ?_ | with_reducible refine run_end' ?_ | simp only [go_sem, ↓reduceIte, Nat.reduceAdd, Nat.reduceEqDiff, Nat.reduceBEq, reduceCtorEq, Int.reduceBEq, Int.reduceBNe, Int.reduceLT, Int.reduceLE, hat7.cell]))
  refine callT1 (Get_m (tn w7) A) fun w8 o8 => ?_
  rw [eg]
  have z8 := z7.keep0 o8
  have hat8 := hat7.keep0 o8
  have o8' := o7'.same o8
  (repeat (first | with_reducible refine run_seq ?_ | with_reducible refine run_reg ?_ | with_reducible refine run_block ?_ | with_reducible refine run_blk ?_ | with_reducible refine run_skip ?_ | with_reducible refine run_exit rfl ?_ | with_reducible refine run_drw ?_ | with_reducible refine run_condT ?_ | with_reducible refine run_ret' ?_ | with_reducible refine run_end' ?_ | simp only [go_sem, ↓reduceIte, Nat.reduceAdd, Nat.reduceEqDiff, Nat.reduceBEq, reduceCtorEq, Int.reduceBEq, Int.reduceBNe, Int.reduceLT, Int.reduceLE, hat8.cell, beq_self_eq_true]))
  refine callT1 (Get_m z8 A) fun w9 o9 => ?_
  rw [eg]
  have z9 := z8.keep0 o9
  have o9' := o8'.same o9
  (repeat (first | with_reducible refine run_seq ?_ | with_reducible refine run_reg ?_ | with_reducible refine run_block ?_ | with_reducible refine run_blk ?_ | with_reducible refine run_skip ?_ | with_reducible refine run_exit rfl ?_ | with_reducible refine run_drw ?_ | with_reducible refine run_condT ?_ | with_reducible refine run_ret' ?_ | with_reducible refine run_end' ?_ | simp only [go_sem, ↓reduceIte, Nat.reduceAdd, Nat.reduceEqDiff, Nat.reduceBEq, reduceCtorEq, Int.reduceBEq, Int.reduceBNe, Int.reduceLT, Int.reduceLE, beq_self_eq_true]))
  refine callT1 (Entries_m (tn w9)) fun w10 o10 => ?_
  rw [ee]
  have z10 := z9.keep0 o10
  have o10' := o9'.same o10
  (repeat (first | with_reducible refine run_seq ?_ | with_reducible refine run_reg ?_ | with_reducible refine run_block ?_ | with_reducible refine run_blk ?_ | with_reducible refine run_skip ?_ | with_reducible refine run_exit rfl ?_ | with_reducible refine run_drw ?_ | with_reducible refine run_condT ?_ | with_reducible refine run_ret' ?_ | with_reducible refine run_end' ?_ | simp only [go_sem, ↓reduceIte, Nat.reduceAdd, Nat.reduceEqDiff, Nat.reduceBEq, reduceCtorEq, Int.reduceBEq, Int.reduceBNe, Int.reduceLT, Int.reduceLE, beq_self_eq_true]))
  refine callT1 (Entries_m z10) fun w11 o11 => ?_
  rw [ee]
  have z11 := z10.keep0 o11
  have o11' := o10'.same o11
  (repeat (first | with_reducible refine run_seq ?_ | with_reducible refine run_reg ?_ | with_reducible refine run_block ?_ | with_reducible refine run_blk ?_ | with_reducible refine run_skip ?_ | with_reducible refine run_exit rfl ?_ | with_reducible refine run_drw ?_ | with_reducible refine run_condT ?_ | with_reducible refine run_ret' ?_ | with_reducible refine run_end' ?_ | simp only [go_sem, ↓reduceIte, Nat.reduceAdd, Nat.reduceEqDiff, Nat.reduceBEq, reduceCtorEq, Int.reduceBEq, Int.reduceBNe, Int.reduceLT, Int.reduceLE, beq_self_eq_true]))
  refine callT1 (Width_m (tn w11)) fun w12 o12 => ?_
  rw [ew]
  have z12 := z11.keep0 o12
  have o12' := o11'.same o12
  (repeat (first | with_reducible refine run_seq ?_ | with_reducible refine run_reg ?_ | with_reducible refine run_block ?_ | with_reducible refine run_blk ?_ | with_reducible refine run_skip ?_ | with_reducible refine run_exit rfl ?_ | with_reducible refine run_drw ?_ | with_reducible refine run_condT ?_ | with_reducible refine run_ret' ?_ | with_reducible refine run_end' ?_ | simp only [go_sem, ↓reduceIte, Nat.reduceAdd, Nat.reduceEqDiff, Nat.reduceBEq, reduceCtorEq, Int.reduceBEq, Int.reduceBNe, Int.reduceLT, Int.reduceLE, beq_self_eq_true]))
  refine callT1 (Width_m z12) fun w13 o13 => ?_
  rw [ew]
  have z13 := z12.keep0 o13
  have o13' := o12'.same o13
  (repeat (first | with_reducible refine run_seq ?_ | with_reducible refine run_reg ?_ | with_reducible refine run_block ?_ | with_reducible refine run_blk ?_ | with_reducible refine run_skip ?_ | with_reducible refine run_exit rfl ?_ | with_reducible refine run_drw ?_ | with_reducible refine run_condT ?_ | with_reducible refine run_ret' ?_ | with_reducible refine run_end' ?_ | simp only [go_sem, ↓reduceIte, Nat.reduceAdd, Nat.reduceEqDiff, Nat.reduceBEq, reduceCtorEq, Int.reduceBEq, Int.reduceBNe, Int.reduceLT, Int.reduceLE, beq_self_eq_true]))
  refine callT (Clone_m (tn w13)) ?_
  rintro r w14 ⟨c1, X1, rfl, hc1, o14⟩
  have hn1 := newT_none hc1
  subst hn1
  have z14 := z13.keep0 o14
  have o14' := o13'.same o14
  (repeat (first | with_reducible refine run_seq ?_ | with_reducible refine run_reg ?_ | with_reducible refine run_block ?_ | with_reducible refine run_blk ?_ | with_reducible refine run_skip ?_ | with_reducible refine run_exit rfl ?_ | with_reducible refine run_drw ?_ | with_reducible refine run_condT ?_ | with_reducible refine run_ret' ?_ | with_reducible refine run_end' ?_ | simp only [go_sem, ↓reduceIte, Nat.reduceAdd, Nat.reduceEqDiff, Nat.reduceBEq, reduceCtorEq, Int.reduceBEq, Int.reduceBNe, Int.reduceLT, Int.reduceLE]))
  refine callT (Clone_m z14) ?_
  rintro r w15 ⟨c2, X2, rfl, hc2, o15⟩
  have hn2 := newT_none hc2
  subst hn2
  have z15 := z14.keep0 o15
  have o15' := o14'.same o15
  (repeat (first | with_reducible refine run_seq ?_ | with_reducible refine run_reg ?_ | with_reducible refine run_block ?_ | with_reducible refine run_blk ?_ | with_reducible refine run_skip ?_ | with_reducible refine run_exit rfl ?_ | with_reducible refine run_drw ?_ | with_reducible refine run_condT ?_ | with_reducible refine run_ret' ?_ | with_reducible refine run_end' ?_ | simp only [go_sem, ↓reduceIte, Nat.reduceAdd, Nat.reduceEqDiff, Nat.reduceBEq, reduceCtorEq, Int.reduceBEq, Int.reduceBNe, Int.reduceLT, Int.reduceLE]))
  refine callT1 (Same_m (tn w15) (tn w15)) fun w16 o16 => ?_
  rw [es]
  have z16 := z15.keep0 o16
  have o16' := o15'.same o16
  (repeat (first | with_reducible refine run_seq ?_ | with_reducible refine run_reg ?_ | with_reducible refine run_block ?_ | with_reducible refine run_blk ?_ | with_reducible refine run_skip ?_ | with_reducible refine run_exit rfl ?_ | with_reducible refine run_drw ?_ | with_reducible refine run_condT ?_ | with_reducible refine run_ret' ?_ | with_reducible refine run_end' ?_ | simp only [go_sem, ↓reduceIte, Nat.reduceAdd, Nat.reduceEqDiff, Nat.reduceBEq, reduceCtorEq, Int.reduceBEq, Int.reduceBNe, Int.reduceLT, Int.reduceLE]))
  refine callT1 (Same_m z16 z16) fun w17 o17 => ?_
  rw [es]
  have o17' := o16'.same o17
  (repeat (first | with_reducible refine run_seq ?_ | with_reducible refine run_reg ?_ | with_reducible refine run_block ?_ | with_reducible refine run_blk ?_ | with_reducible refine run_skip ?_ | with_reducible refine run_exit rfl ?_ | with_reducible refine run_drw ?_ | with_reducible refine run_condT ?_ | with_reducible refine run_ret' ?_ | with_reducible refine run_end' ?_ | simp only [go_sem, ↓reduceIte, Nat.reduceAdd, Nat.reduceEqDiff, Nat.reduceBEq, reduceCtorEq, Int.reduceBEq, Int.reduceBNe, Int.reduceLT, Int.reduceLE]))
  refine callT1 (law_alive _) fun w18 o18 => ?_
  (repeat (first | with_reducible refine run_seq ?_ | with_reducible refine run_reg ?_ | with_reducible refine run_block ?_ | with_reducible refine run_blk ?_ | with_reducible refine run_skip ?_ | with_reducible refine run_exit rfl ?_ | with_reducible refine run_drw ?_ | with_reducible refine run_condT ?_ | with_reducible refine run_ret' ?_ | with_reducible refine run_end' ?_ | simp only [go_sem, ↓reduceIte, Nat.reduceAdd, Nat.reduceEqDiff, Nat.reduceBEq, reduceCtorEq, Int.reduceBEq, Int.reduceBNe, Int.reduceLT, Int.reduceLE]))
  exact o17'.same o18
end Go.Proofs.Ythalhkhjacjhgaa
