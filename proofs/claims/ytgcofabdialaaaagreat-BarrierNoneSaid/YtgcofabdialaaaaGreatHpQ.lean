/- Barriers: the store of the example, and what is noted of it. -/
import Derived.Test.YtgcofabdialaaaaGreatHpO
namespace Go.Proofs.YtgcofabdialaaaaGreat
set_option linter.unusedSimpArgs false
set_option linter.unusedVariables false
set_option maxRecDepth 8000

theorem fillL_ag {cs vs : List Value} {off n : Nat} {r : List (Nat × Nat × Value)} (h1 : vs.length = n) (h2 : Nat.ble (off + n) cs.length = true) : fillL cs ((off, n, .agg ⟨vs⟩) :: r) = fillL (setL cs off vs) r := by
  have hc : (Value.agg ⟨vs⟩).cells.size = n ∧ off + n ≤ cs.length := ⟨by show (⟨vs⟩ : Array Value).size = n; simpa using h1, Nat.le_of_ble_eq_true h2⟩
  rw [fillL]
  exact if_pos hc
theorem hPut {w : World} {b : Nat} {m : IM} (h : MpAt w b m) (k : Int) : Cs Tryz.prog 73 [.map (some b), .int .i64 k] w fun v w' => v = .tuple #[] ∧ MpAt w' b (putM m k (.agg ⟨[]⟩)) ∧ Only [b] w w' := by
  refine enter_barrier_set_put rfl ?_
  unfold x_barrier_set_put
  (repeat (first | with_reducible refine run_seq ?_ | with_reducible refine run_reg ?_ | with_reducible refine run_block ?_ | with_reducible refine run_blk ?_ | with_reducible refine run_skip ?_ | with_reducible refine run_exit rfl ?_ | with_reducible refine run_drw ?_ | with_reducible refine run_condT ?_ | with_reducible refine run_ret' ?_ | with_reducible refine run_end' ?_ | simp only [go_sem, ↓reduceIte, Nat.reduceAdd, Nat.reduceEqDiff, Nat.reduceBEq, reduceCtorEq, Int.reduceBEq, Int.reduceBNe, Int.reduceLT, Int.reduceLE]))
  refine mputT Tryz.underlying75 Tryz.underlying3 h fun w1 hs1 hm1 ho1 => ?_
  (repeat (first | with_reducible refine run_seq ?_ | with_reducible refine run_reg ?_ | with_reducible refine run_block ?_ | with_reducible refine run_blk ?_ | with_reducible refine run_skip ?_ | with_reducible refine run_exit rfl ?_ | with_reducible refine run_drw ?_ | with_reducible refine run_condT ?_ | with_reducible refine run_ret' ?_ | with_reducible refine run_end' ?_ | simp only [go_sem, ↓reduceIte, Nat.reduceAdd, Nat.reduceEqDiff, Nat.reduceBEq, reduceCtorEq, Int.reduceBEq, Int.reduceBNe, Int.reduceLT, Int.reduceLE]))
  exact ⟨hm1, ho1⟩
theorem bShade0 {w : World} {b : Nat} : Cs Tryz.prog 80 [.pointer (some ⟨b, 0, none⟩), .int .i64 0] w fun v w' => v = .tuple #[] ∧ w' = w := by
  refine enter_barrier_Barrier_shade rfl ?_
  unfold x_barrier_Barrier_shade
  (repeat (first | with_reducible refine run_seq ?_ | with_reducible refine run_reg ?_ | with_reducible refine run_block ?_ | with_reducible refine run_blk ?_ | with_reducible refine run_skip ?_ | with_reducible refine run_exit rfl ?_ | with_reducible refine run_drw ?_ | with_reducible refine run_condT ?_ | with_reducible refine run_ret' ?_ | with_reducible refine run_end' ?_ | simp only [go_sem, ↓reduceIte, Nat.reduceAdd, Nat.reduceEqDiff, Nat.reduceBEq, reduceCtorEq, Int.reduceBEq, Int.reduceBNe, Int.reduceLT, Int.reduceLE, bne_int_false (rfl : (0 : Int) = 0)]))
theorem bShadeN {w : World} {b : Nat} {c0 c1 c2 c3 c4 vl : Value} (hb : At w b [c0, c1, c2, c3, c4, .slice none 0 0, vl]) (x : Int) (hx : x ≠ 0) : Cs Tryz.prog 80 [.pointer (some ⟨b, 0, none⟩), .int .i64 x] w fun v w' => v = .tuple #[] ∧ ∃ vs fs, At w' b [c0, c1, c2, c3, c4, vs, vl] ∧ Sl w' 1 vs 1 (ints [x]) fs ∧ (∀ y, y ∈ fs → w.heap.size ≤ y) ∧ Only [b] w w' := by
  refine enter_barrier_Barrier_shade rfl ?_
  unfold x_barrier_Barrier_shade
  (repeat (first | with_reducible refine run_seq ?_ | with_reducible refine run_reg ?_ | with_reducible refine run_block ?_ | with_reducible refine run_blk ?_ | with_reducible refine run_skip ?_ | with_reducible refine run_exit rfl ?_ | with_reducible refine run_drw ?_ | with_reducible refine run_condT ?_ | with_reducible refine run_ret' ?_ | with_reducible refine run_end' ?_ | simp only [go_sem, ↓reduceIte, Nat.reduceAdd, Nat.reduceEqDiff, Nat.reduceBEq, reduceCtorEq, Int.reduceBEq, Int.reduceBNe, Int.reduceLT, Int.reduceLE, bne_int_true hx, hb.cell]))
  refine callT0 (Contains_m (RdB.nil w 0 none) (by simp) x) ?_
  have e1 : ([] : List Int).contains x = false := rfl
  (repeat (first | with_reducible refine run_seq ?_ | with_reducible refine run_reg ?_ | with_reducible refine run_block ?_ | with_reducible refine run_blk ?_ | with_reducible refine run_skip ?_ | with_reducible refine run_exit rfl ?_ | with_reducible refine run_drw ?_ | with_reducible refine run_condT ?_ | with_reducible refine run_ret' ?_ | with_reducible refine run_end' ?_ | simp only [go_sem, ↓reduceIte, Nat.reduceAdd, Nat.reduceEqDiff, Nat.reduceBEq, reduceCtorEq, Int.reduceBEq, Int.reduceBNe, Int.reduceLT, Int.reduceLE, e1, hb.cell]))
  rw [fillL_one rfl rfl]
  (repeat (first | with_reducible refine run_seq ?_ | with_reducible refine run_reg ?_ | with_reducible refine run_block ?_ | with_reducible refine run_blk ?_ | with_reducible refine run_skip ?_ | with_reducible refine run_exit rfl ?_ | with_reducible refine run_drw ?_ | with_reducible refine run_condT ?_ | with_reducible refine run_ret' ?_ | with_reducible refine run_end' ?_ | simp only [go_sem, ↓reduceIte, Nat.reduceAdd, Nat.reduceEqDiff, Nat.reduceBEq, reduceCtorEq, Int.reduceBEq, Int.reduceBNe, Int.reduceLT, Int.reduceLE]))
  refine bslT fun q w1 hq hs1 hat1 ho1 => ?_
  (repeat (first | with_reducible refine run_seq ?_ | with_reducible refine run_reg ?_ | with_reducible refine run_block ?_ | with_reducible refine run_blk ?_ | with_reducible refine run_skip ?_ | with_reducible refine run_exit rfl ?_ | with_reducible refine run_drw ?_ | with_reducible refine run_condT ?_ | with_reducible refine run_ret' ?_ | with_reducible refine run_end' ?_ | simp only [go_sem, ↓reduceIte, Nat.reduceAdd, Nat.reduceEqDiff, Nat.reduceBEq, reduceCtorEq, Int.reduceBEq, Int.reduceBNe, Int.reduceLT, Int.reduceLE]))
  refine appT (Sl.nil1 w1) (SrcIs.at hat1 rfl) (by simp [oneC]) (by omega) (by omega) ?_
  intro v2 w2 f2 hs2 hf2 ho2 _
  have hb2 := (hb.keep0 ho1).keep ho2 (by simp)
  (repeat (first | with_reducible refine run_seq ?_ | with_reducible refine run_reg ?_ | with_reducible refine run_block ?_ | with_reducible refine run_blk ?_ | with_reducible refine run_skip ?_ | with_reducible refine run_exit rfl ?_ | with_reducible refine run_drw ?_ | with_reducible refine run_condT ?_ | with_reducible refine run_ret' ?_ | with_reducible refine run_end' ?_ | simp only [go_sem, ↓reduceIte, Nat.reduceAdd, Nat.reduceEqDiff, Nat.reduceBEq, reduceCtorEq, Int.reduceBEq, Int.reduceBNe, Int.reduceLT, Int.reduceLE]))
  refine stT hb2 (by simp) hs2.oneC' fun w3 hs3 hb3 ho3 => ?_
  simp only [List.set_cons_zero, List.set_cons_succ] at hb3
  (repeat (first | with_reducible refine run_seq ?_ | with_reducible refine run_reg ?_ | with_reducible refine run_block ?_ | with_reducible refine run_blk ?_ | with_reducible refine run_skip ?_ | with_reducible refine run_exit rfl ?_ | with_reducible refine run_drw ?_ | with_reducible refine run_condT ?_ | with_reducible refine run_ret' ?_ | with_reducible refine run_end' ?_ | simp only [go_sem, ↓reduceIte, Nat.reduceAdd, Nat.reduceEqDiff, Nat.reduceBEq, reduceCtorEq, Int.reduceBEq, Int.reduceBNe, Int.reduceLT, Int.reduceLE]))
  have hlt := hb.lt
  have hfs : ∀ y, y ∈ f2 → w.heap.size ≤ y := by
    intro y hy
    rcases hf2 with rfl | rfl
    · cases hy
    · simp only [List.mem_singleton] at hy; omega
  exact ⟨v2, f2, hb3, hs2.keep ho3 (fun y hy => off1 (by have := hfs y hy; omega)), hfs, ((ho1.nil ho2).of_nil (T := [b])).same ho3⟩
theorem bImage0 {w : World} {b : Nat} {c0 c1 c2 c3 c4 c5 : Value} (hb : At w b [c0, c1, c2, c3, c4, c5, .slice none 0 0]) (x : Int) : Cs Tryz.prog 85 [.pointer (some ⟨b, 0, none⟩), .int .i64 x] w fun v w' => v = .int .i64 (-1) ∧ Only [] w w' := by
  refine enter_barrier_Barrier_image rfl ?_
  unfold x_barrier_Barrier_image
  (repeat (first | with_reducible refine run_seq ?_ | with_reducible refine run_reg ?_ | with_reducible refine run_block ?_ | with_reducible refine run_blk ?_ | with_reducible refine run_skip ?_ | with_reducible refine run_exit rfl ?_ | with_reducible refine run_drw ?_ | with_reducible refine run_condT ?_ | with_reducible refine run_ret' ?_ | with_reducible refine run_end' ?_ | simp only [go_sem, ↓reduceIte, Nat.reduceAdd, Nat.reduceEqDiff, Nat.reduceBEq, reduceCtorEq, Int.reduceBEq, Int.reduceBNe, Int.reduceLT, Int.reduceLE]))
  refine boxT fun q w1 hq hs1 hat1 ho1 => ?_
  (repeat (first | with_reducible refine run_seq ?_ | with_reducible refine run_reg ?_ | with_reducible refine run_block ?_ | with_reducible refine run_blk ?_ | with_reducible refine run_skip ?_ | with_reducible refine run_exit rfl ?_ | with_reducible refine run_drw ?_ | with_reducible refine run_condT ?_ | with_reducible refine run_ret' ?_ | with_reducible refine run_end' ?_ | simp only [go_sem, ↓reduceIte, Nat.reduceAdd, Nat.reduceEqDiff, Nat.reduceBEq, reduceCtorEq, Int.reduceBEq, Int.reduceBNe, Int.reduceLT, Int.reduceLE, (hb.keep0 ho1).cell]))
  refine callT0 (a := .int .i64 (-1)) ?_ ?_
  · refine enter_slices_IndexFunc___api_Image_api_Image_ rfl ?_
    unfold x_slices_IndexFunc___api_Image_api_Image_
    (repeat (first | with_reducible refine run_seq ?_ | with_reducible refine run_reg ?_ | with_reducible refine run_block ?_ | with_reducible refine run_blk ?_ | with_reducible refine run_skip ?_ | with_reducible refine run_exit rfl ?_ | with_reducible refine run_drw ?_ | with_reducible refine run_condT ?_ | with_reducible refine run_ret' ?_ | with_reducible refine run_end' ?_ | simp only [go_sem, ↓reduceIte, Nat.reduceAdd, Nat.reduceEqDiff, Nat.reduceBEq, reduceCtorEq, Int.reduceBEq, Int.reduceBNe, Int.reduceLT, Int.reduceLE]))
    refine run_loop (5 :: 8 :: 9 :: 10 :: 11 :: 12 :: 13 :: 14 :: 15 :: 16 :: 17 :: 18 :: []) (fun g w' => g 8 = .int .i64 0 ∧ w' = w1) (fun _ _ => 0) ⟨by simp only [go_sem, ↓reduceIte, Nat.reduceAdd, Nat.reduceEqDiff, Nat.reduceBEq, reduceCtorEq, Int.reduceBEq, Int.reduceBNe, Int.reduceLT, Int.reduceLE], rfl⟩ fun g w' hI _ => ?_
    obtain ⟨h8, rfl⟩ := hI
    have e1 : decide ((0 : Int) < ((0 : Nat) : Int)) = false := rfl
    (repeat (first | with_reducible refine run_seq ?_ | with_reducible refine run_reg ?_ | with_reducible refine run_block ?_ | with_reducible refine run_blk ?_ | with_reducible refine run_skip ?_ | with_reducible refine run_exit rfl ?_ | with_reducible refine run_drw ?_ | with_reducible refine run_condT ?_ | with_reducible refine run_ret' ?_ | with_reducible refine run_end' ?_ | simp only [go_sem, ↓reduceIte, Nat.reduceAdd, Nat.reduceEqDiff, Nat.reduceBEq, reduceCtorEq, Int.reduceBEq, Int.reduceBNe, Int.reduceLT, Int.reduceLE, h8, e1]))
  · (repeat (first | with_reducible refine run_seq ?_ | with_reducible refine run_reg ?_ | with_reducible refine run_block ?_ | with_reducible refine run_blk ?_ | with_reducible refine run_skip ?_ | with_reducible refine run_exit rfl ?_ | with_reducible refine run_drw ?_ | with_reducible refine run_condT ?_ | with_reducible refine run_ret' ?_ | with_reducible refine run_end' ?_ | simp only [go_sem, ↓reduceIte, Nat.reduceAdd, Nat.reduceEqDiff, Nat.reduceBEq, reduceCtorEq, Int.reduceBEq, Int.reduceBNe, Int.reduceLT, Int.reduceLE]))
    exact ho1
theorem bNote0 {w : World} {b bd bo gr cr : Nat} {hp : Addr} {fp : List Nat} {m : HO} {yr : List Value} (h : HR w (some hp) fp m) (hb : At w b [.pointer (some hp), .int .i64 63, .int .i64 1, .map (some bd), .map (some bo), .slice none 0 0, .slice none 0 0])
    (hd : MpAt w bd []) (ho : MpAt w bo []) (hr : At w gr (ints [0, 0] ++ yr)) (y1 : youngO m 1 64 = false) (y2 : youngO m 1 128 = true) (n1 : b ≠ bd) (n2 : b ≠ bo) (n3 : bd ≠ bo) (hfp : b ∉ fp ∧ bd ∉ fp ∧ bo ∉ fp) (hfr : gr ≠ b ∧ gr ≠ bd ∧ gr ≠ bo) :
    Cs Tryz.prog 71 [.pointer (some ⟨b, 0, none⟩), .int .i64 64, .int .i64 0, .slice (some ⟨gr, 0, none⟩) 2 cr, .int .i64 128] w fun v w' => v = .tuple #[] ∧ ∃ vs fs vl fl, At w' b [.pointer (some hp), .int .i64 63, .int .i64 1, .map (some bd), .map (some bo), vs, vl] ∧
      Sl w' 1 vs 1 (ints [128]) fs ∧ Sl w' 2 vl 1 [.int .i64 64, .slice (some ⟨gr, 0, none⟩) 2 cr] fl ∧ MpAt w' bd [(8, .agg ⟨[]⟩)] ∧ MpAt w' bo [(64, .agg ⟨[]⟩)] ∧ Only [b, bd, bo] w w' := by
  have k32 : (bitI .and .i64 63 32 != 0) = true := by decide
  have k8 : (bitI .and .i64 63 8 != 0) = true := by decide
  have k1 : (bitI .and .i64 63 1 != 0) = true := by decide
  have k2 : (bitI .and .i64 63 2 != 0) = true := by decide
  have k4 : (bitI .and .i64 63 4 != 0) = true := by decide
  have hlb := hb.lt
  have hld := hd.lt
  have hlo := ho.lt
  have hlr := hr.lt
  refine enter_barrier_Barrier_note rfl ?_
  unfold x_barrier_Barrier_note
  (repeat (first | with_reducible refine run_seq ?_ | with_reducible refine run_reg ?_ | with_reducible refine run_block ?_ | with_reducible refine run_blk ?_ | with_reducible refine run_skip ?_ | with_reducible refine run_exit rfl ?_ | with_reducible refine run_drw ?_ | with_reducible refine run_condT ?_ | with_reducible refine run_ret' ?_ | with_reducible refine run_end' ?_ | simp only [go_sem, ↓reduceIte, Nat.reduceAdd, Nat.reduceEqDiff, Nat.reduceBEq, reduceCtorEq, Int.reduceBEq, Int.reduceBNe, Int.reduceLT, Int.reduceLE]))
  refine callT0 (bIs hb) ?_
  (repeat (first | with_reducible refine run_seq ?_ | with_reducible refine run_reg ?_ | with_reducible refine run_block ?_ | with_reducible refine run_blk ?_ | with_reducible refine run_skip ?_ | with_reducible refine run_exit rfl ?_ | with_reducible refine run_drw ?_ | with_reducible refine run_condT ?_ | with_reducible refine run_ret' ?_ | with_reducible refine run_end' ?_ | simp only [go_sem, ↓reduceIte, Nat.reduceAdd, Nat.reduceEqDiff, Nat.reduceBEq, reduceCtorEq, Int.reduceBEq, Int.reduceBNe, Int.reduceLT, Int.reduceLE, k32]))
  refine callT1 (bImage0 hb 64) fun w1 ho1 => ?_
  have hb1 := hb.keep0 ho1
  have hz1 := ho1.size
  (repeat (first | with_reducible refine run_seq ?_ | with_reducible refine run_reg ?_ | with_reducible refine run_block ?_ | with_reducible refine run_blk ?_ | with_reducible refine run_skip ?_ | with_reducible refine run_exit rfl ?_ | with_reducible refine run_drw ?_ | with_reducible refine run_condT ?_ | with_reducible refine run_ret' ?_ | with_reducible refine run_end' ?_ | simp only [go_sem, ↓reduceIte, Nat.reduceAdd, Nat.reduceEqDiff, Nat.reduceBEq, reduceCtorEq, Int.reduceBEq, Int.reduceBNe, Int.reduceLT, Int.reduceLE, hb1.cell]))
  rw [fillL_one rfl rfl, fillL_one rfl rfl]
  (repeat (first | with_reducible refine run_seq ?_ | with_reducible refine run_reg ?_ | with_reducible refine run_block ?_ | with_reducible refine run_blk ?_ | with_reducible refine run_skip ?_ | with_reducible refine run_exit rfl ?_ | with_reducible refine run_drw ?_ | with_reducible refine run_condT ?_ | with_reducible refine run_ret' ?_ | with_reducible refine run_end' ?_ | simp only [go_sem, ↓reduceIte, Nat.reduceAdd, Nat.reduceEqDiff, Nat.reduceBEq, reduceCtorEq, Int.reduceBEq, Int.reduceBNe, Int.reduceLT, Int.reduceLE]))
  rw [fillL_ag (n := 2) rfl rfl]
  (repeat (first | with_reducible refine run_seq ?_ | with_reducible refine run_reg ?_ | with_reducible refine run_block ?_ | with_reducible refine run_blk ?_ | with_reducible refine run_skip ?_ | with_reducible refine run_exit rfl ?_ | with_reducible refine run_drw ?_ | with_reducible refine run_condT ?_ | with_reducible refine run_ret' ?_ | with_reducible refine run_end' ?_ | simp only [go_sem, ↓reduceIte, Nat.reduceAdd, Nat.reduceEqDiff, Nat.reduceBEq, reduceCtorEq, Int.reduceBEq, Int.reduceBNe, Int.reduceLT, Int.reduceLE]))
  refine bslT fun q2 w2 hq2 hs2 hat2 ho2 => ?_
  (repeat (first | with_reducible refine run_seq ?_ | with_reducible refine run_reg ?_ | with_reducible refine run_block ?_ | with_reducible refine run_blk ?_ | with_reducible refine run_skip ?_ | with_reducible refine run_exit rfl ?_ | with_reducible refine run_drw ?_ | with_reducible refine run_condT ?_ | with_reducible refine run_ret' ?_ | with_reducible refine run_end' ?_ | simp only [go_sem, ↓reduceIte, Nat.reduceAdd, Nat.reduceEqDiff, Nat.reduceBEq, reduceCtorEq, Int.reduceBEq, Int.reduceBNe, Int.reduceLT, Int.reduceLE]))
  refine appT (sz := 2) (n := 0) (m := 1) (xs := []) (us := [.int .i64 64, .slice (some ⟨gr, 0, none⟩) 2 cr]) (fp := []) ⟨rfl, .inl ⟨rfl, rfl, rfl⟩⟩ (SrcIs.at (us := [.int .i64 64, .slice (some ⟨gr, 0, none⟩) 2 cr]) hat2 rfl) (by simp [oneC]) (by omega) (by omega) ?_
  intro vl w3 fl hs3 hf3 ho3 _
  have o3 : Only [] w w3 := (ho1.nil ho2).nil ho3
  have hb3 := hb.keep0 o3
  (repeat (first | with_reducible refine run_seq ?_ | with_reducible refine run_reg ?_ | with_reducible refine run_block ?_ | with_reducible refine run_blk ?_ | with_reducible refine run_skip ?_ | with_reducible refine run_exit rfl ?_ | with_reducible refine run_drw ?_ | with_reducible refine run_condT ?_ | with_reducible refine run_ret' ?_ | with_reducible refine run_end' ?_ | simp only [go_sem, ↓reduceIte, Nat.reduceAdd, Nat.reduceEqDiff, Nat.reduceBEq, reduceCtorEq, Int.reduceBEq, Int.reduceBNe, Int.reduceLT, Int.reduceLE]))
  refine stT hb3 (by simp) hs3.oneC' fun w4 hs4 hb4 ho4 => ?_
  simp only [List.set_cons_zero, List.set_cons_succ] at hb4
  have hfl : ∀ y, y ∈ fl → w.heap.size ≤ y := by
    intro y hy
    rcases hf3 with rfl | rfl
    · cases hy
    · simp only [List.mem_singleton] at hy; omega
  have hl4 := hs3.keep ho4 (fun y hy => off1 (by have := hfl y hy; omega))
  have o4 : Only [b] w w4 := (o3.of_nil (T := [b])).same ho4
  have hr4 := hr.keep o4 (off1 hfr.1)
  have e0 : (0 : Int) < ((2 : Nat) : Int) := by decide
  (repeat (first | with_reducible refine run_seq ?_ | with_reducible refine run_reg ?_ | with_reducible refine run_block ?_ | with_reducible refine run_blk ?_ | with_reducible refine run_skip ?_ | with_reducible refine run_exit rfl ?_ | with_reducible refine run_drw ?_ | with_reducible refine run_condT ?_ | with_reducible refine run_ret' ?_ | with_reducible refine run_end' ?_ | simp only [go_sem, ↓reduceIte, Nat.reduceAdd, Nat.reduceEqDiff, Nat.reduceBEq, reduceCtorEq, Int.reduceBEq, Int.reduceBNe, Int.reduceLT, Int.reduceLE]))
  refine callT0 (bIs hb4) ?_
  have hrc : w4.cell? ⟨gr, 0, none⟩ = some (.int .i64 0) := by rw [hr4.cell]; rfl
  (repeat (first | with_reducible refine run_seq ?_ | with_reducible refine run_reg ?_ | with_reducible refine run_block ?_ | with_reducible refine run_blk ?_ | with_reducible refine run_skip ?_ | with_reducible refine run_exit rfl ?_ | with_reducible refine run_drw ?_ | with_reducible refine run_condT ?_ | with_reducible refine run_ret' ?_ | with_reducible refine run_end' ?_ | simp only [go_sem, ↓reduceIte, Nat.reduceAdd, Nat.reduceEqDiff, Nat.reduceBEq, reduceCtorEq, Int.reduceBEq, Int.reduceBNe, Int.reduceLT, Int.reduceLE, k8, if_pos e0, show Int.toNat 0 = 0 from rfl, Nat.zero_mul, hrc]))
  refine callT0 bShade0 ?_
  (repeat (first | with_reducible refine run_seq ?_ | with_reducible refine run_reg ?_ | with_reducible refine run_block ?_ | with_reducible refine run_blk ?_ | with_reducible refine run_skip ?_ | with_reducible refine run_exit rfl ?_ | with_reducible refine run_drw ?_ | with_reducible refine run_condT ?_ | with_reducible refine run_ret' ?_ | with_reducible refine run_end' ?_ | simp only [go_sem, ↓reduceIte, Nat.reduceAdd, Nat.reduceEqDiff, Nat.reduceBEq, reduceCtorEq, Int.reduceBEq, Int.reduceBNe, Int.reduceLT, Int.reduceLE]))
  refine callT0 (bIs hb4) ?_
  have z1 : IntKind.i64.wrap (64 + 2) = 66 := by decide
  have z2 : IntKind.i64.wrap (66 + 0) = 66 := by decide
  have z3 : IntKind.i64.wrap (Int.tdiv 66 8) = 8 := by decide
  (repeat (first | with_reducible refine run_seq ?_ | with_reducible refine run_reg ?_ | with_reducible refine run_block ?_ | with_reducible refine run_blk ?_ | with_reducible refine run_skip ?_ | with_reducible refine run_exit rfl ?_ | with_reducible refine run_drw ?_ | with_reducible refine run_condT ?_ | with_reducible refine run_ret' ?_ | with_reducible refine run_end' ?_ | simp only [go_sem, ↓reduceIte, Nat.reduceAdd, Nat.reduceEqDiff, Nat.reduceBEq, reduceCtorEq, Int.reduceBEq, Int.reduceBNe, Int.reduceLT, Int.reduceLE, k1, hb4.cell, z1, z2, z3]))
  refine callT (hPut (hd.keep o4 (off1 n1.symm)) 8) ?_
  rintro r w5 ⟨rfl, hd5, ho5⟩
  have hb5 := hb4.keep ho5 (off1 n1)
  have o5 : Only [b, bd] w w5 := (o4.sub (by simp)).same (ho5.sub (by simp))
  have h5 := h.keep o5 (fun y hy => by simp only [List.mem_cons, List.not_mem_nil, or_false]; rintro (rfl | rfl); exact hfp.1 hy; exact hfp.2.1 hy)
  (repeat (first | with_reducible refine run_seq ?_ | with_reducible refine run_reg ?_ | with_reducible refine run_block ?_ | with_reducible refine run_blk ?_ | with_reducible refine run_skip ?_ | with_reducible refine run_exit rfl ?_ | with_reducible refine run_drw ?_ | with_reducible refine run_condT ?_ | with_reducible refine run_ret' ?_ | with_reducible refine run_end' ?_ | simp only [go_sem, ↓reduceIte, Nat.reduceAdd, Nat.reduceEqDiff, Nat.reduceBEq, reduceCtorEq, Int.reduceBEq, Int.reduceBNe, Int.reduceLT, Int.reduceLE]))
  refine callT0 (bIs hb5) ?_
  (repeat (first | with_reducible refine run_seq ?_ | with_reducible refine run_reg ?_ | with_reducible refine run_block ?_ | with_reducible refine run_blk ?_ | with_reducible refine run_skip ?_ | with_reducible refine run_exit rfl ?_ | with_reducible refine run_drw ?_ | with_reducible refine run_condT ?_ | with_reducible refine run_ret' ?_ | with_reducible refine run_end' ?_ | simp only [go_sem, ↓reduceIte, Nat.reduceAdd, Nat.reduceEqDiff, Nat.reduceBEq, reduceCtorEq, Int.reduceBEq, Int.reduceBNe, Int.reduceLT, Int.reduceLE, k2]))
  refine callT1 (bYoung h5 hb5 64 (by omega) (by omega)) fun w6 ho6 => ?_
  (repeat (first | with_reducible refine run_seq ?_ | with_reducible refine run_reg ?_ | with_reducible refine run_block ?_ | with_reducible refine run_blk ?_ | with_reducible refine run_skip ?_ | with_reducible refine run_exit rfl ?_ | with_reducible refine run_drw ?_ | with_reducible refine run_condT ?_ | with_reducible refine run_ret' ?_ | with_reducible refine run_end' ?_ | simp only [go_sem, ↓reduceIte, Nat.reduceAdd, Nat.reduceEqDiff, Nat.reduceBEq, reduceCtorEq, Int.reduceBEq, Int.reduceBNe, Int.reduceLT, Int.reduceLE, y1]))
  refine callT1 (bYoung (h5.keep0 ho6) (hb5.keep0 ho6) 128 (by omega) (by omega)) fun w7 ho7 => ?_
  have o67 := ho6.nil ho7
  have hb7 := hb5.keep0 o67
  (repeat (first | with_reducible refine run_seq ?_ | with_reducible refine run_reg ?_ | with_reducible refine run_block ?_ | with_reducible refine run_blk ?_ | with_reducible refine run_skip ?_ | with_reducible refine run_exit rfl ?_ | with_reducible refine run_drw ?_ | with_reducible refine run_condT ?_ | with_reducible refine run_ret' ?_ | with_reducible refine run_end' ?_ | simp only [go_sem, ↓reduceIte, Nat.reduceAdd, Nat.reduceEqDiff, Nat.reduceBEq, reduceCtorEq, Int.reduceBEq, Int.reduceBNe, Int.reduceLT, Int.reduceLE, y2, hb7.cell]))
  refine callT (hPut ((ho.keep o5 (by simp; omega)).keep0 o67) 64) ?_
  rintro r w8 ⟨rfl, ho8m, ho8⟩
  have hb8 := hb7.keep ho8 (off1 n2)
  (repeat (first | with_reducible refine run_seq ?_ | with_reducible refine run_reg ?_ | with_reducible refine run_block ?_ | with_reducible refine run_blk ?_ | with_reducible refine run_skip ?_ | with_reducible refine run_exit rfl ?_ | with_reducible refine run_drw ?_ | with_reducible refine run_condT ?_ | with_reducible refine run_ret' ?_ | with_reducible refine run_end' ?_ | simp only [go_sem, ↓reduceIte, Nat.reduceAdd, Nat.reduceEqDiff, Nat.reduceBEq, reduceCtorEq, Int.reduceBEq, Int.reduceBNe, Int.reduceLT, Int.reduceLE]))
  refine callT0 (bIs hb8) ?_
  (repeat (first | with_reducible refine run_seq ?_ | with_reducible refine run_reg ?_ | with_reducible refine run_block ?_ | with_reducible refine run_blk ?_ | with_reducible refine run_skip ?_ | with_reducible refine run_exit rfl ?_ | with_reducible refine run_drw ?_ | with_reducible refine run_condT ?_ | with_reducible refine run_ret' ?_ | with_reducible refine run_end' ?_ | simp only [go_sem, ↓reduceIte, Nat.reduceAdd, Nat.reduceEqDiff, Nat.reduceBEq, reduceCtorEq, Int.reduceBEq, Int.reduceBNe, Int.reduceLT, Int.reduceLE, k4]))
  refine callT (bShadeN hb8 128 (by omega)) ?_
  rintro r w9 ⟨rfl, vs, fs, hb9, hs9, hfs, ho9⟩
  have o8 : Only [b, bd, bo] w w8 := ((o5.sub (fun x hx => by simp only [List.mem_cons, List.not_mem_nil, or_false] at hx ⊢; omega)).nil o67).same (ho8.sub (by simp))
  have o9 : Only [b, bd, bo] w w9 := o8.same (ho9.sub (by simp))
  (repeat (first | with_reducible refine run_seq ?_ | with_reducible refine run_reg ?_ | with_reducible refine run_block ?_ | with_reducible refine run_blk ?_ | with_reducible refine run_skip ?_ | with_reducible refine run_exit rfl ?_ | with_reducible refine run_drw ?_ | with_reducible refine run_condT ?_ | with_reducible refine run_ret' ?_ | with_reducible refine run_end' ?_ | simp only [go_sem, ↓reduceIte, Nat.reduceAdd, Nat.reduceEqDiff, Nat.reduceBEq, reduceCtorEq, Int.reduceBEq, Int.reduceBNe, Int.reduceLT, Int.reduceLE]))
  refine ⟨vs, fs, vl, fl, hb9, hs9, ?_, ?_, ?_, o9⟩
  · have hlt4 := hl4.lt
    have o49 : Only [b, bd, bo] w4 w9 := (((ho5.sub (T := [b, bd, bo]) (by simp)).nil o67).same (ho8.sub (by simp))).same (ho9.sub (by simp))
    exact hl4.keep o49 fun y hy => by have := hfl y hy; simp only [List.mem_cons, List.not_mem_nil, or_false]; omega
  · exact ((hd5.keep0 o67).keep ho8 (off1 n3)).keep ho9 (off1 n1.symm)
  · exact ho8m.keep ho9 (off1 n2.symm)
end Go.Proofs.YtgcofabdialaaaaGreat
