/- Barriers: what a barrier tells; the example (awake). -/
import Derived.Test.YtgcofabdialaaaaGreatHpQ
namespace Go.Proofs.YtgcofabdialaaaaGreat
set_option linter.unusedSimpArgs false
set_option linter.unusedVariables false
set_option maxRecDepth 8000

theorem bDirty {w : World} {b bd : Nat} {p : Addr} {c1 c2 : Value} {cs : List Value} {m : IM} (hb : At w b (.pointer (some p) :: c1 :: c2 :: .map (some bd) :: cs)) (hm : MpAt w bd m) (hl : m.length ≤ 100000) : Cs Tryz.prog 12 [.pointer (some ⟨b, 0, none⟩)] w fun v w' => Only [] w w' ∧ ∃ xs fp, Sl w' 1 v xs.length (ints (sortI xs)) fp ∧ (∀ x, x ∈ fp → w.heap.size ≤ x) ∧ xs.Perm m.keys := by
  refine enter_barrier_Barrier_Dirty rfl ?_
  unfold x_barrier_Barrier_Dirty
  (repeat (first | with_reducible refine run_seq ?_ | with_reducible refine run_reg ?_ | with_reducible refine run_block ?_ | with_reducible refine run_blk ?_ | with_reducible refine run_skip ?_ | with_reducible refine run_exit rfl ?_ | with_reducible refine run_drw ?_ | with_reducible refine run_condT ?_ | with_reducible refine run_ret' ?_ | with_reducible refine run_end' ?_ | simp only [go_sem, ↓reduceIte, Nat.reduceAdd, Nat.reduceEqDiff, Nat.reduceBEq, reduceCtorEq, Int.reduceBEq, Int.reduceBNe, Int.reduceLT, Int.reduceLE]))
  refine callT0 (bMadeS hb) ?_
  (repeat (first | with_reducible refine run_seq ?_ | with_reducible refine run_reg ?_ | with_reducible refine run_block ?_ | with_reducible refine run_blk ?_ | with_reducible refine run_skip ?_ | with_reducible refine run_exit rfl ?_ | with_reducible refine run_drw ?_ | with_reducible refine run_condT ?_ | with_reducible refine run_ret' ?_ | with_reducible refine run_end' ?_ | simp only [go_sem, ↓reduceIte, Nat.reduceAdd, Nat.reduceEqDiff, Nat.reduceBEq, reduceCtorEq, Int.reduceBEq, Int.reduceBNe, Int.reduceLT, Int.reduceLE, hb.cell]))
  refine callT (hRising hm hl) ?_
  rintro v w' ⟨ho, h⟩
  (repeat (first | with_reducible refine run_seq ?_ | with_reducible refine run_reg ?_ | with_reducible refine run_block ?_ | with_reducible refine run_blk ?_ | with_reducible refine run_skip ?_ | with_reducible refine run_exit rfl ?_ | with_reducible refine run_drw ?_ | with_reducible refine run_condT ?_ | with_reducible refine run_ret' ?_ | with_reducible refine run_end' ?_ | simp only [go_sem, ↓reduceIte, Nat.reduceAdd, Nat.reduceEqDiff, Nat.reduceBEq, reduceCtorEq, Int.reduceBEq, Int.reduceBNe, Int.reduceLT, Int.reduceLE]))
  exact ⟨ho, h⟩
theorem bRemembered {w : World} {b bo : Nat} {p : Addr} {c1 c2 c3 : Value} {cs : List Value} {m : IM} (hb : At w b (.pointer (some p) :: c1 :: c2 :: c3 :: .map (some bo) :: cs)) (hm : MpAt w bo m) (hl : m.length ≤ 100000) : Cs Tryz.prog 16 [.pointer (some ⟨b, 0, none⟩)] w fun v w' => Only [] w w' ∧ ∃ xs fp, Sl w' 1 v xs.length (ints (sortI xs)) fp ∧ (∀ x, x ∈ fp → w.heap.size ≤ x) ∧ xs.Perm m.keys := by
  refine enter_barrier_Barrier_Remembered rfl ?_
  unfold x_barrier_Barrier_Remembered
  (repeat (first | with_reducible refine run_seq ?_ | with_reducible refine run_reg ?_ | with_reducible refine run_block ?_ | with_reducible refine run_blk ?_ | with_reducible refine run_skip ?_ | with_reducible refine run_exit rfl ?_ | with_reducible refine run_drw ?_ | with_reducible refine run_condT ?_ | with_reducible refine run_ret' ?_ | with_reducible refine run_end' ?_ | simp only [go_sem, ↓reduceIte, Nat.reduceAdd, Nat.reduceEqDiff, Nat.reduceBEq, reduceCtorEq, Int.reduceBEq, Int.reduceBNe, Int.reduceLT, Int.reduceLE]))
  refine callT0 (bMadeS hb) ?_
  (repeat (first | with_reducible refine run_seq ?_ | with_reducible refine run_reg ?_ | with_reducible refine run_block ?_ | with_reducible refine run_blk ?_ | with_reducible refine run_skip ?_ | with_reducible refine run_exit rfl ?_ | with_reducible refine run_drw ?_ | with_reducible refine run_condT ?_ | with_reducible refine run_ret' ?_ | with_reducible refine run_end' ?_ | simp only [go_sem, ↓reduceIte, Nat.reduceAdd, Nat.reduceEqDiff, Nat.reduceBEq, reduceCtorEq, Int.reduceBEq, Int.reduceBNe, Int.reduceLT, Int.reduceLE, hb.cell]))
  refine callT (hRising hm hl) ?_
  rintro v w' ⟨ho, h⟩
  (repeat (first | with_reducible refine run_seq ?_ | with_reducible refine run_reg ?_ | with_reducible refine run_block ?_ | with_reducible refine run_blk ?_ | with_reducible refine run_skip ?_ | with_reducible refine run_exit rfl ?_ | with_reducible refine run_drw ?_ | with_reducible refine run_condT ?_ | with_reducible refine run_ret' ?_ | with_reducible refine run_end' ?_ | simp only [go_sem, ↓reduceIte, Nat.reduceAdd, Nat.reduceEqDiff, Nat.reduceBEq, reduceCtorEq, Int.reduceBEq, Int.reduceBNe, Int.reduceLT, Int.reduceLE]))
  exact ⟨ho, h⟩
theorem bShaded {w : World} {b : Nat} {p : Addr} {c1 c2 c3 c4 vs : Value} {cs : List Value} {n : Nat} {xs : List Int} {fs : List Nat} (hb : At w b (.pointer (some p) :: c1 :: c2 :: c3 :: c4 :: vs :: cs)) (hs : Sl w 1 vs n (ints xs) fs) (hl : n ≤ 100000) : Cs Tryz.prog 17 [.pointer (some ⟨b, 0, none⟩)] w fun v w' => Only [] w w' ∧ ∃ fp, Sl w' 1 v n (ints xs) fp ∧ ∀ x, x ∈ fp → w.heap.size ≤ x := by
  refine enter_barrier_Barrier_Shaded rfl ?_
  unfold x_barrier_Barrier_Shaded
  (repeat (first | with_reducible refine run_seq ?_ | with_reducible refine run_reg ?_ | with_reducible refine run_block ?_ | with_reducible refine run_blk ?_ | with_reducible refine run_skip ?_ | with_reducible refine run_exit rfl ?_ | with_reducible refine run_drw ?_ | with_reducible refine run_condT ?_ | with_reducible refine run_ret' ?_ | with_reducible refine run_end' ?_ | simp only [go_sem, ↓reduceIte, Nat.reduceAdd, Nat.reduceEqDiff, Nat.reduceBEq, reduceCtorEq, Int.reduceBEq, Int.reduceBNe, Int.reduceLT, Int.reduceLE]))
  refine callT0 (bMadeS hb) ?_
  (repeat (first | with_reducible refine run_seq ?_ | with_reducible refine run_reg ?_ | with_reducible refine run_block ?_ | with_reducible refine run_blk ?_ | with_reducible refine run_skip ?_ | with_reducible refine run_exit rfl ?_ | with_reducible refine run_drw ?_ | with_reducible refine run_condT ?_ | with_reducible refine run_ret' ?_ | with_reducible refine run_end' ?_ | simp only [go_sem, ↓reduceIte, Nat.reduceAdd, Nat.reduceEqDiff, Nat.reduceBEq, reduceCtorEq, Int.reduceBEq, Int.reduceBNe, Int.reduceLT, Int.reduceLE, hb.cell]))
  refine callT (sclone hs.src ints_one hl) ?_
  rintro v w' ⟨ho, h⟩
  (repeat (first | with_reducible refine run_seq ?_ | with_reducible refine run_reg ?_ | with_reducible refine run_block ?_ | with_reducible refine run_blk ?_ | with_reducible refine run_skip ?_ | with_reducible refine run_exit rfl ?_ | with_reducible refine run_drw ?_ | with_reducible refine run_condT ?_ | with_reducible refine run_ret' ?_ | with_reducible refine run_end' ?_ | simp only [go_sem, ↓reduceIte, Nat.reduceAdd, Nat.reduceEqDiff, Nat.reduceBEq, reduceCtorEq, Int.reduceBEq, Int.reduceBNe, Int.reduceLT, Int.reduceLE]))
  exact ⟨ho, h⟩
theorem bLog1 {w : World} {b gl cl gr cr nr : Nat} {p : Addr} {c1 c2 c3 c4 c5 : Value} {x : Int} {xr : List Int} {yl : List Value} {fr : List Nat} (hb : At w b [.pointer (some p), c1, c2, c3, c4, c5, .slice (some ⟨gl, 0, none⟩) 1 cl]) (hl : At w gl ([.int .i64 x, .slice (some ⟨gr, 0, none⟩) nr cr] ++ yl)) (hr : Sl w 1 (.slice (some ⟨gr, 0, none⟩) nr cr) nr (ints xr) fr) (hn : nr ≤ 1000) :
    Cs Tryz.prog 22 [.pointer (some ⟨b, 0, none⟩)] w fun v w' => Only [] w w' ∧ ∃ a c, v = .slice a 1 c := by
  refine enter_barrier_Barrier_Log rfl ?_
  unfold x_barrier_Barrier_Log
  (repeat (first | with_reducible refine run_seq ?_ | with_reducible refine run_reg ?_ | with_reducible refine run_block ?_ | with_reducible refine run_blk ?_ | with_reducible refine run_skip ?_ | with_reducible refine run_exit rfl ?_ | with_reducible refine run_drw ?_ | with_reducible refine run_condT ?_ | with_reducible refine run_ret' ?_ | with_reducible refine run_end' ?_ | simp only [go_sem, ↓reduceIte, Nat.reduceAdd, Nat.reduceEqDiff, Nat.reduceBEq, reduceCtorEq, Int.reduceBEq, Int.reduceBNe, Int.reduceLT, Int.reduceLE]))
  refine callT0 (bMadeS hb) ?_
  (repeat (first | with_reducible refine run_seq ?_ | with_reducible refine run_reg ?_ | with_reducible refine run_block ?_ | with_reducible refine run_blk ?_ | with_reducible refine run_skip ?_ | with_reducible refine run_exit rfl ?_ | with_reducible refine run_drw ?_ | with_reducible refine run_condT ?_ | with_reducible refine run_ret' ?_ | with_reducible refine run_end' ?_ | simp only [go_sem, ↓reduceIte, Nat.reduceAdd, Nat.reduceEqDiff, Nat.reduceBEq, reduceCtorEq, Int.reduceBEq, Int.reduceBNe, Int.reduceLT, Int.reduceLE, hb.cell]))
  refine run_loop (3 :: 5 :: 14 :: 15 :: 16 :: 17 :: 18 :: 19 :: 20 :: 21 :: 22 :: 23 :: 24 :: 25 :: 26 :: 27 :: []) (fun g w' => (g 14 = .int .i64 0 ∧ g 3 = .slice none 0 0 ∧ w' = w) ∨ (g 14 = .int .i64 1 ∧ (∃ a c, g 3 = .slice a 1 c) ∧ Only [] w w')) (fun g _ => upTo 1 14 g) (.inl ⟨by simp only [go_sem, ↓reduceIte, Nat.reduceAdd, Nat.reduceEqDiff, Nat.reduceBEq, reduceCtorEq, Int.reduceBEq, Int.reduceBNe, Int.reduceLT, Int.reduceLE], by simp only [go_sem, ↓reduceIte, Nat.reduceAdd, Nat.reduceEqDiff, Nat.reduceBEq, reduceCtorEq, Int.reduceBEq, Int.reduceBNe, Int.reduceLT, Int.reduceLE], rfl⟩) fun g w' hI hnext => ?_
  rcases hI with ⟨h14, h3, rfl⟩ | ⟨h14, ⟨a, c, h3⟩, ho⟩
  · have e0 : decide ((0 : Int) < ((1 : Nat) : Int)) = true := rfl
    have e1 : (0 : Int) < ((1 : Nat) : Int) := by decide
    have hc : cellsAt w' ⟨gl, 0, none⟩ 2 = some [.int .i64 x, .slice (some ⟨gr, 0, none⟩) nr cr] := by rw [cellsAt_at hl 0 2 (by simp)]; rfl
    (repeat (first | with_reducible refine run_seq ?_ | with_reducible refine run_reg ?_ | with_reducible refine run_block ?_ | with_reducible refine run_blk ?_ | with_reducible refine run_skip ?_ | with_reducible refine run_exit rfl ?_ | with_reducible refine run_drw ?_ | with_reducible refine run_condT ?_ | with_reducible refine run_ret' ?_ | with_reducible refine run_end' ?_ | simp only [go_sem, ↓reduceIte, Nat.reduceAdd, Nat.reduceEqDiff, Nat.reduceBEq, reduceCtorEq, Int.reduceBEq, Int.reduceBNe, Int.reduceLT, Int.reduceLE, h14, e0, if_pos e1, show Int.toNat 0 = 0 from rfl, Nat.zero_mul, hc]))
    refine boxT fun q w1 hq hs1 hat1 ho1 => ?_
    (repeat (first | with_reducible refine run_seq ?_ | with_reducible refine run_reg ?_ | with_reducible refine run_block ?_ | with_reducible refine run_blk ?_ | with_reducible refine run_skip ?_ | with_reducible refine run_exit rfl ?_ | with_reducible refine run_drw ?_ | with_reducible refine run_condT ?_ | with_reducible refine run_ret' ?_ | with_reducible refine run_end' ?_ | simp only [go_sem, ↓reduceIte, Nat.reduceAdd, Nat.reduceEqDiff, Nat.reduceBEq, reduceCtorEq, Int.reduceBEq, Int.reduceBNe, Int.reduceLT, Int.reduceLE]))
    refine stNT (cs := [.int .i64 x, .slice (some ⟨gr, 0, none⟩) nr cr]) hat1 rfl (by simp) (by simp [oneC]) fun w2 hs2 hat2 ho2 => ?_
    have hat2' : At w2 q [.int .i64 x, .slice (some ⟨gr, 0, none⟩) nr cr] := hat2
    have o2 : Only [] w' w2 := ho1.trans ho2 fun y hy => by simp only [List.mem_singleton] at hy; subst hy; exact .inr (by omega)
    have hr2 := hr.keep0 o2
    (repeat (first | with_reducible refine run_seq ?_ | with_reducible refine run_reg ?_ | with_reducible refine run_block ?_ | with_reducible refine run_blk ?_ | with_reducible refine run_skip ?_ | with_reducible refine run_exit rfl ?_ | with_reducible refine run_drw ?_ | with_reducible refine run_condT ?_ | with_reducible refine run_ret' ?_ | with_reducible refine run_end' ?_ | simp only [go_sem, ↓reduceIte, Nat.reduceAdd, Nat.reduceEqDiff, Nat.reduceBEq, reduceCtorEq, Int.reduceBEq, Int.reduceBNe, Int.reduceLT, Int.reduceLE, h3]))
    refine run_drt [q] ?_
    (repeat (first | with_reducible refine run_seq ?_ | with_reducible refine run_reg ?_ | with_reducible refine run_block ?_ | with_reducible refine run_blk ?_ | with_reducible refine run_skip ?_ | with_reducible refine run_exit rfl ?_ | with_reducible refine run_drw ?_ | with_reducible refine run_condT ?_ | with_reducible refine run_ret' ?_ | with_reducible refine run_end' ?_ | simp only [go_sem, ↓reduceIte, Nat.reduceAdd, Nat.reduceEqDiff, Nat.reduceBEq, reduceCtorEq, Int.reduceBEq, Int.reduceBNe, Int.reduceLT, Int.reduceLE, hat2'.drew.cell, hat2'.cell, h3]))
    have hql := hat2'.lt
    refine callS (sclone (hr2.keep0 (Only.drew [] w2)).src ints_one (by omega)) ?_
    rintro v w3 ⟨ho3, fp, hs3, hfp3⟩
    refine ⟨.inr ((SB.refl _ _).only ho3 fun z hz => ⟨by simp only [List.mem_singleton] at hz; rw [hz]; exact hql, by simp⟩), ?_⟩
    obtain ⟨a3, c3', rfl⟩ := hs3.val
    (repeat (first | with_reducible refine run_seq ?_ | with_reducible refine run_reg ?_ | with_reducible refine run_block ?_ | with_reducible refine run_blk ?_ | with_reducible refine run_skip ?_ | with_reducible refine run_exit rfl ?_ | with_reducible refine run_drw ?_ | with_reducible refine run_condT ?_ | with_reducible refine run_ret' ?_ | with_reducible refine run_end' ?_ | simp only [go_sem, ↓reduceIte, Nat.reduceAdd, Nat.reduceEqDiff, Nat.reduceBEq, reduceCtorEq, Int.reduceBEq, Int.reduceBNe, Int.reduceLT, Int.reduceLE]))
    rw [fillL_one rfl rfl, fillL_one rfl rfl]
    (repeat (first | with_reducible refine run_seq ?_ | with_reducible refine run_reg ?_ | with_reducible refine run_block ?_ | with_reducible refine run_blk ?_ | with_reducible refine run_skip ?_ | with_reducible refine run_exit rfl ?_ | with_reducible refine run_drw ?_ | with_reducible refine run_condT ?_ | with_reducible refine run_ret' ?_ | with_reducible refine run_end' ?_ | simp only [go_sem, ↓reduceIte, Nat.reduceAdd, Nat.reduceEqDiff, Nat.reduceBEq, reduceCtorEq, Int.reduceBEq, Int.reduceBNe, Int.reduceLT, Int.reduceLE]))
    rw [fillL_ag (n := 2) rfl rfl]
    (repeat (first | with_reducible refine run_seq ?_ | with_reducible refine run_reg ?_ | with_reducible refine run_block ?_ | with_reducible refine run_blk ?_ | with_reducible refine run_skip ?_ | with_reducible refine run_exit rfl ?_ | with_reducible refine run_drw ?_ | with_reducible refine run_condT ?_ | with_reducible refine run_ret' ?_ | with_reducible refine run_end' ?_ | simp only [go_sem, ↓reduceIte, Nat.reduceAdd, Nat.reduceEqDiff, Nat.reduceBEq, reduceCtorEq, Int.reduceBEq, Int.reduceBNe, Int.reduceLT, Int.reduceLE]))
    refine bslS fun q4 w4 hq4 hs4 hat4 ho4 => ⟨.inl rfl, ?_⟩
    (repeat (first | with_reducible refine run_seq ?_ | with_reducible refine run_reg ?_ | with_reducible refine run_block ?_ | with_reducible refine run_blk ?_ | with_reducible refine run_skip ?_ | with_reducible refine run_exit rfl ?_ | with_reducible refine run_drw ?_ | with_reducible refine run_condT ?_ | with_reducible refine run_ret' ?_ | with_reducible refine run_end' ?_ | simp only [go_sem, ↓reduceIte, Nat.reduceAdd, Nat.reduceEqDiff, Nat.reduceBEq, reduceCtorEq, Int.reduceBEq, Int.reduceBNe, Int.reduceLT, Int.reduceLE]))
    refine appS (sz := 2) (n := 0) (m := 1) (xs := []) (us := [.int .i64 x, .slice a3 nr c3']) (fp := []) ⟨rfl, .inl ⟨rfl, rfl, rfl⟩⟩ (SrcIs.at (us := [.int .i64 x, .slice a3 nr c3']) hat4 rfl) (by simp [oneC]) (by omega) (by omega) ?_
    intro v5 w5 f5 hs5 hf5 ho5 _
    refine ⟨.inl rfl, ?_⟩
    obtain ⟨a5, c5', rfl⟩ := hs5.val
    have z1 : IntKind.i64.wrap (0 + 1) = 1 := by decide
    (repeat (first | with_reducible refine run_seq ?_ | with_reducible refine run_reg ?_ | with_reducible refine run_block ?_ | with_reducible refine run_blk ?_ | with_reducible refine run_skip ?_ | with_reducible refine run_exit rfl ?_ | with_reducible refine run_drw ?_ | with_reducible refine run_condT ?_ | with_reducible refine run_ret' ?_ | with_reducible refine run_end' ?_ | simp only [go_sem, ↓reduceIte, Nat.reduceAdd, Nat.reduceEqDiff, Nat.reduceBEq, reduceCtorEq, Int.reduceBEq, Int.reduceBNe, Int.reduceLT, Int.reduceLE, h14, z1]))
    refine hnext _ w5 ?_ (.inr ⟨?_, ⟨a5, c5', ?_⟩, (((o2.nil (Only.drew [] w2)).nil ho3).nil ho4).nil ho5⟩) ?_
    · (repeat (first | with_reducible exact Keeps.refl _ _ | with_reducible exact Keeps.ovr _ _ _ | refine Keeps.put ?_ rfl _ | exact Keeps.refl _ _ | exact Keeps.ovr _ _ _ | refine Keeps.ovr2 ?_ rfl _))
    · simp only [go_sem, ↓reduceIte, Nat.reduceAdd, Nat.reduceEqDiff, Nat.reduceBEq, reduceCtorEq, Int.reduceBEq, Int.reduceBNe, Int.reduceLT, Int.reduceLE]
    · simp only [go_sem, ↓reduceIte, Nat.reduceAdd, Nat.reduceEqDiff, Nat.reduceBEq, reduceCtorEq, Int.reduceBEq, Int.reduceBNe, Int.reduceLT, Int.reduceLE]
    · rw [upTo_int (i := 0) h14, upTo_int (k := .i64) (i := 1) (by simp only [go_sem, ↓reduceIte, Nat.reduceAdd, Nat.reduceEqDiff, Nat.reduceBEq, reduceCtorEq, Int.reduceBEq, Int.reduceBNe, Int.reduceLT, Int.reduceLE]; rfl)]; omega
  · have e0 : decide ((1 : Int) < ((1 : Nat) : Int)) = false := rfl
    (repeat (first | with_reducible refine run_seq ?_ | with_reducible refine run_reg ?_ | with_reducible refine run_block ?_ | with_reducible refine run_blk ?_ | with_reducible refine run_skip ?_ | with_reducible refine run_exit rfl ?_ | with_reducible refine run_drw ?_ | with_reducible refine run_condT ?_ | with_reducible refine run_ret' ?_ | with_reducible refine run_end' ?_ | simp only [go_sem, ↓reduceIte, Nat.reduceAdd, Nat.reduceEqDiff, Nat.reduceBEq, reduceCtorEq, Int.reduceBEq, Int.reduceBNe, Int.reduceLT, Int.reduceLE, h14, e0, h3]))
    exact ⟨ho, a, c, rfl⟩

/-! ### The example's heaps -/
def hA0 : HO := newH 4
def hA1 : HO := claimM hA0 1 1 (1, 0) (0, 0)
def hA2 : HO := claimM hA1 2 1 (1, 1) (0, 0)
def hA3 : HO := placeM hA2 64 (2, 0, 0)
def hA4 : HO := placeM hA3 128 (2, 0, 0)
def hA5 : HO := setRefM hA4 64 0 128
theorem hA_facts : claimE hA0 1 1 (1, 0) = 0 ∧ claimE hA1 2 1 (1, 1) = 0 ∧ (placeR hA2 64 (2, 0, 0)).2 = 0 ∧ (placeR hA3 128 (2, 0, 0)).2 = 0 ∧ blocksO hA4 = 4 ∧ refsO hA4 64 = [0, 0] ∧ setRefE hA4 64 0 128 = 0 ∧ youngO hA5 1 64 = false ∧ youngO hA5 1 128 = true ∧ hA2.map HL.born = some 0 ∧ hA3.map HL.born = some 1 := by decide +kernel
theorem bStoreA {w : World} {b bd bo : Nat} {hp : Addr} {fp : List Nat} (h : HR w (some hp) fp hA4) (hb : At w b [.pointer (some hp), .int .i64 63, .int .i64 1, .map (some bd), .map (some bo), .slice none 0 0, .slice none 0 0])
    (hd : MpAt w bd []) (ho : MpAt w bo []) (n1 : b ≠ bd) (n2 : b ≠ bo) (n3 : bd ≠ bo) (hfp : b ∉ fp ∧ bd ∉ fp ∧ bo ∉ fp) :
    Cs Tryz.prog 28 [.pointer (some ⟨b, 0, none⟩), .int .i64 64, .int .i64 0, .int .i64 128] w fun v w' => v = .int .i64 0 ∧ ∃ vs fs vl fl gr cr fr, At w' b [.pointer (some hp), .int .i64 63, .int .i64 1, .map (some bd), .map (some bo), vs, vl] ∧
      Sl w' 1 vs 1 (ints [128]) fs ∧ Sl w' 2 vl 1 [.int .i64 64, .slice (some ⟨gr, 0, none⟩) 2 cr] fl ∧ Sl w' 1 (.slice (some ⟨gr, 0, none⟩) 2 cr) 2 (ints [0, 0]) fr ∧ MpAt w' bd [(8, .agg ⟨[]⟩)] ∧ MpAt w' bo [(64, .agg ⟨[]⟩)] ∧ Only ([b, bd, bo] ++ fp) w w' := by
  obtain ⟨_, _, _, _, _, f6, f7, f8, f9, _⟩ := hA_facts
  have hlb := hb.lt
  have hld := hd.lt
  have hlo := ho.lt
  refine enter_barrier_Barrier_Store rfl ?_
  unfold x_barrier_Barrier_Store
  (repeat (first | with_reducible refine run_seq ?_ | with_reducible refine run_reg ?_ | with_reducible refine run_block ?_ | with_reducible refine run_blk ?_ | with_reducible refine run_skip ?_ | with_reducible refine run_exit rfl ?_ | with_reducible refine run_drw ?_ | with_reducible refine run_condT ?_ | with_reducible refine run_ret' ?_ | with_reducible refine run_end' ?_ | simp only [go_sem, ↓reduceIte, Nat.reduceAdd, Nat.reduceEqDiff, Nat.reduceBEq, reduceCtorEq, Int.reduceBEq, Int.reduceBNe, Int.reduceLT, Int.reduceLE]))
  refine callT0 (bMadeS hb) ?_
  (repeat (first | with_reducible refine run_seq ?_ | with_reducible refine run_reg ?_ | with_reducible refine run_block ?_ | with_reducible refine run_blk ?_ | with_reducible refine run_skip ?_ | with_reducible refine run_exit rfl ?_ | with_reducible refine run_drw ?_ | with_reducible refine run_condT ?_ | with_reducible refine run_ret' ?_ | with_reducible refine run_end' ?_ | simp only [go_sem, ↓reduceIte, Nat.reduceAdd, Nat.reduceEqDiff, Nat.reduceBEq, reduceCtorEq, Int.reduceBEq, Int.reduceBNe, Int.reduceLT, Int.reduceLE, hb.cell]))
  refine callT (hRefs h 64 (by omega)) ?_
  rintro vr w1 ⟨ho1, fr, hr1, hfr1⟩
  rw [f6] at hr1
  obtain ⟨gr, cr, yr, rfl, hatr, rfl, _⟩ := hr1.pos (by decide)
  have hgr := hfr1 gr (by simp)
  have hb1 := hb.keep0 ho1
  (repeat (first | with_reducible refine run_seq ?_ | with_reducible refine run_reg ?_ | with_reducible refine run_block ?_ | with_reducible refine run_blk ?_ | with_reducible refine run_skip ?_ | with_reducible refine run_exit rfl ?_ | with_reducible refine run_drw ?_ | with_reducible refine run_condT ?_ | with_reducible refine run_ret' ?_ | with_reducible refine run_end' ?_ | simp only [go_sem, ↓reduceIte, Nat.reduceAdd, Nat.reduceEqDiff, Nat.reduceBEq, reduceCtorEq, Int.reduceBEq, Int.reduceBNe, Int.reduceLT, Int.reduceLE, hb1.cell]))
  refine callT (hSetRef (h.keep0 ho1) 64 0 128 (by omega) (by omega)) ?_
  rintro r w2 ⟨rfl, h2, ho2⟩
  rw [f7]
  have hb2 := hb1.keep ho2 hfp.1
  have hltf := h.lt
  have hgf : gr ∉ fp := fun hx => by have := hltf gr hx; omega
  (repeat (first | with_reducible refine run_seq ?_ | with_reducible refine run_reg ?_ | with_reducible refine run_block ?_ | with_reducible refine run_blk ?_ | with_reducible refine run_skip ?_ | with_reducible refine run_exit rfl ?_ | with_reducible refine run_drw ?_ | with_reducible refine run_condT ?_ | with_reducible refine run_ret' ?_ | with_reducible refine run_end' ?_ | simp only [go_sem, ↓reduceIte, Nat.reduceAdd, Nat.reduceEqDiff, Nat.reduceBEq, reduceCtorEq, Int.reduceBEq, Int.reduceBNe, Int.reduceLT, Int.reduceLE, bne_int_false (rfl : (0 : Int) = 0)]))
  refine callT (bNote0 (m := hA5) h2 hb2 ((hd.keep0 ho1).keep ho2 hfp.2.1) ((ho.keep0 ho1).keep ho2 hfp.2.2) (hatr.keep ho2 hgf) f8 f9 n1 n2 n3 hfp ⟨by omega, by omega, by omega⟩) ?_
  rintro r w3 ⟨rfl, vs, fs, vl, fl, hb3, hs3, hl3, hd3, hod3, ho3⟩
  (repeat (first | with_reducible refine run_seq ?_ | with_reducible refine run_reg ?_ | with_reducible refine run_block ?_ | with_reducible refine run_blk ?_ | with_reducible refine run_skip ?_ | with_reducible refine run_exit rfl ?_ | with_reducible refine run_drw ?_ | with_reducible refine run_condT ?_ | with_reducible refine run_ret' ?_ | with_reducible refine run_end' ?_ | simp only [go_sem, ↓reduceIte, Nat.reduceAdd, Nat.reduceEqDiff, Nat.reduceBEq, reduceCtorEq, Int.reduceBEq, Int.reduceBNe, Int.reduceLT, Int.reduceLE]))
  refine ⟨vs, fs, vl, fl, gr, cr, [gr], hb3, hs3, hl3, ?_, hd3, hod3, ?_⟩
  · exact (hr1.keep ho2 (by simpa using hgf)).keep ho3 (fun y hy => by simp only [List.mem_singleton] at hy; subst hy; simp only [List.mem_cons, List.not_mem_nil, or_false]; omega)
  · exact ((ho1.of_nil (T := [b, bd, bo] ++ fp)).same (ho2.sub (by intro y hy; simp [hy]))).same (ho3.sub (by intro y hy; exact List.mem_append.2 (.inl hy)))
theorem perm_one {xs : List Int} {x : Int} (h : xs.Perm [x]) : xs = [x] := List.perm_singleton.1 h
theorem law_awake (w : World) : Cs Tryz.prog 14 [] w fun v w' => v = .bool true ∧ Only [] w w' := by
  obtain ⟨f1, f2, f3, f4, f5, _, _, _, _, f10, f11⟩ := hA_facts
  refine enter_law12_awake rfl ?_
  unfold x_law12_awake
  (repeat (first | with_reducible refine run_seq ?_ | with_reducible refine run_reg ?_ | with_reducible refine run_block ?_ | with_reducible refine run_blk ?_ | with_reducible refine run_skip ?_ | with_reducible refine run_exit rfl ?_ | with_reducible refine run_drw ?_ | with_reducible refine run_condT ?_ | with_reducible refine run_ret' ?_ | with_reducible refine run_end' ?_ | simp only [go_sem, ↓reduceIte, Nat.reduceAdd, Nat.reduceEqDiff, Nat.reduceBEq, reduceCtorEq, Int.reduceBEq, Int.reduceBNe, Int.reduceLT, Int.reduceLE]))
  refine callT (hNew w 4) ?_
  rintro r w1 ⟨a, fp, rfl, h1, _, hfp1, ho1⟩
  have hs0 : (newH 4).isSome = true := rfl
  have h1' : HR w1 a fp hA0 := h1
  obtain ⟨hb, rfl, _⟩ := h1
  (repeat (first | with_reducible refine run_seq ?_ | with_reducible refine run_reg ?_ | with_reducible refine run_block ?_ | with_reducible refine run_blk ?_ | with_reducible refine run_skip ?_ | with_reducible refine run_exit rfl ?_ | with_reducible refine run_drw ?_ | with_reducible refine run_condT ?_ | with_reducible refine run_ret' ?_ | with_reducible refine run_end' ?_ | simp only [go_sem, ↓reduceIte, Nat.reduceAdd, Nat.reduceEqDiff, Nat.reduceBEq, reduceCtorEq, Int.reduceBEq, Int.reduceBNe, Int.reduceLT, Int.reduceLE, hs0]))
  refine callT (hClaim h1' 1 0 (by omega)) ?_
  rintro r w2 ⟨rfl, h2, ho2⟩
  rw [f1]
  (repeat (first | with_reducible refine run_seq ?_ | with_reducible refine run_reg ?_ | with_reducible refine run_block ?_ | with_reducible refine run_blk ?_ | with_reducible refine run_skip ?_ | with_reducible refine run_exit rfl ?_ | with_reducible refine run_drw ?_ | with_reducible refine run_condT ?_ | with_reducible refine run_ret' ?_ | with_reducible refine run_end' ?_ | simp only [go_sem, ↓reduceIte, Nat.reduceAdd, Nat.reduceEqDiff, Nat.reduceBEq, reduceCtorEq, Int.reduceBEq, Int.reduceBNe, Int.reduceLT, Int.reduceLE, bne_int_false (rfl : (0 : Int) = 0)]))
  refine callT (hClaim (m := hA1) h2 2 1 (by omega)) ?_
  rintro r w3 ⟨rfl, h3, ho3⟩
  rw [f2]
  (repeat (first | with_reducible refine run_seq ?_ | with_reducible refine run_reg ?_ | with_reducible refine run_block ?_ | with_reducible refine run_blk ?_ | with_reducible refine run_skip ?_ | with_reducible refine run_exit rfl ?_ | with_reducible refine run_drw ?_ | with_reducible refine run_condT ?_ | with_reducible refine run_ret' ?_ | with_reducible refine run_end' ?_ | simp only [go_sem, ↓reduceIte, Nat.reduceAdd, Nat.reduceEqDiff, Nat.reduceBEq, reduceCtorEq, Int.reduceBEq, Int.reduceBNe, Int.reduceLT, Int.reduceLE, bne_int_false (rfl : (0 : Int) = 0)]))
  rw [fillL_one rfl rfl]
  (repeat (first | with_reducible refine run_seq ?_ | with_reducible refine run_reg ?_ | with_reducible refine run_block ?_ | with_reducible refine run_blk ?_ | with_reducible refine run_skip ?_ | with_reducible refine run_exit rfl ?_ | with_reducible refine run_drw ?_ | with_reducible refine run_condT ?_ | with_reducible refine run_ret' ?_ | with_reducible refine run_end' ?_ | simp only [go_sem, ↓reduceIte, Nat.reduceAdd, Nat.reduceEqDiff, Nat.reduceBEq, reduceCtorEq, Int.reduceBEq, Int.reduceBNe, Int.reduceLT, Int.reduceLE]))
  have b2 : ∀ s, hA2 = some s → s.born ≤ 4611686018427387900 := fun s h => by rw [h] at f10; simp only [Option.map_some, Option.some.injEq] at f10; omega
  have b3 : ∀ s, hA3 = some s → s.born ≤ 4611686018427387900 := fun s h => by rw [h] at f11; simp only [Option.map_some, Option.some.injEq] at f11; omega
  refine callT (hPlace (m := hA2) h3 64 (2, 0, 0) (by omega) (by decide) b2) ?_
  rintro r w4 ⟨rfl, h4, ho4⟩
  rw [f3]
  (repeat (first | with_reducible refine run_seq ?_ | with_reducible refine run_reg ?_ | with_reducible refine run_block ?_ | with_reducible refine run_blk ?_ | with_reducible refine run_skip ?_ | with_reducible refine run_exit rfl ?_ | with_reducible refine run_drw ?_ | with_reducible refine run_condT ?_ | with_reducible refine run_ret' ?_ | with_reducible refine run_end' ?_ | simp only [go_sem, ↓reduceIte, Nat.reduceAdd, Nat.reduceEqDiff, Nat.reduceBEq, reduceCtorEq, Int.reduceBEq, Int.reduceBNe, Int.reduceLT, Int.reduceLE, bne_int_false (rfl : (0 : Int) = 0)]))
  rw [fillL_one rfl rfl]
  (repeat (first | with_reducible refine run_seq ?_ | with_reducible refine run_reg ?_ | with_reducible refine run_block ?_ | with_reducible refine run_blk ?_ | with_reducible refine run_skip ?_ | with_reducible refine run_exit rfl ?_ | with_reducible refine run_drw ?_ | with_reducible refine run_condT ?_ | with_reducible refine run_ret' ?_ | with_reducible refine run_end' ?_ | simp only [go_sem, ↓reduceIte, Nat.reduceAdd, Nat.reduceEqDiff, Nat.reduceBEq, reduceCtorEq, Int.reduceBEq, Int.reduceBNe, Int.reduceLT, Int.reduceLE]))
  refine callT (hPlace (m := hA3) h4 128 (2, 0, 0) (by omega) (by decide) b3) ?_
  rintro r w5 ⟨rfl, h5, ho5⟩
  rw [f4]
  have h5' : HR w5 (some ⟨hb, 0, none⟩) fp hA4 := h5
  obtain ⟨s5, hs5⟩ : ∃ s, hA4 = some s := by
    cases h : hA4 with
    | none => rw [h] at f5; cases f5
    | some s => exact ⟨s, rfl⟩
  have o5 : Only fp w1 w5 := ((ho2.same ho3).same ho4).same ho5
  have o05 : Only [] w w5 := ho1.trans o5 fun x hx => .inr (hfp1 x hx)
  (repeat (first | with_reducible refine run_seq ?_ | with_reducible refine run_reg ?_ | with_reducible refine run_block ?_ | with_reducible refine run_blk ?_ | with_reducible refine run_skip ?_ | with_reducible refine run_exit rfl ?_ | with_reducible refine run_drw ?_ | with_reducible refine run_condT ?_ | with_reducible refine run_ret' ?_ | with_reducible refine run_end' ?_ | simp only [go_sem, ↓reduceIte, Nat.reduceAdd, Nat.reduceEqDiff, Nat.reduceBEq, reduceCtorEq, Int.reduceBEq, Int.reduceBNe, Int.reduceLT, Int.reduceLE, bne_int_false (rfl : (0 : Int) = 0)]))
  refine callT (bNewS (s := s5) (by rw [← hs5]; exact h5') 63 1 (by omega) (by omega) (by omega) (by omega)) ?_
  rintro r w6 ⟨b, bd, bo, rfl, hb6, hd6, ho6m, g1, g2, g3, ho6⟩
  have h6 := h5'.keep0 ho6
  have hlt5 := h5'.lt
  (repeat (first | with_reducible refine run_seq ?_ | with_reducible refine run_reg ?_ | with_reducible refine run_block ?_ | with_reducible refine run_blk ?_ | with_reducible refine run_skip ?_ | with_reducible refine run_exit rfl ?_ | with_reducible refine run_drw ?_ | with_reducible refine run_condT ?_ | with_reducible refine run_ret' ?_ | with_reducible refine run_end' ?_ | simp only [go_sem, ↓reduceIte, Nat.reduceAdd, Nat.reduceEqDiff, Nat.reduceBEq, reduceCtorEq, Int.reduceBEq, Int.reduceBNe, Int.reduceLT, Int.reduceLE]))
  refine callT (bStoreA h6 hb6 hd6 ho6m (by omega) (by omega) (by omega) ⟨fun hx => by have := hlt5 b hx; omega, fun hx => by have := hlt5 bd hx; omega, fun hx => by have := hlt5 bo hx; omega⟩) ?_
  rintro r w7 ⟨rfl, vs, fs, vl, fl, gr, cr, fr, hb7, hs7, hl7, hr7, hd7, ho7m, ho7⟩
  have hz05 := o05.size
  have hz6 := ho6.size
  have o07 : Only [] w w7 := (o05.nil ho6).trans ho7 fun x hx => .inr (by
    rcases List.mem_append.1 hx with h | h
    · simp only [List.mem_cons, List.not_mem_nil, or_false] at h; omega
    · exact hfp1 x h)
  (repeat (first | with_reducible refine run_seq ?_ | with_reducible refine run_reg ?_ | with_reducible refine run_block ?_ | with_reducible refine run_blk ?_ | with_reducible refine run_skip ?_ | with_reducible refine run_exit rfl ?_ | with_reducible refine run_drw ?_ | with_reducible refine run_condT ?_ | with_reducible refine run_ret' ?_ | with_reducible refine run_end' ?_ | simp only [go_sem, ↓reduceIte, Nat.reduceAdd, Nat.reduceEqDiff, Nat.reduceBEq, reduceCtorEq, Int.reduceBEq, Int.reduceBNe, Int.reduceLT, Int.reduceLE, bne_int_false (rfl : (0 : Int) = 0)]))
  refine callT (bDirty hb7 hd7 (by simp)) ?_
  rintro v8 w8 ⟨ho8, xs8, f8, hs8, _, hp8⟩
  have e8 : xs8 = [8] := perm_one hp8
  subst e8
  have q8 : sortI [8] = [8] := by simp [sortI]
  rw [q8] at hs8
  (repeat (first | with_reducible refine run_seq ?_ | with_reducible refine run_reg ?_ | with_reducible refine run_block ?_ | with_reducible refine run_blk ?_ | with_reducible refine run_skip ?_ | with_reducible refine run_exit rfl ?_ | with_reducible refine run_drw ?_ | with_reducible refine run_condT ?_ | with_reducible refine run_ret' ?_ | with_reducible refine run_end' ?_ | simp only [go_sem, ↓reduceIte, Nat.reduceAdd, Nat.reduceEqDiff, Nat.reduceBEq, reduceCtorEq, Int.reduceBEq, Int.reduceBNe, Int.reduceLT, Int.reduceLE]))
  refine callT0 (hHas12 hs8.rd (by simp) 8) ?_
  have c8 : ([8] : List Int).contains 8 = true := rfl
  have hb8 := hb7.keep0 ho8
  (repeat (first | with_reducible refine run_seq ?_ | with_reducible refine run_reg ?_ | with_reducible refine run_block ?_ | with_reducible refine run_blk ?_ | with_reducible refine run_skip ?_ | with_reducible refine run_exit rfl ?_ | with_reducible refine run_drw ?_ | with_reducible refine run_condT ?_ | with_reducible refine run_ret' ?_ | with_reducible refine run_end' ?_ | simp only [go_sem, ↓reduceIte, Nat.reduceAdd, Nat.reduceEqDiff, Nat.reduceBEq, reduceCtorEq, Int.reduceBEq, Int.reduceBNe, Int.reduceLT, Int.reduceLE, c8]))
  refine callT (bRemembered hb8 (ho7m.keep0 ho8) (by simp)) ?_
  rintro v9 w9 ⟨ho9, xs9, f9', hs9, _, hp9⟩
  have e9 : xs9 = [64] := perm_one hp9
  subst e9
  have q9 : sortI [64] = [64] := by simp [sortI]
  rw [q9] at hs9
  (repeat (first | with_reducible refine run_seq ?_ | with_reducible refine run_reg ?_ | with_reducible refine run_block ?_ | with_reducible refine run_blk ?_ | with_reducible refine run_skip ?_ | with_reducible refine run_exit rfl ?_ | with_reducible refine run_drw ?_ | with_reducible refine run_condT ?_ | with_reducible refine run_ret' ?_ | with_reducible refine run_end' ?_ | simp only [go_sem, ↓reduceIte, Nat.reduceAdd, Nat.reduceEqDiff, Nat.reduceBEq, reduceCtorEq, Int.reduceBEq, Int.reduceBNe, Int.reduceLT, Int.reduceLE]))
  refine callT0 (hHas12 hs9.rd (by simp) 64) ?_
  have c9 : ([64] : List Int).contains 64 = true := rfl
  have o79 := ho8.nil ho9
  have hb9 := hb8.keep0 ho9
  (repeat (first | with_reducible refine run_seq ?_ | with_reducible refine run_reg ?_ | with_reducible refine run_block ?_ | with_reducible refine run_blk ?_ | with_reducible refine run_skip ?_ | with_reducible refine run_exit rfl ?_ | with_reducible refine run_drw ?_ | with_reducible refine run_condT ?_ | with_reducible refine run_ret' ?_ | with_reducible refine run_end' ?_ | simp only [go_sem, ↓reduceIte, Nat.reduceAdd, Nat.reduceEqDiff, Nat.reduceBEq, reduceCtorEq, Int.reduceBEq, Int.reduceBNe, Int.reduceLT, Int.reduceLE, c9]))
  refine callT (bShaded hb9 (hs7.keep0 o79) (by omega)) ?_
  rintro v10 w10 ⟨ho10, f10', hs10, _⟩
  (repeat (first | with_reducible refine run_seq ?_ | with_reducible refine run_reg ?_ | with_reducible refine run_block ?_ | with_reducible refine run_blk ?_ | with_reducible refine run_skip ?_ | with_reducible refine run_exit rfl ?_ | with_reducible refine run_drw ?_ | with_reducible refine run_condT ?_ | with_reducible refine run_ret' ?_ | with_reducible refine run_end' ?_ | simp only [go_sem, ↓reduceIte, Nat.reduceAdd, Nat.reduceEqDiff, Nat.reduceBEq, reduceCtorEq, Int.reduceBEq, Int.reduceBNe, Int.reduceLT, Int.reduceLE]))
  refine callT0 (hHas12 (hs10.rd) (by simp) 128) ?_
  have c10 : ([128] : List Int).contains 128 = true := rfl
  have o710 := o79.nil ho10
  have hl10 := hl7.keep0 o710
  have hr10 := hr7.keep0 o710
  have hb10 := hb9.keep0 ho10
  obtain ⟨gl, cl, yl, rfl, hatl, rfl⟩ : ∃ g c ys, vl = .slice (some ⟨g, 0, none⟩) 1 c ∧ At w10 g ([.int .i64 64, .slice (some ⟨gr, 0, none⟩) 2 cr] ++ ys) ∧ fl = [g] := by
    rcases hl10.2 with ⟨_, h, _⟩ | ⟨g, c, ys, T, h1, h2, h3, _⟩
    · cases h
    · exact ⟨g, c, ys, h1, ⟨T, h3⟩, h2⟩
  (repeat (first | with_reducible refine run_seq ?_ | with_reducible refine run_reg ?_ | with_reducible refine run_block ?_ | with_reducible refine run_blk ?_ | with_reducible refine run_skip ?_ | with_reducible refine run_exit rfl ?_ | with_reducible refine run_drw ?_ | with_reducible refine run_condT ?_ | with_reducible refine run_ret' ?_ | with_reducible refine run_end' ?_ | simp only [go_sem, ↓reduceIte, Nat.reduceAdd, Nat.reduceEqDiff, Nat.reduceBEq, reduceCtorEq, Int.reduceBEq, Int.reduceBNe, Int.reduceLT, Int.reduceLE, c10]))
  refine callT (bLog1 hb10 hatl hr10 (by omega)) ?_
  rintro v11 w11 ⟨ho11, a11, c11, rfl⟩
  (repeat (first | with_reducible refine run_seq ?_ | with_reducible refine run_reg ?_ | with_reducible refine run_block ?_ | with_reducible refine run_blk ?_ | with_reducible refine run_skip ?_ | with_reducible refine run_exit rfl ?_ | with_reducible refine run_drw ?_ | with_reducible refine run_condT ?_ | with_reducible refine run_ret' ?_ | with_reducible refine run_end' ?_ | simp only [go_sem, ↓reduceIte, Nat.reduceAdd, Nat.reduceEqDiff, Nat.reduceBEq, reduceCtorEq, Int.reduceBEq, Int.reduceBNe, Int.reduceLT, Int.reduceLE, beq_int_true (show ((1 : Nat) : Int) = 1 from rfl)]))
  exact (o07.nil o710).nil ho11
end Go.Proofs.YtgcofabdialaaaaGreat
