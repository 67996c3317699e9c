/- Heaps: claiming blocks. -/
import Derived.Test.YtgcofabdialaaaaGreatHpE
namespace Go.Proofs.YtgcofabdialaaaaGreat
set_option linter.unusedSimpArgs false
set_option linter.unusedVariables false
set_option maxRecDepth 8000

def bV (x : Int × Int) : List Value := [.int .i64 x.1, .int .i64 x.2]
theorem hBusy (w : World) (x : Int × Int) : Cs Tryz.prog 192 [.agg ⟨bV x⟩] w fun v w' => v = .bool (x != (0, 0)) ∧ Only [] w w' := by
  obtain ⟨a, b⟩ := x
  refine enter_heap_Heap_claim_1 rfl ?_
  unfold x_heap_Heap_claim_1
  (repeat (first | with_reducible refine run_seq ?_ | with_reducible refine run_reg ?_ | with_reducible refine run_block ?_ | with_reducible refine run_blk ?_ | with_reducible refine run_skip ?_ | with_reducible refine run_exit rfl ?_ | with_reducible refine run_drw ?_ | with_reducible refine run_condT ?_ | with_reducible refine run_ret' ?_ | with_reducible refine run_end' ?_ | simp only [go_sem, ↓reduceIte, Nat.reduceAdd, Nat.reduceEqDiff, Nat.reduceBEq, reduceCtorEq, Int.reduceBEq, Int.reduceBNe, Int.reduceLT, Int.reduceLE]))
  refine boxT fun q w1 hq hs1 hat ho1 => ?_
  have hc : cellsAt w1 ⟨q, 0, none⟩ 2 = some (bV (a, b)) := cellsAt_at hat 0 2 (by simp [bV])
  have e1 : eqAO true 2 (.agg ⟨bV (a, b)⟩) (.agg ⟨[.int .i64 0, .int .i64 0]⟩) = some (.bool ((a, b) != ((0, 0) : Int × Int))) := by
    unfold bV
    rw [eqAO_a true 2 _ _ rfl rfl]
    simp only [eqCells_cons, eqCells_nil]
    have e : ((a, b) != ((0, 0) : Int × Int)) = !(a == 0 && b == 0) := by
      rw [Bool.eq_iff_iff]
      simp only [bne_iff_ne, ne_eq, Prod.mk.injEq, Bool.not_eq_true', Bool.and_eq_false_iff, beq_eq_false_iff_ne]
      omega
    rw [e]
    by_cases h1 : a = 0 <;> by_cases h2 : b = 0 <;> simp [h1, h2, notO_some]
  (repeat (first | with_reducible refine run_seq ?_ | with_reducible refine run_reg ?_ | with_reducible refine run_block ?_ | with_reducible refine run_blk ?_ | with_reducible refine run_skip ?_ | with_reducible refine run_exit rfl ?_ | with_reducible refine run_drw ?_ | with_reducible refine run_condT ?_ | with_reducible refine run_ret' ?_ | with_reducible refine run_end' ?_ | simp only [go_sem, ↓reduceIte, Nat.reduceAdd, Nat.reduceEqDiff, Nat.reduceBEq, reduceCtorEq, Int.reduceBEq, Int.reduceBNe, Int.reduceLT, Int.reduceLE, hc, e1]))
  exact ho1
theorem hIdxB {w : World} {g o cap : Nat} {cs : List Value} {xs : List (Int × Int)} (hat : At w g cs) (hlen : xs.length ≤ 1000) (hcs : ∀ i, i < xs.length → o + i * 2 + 2 ≤ cs.length ∧ (cs.drop (o + i * 2)).take 2 = bV (xs.getD i (0, 0))) :
    Cs Tryz.prog 225 [.slice (some ⟨g, o, none⟩) xs.length cap, .func (.func 192) #[] #[]] w fun v w' => (∃ k : Int, v = .int .i64 k ∧ decide (0 ≤ k) = xs.any (· != (0, 0))) ∧ Only [] w w' := by
  refine enter_slices_IndexFunc___heap_block_heap_block_ rfl ?_
  unfold x_slices_IndexFunc___heap_block_heap_block_
  (repeat (first | with_reducible refine run_seq ?_ | with_reducible refine run_reg ?_ | with_reducible refine run_block ?_ | with_reducible refine run_blk ?_ | with_reducible refine run_skip ?_ | with_reducible refine run_exit rfl ?_ | with_reducible refine run_drw ?_ | with_reducible refine run_condT ?_ | with_reducible refine run_ret' ?_ | with_reducible refine run_end' ?_ | simp only [go_sem, ↓reduceIte, Nat.reduceAdd, Nat.reduceEqDiff, Nat.reduceBEq, reduceCtorEq, Int.reduceBEq, Int.reduceBNe, Int.reduceLT, Int.reduceLE]))
  refine run_loop (5 :: 8 :: 9 :: 10 :: 11 :: 12 :: 13 :: 14 :: 15 :: 16 :: 17 :: 18 :: []) (fun g w' => ∃ i : Nat, g 8 = .int .i64 i ∧ i ≤ xs.length ∧ (xs.take i).any (· != (0, 0)) = false ∧ Only [] w w') (fun g _ => upTo xs.length 8 g) ⟨0, by simp only [go_sem, ↓reduceIte, Nat.reduceAdd, Nat.reduceEqDiff, Nat.reduceBEq, reduceCtorEq, Int.reduceBEq, Int.reduceBNe, Int.reduceLT, Int.reduceLE]; rfl, by omega, by simp, Only.refl _ _⟩ fun g8 w' hI hnext => ?_
  obtain ⟨i, h8, hi, hany, ho⟩ := hI
  (repeat (first | with_reducible refine run_seq ?_ | with_reducible refine run_reg ?_ | with_reducible refine run_block ?_ | with_reducible refine run_blk ?_ | with_reducible refine run_skip ?_ | with_reducible refine run_exit rfl ?_ | with_reducible refine run_drw ?_ | with_reducible refine run_condT ?_ | with_reducible refine run_ret' ?_ | with_reducible refine run_end' ?_ | simp only [go_sem, ↓reduceIte, Nat.reduceAdd, Nat.reduceEqDiff, Nat.reduceBEq, reduceCtorEq, Int.reduceBEq, Int.reduceBNe, Int.reduceLT, Int.reduceLE, h8]))
  refine condT (fun hlt => ?_) (fun hge => ?_)
  · have hlt : i < xs.length := by simpa using hlt
    obtain ⟨k1, k2⟩ := hcs i hlt
    have c1 : (0 : Int) ≤ (i : Int) ∧ (i : Int) < (xs.length : Int) := ⟨by omega, by omega⟩
    have hc : cellsAt w' ⟨g, o + i * 2, none⟩ 2 = some (bV (xs.getD i (0, 0))) := by rw [cellsAt_at (hat.keep0 ho) (o + i * 2) 2 k1, k2]
    have hsucc : (xs.take (i + 1)).any (· != (0, 0)) = ((xs.take i).any (· != (0, 0)) || (xs.getD i (0, 0) != (0, 0))) := by
      rw [List.take_succ_eq_append_getElem hlt, List.any_append]
      simp [hlt]
    (repeat (first | with_reducible refine run_seq ?_ | with_reducible refine run_reg ?_ | with_reducible refine run_block ?_ | with_reducible refine run_blk ?_ | with_reducible refine run_skip ?_ | with_reducible refine run_exit rfl ?_ | with_reducible refine run_drw ?_ | with_reducible refine run_condT ?_ | with_reducible refine run_ret' ?_ | with_reducible refine run_end' ?_ | simp only [go_sem, ↓reduceIte, Nat.reduceAdd, Nat.reduceEqDiff, Nat.reduceBEq, reduceCtorEq, Int.reduceBEq, Int.reduceBNe, Int.reduceLT, Int.reduceLE, h8, if_pos c1, Int.toNat_natCast, hc]))
    refine callVT (callVals_f _ #[] _ #[]) (by kernel_rfl) (hBusy w' (xs.getD i (0, 0))) ?_
    rintro v w2 ⟨rfl, ho2⟩
    (repeat (first | with_reducible refine run_seq ?_ | with_reducible refine run_reg ?_ | with_reducible refine run_block ?_ | with_reducible refine run_blk ?_ | with_reducible refine run_skip ?_ | with_reducible refine run_exit rfl ?_ | with_reducible refine run_drw ?_ | with_reducible refine run_condT ?_ | with_reducible refine run_ret' ?_ | with_reducible refine run_end' ?_ | simp only [go_sem, ↓reduceIte, Nat.reduceAdd, Nat.reduceEqDiff, Nat.reduceBEq, reduceCtorEq, Int.reduceBEq, Int.reduceBNe, Int.reduceLT, Int.reduceLE]))
    refine condT (fun hp => ?_) (fun hp => ?_)
    · (repeat (first | with_reducible refine run_seq ?_ | with_reducible refine run_reg ?_ | with_reducible refine run_block ?_ | with_reducible refine run_blk ?_ | with_reducible refine run_skip ?_ | with_reducible refine run_exit rfl ?_ | with_reducible refine run_drw ?_ | with_reducible refine run_condT ?_ | with_reducible refine run_ret' ?_ | with_reducible refine run_end' ?_ | simp only [go_sem, ↓reduceIte, Nat.reduceAdd, Nat.reduceEqDiff, Nat.reduceBEq, reduceCtorEq, Int.reduceBEq, Int.reduceBNe, Int.reduceLT, Int.reduceLE]))
      refine ⟨⟨i, rfl, ?_⟩, ho.nil ho2⟩
      have : xs.any (· != (0, 0)) = true := List.any_eq_true.2 ⟨xs[i], List.getElem_mem hlt, by simpa [hlt] using hp⟩
      rw [this]; simp
    · (repeat (first | with_reducible refine run_seq ?_ | with_reducible refine run_reg ?_ | with_reducible refine run_block ?_ | with_reducible refine run_blk ?_ | with_reducible refine run_skip ?_ | with_reducible refine run_exit rfl ?_ | with_reducible refine run_drw ?_ | with_reducible refine run_condT ?_ | with_reducible refine run_ret' ?_ | with_reducible refine run_end' ?_ | simp only [go_sem, ↓reduceIte, Nat.reduceAdd, Nat.reduceEqDiff, Nat.reduceBEq, reduceCtorEq, Int.reduceBEq, Int.reduceBNe, Int.reduceLT, Int.reduceLE, h8, i64_succ i (by omega)]))
      refine hnext _ w2 ?_ ⟨i + 1, ?_, by omega, by rw [hsucc, hany, hp]; rfl, ho.nil ho2⟩ ?_
      · (repeat (first | with_reducible exact Keeps.refl _ _ | with_reducible exact Keeps.ovr _ _ _ | refine Keeps.put ?_ rfl _ | exact Keeps.refl _ _ | exact Keeps.ovr _ _ _ | refine Keeps.ovr2 ?_ rfl _))
      · simp only [go_sem, ↓reduceIte, Nat.reduceAdd, Nat.reduceEqDiff, Nat.reduceBEq, reduceCtorEq, Int.reduceBEq, Int.reduceBNe, Int.reduceLT, Int.reduceLE]
      · rw [upTo_int h8, upTo_int (k := .i64) (i := i + 1) (by simp only [go_sem, ↓reduceIte, Nat.reduceAdd, Nat.reduceEqDiff, Nat.reduceBEq, reduceCtorEq, Int.reduceBEq, Int.reduceBNe, Int.reduceLT, Int.reduceLE])]; omega
  · have : i = xs.length := by have : ¬ (i < xs.length) := by simpa using hge
                               omega
    subst this
    (repeat (first | with_reducible refine run_seq ?_ | with_reducible refine run_reg ?_ | with_reducible refine run_block ?_ | with_reducible refine run_blk ?_ | with_reducible refine run_skip ?_ | with_reducible refine run_exit rfl ?_ | with_reducible refine run_drw ?_ | with_reducible refine run_condT ?_ | with_reducible refine run_ret' ?_ | with_reducible refine run_end' ?_ | simp only [go_sem, ↓reduceIte, Nat.reduceAdd, Nat.reduceEqDiff, Nat.reduceBEq, reduceCtorEq, Int.reduceBEq, Int.reduceBNe, Int.reduceLT, Int.reduceLE]))
    refine ⟨⟨-1, rfl, ?_⟩, ho⟩
    rw [List.take_length] at hany
    rw [hany]; rfl
theorem hContB {w : World} {g o cap : Nat} {cs : List Value} {xs : List (Int × Int)} (hat : At w g cs) (hlen : xs.length ≤ 1000) (hcs : ∀ i, i < xs.length → o + i * 2 + 2 ≤ cs.length ∧ (cs.drop (o + i * 2)).take 2 = bV (xs.getD i (0, 0))) :
    Cs Tryz.prog 191 [.slice (some ⟨g, o, none⟩) xs.length cap, .func (.func 192) #[] #[]] w fun v w' => v = .bool (xs.any (· != (0, 0))) ∧ Only [] w w' := by
  refine enter_slices_ContainsFunc___heap_block_heap_block_ rfl ?_
  unfold x_slices_ContainsFunc___heap_block_heap_block_
  (repeat (first | with_reducible refine run_seq ?_ | with_reducible refine run_reg ?_ | with_reducible refine run_block ?_ | with_reducible refine run_blk ?_ | with_reducible refine run_skip ?_ | with_reducible refine run_exit rfl ?_ | with_reducible refine run_drw ?_ | with_reducible refine run_condT ?_ | with_reducible refine run_ret' ?_ | with_reducible refine run_end' ?_ | simp only [go_sem, ↓reduceIte, Nat.reduceAdd, Nat.reduceEqDiff, Nat.reduceBEq, reduceCtorEq, Int.reduceBEq, Int.reduceBNe, Int.reduceLT, Int.reduceLE]))
  refine callT (hIdxB hat hlen hcs) ?_
  rintro v w' ⟨⟨k, rfl, hk⟩, ho⟩
  (repeat (first | with_reducible refine run_seq ?_ | with_reducible refine run_reg ?_ | with_reducible refine run_block ?_ | with_reducible refine run_blk ?_ | with_reducible refine run_skip ?_ | with_reducible refine run_exit rfl ?_ | with_reducible refine run_drw ?_ | with_reducible refine run_condT ?_ | with_reducible refine run_ret' ?_ | with_reducible refine run_end' ?_ | simp only [go_sem, ↓reduceIte, Nat.reduceAdd, Nat.reduceEqDiff, Nat.reduceBEq, reduceCtorEq, Int.reduceBEq, Int.reduceBNe, Int.reduceLT, Int.reduceLE, hk]))
  exact ho
theorem blkV_drop {B : List (Int × Int)} {i : Nat} (rest : List Value) (h : i < B.length) : ((blkV B ++ rest).drop (i * 2)).take 2 = bV (B.getD i (0, 0)) := by
  induction B generalizing i with
  | nil => simp at h
  | cons x B ih =>
    cases i with
    | zero => rfl
    | succ i =>
      have h' : i < B.length := by simpa using h
      have e : blkV (x :: B) ++ rest = .int .i64 x.1 :: .int .i64 x.2 :: (blkV B ++ rest) := rfl
      rw [e, show (i + 1) * 2 = i * 2 + 1 + 1 by omega, List.drop_succ_cons, List.drop_succ_cons, ih h']
      simp
theorem blkV_set {B : List (Int × Int)} {i : Nat} {x : Int × Int} (rest : List Value) (h : i < B.length) : setL (blkV B ++ rest) (i * 2) (bV x) = blkV (B.set i x) ++ rest := by
  induction B generalizing i with
  | nil => simp at h
  | cons y B ih =>
    cases i with
    | zero => rfl
    | succ i =>
      have h' : i < B.length := by simpa using h
      have ih' := ih h'
      have e : blkV (y :: B) ++ rest = .int .i64 y.1 :: .int .i64 y.2 :: (blkV B ++ rest) := rfl
      have e2 : blkV ((y :: B).set (i + 1) x) ++ rest = .int .i64 y.1 :: .int .i64 y.2 :: (blkV (B.set i x) ++ rest) := rfl
      rw [e, e2, ← ih', show (i + 1) * 2 = i * 2 + 1 + 1 by omega]
      rfl
theorem bV_one (x : Int × Int) : ∀ u, u ∈ bV x → oneC u = true := by simp [bV, oneC]
theorem HL.Ok.setB {s : HL} (h : s.Ok) {B' : List (Int × Int)} (hl : B'.length = s.B.length) : HL.Ok { s with B := B' } :=
  ⟨by simpa only [hl] using h.b2, by simpa only [hl] using h.b64, by simpa only [hl] using h.wl, by simpa only [hl] using h.sl, by simpa only [hl] using h.pl, h.fit, h.dj⟩
theorem HMs.setB {w w' : World} {b : Nat} {s : HL} {gB gW cB cW : Nat} {yB yW : List Value} {sb sg pb pg bl bf : Nat} (h : HMs w b s gB gW cB cW yB yW sb sg pb pg bl bf) {B' : List (Int × Int)} (hl : B'.length = s.B.length) (hat : At w' gB (blkV B' ++ yB)) (ho : Only [gB] w w') :
    HMs w' b { s with B := B' } gB gW cB cW yB yW sb sg pb pg bl bf := by
  obtain ⟨⟨n1, n2, n3, n4, n5, n6, n7, n8⟩, ⟨m2, m3, m4, m5, m6, m7, m8⟩, _⟩ := nd9 h.nd
  refine ⟨h.ok.setB hl, ?_, hat, h.hW.keep ho (off1 m2.symm), by simpa only [hl] using h.cB, h.cW, h.hs.keep ho (off1 m3.symm) (off1 m4.symm), h.hp.keep ho (off1 m5.symm) (off1 m6.symm), h.hl.keep ho (off1 m7.symm), h.hf.keep ho (off1 m8.symm), h.nd⟩
  rw [show ({ s with B := B' } : HL).B.length = s.B.length from hl]
  exact h.hb.keep ho (off1 n1)
theorem hClaims {w : World} {a : Option Addr} {fp : List Nat} {m : HO} (h : HR w a fp m) (x many : Int) (first more : Int × Int) (hx : x ≤ 4611686018427387904) (hm : many ≤ 4611686018427387904) :
    Cs Tryz.prog 121 [.pointer a, .int .i64 x, .int .i64 many, .agg ⟨bV first⟩, .agg ⟨bV more⟩] w fun v w' => v = .int .i64 (claimE m x many first) ∧ HR w' a fp (claimM m x many first more) ∧ Only fp w w' := by
  refine enter_heap_Heap_claim rfl ?_
  unfold x_heap_Heap_claim
  (repeat (first | with_reducible refine run_seq ?_ | with_reducible refine run_reg ?_ | with_reducible refine run_block ?_ | with_reducible refine run_blk ?_ | with_reducible refine run_skip ?_ | with_reducible refine run_exit rfl ?_ | with_reducible refine run_drw ?_ | with_reducible refine run_condT ?_ | with_reducible refine run_ret' ?_ | with_reducible refine run_end' ?_ | simp only [go_sem, ↓reduceIte, Nat.reduceAdd, Nat.reduceEqDiff, Nat.reduceBEq, reduceCtorEq, Int.reduceBEq, Int.reduceBNe, Int.reduceLT, Int.reduceLE]))
  refine boxT fun q w1 hq hs1 hat1 ho1 => ?_
  (repeat (first | with_reducible refine run_seq ?_ | with_reducible refine run_reg ?_ | with_reducible refine run_block ?_ | with_reducible refine run_blk ?_ | with_reducible refine run_skip ?_ | with_reducible refine run_exit rfl ?_ | with_reducible refine run_drw ?_ | with_reducible refine run_condT ?_ | with_reducible refine run_ret' ?_ | with_reducible refine run_end' ?_ | simp only [go_sem, ↓reduceIte, Nat.reduceAdd, Nat.reduceEqDiff, Nat.reduceBEq, reduceCtorEq, Int.reduceBEq, Int.reduceBNe, Int.reduceLT, Int.reduceLE]))
  refine boxT fun q2 w2 hq2 hs2 hat2 ho2 => ?_
  have o2 := ho1.nil ho2
  have hF2 := hat1.keep0 ho2
  (repeat (first | with_reducible refine run_seq ?_ | with_reducible refine run_reg ?_ | with_reducible refine run_block ?_ | with_reducible refine run_blk ?_ | with_reducible refine run_skip ?_ | with_reducible refine run_exit rfl ?_ | with_reducible refine run_drw ?_ | with_reducible refine run_condT ?_ | with_reducible refine run_ret' ?_ | with_reducible refine run_end' ?_ | simp only [go_sem, ↓reduceIte, Nat.reduceAdd, Nat.reduceEqDiff, Nat.reduceBEq, reduceCtorEq, Int.reduceBEq, Int.reduceBNe, Int.reduceLT, Int.reduceLE]))
  refine callT0 (hMade (h.keep0 o2)) ?_
  match m, h with
  | none, h => (repeat (first | with_reducible refine run_seq ?_ | with_reducible refine run_reg ?_ | with_reducible refine run_block ?_ | with_reducible refine run_blk ?_ | with_reducible refine run_skip ?_ | with_reducible refine run_exit rfl ?_ | with_reducible refine run_drw ?_ | with_reducible refine run_condT ?_ | with_reducible refine run_ret' ?_ | with_reducible refine run_end' ?_ | simp only [go_sem, ↓reduceIte, Nat.reduceAdd, Nat.reduceEqDiff, Nat.reduceBEq, reduceCtorEq, Int.reduceBEq, Int.reduceBNe, Int.reduceLT, Int.reduceLE])); exact ⟨rfl, h.keep0 o2, o2.of_nil⟩
  | some s, h0@⟨b, h1, gB, gW, cB, cW, yB, yW, sb, sg, pb, pg, bl, bf, h2, h3⟩ =>
    subst h1
    have h3' := h3.keep0 o2
    have hB64 := h3.ok.b64
    have bad : claimE (some s) x many first = 1 → (Value.int .i64 1 = Value.int .i64 (claimE (some s) x many first) ∧ HR w2 (some ⟨b, 0, none⟩) fp (claimM (some s) x many first more) ∧ Only fp w w2) := fun e => by
      rw [e]
      have : claimM (some s) x many first more = some s := by unfold claimM; simp only [e]; rfl
      rw [this]
      exact ⟨rfl, HR.keep0 (m := some s) h0 o2, o2.of_nil⟩
    (repeat (first | with_reducible refine run_seq ?_ | with_reducible refine run_reg ?_ | with_reducible refine run_block ?_ | with_reducible refine run_blk ?_ | with_reducible refine run_skip ?_ | with_reducible refine run_exit rfl ?_ | with_reducible refine run_drw ?_ | with_reducible refine run_condT ?_ | with_reducible refine run_ret' ?_ | with_reducible refine run_end' ?_ | simp only [go_sem, ↓reduceIte, Nat.reduceAdd, Nat.reduceEqDiff, Nat.reduceBEq, reduceCtorEq, Int.reduceBEq, Int.reduceBNe, Int.reduceLT, Int.reduceLE]))
    refine callT0 (hThere (HR.keep0 (m := some s) h0 o2) x) ?_
    cases ht : thereO (some s) x with
    | false =>
      (repeat (first | with_reducible refine run_seq ?_ | with_reducible refine run_reg ?_ | with_reducible refine run_block ?_ | with_reducible refine run_blk ?_ | with_reducible refine run_skip ?_ | with_reducible refine run_exit rfl ?_ | with_reducible refine run_drw ?_ | with_reducible refine run_condT ?_ | with_reducible refine run_ret' ?_ | with_reducible refine run_end' ?_ | simp only [go_sem, ↓reduceIte, Nat.reduceAdd, Nat.reduceEqDiff, Nat.reduceBEq, reduceCtorEq, Int.reduceBEq, Int.reduceBNe, Int.reduceLT, Int.reduceLE]))
      exact bad (by unfold claimE; simp only [ht, true_or, if_true])
    | true =>
      have ht' := ht
      simp only [thereO, Bool.and_eq_true, decide_eq_true_eq] at ht'
      obtain ⟨k, rfl⟩ : ∃ k : Nat, x = k := ⟨x.toNat, by omega⟩
      by_cases c1 : many < 1
      · (repeat (first | with_reducible refine run_seq ?_ | with_reducible refine run_reg ?_ | with_reducible refine run_block ?_ | with_reducible refine run_blk ?_ | with_reducible refine run_skip ?_ | with_reducible refine run_exit rfl ?_ | with_reducible refine run_drw ?_ | with_reducible refine run_condT ?_ | with_reducible refine run_ret' ?_ | with_reducible refine run_end' ?_ | simp only [go_sem, ↓reduceIte, Nat.reduceAdd, Nat.reduceEqDiff, Nat.reduceBEq, reduceCtorEq, Int.reduceBEq, Int.reduceBNe, Int.reduceLT, Int.reduceLE, decide_eq_true c1]))
        exact bad (by unfold claimE; simp only [c1, true_or, or_true, if_true])
      have e1 : IntKind.i64.wrap ((s.B.length : Int) - (k : Int)) = (s.B.length : Int) - (k : Int) := IntWalk.i64_in _ (by omega)
      by_cases c2 : (s.B.length : Int) - (k : Int) < many
      · (repeat (first | with_reducible refine run_seq ?_ | with_reducible refine run_reg ?_ | with_reducible refine run_block ?_ | with_reducible refine run_blk ?_ | with_reducible refine run_skip ?_ | with_reducible refine run_exit rfl ?_ | with_reducible refine run_drw ?_ | with_reducible refine run_condT ?_ | with_reducible refine run_ret' ?_ | with_reducible refine run_end' ?_ | simp only [go_sem, ↓reduceIte, Nat.reduceAdd, Nat.reduceEqDiff, Nat.reduceBEq, reduceCtorEq, Int.reduceBEq, Int.reduceBNe, Int.reduceLT, Int.reduceLE, decide_eq_false c1, h3'.hb.cell, e1, decide_eq_true c2]))
        exact bad (by unfold claimE; simp only [c2, true_or, or_true, if_true])
      obtain ⟨n, rfl⟩ : ∃ n : Nat, many = n := ⟨many.toNat, by omega⟩
      have cf1 := hF2.cell 1
      simp only [bV, List.getElem?_cons_zero, List.getElem?_cons_succ] at cf1
      (repeat (first | with_reducible refine run_seq ?_ | with_reducible refine run_reg ?_ | with_reducible refine run_block ?_ | with_reducible refine run_blk ?_ | with_reducible refine run_skip ?_ | with_reducible refine run_exit rfl ?_ | with_reducible refine run_drw ?_ | with_reducible refine run_condT ?_ | with_reducible refine run_ret' ?_ | with_reducible refine run_end' ?_ | simp only [go_sem, ↓reduceIte, Nat.reduceAdd, Nat.reduceEqDiff, Nat.reduceBEq, reduceCtorEq, Int.reduceBEq, Int.reduceBNe, Int.reduceLT, Int.reduceLE, decide_eq_false c1, h3'.hb.cell, e1, decide_eq_false c2, cf1]))
      refine callT0 (hSpaceB w2 first.2) ?_
      cases hsp : spaceB first.2 with
      | false =>
        (repeat (first | with_reducible refine run_seq ?_ | with_reducible refine run_reg ?_ | with_reducible refine run_block ?_ | with_reducible refine run_blk ?_ | with_reducible refine run_skip ?_ | with_reducible refine run_exit rfl ?_ | with_reducible refine run_drw ?_ | with_reducible refine run_condT ?_ | with_reducible refine run_ret' ?_ | with_reducible refine run_end' ?_ | simp only [go_sem, ↓reduceIte, Nat.reduceAdd, Nat.reduceEqDiff, Nat.reduceBEq, reduceCtorEq, Int.reduceBEq, Int.reduceBNe, Int.reduceLT, Int.reduceLE]))
        exact bad (by unfold claimE; simp only [hsp, or_true, if_true])
      | true =>
        have e2 : IntKind.i64.wrap ((k : Int) + (n : Int)) = ((k + n : Nat) : Int) := i64_of_nat (k + n) (by omega)
        have hcB := h3.cB
        have e3 := slcO_lh (size := 2) (n := s.B.length) (cap := cB) (l := k) (h := k + n) (k := .i64) (k' := .i64) (p := ⟨gB, 0, none⟩) (by omega) (by omega) (by omega)
        simp only [addr_add, Nat.zero_add, Nat.add_sub_cancel_left] at e3
        (repeat (first | with_reducible refine run_seq ?_ | with_reducible refine run_reg ?_ | with_reducible refine run_block ?_ | with_reducible refine run_blk ?_ | with_reducible refine run_skip ?_ | with_reducible refine run_exit rfl ?_ | with_reducible refine run_drw ?_ | with_reducible refine run_condT ?_ | with_reducible refine run_ret' ?_ | with_reducible refine run_end' ?_ | simp only [go_sem, ↓reduceIte, Nat.reduceAdd, Nat.reduceEqDiff, Nat.reduceBEq, reduceCtorEq, Int.reduceBEq, Int.reduceBNe, Int.reduceLT, Int.reduceLE, h3'.hb.cell, e2, e3]))
        have hxl : ((s.B.drop k).take n).length = n := by rw [List.length_take, List.length_drop]; omega
        have hcs : ∀ i, i < ((s.B.drop k).take n).length → k * 2 + i * 2 + 2 ≤ (blkV s.B ++ yB).length ∧ ((blkV s.B ++ yB).drop (k * 2 + i * 2)).take 2 = bV (((s.B.drop k).take n).getD i (0, 0)) := by
          intro i hi
          rw [hxl] at hi
          refine ⟨by rw [List.length_append, blkV_len]; omega, ?_⟩
          rw [show k * 2 + i * 2 = (k + i) * 2 by omega, blkV_drop yB (by omega)]
          congr 1
          simp only [List.getD_eq_getElem?_getD]
          rw [List.getElem?_take_of_lt hi, List.getElem?_drop]
        have hcont := hContB (cap := cB - k) h3'.hB (by rw [hxl]; omega) hcs
        rw [hxl] at hcont
        refine callT1 hcont fun w3 ho3 => ?_
        have o3 := o2.nil ho3
        have hcl : claimE (some s) (k : Int) (n : Int) first = if ((s.B.drop k).take n).any (fun x => x != (0, 0)) = true then 8 else 0 := by
          unfold claimE
          simp only [ht, hsp, Bool.true_eq_false, c1, c2, or_self, if_false, Int.toNat_natCast]
        cases hany : ((s.B.drop k).take n).any (fun x => x != (0, 0)) with
        | true =>
          rw [hany, if_pos rfl] at hcl
          (repeat (first | with_reducible refine run_seq ?_ | with_reducible refine run_reg ?_ | with_reducible refine run_block ?_ | with_reducible refine run_blk ?_ | with_reducible refine run_skip ?_ | with_reducible refine run_exit rfl ?_ | with_reducible refine run_drw ?_ | with_reducible refine run_condT ?_ | with_reducible refine run_ret' ?_ | with_reducible refine run_end' ?_ | simp only [go_sem, ↓reduceIte, Nat.reduceAdd, Nat.reduceEqDiff, Nat.reduceBEq, reduceCtorEq, Int.reduceBEq, Int.reduceBNe, Int.reduceLT, Int.reduceLE]))
          rw [hcl]
          have : claimM (some s) (k : Int) (n : Int) first more = some s := by unfold claimM; simp only [hcl]; rfl
          rw [this]
          exact ⟨rfl, HR.keep0 (m := some s) h0 o3, o3.of_nil⟩
        | false =>
          rw [hany, if_neg (by simp)] at hcl
          have hcm : claimM (some s) (k : Int) (n : Int) first more = some { s with B := (fillB s.B k more n).set k first } := by unfold claimM; simp only [hcl, if_true, Int.toNat_natCast]
          rw [hcl, hcm]
          have h33 := h3'.keep0 ho3
          have hlt := h3.lt
          have hq1n : q ≠ gB := by have := hlt gB (by simp); omega
          have hz1 := ho1.size
          have hq2n : q2 ≠ gB := by have := hlt gB (by simp); omega
          have hF3 := hF2.keep0 ho3
          have hM3 := hat2.keep0 ho3
          obtain ⟨⟨n1, _⟩, _⟩ := nd9 h3.nd
          (repeat (first | with_reducible refine run_seq ?_ | with_reducible refine run_reg ?_ | with_reducible refine run_block ?_ | with_reducible refine run_blk ?_ | with_reducible refine run_skip ?_ | with_reducible refine run_exit rfl ?_ | with_reducible refine run_drw ?_ | with_reducible refine run_condT ?_ | with_reducible refine run_ret' ?_ | with_reducible refine run_end' ?_ | simp only [go_sem, ↓reduceIte, Nat.reduceAdd, Nat.reduceEqDiff, Nat.reduceBEq, reduceCtorEq, Int.reduceBEq, Int.reduceBNe, Int.reduceLT, Int.reduceLE]))
          refine run_loop (11 :: 54 :: 55 :: 56 :: 57 :: 58 :: 59 :: 60 :: 61 :: 62 :: 63 :: 64 :: 65 :: 66 :: []) (fun g w' => ∃ j : Nat, g 54 = .int .i64 j ∧ j ≤ n ∧ At w' gB (blkV (fillB s.B k more j) ++ yB) ∧ Only [gB] w3 w') (fun g _ => upTo n 54 g)
            ⟨0, by simp only [go_sem, ↓reduceIte, Nat.reduceAdd, Nat.reduceEqDiff, Nat.reduceBEq, reduceCtorEq, Int.reduceBEq, Int.reduceBNe, Int.reduceLT, Int.reduceLE]; rfl, by omega, h33.hB, Only.refl _ _⟩ fun g w4 hI hnext => ?_
          obtain ⟨j, h54, hj, hat4, ho4⟩ := hI
          have hb4 := h33.hb.keep ho4 (off1 n1)
          (repeat (first | with_reducible refine run_seq ?_ | with_reducible refine run_reg ?_ | with_reducible refine run_block ?_ | with_reducible refine run_blk ?_ | with_reducible refine run_skip ?_ | with_reducible refine run_exit rfl ?_ | with_reducible refine run_drw ?_ | with_reducible refine run_condT ?_ | with_reducible refine run_ret' ?_ | with_reducible refine run_end' ?_ | simp only [go_sem, ↓reduceIte, Nat.reduceAdd, Nat.reduceEqDiff, Nat.reduceBEq, reduceCtorEq, Int.reduceBEq, Int.reduceBNe, Int.reduceLT, Int.reduceLE, h54]))
          refine condT (fun hlt4 => ?_) (fun hge4 => ?_)
          · have hlt4 : j < n := by simpa using hlt4
            have hM4 := hM3.keep ho4 (off1 hq2n)
            have hc4 : cellsAt w4 ⟨q2, 0, none⟩ 2 = some (bV more) := cellsAt_at hM4 0 2 (by simp [bV])
            have e4 : IntKind.i64.wrap ((k : Int) + (j : Int)) = ((k + j : Nat) : Int) := i64_of_nat (k + j) (by omega)
            have e5 : (0 : Int) ≤ ((k + j : Nat) : Int) ∧ ((k + j : Nat) : Int) < (s.B.length : Int) := ⟨by omega, by omega⟩
            (repeat (first | with_reducible refine run_seq ?_ | with_reducible refine run_reg ?_ | with_reducible refine run_block ?_ | with_reducible refine run_blk ?_ | with_reducible refine run_skip ?_ | with_reducible refine run_exit rfl ?_ | with_reducible refine run_drw ?_ | with_reducible refine run_condT ?_ | with_reducible refine run_ret' ?_ | with_reducible refine run_end' ?_ | simp only [go_sem, ↓reduceIte, Nat.reduceAdd, Nat.reduceEqDiff, Nat.reduceBEq, reduceCtorEq, Int.reduceBEq, Int.reduceBNe, Int.reduceLT, Int.reduceLE, h54, hb4.cell, e4, hc4, if_pos e5, Int.toNat_natCast]))
            refine stNT (cs := bV more) (n := 2) (i := (k + j) * 2) hat4.drew rfl (by rw [List.length_append, blkV_len, fillB_len]; omega) (bV_one _) fun w5 hs5 hat5 ho5 => ?_
            rw [blkV_set yB (by rw [fillB_len]; omega)] at hat5
            (repeat (first | with_reducible refine run_seq ?_ | with_reducible refine run_reg ?_ | with_reducible refine run_block ?_ | with_reducible refine run_blk ?_ | with_reducible refine run_skip ?_ | with_reducible refine run_exit rfl ?_ | with_reducible refine run_drw ?_ | with_reducible refine run_condT ?_ | with_reducible refine run_ret' ?_ | with_reducible refine run_end' ?_ | simp only [go_sem, ↓reduceIte, Nat.reduceAdd, Nat.reduceEqDiff, Nat.reduceBEq, reduceCtorEq, Int.reduceBEq, Int.reduceBNe, Int.reduceLT, Int.reduceLE, h54, i64_succ j (by omega)]))
            refine hnext _ w5 ?_ ⟨j + 1, ?_, by omega, hat5, ho4.same (((Only.drew [] w4).of_nil (T := [gB])).same ho5)⟩ ?_
            · (repeat (first | with_reducible exact Keeps.refl _ _ | with_reducible exact Keeps.ovr _ _ _ | refine Keeps.put ?_ rfl _ | exact Keeps.refl _ _ | exact Keeps.ovr _ _ _ | refine Keeps.ovr2 ?_ rfl _))
            · simp only [go_sem, ↓reduceIte, Nat.reduceAdd, Nat.reduceEqDiff, Nat.reduceBEq, reduceCtorEq, Int.reduceBEq, Int.reduceBNe, Int.reduceLT, Int.reduceLE]
            · rw [upTo_int h54, upTo_int (k := .i64) (i := j + 1) (by simp only [go_sem, ↓reduceIte, Nat.reduceAdd, Nat.reduceEqDiff, Nat.reduceBEq, reduceCtorEq, Int.reduceBEq, Int.reduceBNe, Int.reduceLT, Int.reduceLE])]; omega
          · have : j = n := by have : ¬ j < n := by simpa using hge4
                               omega
            subst this
            have hF4 := hF3.keep ho4 (off1 hq1n)
            have hc4 : cellsAt w4 ⟨q, 0, none⟩ 2 = some (bV first) := cellsAt_at hF4 0 2 (by simp [bV])
            have e5 : (0 : Int) ≤ (k : Int) ∧ (k : Int) < (s.B.length : Int) := ⟨by omega, by omega⟩
            (repeat (first | with_reducible refine run_seq ?_ | with_reducible refine run_reg ?_ | with_reducible refine run_block ?_ | with_reducible refine run_blk ?_ | with_reducible refine run_skip ?_ | with_reducible refine run_exit rfl ?_ | with_reducible refine run_drw ?_ | with_reducible refine run_condT ?_ | with_reducible refine run_ret' ?_ | with_reducible refine run_end' ?_ | simp only [go_sem, ↓reduceIte, Nat.reduceAdd, Nat.reduceEqDiff, Nat.reduceBEq, reduceCtorEq, Int.reduceBEq, Int.reduceBNe, Int.reduceLT, Int.reduceLE, hb4.cell, hc4, if_pos e5, Int.toNat_natCast]))
            refine stNT (cs := bV first) (n := 2) (i := k * 2) hat4.drew rfl (by rw [List.length_append, blkV_len, fillB_len]; omega) (bV_one _) fun w5 hs5 hat5 ho5 => ?_
            rw [blkV_set yB (by rw [fillB_len]; omega)] at hat5
            have o5 : Only [gB] w3 w5 := ho4.same (((Only.drew [] w4).of_nil (T := [gB])).same ho5)
            (repeat (first | with_reducible refine run_seq ?_ | with_reducible refine run_reg ?_ | with_reducible refine run_block ?_ | with_reducible refine run_blk ?_ | with_reducible refine run_skip ?_ | with_reducible refine run_exit rfl ?_ | with_reducible refine run_drw ?_ | with_reducible refine run_condT ?_ | with_reducible refine run_ret' ?_ | with_reducible refine run_end' ?_ | simp only [go_sem, ↓reduceIte, Nat.reduceAdd, Nat.reduceEqDiff, Nat.reduceBEq, reduceCtorEq, Int.reduceBEq, Int.reduceBNe, Int.reduceLT, Int.reduceLE]))
            refine ⟨⟨b, rfl, gB, gW, cB, cW, yB, yW, sb, sg, pb, pg, bl, bf, h2, h33.setB (by simp [fillB_len]) hat5 o5⟩, ?_⟩
            exact (o3.of_nil (T := fp)).trans o5 fun z hz => by simp only [List.mem_singleton] at hz; subst hz; exact .inl (by rw [h2]; simp)
theorem hClaim {w : World} {a : Option Addr} {fp : List Nat} {m : HO} (h : HR w a fp m) (x sp : Int) (hx : x ≤ 4611686018427387904) : Cs Tryz.prog 48 [.pointer a, .int .i64 x, .int .i64 sp] w fun v w' => v = .int .i64 (claimE m x 1 (1, sp)) ∧ HR w' a fp (claimM m x 1 (1, sp) (0, 0)) ∧ Only fp w w' := by
  refine enter_heap_Heap_Claim rfl ?_
  unfold x_heap_Heap_Claim
  (repeat (first | with_reducible refine run_seq ?_ | with_reducible refine run_reg ?_ | with_reducible refine run_block ?_ | with_reducible refine run_blk ?_ | with_reducible refine run_skip ?_ | with_reducible refine run_exit rfl ?_ | with_reducible refine run_drw ?_ | with_reducible refine run_condT ?_ | with_reducible refine run_ret' ?_ | with_reducible refine run_end' ?_ | simp only [go_sem, ↓reduceIte, Nat.reduceAdd, Nat.reduceEqDiff, Nat.reduceBEq, reduceCtorEq, Int.reduceBEq, Int.reduceBNe, Int.reduceLT, Int.reduceLE]))
  rw [fillL_one rfl rfl, fillL_one rfl rfl]
  (repeat (first | with_reducible refine run_seq ?_ | with_reducible refine run_reg ?_ | with_reducible refine run_block ?_ | with_reducible refine run_blk ?_ | with_reducible refine run_skip ?_ | with_reducible refine run_exit rfl ?_ | with_reducible refine run_drw ?_ | with_reducible refine run_condT ?_ | with_reducible refine run_ret' ?_ | with_reducible refine run_end' ?_ | simp only [go_sem, ↓reduceIte, Nat.reduceAdd, Nat.reduceEqDiff, Nat.reduceBEq, reduceCtorEq, Int.reduceBEq, Int.reduceBNe, Int.reduceLT, Int.reduceLE]))
  refine callT (hClaims h x 1 (1, sp) (0, 0) hx (by omega)) ?_
  rintro v w' ⟨rfl, hr, ho⟩
  (repeat (first | with_reducible refine run_seq ?_ | with_reducible refine run_reg ?_ | with_reducible refine run_block ?_ | with_reducible refine run_blk ?_ | with_reducible refine run_skip ?_ | with_reducible refine run_exit rfl ?_ | with_reducible refine run_drw ?_ | with_reducible refine run_condT ?_ | with_reducible refine run_ret' ?_ | with_reducible refine run_end' ?_ | simp only [go_sem, ↓reduceIte, Nat.reduceAdd, Nat.reduceEqDiff, Nat.reduceBEq, reduceCtorEq, Int.reduceBEq, Int.reduceBNe, Int.reduceLT, Int.reduceLE]))
  exact ⟨hr, ho⟩
end Go.Proofs.YtgcofabdialaaaaGreat
