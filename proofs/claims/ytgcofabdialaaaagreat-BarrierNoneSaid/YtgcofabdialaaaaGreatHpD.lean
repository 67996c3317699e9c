/- Heaps: Find, fits, Place, for small objects. -/
import Derived.Test.YtgcofabdialaaaaGreatHpC
namespace Go.Proofs.YtgcofabdialaaaaGreat
set_option linter.unusedSimpArgs false
set_option linter.unusedVariables false
set_option maxRecDepth 8000

theorem lastI_spec {p : Nat → Bool} : ∀ {n i : Nat}, lastI p n = some i → i < n ∧ p i = true
  | 0, i, h => by cases h
  | n + 1, i, h => by
    simp only [lastI] at h
    by_cases hp : p n = true
    · rw [if_pos hp] at h; cases h; exact ⟨Nat.lt_succ_self _, hp⟩
    · rw [if_neg hp] at h
      have := lastI_spec h
      exact ⟨by omega, this.2⟩
theorem hFind {w : World} {a : Option Addr} {fp : List Nat} {m : HO} (h : HR w a fp m) (x : Int) (hx : x ≤ 4611686018427387904) : Cs Tryz.prog 194 [.pointer a, .int .i64 x] w fun v w' => v = .tuple #[.int .i64 (findO m x).1, .int .i64 (findO m x).2] ∧ Only [] w w' := by
  refine enter_heap_Heap_Find rfl ?_
  unfold x_heap_Heap_Find
  (repeat (first | with_reducible refine run_seq ?_ | with_reducible refine run_reg ?_ | with_reducible refine run_block ?_ | with_reducible refine run_blk ?_ | with_reducible refine run_skip ?_ | with_reducible refine run_exit rfl ?_ | with_reducible refine run_drw ?_ | with_reducible refine run_condT ?_ | with_reducible refine run_ret' ?_ | with_reducible refine run_end' ?_ | simp only [go_sem, ↓reduceIte, Nat.reduceAdd, Nat.reduceEqDiff, Nat.reduceBEq, reduceCtorEq, Int.reduceBEq, Int.reduceBNe, Int.reduceLT, Int.reduceLE]))
  refine callT0 (hMade h) ?_
  match m, h with
  | none, _ => (repeat (first | with_reducible refine run_seq ?_ | with_reducible refine run_reg ?_ | with_reducible refine run_block ?_ | with_reducible refine run_blk ?_ | with_reducible refine run_skip ?_ | with_reducible refine run_exit rfl ?_ | with_reducible refine run_drw ?_ | with_reducible refine run_condT ?_ | with_reducible refine run_ret' ?_ | with_reducible refine run_end' ?_ | simp only [go_sem, ↓reduceIte, Nat.reduceAdd, Nat.reduceEqDiff, Nat.reduceBEq, reduceCtorEq, Int.reduceBEq, Int.reduceBNe, Int.reduceLT, Int.reduceLE])); exact ⟨rfl, Only.refl _ _⟩
  | some s, ⟨b, h1, gB, gW, cB, cW, yB, yW, sb, sg, pb, pg, bl, bf, h2, h3⟩ =>
    subst h1
    by_cases c1 : x < 0
    · (repeat (first | with_reducible refine run_seq ?_ | with_reducible refine run_reg ?_ | with_reducible refine run_block ?_ | with_reducible refine run_blk ?_ | with_reducible refine run_skip ?_ | with_reducible refine run_exit rfl ?_ | with_reducible refine run_drw ?_ | with_reducible refine run_condT ?_ | with_reducible refine run_ret' ?_ | with_reducible refine run_end' ?_ | simp only [go_sem, ↓reduceIte, Nat.reduceAdd, Nat.reduceEqDiff, Nat.reduceBEq, reduceCtorEq, Int.reduceBEq, Int.reduceBNe, Int.reduceLT, Int.reduceLE, decide_eq_true c1]))
      exact ⟨by simp [findO, c1], Only.refl _ _⟩
    by_cases c2 : (s.W.length : Int) ≤ x
    · (repeat (first | with_reducible refine run_seq ?_ | with_reducible refine run_reg ?_ | with_reducible refine run_block ?_ | with_reducible refine run_blk ?_ | with_reducible refine run_skip ?_ | with_reducible refine run_exit rfl ?_ | with_reducible refine run_drw ?_ | with_reducible refine run_condT ?_ | with_reducible refine run_ret' ?_ | with_reducible refine run_end' ?_ | simp only [go_sem, ↓reduceIte, Nat.reduceAdd, Nat.reduceEqDiff, Nat.reduceBEq, reduceCtorEq, Int.reduceBEq, Int.reduceBNe, Int.reduceLT, Int.reduceLE, decide_eq_false c1, h3.hb.cell, decide_eq_true c2]))
      exact ⟨by simp [findO, c2], Only.refl _ _⟩
    obtain ⟨k, rfl⟩ : ∃ k : Nat, x = k := ⟨x.toNat, by omega⟩
    (repeat (first | with_reducible refine run_seq ?_ | with_reducible refine run_reg ?_ | with_reducible refine run_block ?_ | with_reducible refine run_blk ?_ | with_reducible refine run_skip ?_ | with_reducible refine run_exit rfl ?_ | with_reducible refine run_drw ?_ | with_reducible refine run_condT ?_ | with_reducible refine run_ret' ?_ | with_reducible refine run_end' ?_ | simp only [go_sem, ↓reduceIte, Nat.reduceAdd, Nat.reduceEqDiff, Nat.reduceBEq, reduceCtorEq, Int.reduceBEq, Int.reduceBNe, Int.reduceLT, Int.reduceLE, decide_eq_false c1, h3.hb.cell, decide_eq_false c2, tdiv2 k (by omega), i64_succ (k / 2) (by omega)]))
    refine callT (Last_m (Tab.mk h3.hs) _ 1) ?_
    rintro r w2 ⟨rfl, ho2⟩
    have h3' := h3.keep0 ho2
    have hf : findO (some s) (k : Int) = match s.starts.lastO ((k / 2 + 1 : Nat) : Int) 1 with
        | none => (0, 4)
        | some i => if 2 * (i : Int) + s.size (2 * i) ≤ (k : Int) then (0, 4) else (2 * (i : Int), 0) := by
      simp only [findO]
      rw [if_neg (by omega), show (k : Int) / 2 + 1 = ((k / 2 + 1 : Nat) : Int) by omega]
      cases s.starts.lastO ((k / 2 + 1 : Nat) : Int) 1 <;> rfl
    rw [hf]
    have hst : (some (1, s.st) : MT) = s.starts := rfl
    rw [hst]
    cases hl : s.starts.lastO ((k / 2 + 1 : Nat) : Int) 1 with
    | none =>
      have e1 : MT.err s.starts none = 4 := rfl
      (repeat (first | with_reducible refine run_seq ?_ | with_reducible refine run_reg ?_ | with_reducible refine run_block ?_ | with_reducible refine run_blk ?_ | with_reducible refine run_skip ?_ | with_reducible refine run_exit rfl ?_ | with_reducible refine run_drw ?_ | with_reducible refine run_condT ?_ | with_reducible refine run_ret' ?_ | with_reducible refine run_end' ?_ | simp only [go_sem, ↓reduceIte, Nat.reduceAdd, Nat.reduceEqDiff, Nat.reduceBEq, reduceCtorEq, Int.reduceBEq, Int.reduceBNe, Int.reduceLT, Int.reduceLE, e1, bne_int_true (show ¬ (4 : Int) = 0 by omega)]))
      exact ho2
    | some i =>
      have e1 : MT.err s.starts (some i) = 0 := rfl
      have e0 : optR (some i) = (i : Int) := rfl
      have hi : i < s.st.length ∧ s.st.getD i 0 = 1 := by
        have hl' : lastI (fun j => decide ((j : Int) < ((k / 2 + 1 : Nat) : Int)) && decide (((s.st.getD j 0 : Nat) : Int) = 1)) s.st.length = some i := hl
        obtain ⟨g1, g2⟩ := lastI_spec hl'
        simp only [Bool.and_eq_true, decide_eq_true_eq] at g2
        exact ⟨g1, by omega⟩
      have hsl := h3.ok.sl
      have hB := h3.ok.b64
      obtain ⟨z1, z2, z3, _⟩ := h3.ok.sz hi.2
      have hwl := h3.ok.wl
      have e2 : IntKind.i64.wrap (2 * (i : Int)) = ((2 * i : Nat) : Int) := by rw [show 2 * (i : Int) = ((2 * i : Nat) : Int) by omega]; exact i64_of_nat _ (by omega)
      have e3 : IntKind.i64.wrap (((2 * i : Nat) : Int) + s.size (2 * i)) = ((2 * i : Nat) : Int) + s.size (2 * i) := IntWalk.i64_in _ (by omega)
      (repeat (first | with_reducible refine run_seq ?_ | with_reducible refine run_reg ?_ | with_reducible refine run_block ?_ | with_reducible refine run_blk ?_ | with_reducible refine run_skip ?_ | with_reducible refine run_exit rfl ?_ | with_reducible refine run_drw ?_ | with_reducible refine run_condT ?_ | with_reducible refine run_ret' ?_ | with_reducible refine run_end' ?_ | simp only [go_sem, ↓reduceIte, Nat.reduceAdd, Nat.reduceEqDiff, Nat.reduceBEq, reduceCtorEq, Int.reduceBEq, Int.reduceBNe, Int.reduceLT, Int.reduceLE, e1, e0, bne_int_false (rfl : (0 : Int) = 0), e2]))
      refine callT1 (hSize h3' hi.2) fun w3 ho3 => ?_
      have e4 : 2 * (i : Int) = ((2 * i : Nat) : Int) := by omega
      by_cases c4 : ((2 * i : Nat) : Int) + s.size (2 * i) ≤ (k : Int)
      · (repeat (first | with_reducible refine run_seq ?_ | with_reducible refine run_reg ?_ | with_reducible refine run_block ?_ | with_reducible refine run_blk ?_ | with_reducible refine run_skip ?_ | with_reducible refine run_exit rfl ?_ | with_reducible refine run_drw ?_ | with_reducible refine run_condT ?_ | with_reducible refine run_ret' ?_ | with_reducible refine run_end' ?_ | simp only [go_sem, ↓reduceIte, Nat.reduceAdd, Nat.reduceEqDiff, Nat.reduceBEq, reduceCtorEq, Int.reduceBEq, Int.reduceBNe, Int.reduceLT, Int.reduceLE, e3, decide_eq_true c4]))
        simp only [e4, if_pos c4]
        exact ⟨by first | rfl | trivial, ho2.nil ho3⟩
      · (repeat (first | with_reducible refine run_seq ?_ | with_reducible refine run_reg ?_ | with_reducible refine run_block ?_ | with_reducible refine run_blk ?_ | with_reducible refine run_skip ?_ | with_reducible refine run_exit rfl ?_ | with_reducible refine run_drw ?_ | with_reducible refine run_condT ?_ | with_reducible refine run_ret' ?_ | with_reducible refine run_end' ?_ | simp only [go_sem, ↓reduceIte, Nat.reduceAdd, Nat.reduceEqDiff, Nat.reduceBEq, reduceCtorEq, Int.reduceBEq, Int.reduceBNe, Int.reduceLT, Int.reduceLE, e3, decide_eq_false c4, e2]))
        simp only [e4, if_neg c4]
        exact ⟨by first | rfl | trivial, ho2.nil ho3⟩

theorem hFits {w : World} {b : Nat} {s : HL} {gB gW cB cW : Nat} {yB yW : List Value} {sb sg pb pg bl bf : Nat} (h3 : HMs w b s gB gW cB cW yB yW sb sg pb pg bl bf) (x words but : Int) (hx : x ≤ 4611686018427387904) (w2 : 2 ≤ words) (w32 : words ≤ 32) (we : words % 2 = 0) : Cs Tryz.prog 124 [.pointer (some ⟨b, 0, none⟩), .int .i64 x, .int .i64 words, .int .i64 but] w fun v w' => v = .int .i64 (fitsE s x words but) ∧ Only [] w w' := by
  refine enter_heap_Heap_fits rfl ?_
  unfold x_heap_Heap_fits
  by_cases c1 : x < 0
  · (repeat (first | with_reducible refine run_seq ?_ | with_reducible refine run_reg ?_ | with_reducible refine run_block ?_ | with_reducible refine run_blk ?_ | with_reducible refine run_skip ?_ | with_reducible refine run_exit rfl ?_ | with_reducible refine run_drw ?_ | with_reducible refine run_condT ?_ | with_reducible refine run_ret' ?_ | with_reducible refine run_end' ?_ | simp only [go_sem, ↓reduceIte, Nat.reduceAdd, Nat.reduceEqDiff, Nat.reduceBEq, reduceCtorEq, Int.reduceBEq, Int.reduceBNe, Int.reduceLT, Int.reduceLE, decide_eq_true c1]))
    exact ⟨by simp [fitsE, argB, c1], Only.refl _ _⟩
  by_cases c2 : (s.W.length : Int) ≤ x
  · (repeat (first | with_reducible refine run_seq ?_ | with_reducible refine run_reg ?_ | with_reducible refine run_block ?_ | with_reducible refine run_blk ?_ | with_reducible refine run_skip ?_ | with_reducible refine run_exit rfl ?_ | with_reducible refine run_drw ?_ | with_reducible refine run_condT ?_ | with_reducible refine run_ret' ?_ | with_reducible refine run_end' ?_ | simp only [go_sem, ↓reduceIte, Nat.reduceAdd, Nat.reduceEqDiff, Nat.reduceBEq, reduceCtorEq, Int.reduceBEq, Int.reduceBNe, Int.reduceLT, Int.reduceLE, decide_eq_false c1, h3.hb.cell, decide_eq_true c2]))
    exact ⟨by simp [fitsE, argB, c2], Only.refl _ _⟩
  obtain ⟨k, rfl⟩ : ∃ k : Nat, x = k := ⟨x.toNat, by omega⟩
  by_cases c3 : k % 2 = 0
  rotate_left
  · (repeat (first | with_reducible refine run_seq ?_ | with_reducible refine run_reg ?_ | with_reducible refine run_block ?_ | with_reducible refine run_blk ?_ | with_reducible refine run_skip ?_ | with_reducible refine run_exit rfl ?_ | with_reducible refine run_drw ?_ | with_reducible refine run_condT ?_ | with_reducible refine run_ret' ?_ | with_reducible refine run_end' ?_ | simp only [go_sem, ↓reduceIte, Nat.reduceAdd, Nat.reduceEqDiff, Nat.reduceBEq, reduceCtorEq, Int.reduceBEq, Int.reduceBNe, Int.reduceLT, Int.reduceLE, decide_eq_false c1, h3.hb.cell, decide_eq_false c2, tmod2 k, bne_int_true (show ¬ ((k % 2 : Nat) : Int) = 0 by omega)]))
    exact ⟨by simp [fitsE, argB, show ¬ (k : Int) % 2 = 0 by omega], Only.refl _ _⟩
  have hA : argB s (k : Int) = false := by simp [argB]; omega
  have hwl := h3.ok.wl
  have hB := h3.ok.b64
  have t64 : ∀ n : Nat, n ≤ 4611686018427387904 → IntKind.i64.wrap ((n : Int).tdiv 64) = ((n / 64 : Nat) : Int) := fun n hn => tdiv64 n hn
  have hkB : k / 64 < s.B.length := by omega
  have e1 : (0 : Int) ≤ ((k / 64 : Nat) : Int) ∧ ((k / 64 : Nat) : Int) < (s.B.length : Int) := ⟨by omega, by omega⟩
  have e2 : (blkV s.B ++ yB)[k / 64 * 2]? = some (.int .i64 (s.B.getD (k / 64) (0, 0)).1) := by
    rw [List.getElem?_append_left (by rw [blkV_len]; omega), Nat.mul_comm]; exact (blkV_get hkB).1
  have e3 : IntKind.i64.wrap ((k : Int) + words) = (k : Int) + words := IntWalk.i64_in _ (by omega)
  obtain ⟨wn, rfl⟩ : ∃ n : Nat, words = n := ⟨words.toNat, by omega⟩
  have e4 : IntKind.i64.wrap ((k : Int) + (wn : Int) - 1) = ((k + wn - 1 : Nat) : Int) := by rw [IntWalk.i64_in _ (by omega)]; omega
  have hb : s.b ((k : Int) / 64) = s.B.getD (k / 64) (0, 0) := by unfold HL.b; congr 1
  by_cases c4 : (s.B.getD (k / 64) (0, 0)).1 = 1
  rotate_left
  · (repeat (first | with_reducible refine run_seq ?_ | with_reducible refine run_reg ?_ | with_reducible refine run_block ?_ | with_reducible refine run_blk ?_ | with_reducible refine run_skip ?_ | with_reducible refine run_exit rfl ?_ | with_reducible refine run_drw ?_ | with_reducible refine run_condT ?_ | with_reducible refine run_ret' ?_ | with_reducible refine run_end' ?_ | simp only [go_sem, ↓reduceIte, Nat.reduceAdd, Nat.reduceEqDiff, Nat.reduceBEq, reduceCtorEq, Int.reduceBEq, Int.reduceBNe, Int.reduceLT, Int.reduceLE, decide_eq_false c1, h3.hb.cell, decide_eq_false c2, tmod2 k, bne_int_false (show ((k % 2 : Nat) : Int) = 0 by omega), t64 k (by omega), decide_eq_true w32, h3.hB.cell, if_pos e1, Int.toNat_natCast, e2, bne_int_true c4]))
    refine ⟨?_, Only.refl _ _⟩
    have : wrongB s (k : Int) (wn : Int) = true := by unfold wrongB; rw [if_pos w32, hb, decide_eq_true (show (s.B.getD (k / 64) (0, 0)).1 ≠ 1 from c4)]; rfl
    simp [fitsE, hA, this]
  by_cases c5 : (k + wn - 1) / 64 = k / 64
  rotate_left
  · (repeat (first | with_reducible refine run_seq ?_ | with_reducible refine run_reg ?_ | with_reducible refine run_block ?_ | with_reducible refine run_blk ?_ | with_reducible refine run_skip ?_ | with_reducible refine run_exit rfl ?_ | with_reducible refine run_drw ?_ | with_reducible refine run_condT ?_ | with_reducible refine run_ret' ?_ | with_reducible refine run_end' ?_ | simp only [go_sem, ↓reduceIte, Nat.reduceAdd, Nat.reduceEqDiff, Nat.reduceBEq, reduceCtorEq, Int.reduceBEq, Int.reduceBNe, Int.reduceLT, Int.reduceLE, decide_eq_false c1, h3.hb.cell, decide_eq_false c2, tmod2 k, bne_int_false (show ((k % 2 : Nat) : Int) = 0 by omega), t64 k (by omega), decide_eq_true w32, h3.hB.cell, if_pos e1, Int.toNat_natCast, e2, bne_int_false c4, e3, e4, t64 (k + wn - 1) (by omega), bne_int_true (show ¬ (((k + wn - 1) / 64 : Nat) : Int) = ((k / 64 : Nat) : Int) by omega)]))
    refine ⟨?_, Only.refl _ _⟩
    have : wrongB s (k : Int) (wn : Int) = true := by
      unfold wrongB; rw [if_pos w32]
      have : ((k : Int) + (wn : Int) - 1) / 64 ≠ (k : Int) / 64 := by omega
      simp [this]
    simp [fitsE, hA, this]
  have hW : wrongB s (k : Int) (wn : Int) = false := by
    unfold wrongB; rw [if_pos w32, hb]
    rw [decide_eq_false (show ¬ (s.B.getD (k / 64) (0, 0)).1 ≠ 1 from fun h => h c4), decide_eq_false (show ¬ ((k : Int) + (wn : Int) - 1) / 64 ≠ (k : Int) / 64 by omega)]; rfl
  have hfE : fitsE s (k : Int) (wn : Int) but = if (List.range (wn / 2)).any (takenB s (k : Int) but) = true then 8 else 0 := by
    unfold fitsE
    rw [hA, if_neg (by simp), hW, if_neg (by simp), show (((wn : Int) + 1) / 2).toNat = wn / 2 by omega]
  rw [hfE]
  (repeat (first | with_reducible refine run_seq ?_ | with_reducible refine run_reg ?_ | with_reducible refine run_block ?_ | with_reducible refine run_blk ?_ | with_reducible refine run_skip ?_ | with_reducible refine run_exit rfl ?_ | with_reducible refine run_drw ?_ | with_reducible refine run_condT ?_ | with_reducible refine run_ret' ?_ | with_reducible refine run_end' ?_ | simp only [go_sem, ↓reduceIte, Nat.reduceAdd, Nat.reduceEqDiff, Nat.reduceBEq, reduceCtorEq, Int.reduceBEq, Int.reduceBNe, Int.reduceLT, Int.reduceLE, decide_eq_false c1, h3.hb.cell, decide_eq_false c2, tmod2 k, bne_int_false (show ((k % 2 : Nat) : Int) = 0 by omega), t64 k (by omega), decide_eq_true w32, h3.hB.cell, if_pos e1, Int.toNat_natCast, e2, bne_int_false c4, e3, e4, t64 (k + wn - 1) (by omega), bne_int_false (show (((k + wn - 1) / 64 : Nat) : Int) = ((k / 64 : Nat) : Int) by omega)]))
  refine run_loop (10 :: 11 :: 12 :: 76 :: 77 :: 78 :: 79 :: 80 :: 81 :: 82 :: 83 :: 84 :: 85 :: 86 :: 87 :: 88 :: 89 :: 90 :: 91 :: 92 :: 93 :: 94 :: 95 :: []) (fun g w' => ∃ j : Nat, g 10 = .int .i64 ((k + 2 * j : Nat) : Int) ∧ j ≤ wn / 2 ∧ (∀ i, i < j → takenB s (k : Int) but i = false) ∧ Only [] w w') (fun g _ => upTo (k + wn + 1) 10 g)
    ⟨0, by simp only [go_sem, ↓reduceIte, Nat.reduceAdd, Nat.reduceEqDiff, Nat.reduceBEq, reduceCtorEq, Int.reduceBEq, Int.reduceBNe, Int.reduceLT, Int.reduceLE]; rfl, by omega, by omega, Only.refl _ _⟩ fun g w' hI hnext => ?_
  obtain ⟨j, h10, hj, hno, ho⟩ := hI
  (repeat (first | with_reducible refine run_seq ?_ | with_reducible refine run_reg ?_ | with_reducible refine run_block ?_ | with_reducible refine run_blk ?_ | with_reducible refine run_skip ?_ | with_reducible refine run_exit rfl ?_ | with_reducible refine run_drw ?_ | with_reducible refine run_condT ?_ | with_reducible refine run_ret' ?_ | with_reducible refine run_end' ?_ | simp only [go_sem, ↓reduceIte, Nat.reduceAdd, Nat.reduceEqDiff, Nat.reduceBEq, reduceCtorEq, Int.reduceBEq, Int.reduceBNe, Int.reduceLT, Int.reduceLE, h10, e3]))
  refine condT (fun hlt => ?_) (fun hge => ?_)
  · have hlt : k + 2 * j < k + wn := by
      have : ((k + 2 * j : Nat) : Int) < (k : Int) + (wn : Int) := by simpa using hlt
      omega
    (repeat (first | with_reducible refine run_seq ?_ | with_reducible refine run_reg ?_ | with_reducible refine run_block ?_ | with_reducible refine run_blk ?_ | with_reducible refine run_skip ?_ | with_reducible refine run_exit rfl ?_ | with_reducible refine run_drw ?_ | with_reducible refine run_condT ?_ | with_reducible refine run_ret' ?_ | with_reducible refine run_end' ?_ | simp only [go_sem, ↓reduceIte, Nat.reduceAdd, Nat.reduceEqDiff, Nat.reduceBEq, reduceCtorEq, Int.reduceBEq, Int.reduceBNe, Int.reduceLT, Int.reduceLE, h10]))
    refine callT (hFind (m := some s) ⟨b, rfl, gB, gW, cB, cW, yB, yW, sb, sg, pb, pg, bl, bf, rfl, h3.keep0 ho⟩ ((k + 2 * j : Nat) : Int) (by omega)) ?_
    rintro r w3 ⟨rfl, ho3⟩
    have ht : takenB s (k : Int) but j = ((findO (some s) ((k + 2 * j : Nat) : Int)).2 == 0 && (findO (some s) ((k + 2 * j : Nat) : Int)).1 != but) := by
      unfold takenB
      rw [show (k : Int) + 2 * (j : Int) = ((k + 2 * j : Nat) : Int) by omega]
    have e5 : IntKind.i64.wrap (((k + 2 * j : Nat) : Int) + 2) = ((k + 2 * (j + 1) : Nat) : Int) := by rw [IntWalk.i64_in _ (by omega)]; omega
    have hgo : takenB s (k : Int) but j = false → ∀ i, i < j + 1 → takenB s (k : Int) but i = false := fun h i hi => by
      by_cases e : i = j
      · subst e; exact h
      · exact hno i (by omega)
    generalize findO (some s) ((k + 2 * j : Nat) : Int) = fo at *
    obtain ⟨o, e⟩ := fo
    simp only at ht
    by_cases c6 : e = 0
    · by_cases c7 : o = but
      · (repeat (first | with_reducible refine run_seq ?_ | with_reducible refine run_reg ?_ | with_reducible refine run_block ?_ | with_reducible refine run_blk ?_ | with_reducible refine run_skip ?_ | with_reducible refine run_exit rfl ?_ | with_reducible refine run_drw ?_ | with_reducible refine run_condT ?_ | with_reducible refine run_ret' ?_ | with_reducible refine run_end' ?_ | simp only [go_sem, ↓reduceIte, Nat.reduceAdd, Nat.reduceEqDiff, Nat.reduceBEq, reduceCtorEq, Int.reduceBEq, Int.reduceBNe, Int.reduceLT, Int.reduceLE, h10, beq_int_true c6, bne_int_false c7, e5]))
        refine hnext _ w3 ?_ ⟨j + 1, ?_, by omega, hgo (by rw [ht, c6, c7]; simp), ho.nil ho3⟩ ?_
        · (repeat (first | with_reducible exact Keeps.refl _ _ | with_reducible exact Keeps.ovr _ _ _ | refine Keeps.put ?_ rfl _ | exact Keeps.refl _ _ | exact Keeps.ovr _ _ _ | refine Keeps.ovr2 ?_ rfl _))
        · simp only [go_sem, ↓reduceIte, Nat.reduceAdd, Nat.reduceEqDiff, Nat.reduceBEq, reduceCtorEq, Int.reduceBEq, Int.reduceBNe, Int.reduceLT, Int.reduceLE]
        · rw [upTo_int h10, upTo_int (k := .i64) (i := k + 2 * (j + 1)) (by simp only [go_sem, ↓reduceIte, Nat.reduceAdd, Nat.reduceEqDiff, Nat.reduceBEq, reduceCtorEq, Int.reduceBEq, Int.reduceBNe, Int.reduceLT, Int.reduceLE])]; omega
      · (repeat (first | with_reducible refine run_seq ?_ | with_reducible refine run_reg ?_ | with_reducible refine run_block ?_ | with_reducible refine run_blk ?_ | with_reducible refine run_skip ?_ | with_reducible refine run_exit rfl ?_ | with_reducible refine run_drw ?_ | with_reducible refine run_condT ?_ | with_reducible refine run_ret' ?_ | with_reducible refine run_end' ?_ | simp only [go_sem, ↓reduceIte, Nat.reduceAdd, Nat.reduceEqDiff, Nat.reduceBEq, reduceCtorEq, Int.reduceBEq, Int.reduceBNe, Int.reduceLT, Int.reduceLE, h10, beq_int_true c6, bne_int_true c7]))
        refine ⟨?_, ho.nil ho3⟩
        rw [if_pos]
        exact List.any_eq_true.2 ⟨j, List.mem_range.2 (by omega), by rw [ht, c6]; simp [c7]⟩
    · (repeat (first | with_reducible refine run_seq ?_ | with_reducible refine run_reg ?_ | with_reducible refine run_block ?_ | with_reducible refine run_blk ?_ | with_reducible refine run_skip ?_ | with_reducible refine run_exit rfl ?_ | with_reducible refine run_drw ?_ | with_reducible refine run_condT ?_ | with_reducible refine run_ret' ?_ | with_reducible refine run_end' ?_ | simp only [go_sem, ↓reduceIte, Nat.reduceAdd, Nat.reduceEqDiff, Nat.reduceBEq, reduceCtorEq, Int.reduceBEq, Int.reduceBNe, Int.reduceLT, Int.reduceLE, h10, beq_int_false c6, e5]))
      refine hnext _ w3 ?_ ⟨j + 1, ?_, by omega, hgo (by rw [ht]; simp [c6]), ho.nil ho3⟩ ?_
      · (repeat (first | with_reducible exact Keeps.refl _ _ | with_reducible exact Keeps.ovr _ _ _ | refine Keeps.put ?_ rfl _ | exact Keeps.refl _ _ | exact Keeps.ovr _ _ _ | refine Keeps.ovr2 ?_ rfl _))
      · simp only [go_sem, ↓reduceIte, Nat.reduceAdd, Nat.reduceEqDiff, Nat.reduceBEq, reduceCtorEq, Int.reduceBEq, Int.reduceBNe, Int.reduceLT, Int.reduceLE]
      · rw [upTo_int h10, upTo_int (k := .i64) (i := k + 2 * (j + 1)) (by simp only [go_sem, ↓reduceIte, Nat.reduceAdd, Nat.reduceEqDiff, Nat.reduceBEq, reduceCtorEq, Int.reduceBEq, Int.reduceBNe, Int.reduceLT, Int.reduceLE])]; omega
  · have hge : ¬ k + 2 * j < k + wn := by
      have : ¬ ((k + 2 * j : Nat) : Int) < (k : Int) + (wn : Int) := by simpa using hge
      omega
    (repeat (first | with_reducible refine run_seq ?_ | with_reducible refine run_reg ?_ | with_reducible refine run_block ?_ | with_reducible refine run_blk ?_ | with_reducible refine run_skip ?_ | with_reducible refine run_exit rfl ?_ | with_reducible refine run_drw ?_ | with_reducible refine run_condT ?_ | with_reducible refine run_ret' ?_ | with_reducible refine run_end' ?_ | simp only [go_sem, ↓reduceIte, Nat.reduceAdd, Nat.reduceEqDiff, Nat.reduceBEq, reduceCtorEq, Int.reduceBEq, Int.reduceBNe, Int.reduceLT, Int.reduceLE]))
    refine ⟨?_, ho⟩
    rw [if_neg]
    intro hany
    obtain ⟨i, hi, hi2⟩ := List.any_eq_true.1 hany
    rw [hno i (by have := List.mem_range.1 hi; omega)] at hi2
    cases hi2
end Go.Proofs.YtgcofabdialaaaaGreat
