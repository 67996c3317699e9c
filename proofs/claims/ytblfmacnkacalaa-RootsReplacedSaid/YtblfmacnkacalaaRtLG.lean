/- The laws RootsLeads and RootsPlaces, walked. -/
import Derived.Test.YtblfmacnkacalaaRtLF
namespace Go.Proofs.Ytblfmacnkacalaa
set_option linter.unusedSimpArgs false
set_option linter.unusedVariables false
set_option maxRecDepth 8000

/-- the addresses among the first i, each once -/
def lwU (V : List Int) (i : Nat) : List Int := leadL ((V.take i).filter (· != 0))
theorem lwU_succ {V : List Int} {i : Nat} (hi : i < V.length) : lwU V (i + 1) = if V.getD i 0 = 0 then lwU V i else addNew (lwU V i) (V.getD i 0) := by
  unfold lwU
  rw [List.take_succ_eq_append_getElem hi, List.filter_append]
  have e : V.getD i 0 = V[i] := by simp [hi]
  rw [e]
  by_cases h0 : V[i] = 0
  · rw [if_pos h0, List.filter_cons, if_neg (by simpa using h0)]; simp
  · rw [if_neg h0, List.filter_cons, if_pos (by simpa using h0), List.filter_nil, leadL_snoc]
theorem lwU_length (V : List Int) (i : Nat) : (lwU V i).length ≤ i := by
  unfold lwU
  refine Nat.le_trans (leadL_length _) (Nat.le_trans (List.length_filter_le _ _) ?_)
  rw [List.length_take]; omega
theorem filled_vals {s : MS} (h : s.Ok) : (filled s).map (·.2) = s.V.filter (· != 0) := by
  unfold filled
  have hl : (everyS s).length = s.V.length := by rw [every_length, V_length h]
  have : ((everyS s).zip s.V).map (·.2) = s.V := by
    rw [List.map_snd_zip]; omega
  conv => rhs; rw [← this]
  rw [List.filter_map]; rfl
theorem lwU_end {s : MS} (h : s.Ok) : lwU s.V s.V.length = leadsO (some s) := by
  show _ = ((filled s).map (·.2)).foldl addNew []
  unfold lwU leadL
  rw [List.take_length, filled_vals h]
theorem leadsO_length {s : MS} (h : s.Ok) : (leadsO (some s)).length ≤ 144 := by
  rw [← lwU_end h]
  have := lwU_length s.V s.V.length
  have := V_le h; omega

theorem leads_walk {w : World} {v : Value} {l : List A7} (n : Int) (hl : ActsAt w.heap.size w v l) : Cs Try.prog 4 [.int .i64 n, v] w fun r w' => r = .bool true ∧ Only [] w w' := by
  refine enter_law03_RootsLeads rfl ?_
  unfold x_law03_RootsLeads
  (repeat (first | with_reducible refine run_seq ?_ | with_reducible refine run_reg ?_ | with_reducible refine run_block ?_ | with_reducible refine run_blk ?_ | with_reducible refine run_skip ?_ | with_reducible refine run_exit rfl ?_ | with_reducible refine run_drw ?_ | with_reducible refine run_condT ?_ | with_reducible refine run_ret' ?_ | with_reducible refine run_end' ?_ | simp only [go_sem, ↓reduceIte, Nat.reduceAdd, Nat.reduceEqDiff, Nat.reduceBEq, reduceCtorEq, Int.reduceBEq, Int.reduceBNe, Int.reduceLT, Int.reduceLE]))
  refine callT (law_made hl (Nat.le_refl _) n) ?_
  rintro r w2 ⟨ho2, ⟨rfl, _⟩ | ⟨hg, a, b, fp, rp, s, rfl, hs, ht, hnew⟩⟩
  · (repeat (first | with_reducible refine run_seq ?_ | with_reducible refine run_reg ?_ | with_reducible refine run_block ?_ | with_reducible refine run_blk ?_ | with_reducible refine run_skip ?_ | with_reducible refine run_exit rfl ?_ | with_reducible refine run_drw ?_ | with_reducible refine run_condT ?_ | with_reducible refine run_ret' ?_ | with_reducible refine run_end' ?_ | simp only [go_sem, ↓reduceIte, Nat.reduceAdd, Nat.reduceEqDiff, Nat.reduceBEq, reduceCtorEq, Int.reduceBEq, Int.reduceBNe, Int.reduceLT, Int.reduceLE]))
    refine callT1 (law_alive w2) fun w' ho => ?_
    (repeat (first | with_reducible refine run_seq ?_ | with_reducible refine run_reg ?_ | with_reducible refine run_block ?_ | with_reducible refine run_blk ?_ | with_reducible refine run_skip ?_ | with_reducible refine run_exit rfl ?_ | with_reducible refine run_drw ?_ | with_reducible refine run_condT ?_ | with_reducible refine run_ret' ?_ | with_reducible refine run_end' ?_ | simp only [go_sem, ↓reduceIte, Nat.reduceAdd, Nat.reduceEqDiff, Nat.reduceBEq, reduceCtorEq, Int.reduceBEq, Int.reduceBNe, Int.reduceLT, Int.reduceLE]))
    exact ho2.nil ho
  have hok : s.Ok := by obtain ⟨_, _, _, _, _, _, _, _, _, k⟩ := ht.p; exact k.ok
  have hV := V_le hok
  (repeat (first | with_reducible refine run_seq ?_ | with_reducible refine run_reg ?_ | with_reducible refine run_block ?_ | with_reducible refine run_blk ?_ | with_reducible refine run_skip ?_ | with_reducible refine run_exit rfl ?_ | with_reducible refine run_drw ?_ | with_reducible refine run_condT ?_ | with_reducible refine run_ret' ?_ | with_reducible refine run_end' ?_ | simp only [go_sem, ↓reduceIte, Nat.reduceAdd, Nat.reduceEqDiff, Nat.reduceBEq, reduceCtorEq, Int.reduceBEq, Int.reduceBNe, Int.reduceLT, Int.reduceLE]))
  refine callT (law_all ht) ?_
  rintro v4 w4 ⟨ho4, f4, hs4, hf4⟩
  obtain ⟨a4, c4, rfl⟩ := hs4.val
  have ht4 := ht.keep0 ho4
  (repeat (first | with_reducible refine run_seq ?_ | with_reducible refine run_reg ?_ | with_reducible refine run_block ?_ | with_reducible refine run_blk ?_ | with_reducible refine run_skip ?_ | with_reducible refine run_exit rfl ?_ | with_reducible refine run_drw ?_ | with_reducible refine run_condT ?_ | with_reducible refine run_ret' ?_ | with_reducible refine run_end' ?_ | simp only [go_sem, ↓reduceIte, Nat.reduceAdd, Nat.reduceEqDiff, Nat.reduceBEq, reduceCtorEq, Int.reduceBEq, Int.reduceBNe, Int.reduceLT, Int.reduceLE]))
  refine run_loop (7 :: 9 :: 10 :: 11 :: 24 :: 25 :: 26 :: 27 :: 28 :: 29 :: 30 :: 31 :: 32 :: 33 :: 34 :: 35 :: 36 :: 37 :: 38 :: 39 :: 40 :: 41 :: 42 :: 43 :: 44 :: 45 :: 46 :: 47 :: 48 :: 49 :: 50 :: 51 :: 52 :: 53 :: 54 :: 55 :: 56 :: 57 :: 58 :: 59 :: 60 :: 61 :: []) (fun g w' => ∃ (i : Nat) (u : Value) (f : List Nat), g 9 = .int .i64 i ∧ g 7 = u ∧ i ≤ s.V.length ∧ Sl w' 1 u (lwU s.V i).length (ints (lwU s.V i)) f ∧ (∀ y, y ∈ f → w4.heap.size ≤ y) ∧ Only [] w4 w') (fun g _ => upTo s.V.length 9 g)
    ⟨0, _, [], by simp only [go_sem, ↓reduceIte, Nat.reduceAdd, Nat.reduceEqDiff, Nat.reduceBEq, reduceCtorEq, Int.reduceBEq, Int.reduceBNe, Int.reduceLT, Int.reduceLE]; rfl, by simp only [go_sem, ↓reduceIte, Nat.reduceAdd, Nat.reduceEqDiff, Nat.reduceBEq, reduceCtorEq, Int.reduceBEq, Int.reduceBNe, Int.reduceLT, Int.reduceLE], by omega, Sl.nil1 w4, by simp, Only.refl _ _⟩ fun g w5 hI hnext => ?_
  obtain ⟨i, u, f, h9, h7, hi, hsu, hf, ho5⟩ := hI
  (repeat (first | with_reducible refine run_seq ?_ | with_reducible refine run_reg ?_ | with_reducible refine run_block ?_ | with_reducible refine run_blk ?_ | with_reducible refine run_skip ?_ | with_reducible refine run_exit rfl ?_ | with_reducible refine run_drw ?_ | with_reducible refine run_condT ?_ | with_reducible refine run_ret' ?_ | with_reducible refine run_end' ?_ | simp only [go_sem, ↓reduceIte, Nat.reduceAdd, Nat.reduceEqDiff, Nat.reduceBEq, reduceCtorEq, Int.reduceBEq, Int.reduceBNe, Int.reduceLT, Int.reduceLE, h9]))
  refine condT (fun hlt => ?_) (fun hge => ?_)
  · have hlt : i < s.V.length := by simpa using hlt
    obtain ⟨p4, hp4, hc4⟩ := (hs4.keep0 ho5).rd.get hlt
    cases hp4
    have e1 : (0 : Int) ≤ (i : Int) ∧ (i : Int) < (s.V.length : Int) := ⟨by omega, by omega⟩
    obtain ⟨au, cu, rfl⟩ := hsu.val
    have hwl := lwU_length s.V i
    have hsucc := lwU_succ hlt
    generalize hx : s.V.getD i 0 = x at *
    (repeat (first | with_reducible refine run_seq ?_ | with_reducible refine run_reg ?_ | with_reducible refine run_block ?_ | with_reducible refine run_blk ?_ | with_reducible refine run_skip ?_ | with_reducible refine run_exit rfl ?_ | with_reducible refine run_drw ?_ | with_reducible refine run_condT ?_ | with_reducible refine run_ret' ?_ | with_reducible refine run_end' ?_ | simp only [go_sem, ↓reduceIte, Nat.reduceAdd, Nat.reduceEqDiff, Nat.reduceBEq, reduceCtorEq, Int.reduceBEq, Int.reduceBNe, Int.reduceLT, Int.reduceLE, h9, h7, if_pos e1, Int.toNat_natCast, Nat.mul_one, hc4]))
    refine run_loop (10 :: 11 :: 35 :: 36 :: 37 :: 38 :: 39 :: 40 :: 41 :: 42 :: 43 :: 44 :: 45 :: 46 :: 47 :: 48 :: 49 :: 50 :: 51 :: 52 :: []) (fun g2 w' => ∃ k : Nat, g2 11 = .int .i64 k ∧ g2 10 = .bool (decide (x = 0) || ((lwU s.V i).take k).contains x) ∧ k ≤ (lwU s.V i).length ∧ Only [] w5 w') (fun g2 _ => upTo (lwU s.V i).length 11 g2)
      ⟨0, by simp only [go_sem, ↓reduceIte, Nat.reduceAdd, Nat.reduceEqDiff, Nat.reduceBEq, reduceCtorEq, Int.reduceBEq, Int.reduceBNe, Int.reduceLT, Int.reduceLE]; rfl, by simp only [go_sem, ↓reduceIte, Nat.reduceAdd, Nat.reduceEqDiff, Nat.reduceBEq, reduceCtorEq, Int.reduceBEq, Int.reduceBNe, Int.reduceLT, Int.reduceLE]; rw [show (x == 0) = decide (x = 0) from rfl]; simp, by omega, Only.refl _ _⟩ fun g2 w6 hI hnext2 => ?_
    obtain ⟨k, h11, h10, hk, ho6⟩ := hI
    (repeat (first | with_reducible refine run_seq ?_ | with_reducible refine run_reg ?_ | with_reducible refine run_block ?_ | with_reducible refine run_blk ?_ | with_reducible refine run_skip ?_ | with_reducible refine run_exit rfl ?_ | with_reducible refine run_drw ?_ | with_reducible refine run_condT ?_ | with_reducible refine run_ret' ?_ | with_reducible refine run_end' ?_ | simp only [go_sem, ↓reduceIte, Nat.reduceAdd, Nat.reduceEqDiff, Nat.reduceBEq, reduceCtorEq, Int.reduceBEq, Int.reduceBNe, Int.reduceLT, Int.reduceLE, h11, h7]))
    refine condT (fun hlt2 => ?_) (fun hge2 => ?_)
    · have hlt2 : k < (lwU s.V i).length := by simpa using hlt2
      obtain ⟨pu, hpu, hcu⟩ := (hsu.keep0 ho6).rd.get hlt2
      cases hpu
      obtain ⟨p4', hp4', hc4'⟩ := (hs4.keep0 (ho5.nil ho6)).rd.get hlt
      cases hp4'
      rw [hx] at hc4'
      have e2 : (0 : Int) ≤ (k : Int) ∧ (k : Int) < ((lwU s.V i).length : Int) := ⟨by omega, by omega⟩
      cases hcon : (decide (x = 0) || ((lwU s.V i).take k).contains x) with
      | true =>
        rw [hcon] at h10
        (repeat (first | with_reducible refine run_seq ?_ | with_reducible refine run_reg ?_ | with_reducible refine run_block ?_ | with_reducible refine run_blk ?_ | with_reducible refine run_skip ?_ | with_reducible refine run_exit rfl ?_ | with_reducible refine run_drw ?_ | with_reducible refine run_condT ?_ | with_reducible refine run_ret' ?_ | with_reducible refine run_end' ?_ | simp only [go_sem, ↓reduceIte, Nat.reduceAdd, Nat.reduceEqDiff, Nat.reduceBEq, reduceCtorEq, Int.reduceBEq, Int.reduceBNe, Int.reduceLT, Int.reduceLE, h11, h10, h7, h9, i64_succ k (by omega)]))
        refine hnext2 _ w6.drew ?_ ⟨k + 1, ?_, ?_, by omega, ho6.nil (Only.drew [] _)⟩ ?_
        · (repeat (first | with_reducible exact Keeps.refl _ _ | with_reducible exact Keeps.ovr _ _ _ | refine Keeps.put ?_ rfl _ | exact Keeps.refl _ _ | exact Keeps.ovr _ _ _ | refine Keeps.ovr2 ?_ rfl _))
        · simp only [go_sem, ↓reduceIte, Nat.reduceAdd, Nat.reduceEqDiff, Nat.reduceBEq, reduceCtorEq, Int.reduceBEq, Int.reduceBNe, Int.reduceLT, Int.reduceLE]
        · rw [take_contains_succ hlt2, ← Bool.or_assoc, hcon]; simp only [go_sem, ↓reduceIte, Nat.reduceAdd, Nat.reduceEqDiff, Nat.reduceBEq, reduceCtorEq, Int.reduceBEq, Int.reduceBNe, Int.reduceLT, Int.reduceLE]
        · rw [upTo_int h11, upTo_int (k := .i64) (i := k + 1) (by simp only [go_sem, ↓reduceIte, Nat.reduceAdd, Nat.reduceEqDiff, Nat.reduceBEq, reduceCtorEq, Int.reduceBEq, Int.reduceBNe, Int.reduceLT, Int.reduceLE])]; omega
      | false =>
        rw [hcon] at h10
        by_cases hxe : (lwU s.V i).getD k 0 = x
        · (repeat (first | with_reducible refine run_seq ?_ | with_reducible refine run_reg ?_ | with_reducible refine run_block ?_ | with_reducible refine run_blk ?_ | with_reducible refine run_skip ?_ | with_reducible refine run_exit rfl ?_ | with_reducible refine run_drw ?_ | with_reducible refine run_condT ?_ | with_reducible refine run_ret' ?_ | with_reducible refine run_end' ?_ | simp only [go_sem, ↓reduceIte, Nat.reduceAdd, Nat.reduceEqDiff, Nat.reduceBEq, reduceCtorEq, Int.reduceBEq, Int.reduceBNe, Int.reduceLT, Int.reduceLE, h11, h10, h7, h9, if_pos e1, if_pos e2, Int.toNat_natCast, Nat.mul_one, hcu, hc4', beq_int_true hxe, i64_succ k (by omega)]))
          refine hnext2 _ w6.drew ?_ ⟨k + 1, ?_, ?_, by omega, ho6.nil (Only.drew [] _)⟩ ?_
          · (repeat (first | with_reducible exact Keeps.refl _ _ | with_reducible exact Keeps.ovr _ _ _ | refine Keeps.put ?_ rfl _ | exact Keeps.refl _ _ | exact Keeps.ovr _ _ _ | refine Keeps.ovr2 ?_ rfl _))
          · simp only [go_sem, ↓reduceIte, Nat.reduceAdd, Nat.reduceEqDiff, Nat.reduceBEq, reduceCtorEq, Int.reduceBEq, Int.reduceBNe, Int.reduceLT, Int.reduceLE]
          · rw [take_contains_succ hlt2, ← Bool.or_assoc, hcon, hxe]; simp only [go_sem, ↓reduceIte, Nat.reduceAdd, Nat.reduceEqDiff, Nat.reduceBEq, reduceCtorEq, Int.reduceBEq, Int.reduceBNe, Int.reduceLT, Int.reduceLE]
          · rw [upTo_int h11, upTo_int (k := .i64) (i := k + 1) (by simp only [go_sem, ↓reduceIte, Nat.reduceAdd, Nat.reduceEqDiff, Nat.reduceBEq, reduceCtorEq, Int.reduceBEq, Int.reduceBNe, Int.reduceLT, Int.reduceLE])]; omega
        · (repeat (first | with_reducible refine run_seq ?_ | with_reducible refine run_reg ?_ | with_reducible refine run_block ?_ | with_reducible refine run_blk ?_ | with_reducible refine run_skip ?_ | with_reducible refine run_exit rfl ?_ | with_reducible refine run_drw ?_ | with_reducible refine run_condT ?_ | with_reducible refine run_ret' ?_ | with_reducible refine run_end' ?_ | simp only [go_sem, ↓reduceIte, Nat.reduceAdd, Nat.reduceEqDiff, Nat.reduceBEq, reduceCtorEq, Int.reduceBEq, Int.reduceBNe, Int.reduceLT, Int.reduceLE, h11, h10, h7, h9, if_pos e1, if_pos e2, Int.toNat_natCast, Nat.mul_one, hcu, hc4', beq_int_false hxe, i64_succ k (by omega)]))
          refine hnext2 _ w6.drew ?_ ⟨k + 1, ?_, ?_, by omega, ho6.nil (Only.drew [] _)⟩ ?_
          · (repeat (first | with_reducible exact Keeps.refl _ _ | with_reducible exact Keeps.ovr _ _ _ | refine Keeps.put ?_ rfl _ | exact Keeps.refl _ _ | exact Keeps.ovr _ _ _ | refine Keeps.ovr2 ?_ rfl _))
          · simp only [go_sem, ↓reduceIte, Nat.reduceAdd, Nat.reduceEqDiff, Nat.reduceBEq, reduceCtorEq, Int.reduceBEq, Int.reduceBNe, Int.reduceLT, Int.reduceLE]
          · rw [take_contains_succ hlt2, ← Bool.or_assoc, hcon, show decide (x = (lwU s.V i).getD k 0) = false from decide_eq_false fun e => hxe e.symm]; simp only [go_sem, ↓reduceIte, Nat.reduceAdd, Nat.reduceEqDiff, Nat.reduceBEq, reduceCtorEq, Int.reduceBEq, Int.reduceBNe, Int.reduceLT, Int.reduceLE]
          · rw [upTo_int h11, upTo_int (k := .i64) (i := k + 1) (by simp only [go_sem, ↓reduceIte, Nat.reduceAdd, Nat.reduceEqDiff, Nat.reduceBEq, reduceCtorEq, Int.reduceBEq, Int.reduceBNe, Int.reduceLT, Int.reduceLE])]; omega
    · have : k = (lwU s.V i).length := by have : ¬ (k < (lwU s.V i).length) := by simpa using hge2
                                          omega
      subst this
      rw [List.take_length] at h10
      have hsu6 := hsu.keep0 ho6
      by_cases hx0 : x = 0
      · rw [decide_eq_true hx0, Bool.true_or] at h10
        rw [if_pos hx0] at hsucc
        (repeat (first | with_reducible refine run_seq ?_ | with_reducible refine run_reg ?_ | with_reducible refine run_block ?_ | with_reducible refine run_blk ?_ | with_reducible refine run_skip ?_ | with_reducible refine run_exit rfl ?_ | with_reducible refine run_drw ?_ | with_reducible refine run_condT ?_ | with_reducible refine run_ret' ?_ | with_reducible refine run_end' ?_ | simp only [go_sem, ↓reduceIte, Nat.reduceAdd, Nat.reduceEqDiff, Nat.reduceBEq, reduceCtorEq, Int.reduceBEq, Int.reduceBNe, Int.reduceLT, Int.reduceLE, h10, h9, i64_succ i (by omega)]))
        refine hnext _ w6 ?_ ⟨i + 1, _, f, ?_, ?_, by omega, by rw [hsucc]; exact hsu6, hf, ho5.nil ho6⟩ ?_
        · (repeat (first | with_reducible exact Keeps.refl _ _ | with_reducible exact Keeps.ovr _ _ _ | refine Keeps.put ?_ rfl _ | exact Keeps.refl _ _ | exact Keeps.ovr _ _ _ | refine Keeps.ovr2 ?_ rfl _))
        · simp only [go_sem, ↓reduceIte, Nat.reduceAdd, Nat.reduceEqDiff, Nat.reduceBEq, reduceCtorEq, Int.reduceBEq, Int.reduceBNe, Int.reduceLT, Int.reduceLE]
        · simp only [go_sem, ↓reduceIte, Nat.reduceAdd, Nat.reduceEqDiff, Nat.reduceBEq, reduceCtorEq, Int.reduceBEq, Int.reduceBNe, Int.reduceLT, Int.reduceLE, h7]
        · rw [upTo_int h9, upTo_int (k := .i64) (i := i + 1) (by simp only [go_sem, ↓reduceIte, Nat.reduceAdd, Nat.reduceEqDiff, Nat.reduceBEq, reduceCtorEq, Int.reduceBEq, Int.reduceBNe, Int.reduceLT, Int.reduceLE])]; omega
      · rw [decide_eq_false hx0, Bool.false_or] at h10
        rw [if_neg hx0] at hsucc
        cases hcon : (lwU s.V i).contains x with
        | true =>
          rw [hcon] at h10
          (repeat (first | with_reducible refine run_seq ?_ | with_reducible refine run_reg ?_ | with_reducible refine run_block ?_ | with_reducible refine run_blk ?_ | with_reducible refine run_skip ?_ | with_reducible refine run_exit rfl ?_ | with_reducible refine run_drw ?_ | with_reducible refine run_condT ?_ | with_reducible refine run_ret' ?_ | with_reducible refine run_end' ?_ | simp only [go_sem, ↓reduceIte, Nat.reduceAdd, Nat.reduceEqDiff, Nat.reduceBEq, reduceCtorEq, Int.reduceBEq, Int.reduceBNe, Int.reduceLT, Int.reduceLE, h10, h9, i64_succ i (by omega)]))
          refine hnext _ w6 ?_ ⟨i + 1, _, f, ?_, ?_, by omega, by rw [hsucc, addNew, if_pos hcon]; exact hsu6, hf, ho5.nil ho6⟩ ?_
          · (repeat (first | with_reducible exact Keeps.refl _ _ | with_reducible exact Keeps.ovr _ _ _ | refine Keeps.put ?_ rfl _ | exact Keeps.refl _ _ | exact Keeps.ovr _ _ _ | refine Keeps.ovr2 ?_ rfl _))
          · simp only [go_sem, ↓reduceIte, Nat.reduceAdd, Nat.reduceEqDiff, Nat.reduceBEq, reduceCtorEq, Int.reduceBEq, Int.reduceBNe, Int.reduceLT, Int.reduceLE]
          · simp only [go_sem, ↓reduceIte, Nat.reduceAdd, Nat.reduceEqDiff, Nat.reduceBEq, reduceCtorEq, Int.reduceBEq, Int.reduceBNe, Int.reduceLT, Int.reduceLE, h7]
          · rw [upTo_int h9, upTo_int (k := .i64) (i := i + 1) (by simp only [go_sem, ↓reduceIte, Nat.reduceAdd, Nat.reduceEqDiff, Nat.reduceBEq, reduceCtorEq, Int.reduceBEq, Int.reduceBNe, Int.reduceLT, Int.reduceLE])]; omega
        | false =>
          rw [hcon] at h10
          obtain ⟨p4', hp4', hc4'⟩ := (hs4.keep0 (ho5.nil ho6)).rd.get hlt
          cases hp4'
          rw [hx] at hc4'
          (repeat (first | with_reducible refine run_seq ?_ | with_reducible refine run_reg ?_ | with_reducible refine run_block ?_ | with_reducible refine run_blk ?_ | with_reducible refine run_skip ?_ | with_reducible refine run_exit rfl ?_ | with_reducible refine run_drw ?_ | with_reducible refine run_condT ?_ | with_reducible refine run_ret' ?_ | with_reducible refine run_end' ?_ | simp only [go_sem, ↓reduceIte, Nat.reduceAdd, Nat.reduceEqDiff, Nat.reduceBEq, reduceCtorEq, Int.reduceBEq, Int.reduceBNe, Int.reduceLT, Int.reduceLE, h10, h9, h7, if_pos e1, Int.toNat_natCast, Nat.mul_one, hc4']))
          rw [fillL_one rfl rfl]
          (repeat (first | with_reducible refine run_seq ?_ | with_reducible refine run_reg ?_ | with_reducible refine run_block ?_ | with_reducible refine run_blk ?_ | with_reducible refine run_skip ?_ | with_reducible refine run_exit rfl ?_ | with_reducible refine run_drw ?_ | with_reducible refine run_condT ?_ | with_reducible refine run_ret' ?_ | with_reducible refine run_end' ?_ | simp only [go_sem, ↓reduceIte, Nat.reduceAdd, Nat.reduceEqDiff, Nat.reduceBEq, reduceCtorEq, Int.reduceBEq, Int.reduceBNe, Int.reduceLT, Int.reduceLE]))
          refine bslT fun q w7 hq hs7 hat7 ho7 => ?_
          (repeat (first | with_reducible refine run_seq ?_ | with_reducible refine run_reg ?_ | with_reducible refine run_block ?_ | with_reducible refine run_blk ?_ | with_reducible refine run_skip ?_ | with_reducible refine run_exit rfl ?_ | with_reducible refine run_drw ?_ | with_reducible refine run_condT ?_ | with_reducible refine run_ret' ?_ | with_reducible refine run_end' ?_ | simp only [go_sem, ↓reduceIte, Nat.reduceAdd, Nat.reduceEqDiff, Nat.reduceBEq, reduceCtorEq, Int.reduceBEq, Int.reduceBNe, Int.reduceLT, Int.reduceLE, h7]))
          refine appT (hsu6.keep0 ho7) (SrcIs.at hat7 rfl) (by simp [oneC]) (by omega) (by omega) ?_
          intro v8 w8 f8 hs8 hf8 ho8 _
          have hz5 := ho5.size
          have hz6 := ho6.size
          have hz7 := ho7.size
          (repeat (first | with_reducible refine run_seq ?_ | with_reducible refine run_reg ?_ | with_reducible refine run_block ?_ | with_reducible refine run_blk ?_ | with_reducible refine run_skip ?_ | with_reducible refine run_exit rfl ?_ | with_reducible refine run_drw ?_ | with_reducible refine run_condT ?_ | with_reducible refine run_ret' ?_ | with_reducible refine run_end' ?_ | simp only [go_sem, ↓reduceIte, Nat.reduceAdd, Nat.reduceEqDiff, Nat.reduceBEq, reduceCtorEq, Int.reduceBEq, Int.reduceBNe, Int.reduceLT, Int.reduceLE, h9, i64_succ i (by omega)]))
          refine hnext _ w8 ?_ ⟨i + 1, v8, f8, ?_, ?_, by omega, by rw [hsucc, addNew, if_neg (by rw [hcon]; simp), List.length_append, ints_append]; exact hs8, ?_, ((ho5.nil ho6).nil ho7).trans ho8 fun y hy => .inr (hf y hy)⟩ ?_
          · (repeat (first | with_reducible exact Keeps.refl _ _ | with_reducible exact Keeps.ovr _ _ _ | refine Keeps.put ?_ rfl _ | exact Keeps.refl _ _ | exact Keeps.ovr _ _ _ | refine Keeps.ovr2 ?_ rfl _))
          · simp only [go_sem, ↓reduceIte, Nat.reduceAdd, Nat.reduceEqDiff, Nat.reduceBEq, reduceCtorEq, Int.reduceBEq, Int.reduceBNe, Int.reduceLT, Int.reduceLE]
          · simp only [go_sem, ↓reduceIte, Nat.reduceAdd, Nat.reduceEqDiff, Nat.reduceBEq, reduceCtorEq, Int.reduceBEq, Int.reduceBNe, Int.reduceLT, Int.reduceLE]
          · intro y hy
            rcases hf8 with rfl | rfl
            · exact hf y hy
            · simp only [List.mem_singleton] at hy; omega
          · rw [upTo_int h9, upTo_int (k := .i64) (i := i + 1) (by simp only [go_sem, ↓reduceIte, Nat.reduceAdd, Nat.reduceEqDiff, Nat.reduceBEq, reduceCtorEq, Int.reduceBEq, Int.reduceBNe, Int.reduceLT, Int.reduceLE])]; omega
  · have : i = s.V.length := by have : ¬ (i < s.V.length) := by simpa using hge
                                omega
    subst this
    rw [lwU_end hok] at hsu
    have hll := leadsO_length hok
    (repeat (first | with_reducible refine run_seq ?_ | with_reducible refine run_reg ?_ | with_reducible refine run_block ?_ | with_reducible refine run_blk ?_ | with_reducible refine run_skip ?_ | with_reducible refine run_exit rfl ?_ | with_reducible refine run_drw ?_ | with_reducible refine run_condT ?_ | with_reducible refine run_ret' ?_ | with_reducible refine run_end' ?_ | simp only [go_sem, ↓reduceIte, Nat.reduceAdd, Nat.reduceEqDiff, Nat.reduceBEq, reduceCtorEq, Int.reduceBEq, Int.reduceBNe, Int.reduceLT, Int.reduceLE, h7]))
    refine callT (Leads_m (ht4.p.keep0 ho5)) ?_
    rintro v6 w6 ⟨ho6, f6, hs6, hf6⟩
    (repeat (first | with_reducible refine run_seq ?_ | with_reducible refine run_reg ?_ | with_reducible refine run_block ?_ | with_reducible refine run_blk ?_ | with_reducible refine run_skip ?_ | with_reducible refine run_exit rfl ?_ | with_reducible refine run_drw ?_ | with_reducible refine run_condT ?_ | with_reducible refine run_ret' ?_ | with_reducible refine run_end' ?_ | simp only [go_sem, ↓reduceIte, Nat.reduceAdd, Nat.reduceEqDiff, Nat.reduceBEq, reduceCtorEq, Int.reduceBEq, Int.reduceBNe, Int.reduceLT, Int.reduceLE, h7]))
    refine callT (law_ints hs6.rd (hsu.keep0 ho6).rd (by omega)) ?_
    rintro r w7 ⟨rfl, ho7⟩
    (repeat (first | with_reducible refine run_seq ?_ | with_reducible refine run_reg ?_ | with_reducible refine run_block ?_ | with_reducible refine run_blk ?_ | with_reducible refine run_skip ?_ | with_reducible refine run_exit rfl ?_ | with_reducible refine run_drw ?_ | with_reducible refine run_condT ?_ | with_reducible refine run_ret' ?_ | with_reducible refine run_end' ?_ | simp only [go_sem, ↓reduceIte, Nat.reduceAdd, Nat.reduceEqDiff, Nat.reduceBEq, reduceCtorEq, Int.reduceBEq, Int.reduceBNe, Int.reduceLT, Int.reduceLE, decide_eq_true (rfl : leadsO (some s) = leadsO (some s))]))
    refine callT1 (law_alive w7) fun w8 ho8 => ?_
    (repeat (first | with_reducible refine run_seq ?_ | with_reducible refine run_reg ?_ | with_reducible refine run_block ?_ | with_reducible refine run_blk ?_ | with_reducible refine run_skip ?_ | with_reducible refine run_exit rfl ?_ | with_reducible refine run_drw ?_ | with_reducible refine run_condT ?_ | with_reducible refine run_ret' ?_ | with_reducible refine run_end' ?_ | simp only [go_sem, ↓reduceIte, Nat.reduceAdd, Nat.reduceEqDiff, Nat.reduceBEq, reduceCtorEq, Int.reduceBEq, Int.reduceBNe, Int.reduceLT, Int.reduceLE]))
    exact ((((ho2.nil ho4).nil ho5).nil ho6).nil ho7).nil ho8

/-! ### RootsPlaces -/
theorem filter_len (P : Nat → Bool) (i : Nat) (h : P i = true) : ∀ n, i < n → ((List.range n).filter P)[((List.range i).filter P).length]? = some i := by
  intro n hn
  obtain ⟨k, rfl⟩ : ∃ k, n = i + 1 + k := ⟨n - (i + 1), by omega⟩
  rw [List.range_add, List.filter_append, List.range_succ, List.filter_append, List.filter_cons, if_pos h, List.append_assoc]
  rw [List.getElem?_append_right (Nat.le_refl _)]
  simp
/-- how many of the first i places are not empty -/
def nzU (V : List Int) (i : Nat) : Nat := ((List.range i).filter fun j => V.getD j 0 != 0).length
theorem nzU_succ (V : List Int) (i : Nat) : nzU V (i + 1) = nzU V i + (if V.getD i 0 = 0 then 0 else 1) := by
  unfold nzU
  rw [List.range_succ, List.filter_append, List.length_append]
  congr 1
  by_cases h0 : V.getD i 0 = 0
  · rw [if_pos h0, List.filter_cons, if_neg (by simpa using h0)]; rfl
  · rw [if_neg h0, List.filter_cons, if_pos (by simpa using h0)]; rfl
theorem nzU_lt {s : MS} (h : s.Ok) {i : Nat} (hi : i < 16 * s.M + 16 + s.Q.length) (h0 : s.V.getD i 0 ≠ 0) : nzU s.V i < (placesO (some s)).length ∧ (placesO (some s)).getD (nzU s.V i) (0, 0, 0) = pj s i := by
  have hf := filter_len (fun j => s.V.getD j 0 != 0) i (by simpa using h0) _ hi
  have hlt : nzU s.V i < (idx s).length := (List.getElem?_eq_some_iff.1 hf).1
  refine ⟨by rw [placesO_length h]; exact hlt, ?_⟩
  rw [places_getD h hlt]
  have : (idx s).getD (nzU s.V i) 0 = i := by rw [List.getD_eq_getElem?_getD]; unfold idx nzU; rw [hf]; rfl
  rw [this]
theorem nzU_end {s : MS} (h : s.Ok) : nzU s.V (16 * s.M + 16 + s.Q.length) = (placesO (some s)).length := by rw [placesO_length h]; rfl
theorem nzU_le (V : List Int) (i : Nat) : nzU V i ≤ i := by unfold nzU; exact Nat.le_trans (List.length_filter_le _ _) (by simp)

theorem setO_cases {s : MS} (h : s.Ok) (p : PT) (a : Int) : ((setO (some s) p a).1 = 1 ∧ (setO (some s) p a).2 = some s) ∨
    ∃ j, j < 16 * s.M + 16 + s.Q.length ∧ p = pj s j ∧ (setO (some s) p a).1 = 0 ∧ (setO (some s) p a).2 = some (s.wr (segJ s j) a) := by
  unfold setO
  cases e : seg s p with
  | none => exact .inl ⟨by simp [e], by simp [e]⟩
  | some x =>
    obtain ⟨j, hj, rfl, rfl⟩ := seg_inv h e
    cases hb : badA (pj s j) a with
    | true => exact .inl ⟨by simp [e, hb], by simp [e, hb]⟩
    | false => exact .inr ⟨j, hj, rfl, by simp [e, hb], by simp [e, hb]⟩

theorem places_walk {w : World} {v : Value} {l : List A7} (n : Int) (p : PT) (ad : Int) (hl : ActsAt w.heap.size w v l) : Cs Try.prog 3 [.int .i64 n, v, .agg ⟨plV p⟩, .int .i64 ad] w fun r w' => r = .bool true ∧ Only [] w w' := by
  refine enter_law03_RootsPlaces rfl ?_
  unfold x_law03_RootsPlaces
  (repeat (first | with_reducible refine run_seq ?_ | with_reducible refine run_reg ?_ | with_reducible refine run_block ?_ | with_reducible refine run_blk ?_ | with_reducible refine run_skip ?_ | with_reducible refine run_exit rfl ?_ | with_reducible refine run_drw ?_ | with_reducible refine run_condT ?_ | with_reducible refine run_ret' ?_ | with_reducible refine run_end' ?_ | simp only [go_sem, ↓reduceIte, Nat.reduceAdd, Nat.reduceEqDiff, Nat.reduceBEq, reduceCtorEq, Int.reduceBEq, Int.reduceBNe, Int.reduceLT, Int.reduceLE]))
  refine boxT fun q w1 hq hs1 hat1 ho1 => ?_
  (repeat (first | with_reducible refine run_seq ?_ | with_reducible refine run_reg ?_ | with_reducible refine run_block ?_ | with_reducible refine run_blk ?_ | with_reducible refine run_skip ?_ | with_reducible refine run_exit rfl ?_ | with_reducible refine run_drw ?_ | with_reducible refine run_condT ?_ | with_reducible refine run_ret' ?_ | with_reducible refine run_end' ?_ | simp only [go_sem, ↓reduceIte, Nat.reduceAdd, Nat.reduceEqDiff, Nat.reduceBEq, reduceCtorEq, Int.reduceBEq, Int.reduceBNe, Int.reduceLT, Int.reduceLE]))
  refine callT (law_made (hl.keep (Nat.le_refl _) ho1 (by simp)) (by omega) n) ?_
  rintro r w2 ⟨ho2, ⟨rfl, _⟩ | ⟨hg, a, b, fp, rp, s, rfl, hs, ht, hnew⟩⟩
  · (repeat (first | with_reducible refine run_seq ?_ | with_reducible refine run_reg ?_ | with_reducible refine run_block ?_ | with_reducible refine run_blk ?_ | with_reducible refine run_skip ?_ | with_reducible refine run_exit rfl ?_ | with_reducible refine run_drw ?_ | with_reducible refine run_condT ?_ | with_reducible refine run_ret' ?_ | with_reducible refine run_end' ?_ | simp only [go_sem, ↓reduceIte, Nat.reduceAdd, Nat.reduceEqDiff, Nat.reduceBEq, reduceCtorEq, Int.reduceBEq, Int.reduceBNe, Int.reduceLT, Int.reduceLE]))
    refine callT1 (law_alive w2) fun w' ho => ?_
    (repeat (first | with_reducible refine run_seq ?_ | with_reducible refine run_reg ?_ | with_reducible refine run_block ?_ | with_reducible refine run_blk ?_ | with_reducible refine run_skip ?_ | with_reducible refine run_exit rfl ?_ | with_reducible refine run_drw ?_ | with_reducible refine run_condT ?_ | with_reducible refine run_ret' ?_ | with_reducible refine run_end' ?_ | simp only [go_sem, ↓reduceIte, Nat.reduceAdd, Nat.reduceEqDiff, Nat.reduceBEq, reduceCtorEq, Int.reduceBEq, Int.reduceBNe, Int.reduceLT, Int.reduceLE]))
    exact (ho1.nil ho2).nil ho
  have hok : s.Ok := by obtain ⟨_, _, _, _, _, _, _, _, _, k⟩ := ht.p; exact k.ok
  have hV := V_le hok
  have hVl := V_length hok
  have hlt := ht.lt
  (repeat (first | with_reducible refine run_seq ?_ | with_reducible refine run_reg ?_ | with_reducible refine run_block ?_ | with_reducible refine run_blk ?_ | with_reducible refine run_skip ?_ | with_reducible refine run_exit rfl ?_ | with_reducible refine run_drw ?_ | with_reducible refine run_condT ?_ | with_reducible refine run_ret' ?_ | with_reducible refine run_end' ?_ | simp only [go_sem, ↓reduceIte, Nat.reduceAdd, Nat.reduceEqDiff, Nat.reduceBEq, reduceCtorEq, Int.reduceBEq, Int.reduceBNe, Int.reduceLT, Int.reduceLE]))
  refine callT (law_all ht) ?_
  rintro v4 w4 ⟨ho4, f4, hs4, hf4⟩
  obtain ⟨a4, c4, rfl⟩ := hs4.val
  have ht4 := ht.keep0 ho4
  have ho14 := ho2.nil ho4
  have hc4 : cellsAt w4 ⟨q, 0, none⟩ 3 = some (plV p) := cellsAt_at (hat1.keep0 ho14) 0 3 (by simp [plV])
  (repeat (first | with_reducible refine run_seq ?_ | with_reducible refine run_reg ?_ | with_reducible refine run_block ?_ | with_reducible refine run_blk ?_ | with_reducible refine run_skip ?_ | with_reducible refine run_exit rfl ?_ | with_reducible refine run_drw ?_ | with_reducible refine run_condT ?_ | with_reducible refine run_ret' ?_ | with_reducible refine run_end' ?_ | simp only [go_sem, ↓reduceIte, Nat.reduceAdd, Nat.reduceEqDiff, Nat.reduceBEq, reduceCtorEq, Int.reduceBEq, Int.reduceBNe, Int.reduceLT, Int.reduceLE, hc4]))
  refine callT (Set_m ht4.p p ad) ?_
  rintro r w5 ⟨rfl, hp5, ho5, _⟩
  have hr5 : RR w5 (some b) rp (some s) := ht4.r.keep ho5 fun y hy hy2 => ht.d y hy2 hy
  have hqn : q ∉ fp := fun hx => by have := hnew q (by simp [hx]); omega
  have hq5 : At w5 q (plV p) := (hat1.keep0 ho14).keep ho5 hqn
  have hs45 : Sl w5 1 (.slice a4 s.V.length c4) s.V.length (ints s.V) f4 := hs4.keep ho5 fun y hy hy2 => by have := hf4 y hy; have := hlt y (by simp [hy2]); omega
  obtain ⟨s5, hs5, hM5, hQ5⟩ : ∃ s5, (setO (some s) p ad).2 = some s5 ∧ s5.M = s.M ∧ s5.Q.length = s.Q.length := by
    rcases setO_cases hok p ad with ⟨_, h2⟩ | ⟨j, hj, _, _, h2⟩
    · exact ⟨s, h2, rfl, rfl⟩
    · exact ⟨_, h2, wr_M _ _ _, wr_Q _ _ _⟩
  rw [hs5] at hp5
  have hok5 : s5.Ok := by obtain ⟨_, _, _, _, _, _, _, _, _, k⟩ := hp5; exact k.ok
  have hV5 : s5.V.length = s.V.length := by rw [V_length hok5, hVl, hM5, hQ5]
  (repeat (first | with_reducible refine run_seq ?_ | with_reducible refine run_reg ?_ | with_reducible refine run_block ?_ | with_reducible refine run_blk ?_ | with_reducible refine run_skip ?_ | with_reducible refine run_exit rfl ?_ | with_reducible refine run_drw ?_ | with_reducible refine run_condT ?_ | with_reducible refine run_ret' ?_ | with_reducible refine run_end' ?_ | simp only [go_sem, ↓reduceIte, Nat.reduceAdd, Nat.reduceEqDiff, Nat.reduceBEq, reduceCtorEq, Int.reduceBEq, Int.reduceBNe, Int.reduceLT, Int.reduceLE]))
  refine callT (law_all2 hp5 hr5 hM5.symm hQ5.symm) ?_
  rintro v6 w6 ⟨ho6, f6, hs6, hf6⟩
  obtain ⟨a6, c6, rfl⟩ := hs6.val
  (repeat (first | with_reducible refine run_seq ?_ | with_reducible refine run_reg ?_ | with_reducible refine run_block ?_ | with_reducible refine run_blk ?_ | with_reducible refine run_skip ?_ | with_reducible refine run_exit rfl ?_ | with_reducible refine run_drw ?_ | with_reducible refine run_condT ?_ | with_reducible refine run_ret' ?_ | with_reducible refine run_end' ?_ | simp only [go_sem, ↓reduceIte, Nat.reduceAdd, Nat.reduceEqDiff, Nat.reduceBEq, reduceCtorEq, Int.reduceBEq, Int.reduceBNe, Int.reduceLT, Int.reduceLE]))
  refine callT (rEvery (hr5.keep0 ho6)) ?_
  rintro v7 w7 ⟨ho7, f7, hs7, hf7⟩
  obtain ⟨a7, c7, rfl⟩ := hs7.val
  have o57 := ho6.nil ho7
  (repeat (first | with_reducible refine run_seq ?_ | with_reducible refine run_reg ?_ | with_reducible refine run_block ?_ | with_reducible refine run_blk ?_ | with_reducible refine run_skip ?_ | with_reducible refine run_exit rfl ?_ | with_reducible refine run_drw ?_ | with_reducible refine run_condT ?_ | with_reducible refine run_ret' ?_ | with_reducible refine run_end' ?_ | simp only [go_sem, ↓reduceIte, Nat.reduceAdd, Nat.reduceEqDiff, Nat.reduceBEq, reduceCtorEq, Int.reduceBEq, Int.reduceBNe, Int.reduceLT, Int.reduceLE]))
  refine callT (Places_m (hp5.keep0 o57)) ?_
  rintro v8 w8 ⟨ho8, f8, hs8, hf8⟩
  obtain ⟨a8, c8, rfl⟩ := hs8.val
  have o58 := o57.nil ho8
  have o08 : Only [] w w8 := ((ho1.nil ho14).trans ho5 fun y hy => .inr (by have := hnew y (by simp [hy]); omega)).nil o58
  have hel := everyO_length (s := s)
  (repeat (first | with_reducible refine run_seq ?_ | with_reducible refine run_reg ?_ | with_reducible refine run_block ?_ | with_reducible refine run_blk ?_ | with_reducible refine run_skip ?_ | with_reducible refine run_exit rfl ?_ | with_reducible refine run_drw ?_ | with_reducible refine run_condT ?_ | with_reducible refine run_ret' ?_ | with_reducible refine run_end' ?_ | simp only [go_sem, ↓reduceIte, Nat.reduceAdd, Nat.reduceEqDiff, Nat.reduceBEq, reduceCtorEq, Int.reduceBEq, Int.reduceBNe, Int.reduceLT, Int.reduceLE]))
  have kold := hs45.keep0 o58
  have know := (hs6.keep0 ho7).keep0 ho8
  have kev := hs7.keep0 ho8
  have kq := hq5.keep0 o58
  have hnle := nzU_le s5.V
  refine run_loop (8 :: 15 :: 17 :: 41 :: 42 :: 43 :: 44 :: 45 :: 46 :: 47 :: 48 :: 49 :: 50 :: 51 :: 52 :: 53 :: 54 :: 55 :: 56 :: 57 :: 58 :: 59 :: 60 :: 61 :: 62 :: 63 :: 64 :: 65 :: 66 :: 67 :: 68 :: 69 :: 70 :: 71 :: 72 :: 73 :: 74 :: 75 :: 76 :: 77 :: 78 :: 79 :: 80 :: 81 :: 82 :: 83 :: 84 :: 85 :: 86 :: 87 :: 88 :: 89 :: 90 :: 91 :: 92 :: 93 :: 94 :: 95 :: 96 :: 97 :: 98 :: 99 :: 100 :: 101 :: 102 :: 103 :: 104 :: 105 :: 106 :: 107 :: 108 :: 109 :: []) (fun g w' => ∃ (i : Nat), g 17 = .int .i64 i ∧ g 15 = .int .i64 (nzU s5.V i : Nat) ∧ i ≤ s.V.length ∧ Only [] w8 w') (fun g _ => upTo s.V.length 17 g)
    ⟨0, by simp only [go_sem, ↓reduceIte, Nat.reduceAdd, Nat.reduceEqDiff, Nat.reduceBEq, reduceCtorEq, Int.reduceBEq, Int.reduceBNe, Int.reduceLT, Int.reduceLE]; rfl, by simp only [go_sem, ↓reduceIte, Nat.reduceAdd, Nat.reduceEqDiff, Nat.reduceBEq, reduceCtorEq, Int.reduceBEq, Int.reduceBNe, Int.reduceLT, Int.reduceLE]; rfl, by omega, Only.refl _ _⟩ fun g w9 hI hnext => ?_
  obtain ⟨i, h17, h15, hi, ho9⟩ := hI
  (repeat (first | with_reducible refine run_seq ?_ | with_reducible refine run_reg ?_ | with_reducible refine run_block ?_ | with_reducible refine run_blk ?_ | with_reducible refine run_skip ?_ | with_reducible refine run_exit rfl ?_ | with_reducible refine run_drw ?_ | with_reducible refine run_condT ?_ | with_reducible refine run_ret' ?_ | with_reducible refine run_end' ?_ | simp only [go_sem, ↓reduceIte, Nat.reduceAdd, Nat.reduceEqDiff, Nat.reduceBEq, reduceCtorEq, Int.reduceBEq, Int.reduceBNe, Int.reduceLT, Int.reduceLE, h17]))
  refine condT (fun hlt9 => ?_) (fun hge9 => ?_)
  · have hlt9 : i < s.V.length := by have : (i : Int) < (((everyO (some s)).length : Nat) : Int) := by simpa using hlt9
                                     omega
    obtain ⟨gE, cE, hvE, hcE, _⟩ := (kev.keep0 ho9).place (i := i) (by rw [hel]; omega)
    cases hvE
    rw [every_getD (by omega)] at hcE
    obtain ⟨po, hpo, hco⟩ := (kold.keep0 ho9).rd.get hlt9
    obtain ⟨pn, hpn, hcn⟩ := (know.keep0 ho9).rd.get (i := i) (by omega)
    cases hpo; cases hpn
    have hcq : cellsAt w9 ⟨q, 0, none⟩ 3 = some (plV p) := cellsAt_at (kq.keep0 ho9) 0 3 (by simp [plV])
    have e1 : (0 : Int) ≤ (i : Int) ∧ (i : Int) < (((everyO (some s)).length : Nat) : Int) := ⟨by omega, by omega⟩
    have e2 : (0 : Int) ≤ (i : Int) ∧ (i : Int) < (s5.V.length : Int) := ⟨by omega, by omega⟩
    have e3 : (0 : Int) ≤ (i : Int) ∧ (i : Int) < (s.V.length : Int) := ⟨by omega, by omega⟩
    -- the test of the law is passed
    have hcs := setO_cases hok p ad
    rw [hs5] at hcs
    clear hs5
    generalize (setO (some s) p ad).1 = es at *
    refine run_skip (run_seq (run_block (run_seq (run_seq ?_))))
    refine run_cut (47 :: 48 :: 49 :: 50 :: 51 :: 52 :: 53 :: 54 :: 55 :: 56 :: 57 :: 58 :: 59 :: 60 :: 61 :: 62 :: 63 :: 64 :: 65 :: 66 :: 67 :: 68 :: 69 :: 70 :: 71 :: 72 :: 73 :: 74 :: 75 :: 76 :: 77 :: 78 :: 79 :: 80 :: 81 :: 82 :: 83 :: 84 :: 85 :: 86 :: 87 :: []) (fun ρ w' => ρ 87 = .bool false ∧ w' = w9.drew) (fun kk hkk => ?_) (fun g' w' hJ => ?_)
    · rcases hcs with ⟨rfl, h2⟩ | ⟨j, hj, hpj, rfl, h2⟩
      · cases h2
        by_cases hpe : pj s i = p
        · (repeat (first | with_reducible refine run_seq ?_ | with_reducible refine run_reg ?_ | with_reducible refine run_block ?_ | with_reducible refine run_blk ?_ | with_reducible refine run_skip ?_ | with_reducible refine run_exit rfl ?_ | with_reducible refine run_drw ?_ | with_reducible refine run_condT ?_ | with_reducible refine run_ret' ?_ | with_reducible refine run_end' ?_ | simp only [go_sem, ↓reduceIte, Nat.reduceAdd, Nat.reduceEqDiff, Nat.reduceBEq, reduceCtorEq, Int.reduceBEq, Int.reduceBNe, Int.reduceLT, Int.reduceLE, h17, if_pos e1, if_pos e2, if_pos e3, Int.toNat_natCast, Nat.mul_one, hcE, hcq, hco, hcn, eqAO_pl, decide_eq_true hpe, beq_int_false (show ¬ (1 : Int) = 0 by omega), bne_int_false (rfl : s.V.getD i 0 = s.V.getD i 0)]))
          exact hkk _ _ (by (repeat (first | with_reducible exact Keeps.refl _ _ | with_reducible exact Keeps.ovr _ _ _ | refine Keeps.put ?_ rfl _ | exact Keeps.refl _ _ | exact Keeps.ovr _ _ _ | refine Keeps.ovr2 ?_ rfl _))) ⟨by simp only [go_sem, ↓reduceIte, Nat.reduceAdd, Nat.reduceEqDiff, Nat.reduceBEq, reduceCtorEq, Int.reduceBEq, Int.reduceBNe, Int.reduceLT, Int.reduceLE], rfl⟩
        · (repeat (first | with_reducible refine run_seq ?_ | with_reducible refine run_reg ?_ | with_reducible refine run_block ?_ | with_reducible refine run_blk ?_ | with_reducible refine run_skip ?_ | with_reducible refine run_exit rfl ?_ | with_reducible refine run_drw ?_ | with_reducible refine run_condT ?_ | with_reducible refine run_ret' ?_ | with_reducible refine run_end' ?_ | simp only [go_sem, ↓reduceIte, Nat.reduceAdd, Nat.reduceEqDiff, Nat.reduceBEq, reduceCtorEq, Int.reduceBEq, Int.reduceBNe, Int.reduceLT, Int.reduceLE, h17, if_pos e1, if_pos e2, if_pos e3, Int.toNat_natCast, Nat.mul_one, hcE, hcq, hco, hcn, eqAO_pl, decide_eq_false hpe, bne_int_false (rfl : s.V.getD i 0 = s.V.getD i 0)]))
          exact hkk _ _ (by (repeat (first | with_reducible exact Keeps.refl _ _ | with_reducible exact Keeps.ovr _ _ _ | refine Keeps.put ?_ rfl _ | exact Keeps.refl _ _ | exact Keeps.ovr _ _ _ | refine Keeps.ovr2 ?_ rfl _))) ⟨by simp only [go_sem, ↓reduceIte, Nat.reduceAdd, Nat.reduceEqDiff, Nat.reduceBEq, reduceCtorEq, Int.reduceBEq, Int.reduceBNe, Int.reduceLT, Int.reduceLE], rfl⟩
      · have hs5e : s5 = s.wr (segJ s j) ad := Option.some.inj h2
        have hVe : s5.V = s.V.set j ad := by rw [hs5e]; exact wr_segJ hok hj ad
        by_cases hij : i = j
        · subst hij
          have hpe : pj s i = p := hpj.symm
          have hve : s5.V.getD i 0 = ad := by rw [hVe]; simp [List.getD_eq_getElem?_getD, List.getElem?_set_self hlt9]
          by_cases hvo : s5.V.getD i 0 = s.V.getD i 0
          · (repeat (first | with_reducible refine run_seq ?_ | with_reducible refine run_reg ?_ | with_reducible refine run_block ?_ | with_reducible refine run_blk ?_ | with_reducible refine run_skip ?_ | with_reducible refine run_exit rfl ?_ | with_reducible refine run_drw ?_ | with_reducible refine run_condT ?_ | with_reducible refine run_ret' ?_ | with_reducible refine run_end' ?_ | simp only [go_sem, ↓reduceIte, Nat.reduceAdd, Nat.reduceEqDiff, Nat.reduceBEq, reduceCtorEq, Int.reduceBEq, Int.reduceBNe, Int.reduceLT, Int.reduceLE, h17, if_pos e1, if_pos e2, if_pos e3, Int.toNat_natCast, Nat.mul_one, hcE, hcq, hco, hcn, eqAO_pl, decide_eq_true hpe, beq_int_true (rfl : (0 : Int) = 0), bne_int_false hve, bne_int_false hvo]))
            exact hkk _ _ (by (repeat (first | with_reducible exact Keeps.refl _ _ | with_reducible exact Keeps.ovr _ _ _ | refine Keeps.put ?_ rfl _ | exact Keeps.refl _ _ | exact Keeps.ovr _ _ _ | refine Keeps.ovr2 ?_ rfl _))) ⟨by simp only [go_sem, ↓reduceIte, Nat.reduceAdd, Nat.reduceEqDiff, Nat.reduceBEq, reduceCtorEq, Int.reduceBEq, Int.reduceBNe, Int.reduceLT, Int.reduceLE], rfl⟩
          · (repeat (first | with_reducible refine run_seq ?_ | with_reducible refine run_reg ?_ | with_reducible refine run_block ?_ | with_reducible refine run_blk ?_ | with_reducible refine run_skip ?_ | with_reducible refine run_exit rfl ?_ | with_reducible refine run_drw ?_ | with_reducible refine run_condT ?_ | with_reducible refine run_ret' ?_ | with_reducible refine run_end' ?_ | simp only [go_sem, ↓reduceIte, Nat.reduceAdd, Nat.reduceEqDiff, Nat.reduceBEq, reduceCtorEq, Int.reduceBEq, Int.reduceBNe, Int.reduceLT, Int.reduceLE, h17, if_pos e1, if_pos e2, if_pos e3, Int.toNat_natCast, Nat.mul_one, hcE, hcq, hco, hcn, eqAO_pl, decide_eq_true hpe, beq_int_true (rfl : (0 : Int) = 0), bne_int_false hve, bne_int_true hvo, bne_int_false (rfl : (0 : Int) = 0)]))
            exact hkk _ _ (by (repeat (first | with_reducible exact Keeps.refl _ _ | with_reducible exact Keeps.ovr _ _ _ | refine Keeps.put ?_ rfl _ | exact Keeps.refl _ _ | exact Keeps.ovr _ _ _ | refine Keeps.ovr2 ?_ rfl _))) ⟨by simp only [go_sem, ↓reduceIte, Nat.reduceAdd, Nat.reduceEqDiff, Nat.reduceBEq, reduceCtorEq, Int.reduceBEq, Int.reduceBNe, Int.reduceLT, Int.reduceLE], rfl⟩
        · have hpe : ¬ pj s i = p := fun e => hij (pj_inj (e.trans hpj))
          have hvo : s5.V.getD i 0 = s.V.getD i 0 := by rw [hVe]; simp only [List.getD_eq_getElem?_getD]; rw [List.getElem?_set_ne (fun e => hij e.symm)]
          (repeat (first | with_reducible refine run_seq ?_ | with_reducible refine run_reg ?_ | with_reducible refine run_block ?_ | with_reducible refine run_blk ?_ | with_reducible refine run_skip ?_ | with_reducible refine run_exit rfl ?_ | with_reducible refine run_drw ?_ | with_reducible refine run_condT ?_ | with_reducible refine run_ret' ?_ | with_reducible refine run_end' ?_ | simp only [go_sem, ↓reduceIte, Nat.reduceAdd, Nat.reduceEqDiff, Nat.reduceBEq, reduceCtorEq, Int.reduceBEq, Int.reduceBNe, Int.reduceLT, Int.reduceLE, h17, if_pos e1, if_pos e2, if_pos e3, Int.toNat_natCast, Nat.mul_one, hcE, hcq, hco, hcn, eqAO_pl, decide_eq_false hpe, bne_int_false hvo]))
          exact hkk _ _ (by (repeat (first | with_reducible exact Keeps.refl _ _ | with_reducible exact Keeps.ovr _ _ _ | refine Keeps.put ?_ rfl _ | exact Keeps.refl _ _ | exact Keeps.ovr _ _ _ | refine Keeps.ovr2 ?_ rfl _))) ⟨by simp only [go_sem, ↓reduceIte, Nat.reduceAdd, Nat.reduceEqDiff, Nat.reduceBEq, reduceCtorEq, Int.reduceBEq, Int.reduceBNe, Int.reduceLT, Int.reduceLE], rfl⟩
    · obtain ⟨h87, rfl⟩ := hJ
      have hnz := nzU_succ s5.V i
      by_cases hz : s5.V.getD i 0 = 0
      · rw [if_pos hz] at hnz
        (repeat (first | with_reducible refine run_seq ?_ | with_reducible refine run_reg ?_ | with_reducible refine run_block ?_ | with_reducible refine run_blk ?_ | with_reducible refine run_skip ?_ | with_reducible refine run_exit rfl ?_ | with_reducible refine run_drw ?_ | with_reducible refine run_condT ?_ | with_reducible refine run_ret' ?_ | with_reducible refine run_end' ?_ | simp only [go_sem, ↓reduceIte, Nat.reduceAdd, Nat.reduceEqDiff, Nat.reduceBEq, reduceCtorEq, Int.reduceBEq, Int.reduceBNe, Int.reduceLT, Int.reduceLE, h87, h17, if_pos e2, Int.toNat_natCast, Nat.mul_one, hcn, bne_int_false hz, i64_succ i (by omega)]))
        refine hnext _ _ ?_ ⟨i + 1, ?_, ?_, by omega, ho9.nil (Only.drew [] _)⟩ ?_
        · (repeat (first | with_reducible exact Keeps.refl _ _ | with_reducible exact Keeps.ovr _ _ _ | refine Keeps.put ?_ rfl _ | exact Keeps.refl _ _ | exact Keeps.ovr _ _ _ | refine Keeps.ovr2 ?_ rfl _))
        · simp only [go_sem, ↓reduceIte, Nat.reduceAdd, Nat.reduceEqDiff, Nat.reduceBEq, reduceCtorEq, Int.reduceBEq, Int.reduceBNe, Int.reduceLT, Int.reduceLE]
        · rw [hnz]; simp only [go_sem, ↓reduceIte, Nat.reduceAdd, Nat.reduceEqDiff, Nat.reduceBEq, reduceCtorEq, Int.reduceBEq, Int.reduceBNe, Int.reduceLT, Int.reduceLE, h15]
        · rw [upTo_int h17, upTo_int (k := .i64) (i := i + 1) (by simp only [go_sem, ↓reduceIte, Nat.reduceAdd, Nat.reduceEqDiff, Nat.reduceBEq, reduceCtorEq, Int.reduceBEq, Int.reduceBNe, Int.reduceLT, Int.reduceLE])]; omega
      · rw [if_neg hz] at hnz
        obtain ⟨hn1, hn2⟩ := nzU_lt hok5 (i := i) (by rw [hM5, hQ5]; omega) hz
        have hpj5 : pj s5 i = pj s i := by unfold pj; rw [hM5]
        rw [hpj5] at hn2
        obtain ⟨gP, cP, hvP, hcP, _⟩ := (hs8.keep0 (ho9.nil (Only.drew [] _))).place (i := nzU s5.V i) hn1
        cases hvP
        rw [hn2] at hcP
        have e4 : (0 : Int) ≤ ((nzU s5.V i : Nat) : Int) ∧ ((nzU s5.V i : Nat) : Int) < (((placesO (some s5)).length : Nat) : Int) := ⟨by omega, by omega⟩
        have e5 : ¬ (((placesO (some s5)).length : Nat) : Int) ≤ ((nzU s5.V i : Nat) : Int) := by omega
        have hni := hnle i
        (repeat (first | with_reducible refine run_seq ?_ | with_reducible refine run_reg ?_ | with_reducible refine run_block ?_ | with_reducible refine run_blk ?_ | with_reducible refine run_skip ?_ | with_reducible refine run_exit rfl ?_ | with_reducible refine run_drw ?_ | with_reducible refine run_condT ?_ | with_reducible refine run_ret' ?_ | with_reducible refine run_end' ?_ | simp only [go_sem, ↓reduceIte, Nat.reduceAdd, Nat.reduceEqDiff, Nat.reduceBEq, reduceCtorEq, Int.reduceBEq, Int.reduceBNe, Int.reduceLT, Int.reduceLE, h87, h17, h15, if_pos e1, if_pos e2, if_pos e4, Int.toNat_natCast, Nat.mul_one, hcn, hcE, hcP, bne_int_true hz, decide_eq_false e5, eqAO_pl, decide_eq_true (rfl : pj s i = pj s i), i64_succ (nzU s5.V i) (by omega), i64_succ i (by omega)]))
        refine hnext _ _ ?_ ⟨i + 1, ?_, ?_, by omega, (ho9.nil (Only.drew [] _)).nil (Only.drew [] _)⟩ ?_
        · (repeat (first | with_reducible exact Keeps.refl _ _ | with_reducible exact Keeps.ovr _ _ _ | refine Keeps.put ?_ rfl _ | exact Keeps.refl _ _ | exact Keeps.ovr _ _ _ | refine Keeps.ovr2 ?_ rfl _))
        · simp only [go_sem, ↓reduceIte, Nat.reduceAdd, Nat.reduceEqDiff, Nat.reduceBEq, reduceCtorEq, Int.reduceBEq, Int.reduceBNe, Int.reduceLT, Int.reduceLE]
        · rw [hnz]; simp only [go_sem, ↓reduceIte, Nat.reduceAdd, Nat.reduceEqDiff, Nat.reduceBEq, reduceCtorEq, Int.reduceBEq, Int.reduceBNe, Int.reduceLT, Int.reduceLE]
        · rw [upTo_int h17, upTo_int (k := .i64) (i := i + 1) (by simp only [go_sem, ↓reduceIte, Nat.reduceAdd, Nat.reduceEqDiff, Nat.reduceBEq, reduceCtorEq, Int.reduceBEq, Int.reduceBNe, Int.reduceLT, Int.reduceLE])]; omega
  · have hge9 : ¬ (i : Int) < (((everyO (some s)).length : Nat) : Int) := by simpa using hge9
    have : i = s.V.length := by omega
    subst this
    have hend : nzU s5.V s.V.length = (placesO (some s5)).length := by rw [← nzU_end hok5, hM5, hQ5, hVl]
    rw [hend] at h15
    (repeat (first | with_reducible refine run_seq ?_ | with_reducible refine run_reg ?_ | with_reducible refine run_block ?_ | with_reducible refine run_blk ?_ | with_reducible refine run_skip ?_ | with_reducible refine run_exit rfl ?_ | with_reducible refine run_drw ?_ | with_reducible refine run_condT ?_ | with_reducible refine run_ret' ?_ | with_reducible refine run_end' ?_ | simp only [go_sem, ↓reduceIte, Nat.reduceAdd, Nat.reduceEqDiff, Nat.reduceBEq, reduceCtorEq, Int.reduceBEq, Int.reduceBNe, Int.reduceLT, Int.reduceLE, h15, beq_int_true (rfl : (((placesO (some s5)).length : Nat) : Int) = (((placesO (some s5)).length : Nat) : Int))]))
    refine callT1 (law_alive w9) fun w10 ho10 => ?_
    (repeat (first | with_reducible refine run_seq ?_ | with_reducible refine run_reg ?_ | with_reducible refine run_block ?_ | with_reducible refine run_blk ?_ | with_reducible refine run_skip ?_ | with_reducible refine run_exit rfl ?_ | with_reducible refine run_drw ?_ | with_reducible refine run_condT ?_ | with_reducible refine run_ret' ?_ | with_reducible refine run_end' ?_ | simp only [go_sem, ↓reduceIte, Nat.reduceAdd, Nat.reduceEqDiff, Nat.reduceBEq, reduceCtorEq, Int.reduceBEq, Int.reduceBNe, Int.reduceLT, Int.reduceLE]))
    exact (o08.nil ho9).nil ho10
end Go.Proofs.Ytblfmacnkacalaa
