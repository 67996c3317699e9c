/- Roots: the reference's Places and Leads. -/
import Derived.Test.YtblfmacnkacalaaRtW
namespace Go.Proofs.Ytblfmacnkacalaa
set_option linter.unusedSimpArgs false
set_option linter.unusedVariables false
set_option maxRecDepth 8000

theorem everyO_length {s : MS} : (everyO (some s)).length = 16 * s.M + 16 + s.Q.length := every_length s
theorem every_getD {s : MS} {i : Nat} (hi : i < 16 * s.M + 16 + s.Q.length) : (everyO (some s)).getD i (0, 0, 0) = pj s i := by
  show (everyS s).getD i (0, 0, 0) = _
  rw [every_eq]; simp [hi]
/-- the places among the first i that are not empty -/
def plU (s : MS) (i : Nat) : List PT := ((List.range i).filter fun j => s.V.getD j 0 != 0).map (pj s)
theorem plU_succ (s : MS) (i : Nat) : plU s (i + 1) = plU s i ++ (if s.V.getD i 0 = 0 then [] else [pj s i]) := by
  unfold plU
  rw [List.range_succ, List.filter_append, List.map_append]
  congr 1
  by_cases h0 : s.V.getD i 0 = 0
  · rw [if_pos h0, List.filter_cons, if_neg (by simpa using h0)]; rfl
  · rw [if_neg h0, List.filter_cons, if_pos (by simpa using h0)]; rfl
theorem plU_length (s : MS) (i : Nat) : (plU s i).length ≤ i := by
  unfold plU
  rw [List.length_map]
  exact Nat.le_trans (List.length_filter_le _ _) (by simp)
theorem plU_end {s : MS} (h : s.Ok) : plU s (16 * s.M + 16 + s.Q.length) = placesO (some s) := by rw [places_idx h]; rfl

theorem rPlaces {w : World} {a : Option Addr} {fp : List Nat} {m : MO} (h : RR w a fp m) : Cs Try.prog 46 [.pointer a] w fun v w' => Only [] w w' ∧ ∃ fp', Sl w' 3 v (placesO m).length (plsV (placesO m)) fp' ∧ ∀ x, x ∈ fp' → w.heap.size ≤ x := by
  refine enter_ref03_Roots_Places rfl ?_
  unfold x_ref03_Roots_Places
  (repeat (first | with_reducible refine run_seq ?_ | with_reducible refine run_reg ?_ | with_reducible refine run_block ?_ | with_reducible refine run_blk ?_ | with_reducible refine run_skip ?_ | with_reducible refine run_exit rfl ?_ | with_reducible refine run_drw ?_ | with_reducible refine run_condT ?_ | with_reducible refine run_ret' ?_ | with_reducible refine run_end' ?_ | simp only [go_sem, ↓reduceIte, Nat.reduceAdd, Nat.reduceEqDiff, Nat.reduceBEq, reduceCtorEq, Int.reduceBEq, Int.reduceBNe, Int.reduceLT, Int.reduceLE]))
  refine callT (rEvery h) ?_
  rintro v4 w1 ⟨ho1, fE, hsE, hfE⟩
  have hEl := hsE.lt
  obtain ⟨a4, c4, e4⟩ := hsE.val
  subst e4
  (repeat (first | with_reducible refine run_seq ?_ | with_reducible refine run_reg ?_ | with_reducible refine run_block ?_ | with_reducible refine run_blk ?_ | with_reducible refine run_skip ?_ | with_reducible refine run_exit rfl ?_ | with_reducible refine run_drw ?_ | with_reducible refine run_condT ?_ | with_reducible refine run_ret' ?_ | with_reducible refine run_end' ?_ | simp only [go_sem, ↓reduceIte, Nat.reduceAdd, Nat.reduceEqDiff, Nat.reduceBEq, reduceCtorEq, Int.reduceBEq, Int.reduceBNe, Int.reduceLT, Int.reduceLE]))
  match m, h with
  | none, _ =>
    refine run_loop (3 :: 5 :: 8 :: 9 :: 10 :: 11 :: 12 :: 13 :: 14 :: 15 :: 16 :: 17 :: 18 :: 19 :: 20 :: 21 :: 22 :: 23 :: 24 :: 25 :: 26 :: 27 :: []) (fun g w' => ∃ i : Nat, g 5 = .int .i64 i ∧ g 3 = .slice none 0 0 ∧ Only [] w w') (fun g _ => upTo 0 5 g) ⟨0, by simp only [go_sem, ↓reduceIte, Nat.reduceAdd, Nat.reduceEqDiff, Nat.reduceBEq, reduceCtorEq, Int.reduceBEq, Int.reduceBNe, Int.reduceLT, Int.reduceLE]; rfl, by simp only [go_sem, ↓reduceIte, Nat.reduceAdd, Nat.reduceEqDiff, Nat.reduceBEq, reduceCtorEq, Int.reduceBEq, Int.reduceBNe, Int.reduceLT, Int.reduceLE], ho1⟩ fun g w2 hI hnext => ?_
    obtain ⟨i, h5, h3, ho2⟩ := hI
    have e0 : ¬ (i : Int) < (((everyO none).length : Nat) : Int) := by show ¬ (i : Int) < ((0 : Nat) : Int); omega
    (repeat (first | with_reducible refine run_seq ?_ | with_reducible refine run_reg ?_ | with_reducible refine run_block ?_ | with_reducible refine run_blk ?_ | with_reducible refine run_skip ?_ | with_reducible refine run_exit rfl ?_ | with_reducible refine run_drw ?_ | with_reducible refine run_condT ?_ | with_reducible refine run_ret' ?_ | with_reducible refine run_end' ?_ | simp only [go_sem, ↓reduceIte, Nat.reduceAdd, Nat.reduceEqDiff, Nat.reduceBEq, reduceCtorEq, Int.reduceBEq, Int.reduceBNe, Int.reduceLT, Int.reduceLE, h5, h3, decide_eq_false e0]))
    exact ⟨ho2, [], Sl.nil3 w2, by simp⟩
  | some s, ⟨b, hb', hp⟩ =>
    subst hb'
    have hok : s.Ok := by obtain ⟨_, _, _, _, _, _, _, _, k⟩ := hp; exact k.ok
    have hV := V_le hok
    rw [V_length hok] at hV
    refine run_loop (3 :: 5 :: 8 :: 9 :: 10 :: 11 :: 12 :: 13 :: 14 :: 15 :: 16 :: 17 :: 18 :: 19 :: 20 :: 21 :: 22 :: 23 :: 24 :: 25 :: 26 :: 27 :: []) (fun g w' => ∃ (i : Nat) (v : Value) (f : List Nat), g 5 = .int .i64 i ∧ g 3 = v ∧ i ≤ 16 * s.M + 16 + s.Q.length ∧ Sl w' 3 v (plU s i).length (plsV (plU s i)) f ∧ (∀ x, x ∈ f → w1.heap.size ≤ x) ∧ Only [] w1 w') (fun g _ => upTo (16 * s.M + 16 + s.Q.length) 5 g)
      ⟨0, _, [], by simp only [go_sem, ↓reduceIte, Nat.reduceAdd, Nat.reduceEqDiff, Nat.reduceBEq, reduceCtorEq, Int.reduceBEq, Int.reduceBNe, Int.reduceLT, Int.reduceLE]; rfl, by simp only [go_sem, ↓reduceIte, Nat.reduceAdd, Nat.reduceEqDiff, Nat.reduceBEq, reduceCtorEq, Int.reduceBEq, Int.reduceBNe, Int.reduceLT, Int.reduceLE], by omega, Sl.nil3 w1, by simp, Only.refl _ _⟩ fun g w2 hI hnext => ?_
    obtain ⟨i, v, f, h5, h3, hi, hs, hf, ho⟩ := hI
    (repeat (first | with_reducible refine run_seq ?_ | with_reducible refine run_reg ?_ | with_reducible refine run_block ?_ | with_reducible refine run_blk ?_ | with_reducible refine run_skip ?_ | with_reducible refine run_exit rfl ?_ | with_reducible refine run_drw ?_ | with_reducible refine run_condT ?_ | with_reducible refine run_ret' ?_ | with_reducible refine run_end' ?_ | simp only [go_sem, ↓reduceIte, Nat.reduceAdd, Nat.reduceEqDiff, Nat.reduceBEq, reduceCtorEq, Int.reduceBEq, Int.reduceBNe, Int.reduceLT, Int.reduceLE, h5]))
    refine condT (fun hlt => ?_) (fun hge => ?_)
    · have hlt : i < 16 * s.M + 16 + s.Q.length := by have := everyO_length (s := s); have : (i : Int) < (((everyO (some s)).length : Nat) : Int) := by simpa using hlt
                                                      omega
      have hsE2 := hsE.keep0 ho
      obtain ⟨gE, cE, hvE, hcE, hgE⟩ := hsE2.place (i := i) (by rw [everyO_length]; exact hlt)
      cases hvE
      rw [every_getD hlt] at hcE
      have c1 : (0 : Int) ≤ (i : Int) ∧ (i : Int) < (((everyO (some s)).length : Nat) : Int) := ⟨by omega, by rw [everyO_length]; omega⟩
      (repeat (first | with_reducible refine run_seq ?_ | with_reducible refine run_reg ?_ | with_reducible refine run_block ?_ | with_reducible refine run_blk ?_ | with_reducible refine run_skip ?_ | with_reducible refine run_exit rfl ?_ | with_reducible refine run_drw ?_ | with_reducible refine run_condT ?_ | with_reducible refine run_ret' ?_ | with_reducible refine run_end' ?_ | simp only [go_sem, ↓reduceIte, Nat.reduceAdd, Nat.reduceEqDiff, Nat.reduceBEq, reduceCtorEq, Int.reduceBEq, Int.reduceBNe, Int.reduceLT, Int.reduceLE, h5, if_pos c1, Int.toNat_natCast, hcE]))
      refine callT (rget ((hp.keep0 ho1).keep0 ho) (seg_pj hlt)) ?_
      rintro v5 w3 ⟨rfl, ho3⟩
      have hcE3 := (hsE.keep0 (ho.nil ho3)).place (i := i) (by rw [everyO_length]; exact hlt)
      obtain ⟨gE', cE', hvE', hcE', _⟩ := hcE3
      cases hvE'
      rw [every_getD hlt] at hcE'
      have hrd := rd_segJ hok hlt
      by_cases hz : s.V.getD i 0 = 0
      · (repeat (first | with_reducible refine run_seq ?_ | with_reducible refine run_reg ?_ | with_reducible refine run_block ?_ | with_reducible refine run_blk ?_ | with_reducible refine run_skip ?_ | with_reducible refine run_exit rfl ?_ | with_reducible refine run_drw ?_ | with_reducible refine run_condT ?_ | with_reducible refine run_ret' ?_ | with_reducible refine run_end' ?_ | simp only [go_sem, ↓reduceIte, Nat.reduceAdd, Nat.reduceEqDiff, Nat.reduceBEq, reduceCtorEq, Int.reduceBEq, Int.reduceBNe, Int.reduceLT, Int.reduceLE, hrd, bne_int_false hz, h5, i64_succ i (by omega)]))
        refine hnext _ w3 ?_ ⟨i + 1, v, f, ?_, ?_, by omega, by rw [plU_succ, if_pos hz, List.append_nil]; exact hs.keep0 ho3, hf, ho.nil ho3⟩ ?_
        · (repeat (first | with_reducible exact Keeps.refl _ _ | with_reducible exact Keeps.ovr _ _ _ | refine Keeps.put ?_ rfl _ | exact Keeps.refl _ _ | exact Keeps.ovr _ _ _ | refine Keeps.ovr2 ?_ rfl _))
        · simp only [go_sem, ↓reduceIte, Nat.reduceAdd, Nat.reduceEqDiff, Nat.reduceBEq, reduceCtorEq, Int.reduceBEq, Int.reduceBNe, Int.reduceLT, Int.reduceLE]
        · simp only [go_sem, ↓reduceIte, Nat.reduceAdd, Nat.reduceEqDiff, Nat.reduceBEq, reduceCtorEq, Int.reduceBEq, Int.reduceBNe, Int.reduceLT, Int.reduceLE, h3]
        · rw [upTo_int h5, upTo_int (k := .i64) (i := i + 1) (by simp only [go_sem, ↓reduceIte, Nat.reduceAdd, Nat.reduceEqDiff, Nat.reduceBEq, reduceCtorEq, Int.reduceBEq, Int.reduceBNe, Int.reduceLT, Int.reduceLE])]; omega
      · (repeat (first | with_reducible refine run_seq ?_ | with_reducible refine run_reg ?_ | with_reducible refine run_block ?_ | with_reducible refine run_blk ?_ | with_reducible refine run_skip ?_ | with_reducible refine run_exit rfl ?_ | with_reducible refine run_drw ?_ | with_reducible refine run_condT ?_ | with_reducible refine run_ret' ?_ | with_reducible refine run_end' ?_ | simp only [go_sem, ↓reduceIte, Nat.reduceAdd, Nat.reduceEqDiff, Nat.reduceBEq, reduceCtorEq, Int.reduceBEq, Int.reduceBNe, Int.reduceLT, Int.reduceLE, hrd, bne_int_true hz, h5, h3, if_pos c1, Int.toNat_natCast, hcE']))
        rw [fillL_agg (n := 3) rfl rfl, setL_pl]
        (repeat (first | with_reducible refine run_seq ?_ | with_reducible refine run_reg ?_ | with_reducible refine run_block ?_ | with_reducible refine run_blk ?_ | with_reducible refine run_skip ?_ | with_reducible refine run_exit rfl ?_ | with_reducible refine run_drw ?_ | with_reducible refine run_condT ?_ | with_reducible refine run_ret' ?_ | with_reducible refine run_end' ?_ | simp only [go_sem, ↓reduceIte, Nat.reduceAdd, Nat.reduceEqDiff, Nat.reduceBEq, reduceCtorEq, Int.reduceBEq, Int.reduceBNe, Int.reduceLT, Int.reduceLE]))
        refine bslT fun q w4 hq hs4 hat4 ho4 => ?_
        have hul := plU_length s i
        (repeat (first | with_reducible refine run_seq ?_ | with_reducible refine run_reg ?_ | with_reducible refine run_block ?_ | with_reducible refine run_blk ?_ | with_reducible refine run_skip ?_ | with_reducible refine run_exit rfl ?_ | with_reducible refine run_drw ?_ | with_reducible refine run_condT ?_ | with_reducible refine run_ret' ?_ | with_reducible refine run_end' ?_ | simp only [go_sem, ↓reduceIte, Nat.reduceAdd, Nat.reduceEqDiff, Nat.reduceBEq, reduceCtorEq, Int.reduceBEq, Int.reduceBNe, Int.reduceLT, Int.reduceLE, h3]))
        refine appT ((hs.keep0 ho3).keep0 ho4) (SrcIs.at hat4 rfl) plV_one (by omega) (by omega) ?_
        intro v5 w5 f5 hs5 hf5 ho5 _
        have hz2 := ho.size
        have hz3 := ho3.size
        have hz4 := ho4.size
        obtain ⟨hsl, hnew⟩ := app_place (p := pj s i) (n0 := w1.heap.size) hs5 hf5 hf (by omega)
        (repeat (first | with_reducible refine run_seq ?_ | with_reducible refine run_reg ?_ | with_reducible refine run_block ?_ | with_reducible refine run_blk ?_ | with_reducible refine run_skip ?_ | with_reducible refine run_exit rfl ?_ | with_reducible refine run_drw ?_ | with_reducible refine run_condT ?_ | with_reducible refine run_ret' ?_ | with_reducible refine run_end' ?_ | simp only [go_sem, ↓reduceIte, Nat.reduceAdd, Nat.reduceEqDiff, Nat.reduceBEq, reduceCtorEq, Int.reduceBEq, Int.reduceBNe, Int.reduceLT, Int.reduceLE, h5, i64_succ i (by omega)]))
        refine hnext _ w5 ?_ ⟨i + 1, v5, f5, ?_, ?_, by omega, by rw [plU_succ, if_neg hz]; exact hsl, hnew, ((ho.nil ho3).nil ho4).trans ho5 fun x hx => .inr (hf x hx)⟩ ?_
        · (repeat (first | with_reducible exact Keeps.refl _ _ | with_reducible exact Keeps.ovr _ _ _ | refine Keeps.put ?_ rfl _ | exact Keeps.refl _ _ | exact Keeps.ovr _ _ _ | refine Keeps.ovr2 ?_ rfl _))
        · simp only [go_sem, ↓reduceIte, Nat.reduceAdd, Nat.reduceEqDiff, Nat.reduceBEq, reduceCtorEq, Int.reduceBEq, Int.reduceBNe, Int.reduceLT, Int.reduceLE]
        · simp only [go_sem, ↓reduceIte, Nat.reduceAdd, Nat.reduceEqDiff, Nat.reduceBEq, reduceCtorEq, Int.reduceBEq, Int.reduceBNe, Int.reduceLT, Int.reduceLE]
        · rw [upTo_int h5, upTo_int (k := .i64) (i := i + 1) (by simp only [go_sem, ↓reduceIte, Nat.reduceAdd, Nat.reduceEqDiff, Nat.reduceBEq, reduceCtorEq, Int.reduceBEq, Int.reduceBNe, Int.reduceLT, Int.reduceLE])]; omega
    · have hge : ¬ (i : Int) < (((everyO (some s)).length : Nat) : Int) := by simpa using hge
      rw [everyO_length] at hge
      have : i = 16 * s.M + 16 + s.Q.length := by omega
      rw [this, plU_end hok] at hs
      (repeat (first | with_reducible refine run_seq ?_ | with_reducible refine run_reg ?_ | with_reducible refine run_block ?_ | with_reducible refine run_blk ?_ | with_reducible refine run_skip ?_ | with_reducible refine run_exit rfl ?_ | with_reducible refine run_drw ?_ | with_reducible refine run_condT ?_ | with_reducible refine run_ret' ?_ | with_reducible refine run_end' ?_ | simp only [go_sem, ↓reduceIte, Nat.reduceAdd, Nat.reduceEqDiff, Nat.reduceBEq, reduceCtorEq, Int.reduceBEq, Int.reduceBNe, Int.reduceLT, Int.reduceLE, h3]))
      exact ⟨ho1.nil ho, f, hs, fun x hx => by have := hf x hx; have := ho1.size; omega⟩

theorem placesO_length {s : MS} (h : s.Ok) : (placesO (some s)).length = (idx s).length := by rw [places_idx h, List.length_map]
theorem places_getD {s : MS} (h : s.Ok) {i : Nat} (hi : i < (idx s).length) : (placesO (some s)).getD i (0, 0, 0) = pj s ((idx s).getD i 0) := by
  rw [places_idx h]; simp [hi]
theorem idx_at {s : MS} {i : Nat} (hi : i < (idx s).length) : (idx s).getD i 0 < 16 * s.M + 16 + s.Q.length ∧ s.V.getD ((idx s).getD i 0) 0 ≠ 0 := by
  have : (idx s).getD i 0 ∈ idx s := by simp [hi]
  exact idx_lt this
theorem idx_length {s : MS} : (idx s).length ≤ 16 * s.M + 16 + s.Q.length := by
  unfold idx; exact Nat.le_trans (List.length_filter_le _ _) (by simp)
/-- the addresses of the first i places that are not empty -/
def ldU (s : MS) (i : Nat) : List Int := leadL (((idx s).take i).map fun j => s.V.getD j 0)
theorem ldU_succ {s : MS} {i : Nat} (hi : i < (idx s).length) : ldU s (i + 1) = addNew (ldU s i) (s.V.getD ((idx s).getD i 0) 0) := by
  unfold ldU
  rw [List.take_succ_eq_append_getElem hi, List.map_append, List.map_cons, List.map_nil, leadL_snoc]
  simp [hi]
theorem ldU_length (s : MS) (i : Nat) : (ldU s i).length ≤ i := by
  unfold ldU
  refine Nat.le_trans (leadL_length _) ?_
  rw [List.length_map, List.length_take]; omega
theorem ldU_end {s : MS} (h : s.Ok) : ldU s (idx s).length = leadsO (some s) := by
  show ldU s (idx s).length = ((filled s).map (·.2)).foldl addNew []
  unfold ldU leadL
  rw [List.take_length, filled_idx h, List.map_map]; rfl

theorem rLeads {w : World} {a : Option Addr} {fp : List Nat} {m : MO} (h : RR w a fp m) : Cs Try.prog 47 [.pointer a] w fun v w' => Only [] w w' ∧ ∃ fp', Sl w' 1 v (leadsO m).length (ints (leadsO m)) fp' ∧ ∀ x, x ∈ fp' → w.heap.size ≤ x := by
  refine enter_ref03_Roots_Leads rfl ?_
  unfold x_ref03_Roots_Leads
  (repeat (first | with_reducible refine run_seq ?_ | with_reducible refine run_reg ?_ | with_reducible refine run_block ?_ | with_reducible refine run_blk ?_ | with_reducible refine run_skip ?_ | with_reducible refine run_exit rfl ?_ | with_reducible refine run_drw ?_ | with_reducible refine run_condT ?_ | with_reducible refine run_ret' ?_ | with_reducible refine run_end' ?_ | simp only [go_sem, ↓reduceIte, Nat.reduceAdd, Nat.reduceEqDiff, Nat.reduceBEq, reduceCtorEq, Int.reduceBEq, Int.reduceBNe, Int.reduceLT, Int.reduceLE]))
  refine callT (rPlaces h) ?_
  rintro v4 w1 ⟨ho1, fE, hsE, hfE⟩
  have hEl := hsE.lt
  obtain ⟨a4, c4, e4⟩ := hsE.val
  subst e4
  (repeat (first | with_reducible refine run_seq ?_ | with_reducible refine run_reg ?_ | with_reducible refine run_block ?_ | with_reducible refine run_blk ?_ | with_reducible refine run_skip ?_ | with_reducible refine run_exit rfl ?_ | with_reducible refine run_drw ?_ | with_reducible refine run_condT ?_ | with_reducible refine run_ret' ?_ | with_reducible refine run_end' ?_ | simp only [go_sem, ↓reduceIte, Nat.reduceAdd, Nat.reduceEqDiff, Nat.reduceBEq, reduceCtorEq, Int.reduceBEq, Int.reduceBNe, Int.reduceLT, Int.reduceLE]))
  match m, h with
  | none, _ =>
    refine run_loop (3 :: 5 :: 6 :: 7 :: 8 :: 11 :: 12 :: 13 :: 14 :: 15 :: 16 :: 17 :: 18 :: 19 :: 20 :: 21 :: 22 :: 23 :: 24 :: 25 :: 26 :: 27 :: 28 :: 29 :: 30 :: 31 :: 32 :: 33 :: 34 :: 35 :: 36 :: 37 :: 38 :: 39 :: 40 :: 41 :: 42 :: 43 :: []) (fun g w' => ∃ i : Nat, g 5 = .int .i64 i ∧ g 3 = .slice none 0 0 ∧ Only [] w w') (fun g _ => upTo 0 5 g) ⟨0, by simp only [go_sem, ↓reduceIte, Nat.reduceAdd, Nat.reduceEqDiff, Nat.reduceBEq, reduceCtorEq, Int.reduceBEq, Int.reduceBNe, Int.reduceLT, Int.reduceLE]; rfl, by simp only [go_sem, ↓reduceIte, Nat.reduceAdd, Nat.reduceEqDiff, Nat.reduceBEq, reduceCtorEq, Int.reduceBEq, Int.reduceBNe, Int.reduceLT, Int.reduceLE], ho1⟩ fun g w2 hI hnext => ?_
    obtain ⟨i, h5, h3, ho2⟩ := hI
    have e0 : ¬ (i : Int) < (((placesO none).length : Nat) : Int) := by show ¬ (i : Int) < ((0 : Nat) : Int); omega
    (repeat (first | with_reducible refine run_seq ?_ | with_reducible refine run_reg ?_ | with_reducible refine run_block ?_ | with_reducible refine run_blk ?_ | with_reducible refine run_skip ?_ | with_reducible refine run_exit rfl ?_ | with_reducible refine run_drw ?_ | with_reducible refine run_condT ?_ | with_reducible refine run_ret' ?_ | with_reducible refine run_end' ?_ | simp only [go_sem, ↓reduceIte, Nat.reduceAdd, Nat.reduceEqDiff, Nat.reduceBEq, reduceCtorEq, Int.reduceBEq, Int.reduceBNe, Int.reduceLT, Int.reduceLE, h5, h3, decide_eq_false e0]))
    exact ⟨ho2, [], Sl.nil1 w2, by simp⟩
  | some s, ⟨b, hb', hp⟩ =>
    subst hb'
    have hok : s.Ok := by obtain ⟨_, _, _, _, _, _, _, _, k⟩ := hp; exact k.ok
    have hV := V_le hok
    rw [V_length hok] at hV
    have hil := idx_length (s := s)
    have hpl := placesO_length hok
    refine run_loop (3 :: 5 :: 6 :: 7 :: 8 :: 11 :: 12 :: 13 :: 14 :: 15 :: 16 :: 17 :: 18 :: 19 :: 20 :: 21 :: 22 :: 23 :: 24 :: 25 :: 26 :: 27 :: 28 :: 29 :: 30 :: 31 :: 32 :: 33 :: 34 :: 35 :: 36 :: 37 :: 38 :: 39 :: 40 :: 41 :: 42 :: 43 :: []) (fun g w' => ∃ (i : Nat) (v : Value) (f : List Nat), g 5 = .int .i64 i ∧ g 3 = v ∧ i ≤ (idx s).length ∧ Sl w' 1 v (ldU s i).length (ints (ldU s i)) f ∧ (∀ x, x ∈ f → w1.heap.size ≤ x) ∧ Only [] w1 w') (fun g _ => upTo (idx s).length 5 g)
      ⟨0, _, [], by simp only [go_sem, ↓reduceIte, Nat.reduceAdd, Nat.reduceEqDiff, Nat.reduceBEq, reduceCtorEq, Int.reduceBEq, Int.reduceBNe, Int.reduceLT, Int.reduceLE]; rfl, by simp only [go_sem, ↓reduceIte, Nat.reduceAdd, Nat.reduceEqDiff, Nat.reduceBEq, reduceCtorEq, Int.reduceBEq, Int.reduceBNe, Int.reduceLT, Int.reduceLE], by omega, Sl.nil1 w1, by simp, Only.refl _ _⟩ fun g w2 hI hnext => ?_
    obtain ⟨i, v, f, h5, h3, hi, hs, hf, ho⟩ := hI
    (repeat (first | with_reducible refine run_seq ?_ | with_reducible refine run_reg ?_ | with_reducible refine run_block ?_ | with_reducible refine run_blk ?_ | with_reducible refine run_skip ?_ | with_reducible refine run_exit rfl ?_ | with_reducible refine run_drw ?_ | with_reducible refine run_condT ?_ | with_reducible refine run_ret' ?_ | with_reducible refine run_end' ?_ | simp only [go_sem, ↓reduceIte, Nat.reduceAdd, Nat.reduceEqDiff, Nat.reduceBEq, reduceCtorEq, Int.reduceBEq, Int.reduceBNe, Int.reduceLT, Int.reduceLE, h5]))
    refine condT (fun hlt => ?_) (fun hge => ?_)
    · have hlt : i < (idx s).length := by have : (i : Int) < (((placesO (some s)).length : Nat) : Int) := by simpa using hlt
                                          omega
      obtain ⟨hj, hne⟩ := idx_at hlt
      obtain ⟨gE, cE, hvE, hcE, hgE⟩ := (hsE.keep0 ho).place (i := i) (by rw [hpl]; exact hlt)
      cases hvE
      rw [places_getD hok hlt] at hcE
      have c1 : (0 : Int) ≤ (i : Int) ∧ (i : Int) < (((placesO (some s)).length : Nat) : Int) := ⟨by omega, by omega⟩
      (repeat (first | with_reducible refine run_seq ?_ | with_reducible refine run_reg ?_ | with_reducible refine run_block ?_ | with_reducible refine run_blk ?_ | with_reducible refine run_skip ?_ | with_reducible refine run_exit rfl ?_ | with_reducible refine run_drw ?_ | with_reducible refine run_condT ?_ | with_reducible refine run_ret' ?_ | with_reducible refine run_end' ?_ | simp only [go_sem, ↓reduceIte, Nat.reduceAdd, Nat.reduceEqDiff, Nat.reduceBEq, reduceCtorEq, Int.reduceBEq, Int.reduceBNe, Int.reduceLT, Int.reduceLE, h5, if_pos c1, Int.toNat_natCast, hcE]))
      refine callT (rget ((hp.keep0 ho1).keep0 ho) (seg_pj hj)) ?_
      rintro v5 w3 ⟨rfl, ho3⟩
      have hrd := rd_segJ hok hj
      generalize hx : s.V.getD ((idx s).getD i 0) 0 = x at *
      have hul := ldU_length s i
      have hs3 := hs.keep0 ho3
      obtain ⟨av, cv, ev⟩ := hs3.val
      (repeat (first | with_reducible refine run_seq ?_ | with_reducible refine run_reg ?_ | with_reducible refine run_block ?_ | with_reducible refine run_blk ?_ | with_reducible refine run_skip ?_ | with_reducible refine run_exit rfl ?_ | with_reducible refine run_drw ?_ | with_reducible refine run_condT ?_ | with_reducible refine run_ret' ?_ | with_reducible refine run_end' ?_ | simp only [go_sem, ↓reduceIte, Nat.reduceAdd, Nat.reduceEqDiff, Nat.reduceBEq, reduceCtorEq, Int.reduceBEq, Int.reduceBNe, Int.reduceLT, Int.reduceLE, hrd]))
      refine run_loop (7 :: 8 :: 23 :: 24 :: 25 :: 26 :: 27 :: 28 :: 29 :: 30 :: 31 :: 32 :: 33 :: 34 :: 35 :: 36 :: 37 :: []) (fun g2 w' => ∃ (k : Nat), g2 8 = .int .i64 k ∧ g2 7 = .bool (((ldU s i).take k).contains x) ∧ k ≤ (ldU s i).length ∧ Only [] w3 w') (fun g2 _ => upTo (ldU s i).length 8 g2)
        ⟨0, by simp only [go_sem, ↓reduceIte, Nat.reduceAdd, Nat.reduceEqDiff, Nat.reduceBEq, reduceCtorEq, Int.reduceBEq, Int.reduceBNe, Int.reduceLT, Int.reduceLE]; rfl, by simp only [go_sem, ↓reduceIte, Nat.reduceAdd, Nat.reduceEqDiff, Nat.reduceBEq, reduceCtorEq, Int.reduceBEq, Int.reduceBNe, Int.reduceLT, Int.reduceLE]; rfl, by omega, Only.refl _ _⟩ fun g2 w4 hI hnext2 => ?_
      obtain ⟨k, h8, h7, hk, ho4⟩ := hI
      rw [ev] at h3
      (repeat (first | with_reducible refine run_seq ?_ | with_reducible refine run_reg ?_ | with_reducible refine run_block ?_ | with_reducible refine run_blk ?_ | with_reducible refine run_skip ?_ | with_reducible refine run_exit rfl ?_ | with_reducible refine run_drw ?_ | with_reducible refine run_condT ?_ | with_reducible refine run_ret' ?_ | with_reducible refine run_end' ?_ | simp only [go_sem, ↓reduceIte, Nat.reduceAdd, Nat.reduceEqDiff, Nat.reduceBEq, reduceCtorEq, Int.reduceBEq, Int.reduceBNe, Int.reduceLT, Int.reduceLE, h8, h3]))
      refine condT (fun hlt2 => ?_) (fun hge2 => ?_)
      · have hlt2 : k < (ldU s i).length := by simpa using hlt2
        rw [ev] at hs3
        obtain ⟨p0, hp0, hc0⟩ := (hs3.keep0 ho4).rd.get (i := k) hlt2
        have c2 : (0 : Int) ≤ (k : Int) ∧ (k : Int) < ((ldU s i).length : Int) := ⟨by omega, by omega⟩
        have key : ∀ bb, ((ldU s i).take (k + 1)).contains x = bb → ∀ ρ' w'', Keeps _ _ ρ' → ρ' 8 = .int .i64 ((k + 1 : Nat) : Int) → ρ' 7 = .bool bb → Only [] w3 w'' → Run Try.prog fx_ref03_Roots_Leads _ ρ' w'' _ := fun bb hbb ρ' w'' hK h8' h7' ho' => hnext2 ρ' w'' hK ⟨k + 1, h8', by rw [h7', hbb], by omega, ho'⟩ (by rw [upTo_int h8, upTo_int h8']; omega)
        cases hcon : ((ldU s i).take k).contains x with
        | true =>
          rw [hcon] at h7
          (repeat (first | with_reducible refine run_seq ?_ | with_reducible refine run_reg ?_ | with_reducible refine run_block ?_ | with_reducible refine run_blk ?_ | with_reducible refine run_skip ?_ | with_reducible refine run_exit rfl ?_ | with_reducible refine run_drw ?_ | with_reducible refine run_condT ?_ | with_reducible refine run_ret' ?_ | with_reducible refine run_end' ?_ | simp only [go_sem, ↓reduceIte, Nat.reduceAdd, Nat.reduceEqDiff, Nat.reduceBEq, reduceCtorEq, Int.reduceBEq, Int.reduceBNe, Int.reduceLT, Int.reduceLE, h8, h7, h3, i64_succ k (by omega)]))
          refine key true ?_ _ w4 (by (repeat (first | with_reducible exact Keeps.refl _ _ | with_reducible exact Keeps.ovr _ _ _ | refine Keeps.put ?_ rfl _ | exact Keeps.refl _ _ | exact Keeps.ovr _ _ _ | refine Keeps.ovr2 ?_ rfl _))) (by simp only [go_sem, ↓reduceIte, Nat.reduceAdd, Nat.reduceEqDiff, Nat.reduceBEq, reduceCtorEq, Int.reduceBEq, Int.reduceBNe, Int.reduceLT, Int.reduceLE]) (by simp only [go_sem, ↓reduceIte, Nat.reduceAdd, Nat.reduceEqDiff, Nat.reduceBEq, reduceCtorEq, Int.reduceBEq, Int.reduceBNe, Int.reduceLT, Int.reduceLE]) ho4
          rw [take_contains_succ hlt2, hcon]; rfl
        | false =>
          rw [hcon] at h7
          by_cases hxe : (ldU s i).getD k 0 = x
          · (repeat (first | with_reducible refine run_seq ?_ | with_reducible refine run_reg ?_ | with_reducible refine run_block ?_ | with_reducible refine run_blk ?_ | with_reducible refine run_skip ?_ | with_reducible refine run_exit rfl ?_ | with_reducible refine run_drw ?_ | with_reducible refine run_condT ?_ | with_reducible refine run_ret' ?_ | with_reducible refine run_end' ?_ | simp only [go_sem, ↓reduceIte, Nat.reduceAdd, Nat.reduceEqDiff, Nat.reduceBEq, reduceCtorEq, Int.reduceBEq, Int.reduceBNe, Int.reduceLT, Int.reduceLE, h8, h7, h3, hp0, if_pos c2, Int.toNat_natCast, Nat.mul_one, hc0, beq_int_true hxe, i64_succ k (by omega)]))
            refine key true ?_ _ w4 (by (repeat (first | with_reducible exact Keeps.refl _ _ | with_reducible exact Keeps.ovr _ _ _ | refine Keeps.put ?_ rfl _ | exact Keeps.refl _ _ | exact Keeps.ovr _ _ _ | refine Keeps.ovr2 ?_ rfl _))) (by simp only [go_sem, ↓reduceIte, Nat.reduceAdd, Nat.reduceEqDiff, Nat.reduceBEq, reduceCtorEq, Int.reduceBEq, Int.reduceBNe, Int.reduceLT, Int.reduceLE]) (by simp only [go_sem, ↓reduceIte, Nat.reduceAdd, Nat.reduceEqDiff, Nat.reduceBEq, reduceCtorEq, Int.reduceBEq, Int.reduceBNe, Int.reduceLT, Int.reduceLE]) ho4
            rw [take_contains_succ hlt2, hcon, hxe]; simp
          · (repeat (first | with_reducible refine run_seq ?_ | with_reducible refine run_reg ?_ | with_reducible refine run_block ?_ | with_reducible refine run_blk ?_ | with_reducible refine run_skip ?_ | with_reducible refine run_exit rfl ?_ | with_reducible refine run_drw ?_ | with_reducible refine run_condT ?_ | with_reducible refine run_ret' ?_ | with_reducible refine run_end' ?_ | simp only [go_sem, ↓reduceIte, Nat.reduceAdd, Nat.reduceEqDiff, Nat.reduceBEq, reduceCtorEq, Int.reduceBEq, Int.reduceBNe, Int.reduceLT, Int.reduceLE, h8, h7, h3, hp0, if_pos c2, Int.toNat_natCast, Nat.mul_one, hc0, beq_int_false hxe, i64_succ k (by omega)]))
            refine key false ?_ _ w4 (by (repeat (first | with_reducible exact Keeps.refl _ _ | with_reducible exact Keeps.ovr _ _ _ | refine Keeps.put ?_ rfl _ | exact Keeps.refl _ _ | exact Keeps.ovr _ _ _ | refine Keeps.ovr2 ?_ rfl _))) (by simp only [go_sem, ↓reduceIte, Nat.reduceAdd, Nat.reduceEqDiff, Nat.reduceBEq, reduceCtorEq, Int.reduceBEq, Int.reduceBNe, Int.reduceLT, Int.reduceLE]) (by simp only [go_sem, ↓reduceIte, Nat.reduceAdd, Nat.reduceEqDiff, Nat.reduceBEq, reduceCtorEq, Int.reduceBEq, Int.reduceBNe, Int.reduceLT, Int.reduceLE]) ho4
            rw [take_contains_succ hlt2, hcon]; simpa using fun e => hxe e.symm
      · have : k = (ldU s i).length := by have : ¬ (k < (ldU s i).length) := by simpa using hge2
                                          omega
        subst this
        rw [List.take_length] at h7
        have hs4 := hs3.keep0 ho4
        cases hcon : (ldU s i).contains x with
        | true =>
          rw [hcon] at h7
          (repeat (first | with_reducible refine run_seq ?_ | with_reducible refine run_reg ?_ | with_reducible refine run_block ?_ | with_reducible refine run_blk ?_ | with_reducible refine run_skip ?_ | with_reducible refine run_exit rfl ?_ | with_reducible refine run_drw ?_ | with_reducible refine run_condT ?_ | with_reducible refine run_ret' ?_ | with_reducible refine run_end' ?_ | simp only [go_sem, ↓reduceIte, Nat.reduceAdd, Nat.reduceEqDiff, Nat.reduceBEq, reduceCtorEq, Int.reduceBEq, Int.reduceBNe, Int.reduceLT, Int.reduceLE, h7, h5, i64_succ i (by omega)]))
          refine hnext _ w4 ?_ ⟨i + 1, v, f, ?_, ?_, by omega, by rw [ldU_succ hlt, hx, addNew, if_pos hcon]; exact hs4, hf, (ho.nil ho3).nil ho4⟩ ?_
          · (repeat (first | with_reducible exact Keeps.refl _ _ | with_reducible exact Keeps.ovr _ _ _ | refine Keeps.put ?_ rfl _ | exact Keeps.refl _ _ | exact Keeps.ovr _ _ _ | refine Keeps.ovr2 ?_ rfl _))
          · simp only [go_sem, ↓reduceIte, Nat.reduceAdd, Nat.reduceEqDiff, Nat.reduceBEq, reduceCtorEq, Int.reduceBEq, Int.reduceBNe, Int.reduceLT, Int.reduceLE]
          · simp only [go_sem, ↓reduceIte, Nat.reduceAdd, Nat.reduceEqDiff, Nat.reduceBEq, reduceCtorEq, Int.reduceBEq, Int.reduceBNe, Int.reduceLT, Int.reduceLE, h3, ev]
          · rw [upTo_int h5, upTo_int (k := .i64) (i := i + 1) (by simp only [go_sem, ↓reduceIte, Nat.reduceAdd, Nat.reduceEqDiff, Nat.reduceBEq, reduceCtorEq, Int.reduceBEq, Int.reduceBNe, Int.reduceLT, Int.reduceLE])]; omega
        | false =>
          rw [hcon] at h7
          rw [ev] at hs4
          (repeat (first | with_reducible refine run_seq ?_ | with_reducible refine run_reg ?_ | with_reducible refine run_block ?_ | with_reducible refine run_blk ?_ | with_reducible refine run_skip ?_ | with_reducible refine run_exit rfl ?_ | with_reducible refine run_drw ?_ | with_reducible refine run_condT ?_ | with_reducible refine run_ret' ?_ | with_reducible refine run_end' ?_ | simp only [go_sem, ↓reduceIte, Nat.reduceAdd, Nat.reduceEqDiff, Nat.reduceBEq, reduceCtorEq, Int.reduceBEq, Int.reduceBNe, Int.reduceLT, Int.reduceLE, h7, h3]))
          rw [fillL_one rfl rfl]
          (repeat (first | with_reducible refine run_seq ?_ | with_reducible refine run_reg ?_ | with_reducible refine run_block ?_ | with_reducible refine run_blk ?_ | with_reducible refine run_skip ?_ | with_reducible refine run_exit rfl ?_ | with_reducible refine run_drw ?_ | with_reducible refine run_condT ?_ | with_reducible refine run_ret' ?_ | with_reducible refine run_end' ?_ | simp only [go_sem, ↓reduceIte, Nat.reduceAdd, Nat.reduceEqDiff, Nat.reduceBEq, reduceCtorEq, Int.reduceBEq, Int.reduceBNe, Int.reduceLT, Int.reduceLE]))
          refine bslT fun q w5 hq hs5 hat5 ho5 => ?_
          (repeat (first | with_reducible refine run_seq ?_ | with_reducible refine run_reg ?_ | with_reducible refine run_block ?_ | with_reducible refine run_blk ?_ | with_reducible refine run_skip ?_ | with_reducible refine run_exit rfl ?_ | with_reducible refine run_drw ?_ | with_reducible refine run_condT ?_ | with_reducible refine run_ret' ?_ | with_reducible refine run_end' ?_ | simp only [go_sem, ↓reduceIte, Nat.reduceAdd, Nat.reduceEqDiff, Nat.reduceBEq, reduceCtorEq, Int.reduceBEq, Int.reduceBNe, Int.reduceLT, Int.reduceLE, h3]))
          refine appT (hs4.keep0 ho5) (SrcIs.at hat5 rfl) (by simp [oneC]) (by omega) (by omega) ?_
          intro v6 w6 f6 hs6 hf6 ho6 _
          have hz2 := ho.size
          have hz3 := ho3.size
          have hz4 := ho4.size
          have hz5 := ho5.size
          (repeat (first | with_reducible refine run_seq ?_ | with_reducible refine run_reg ?_ | with_reducible refine run_block ?_ | with_reducible refine run_blk ?_ | with_reducible refine run_skip ?_ | with_reducible refine run_exit rfl ?_ | with_reducible refine run_drw ?_ | with_reducible refine run_condT ?_ | with_reducible refine run_ret' ?_ | with_reducible refine run_end' ?_ | simp only [go_sem, ↓reduceIte, Nat.reduceAdd, Nat.reduceEqDiff, Nat.reduceBEq, reduceCtorEq, Int.reduceBEq, Int.reduceBNe, Int.reduceLT, Int.reduceLE, h5, i64_succ i (by omega)]))
          refine hnext _ w6 ?_ ⟨i + 1, v6, f6, ?_, ?_, by omega, by rw [ldU_succ hlt, hx, addNew, if_neg (by rw [hcon]; simp), List.length_append, ints_append]; exact hs6, ?_, (((ho.nil ho3).nil ho4).nil ho5).trans ho6 fun x hx => .inr (hf x hx)⟩ ?_
          · (repeat (first | with_reducible exact Keeps.refl _ _ | with_reducible exact Keeps.ovr _ _ _ | refine Keeps.put ?_ rfl _ | exact Keeps.refl _ _ | exact Keeps.ovr _ _ _ | refine Keeps.ovr2 ?_ rfl _))
          · simp only [go_sem, ↓reduceIte, Nat.reduceAdd, Nat.reduceEqDiff, Nat.reduceBEq, reduceCtorEq, Int.reduceBEq, Int.reduceBNe, Int.reduceLT, Int.reduceLE]
          · simp only [go_sem, ↓reduceIte, Nat.reduceAdd, Nat.reduceEqDiff, Nat.reduceBEq, reduceCtorEq, Int.reduceBEq, Int.reduceBNe, Int.reduceLT, Int.reduceLE]
          · intro y hy
            rcases hf6 with rfl | rfl
            · exact hf y hy
            · simp only [List.mem_singleton] at hy; omega
          · rw [upTo_int h5, upTo_int (k := .i64) (i := i + 1) (by simp only [go_sem, ↓reduceIte, Nat.reduceAdd, Nat.reduceEqDiff, Nat.reduceBEq, reduceCtorEq, Int.reduceBEq, Int.reduceBNe, Int.reduceLT, Int.reduceLE])]; omega
    · have hge : ¬ (i : Int) < (((placesO (some s)).length : Nat) : Int) := by simpa using hge
      have : i = (idx s).length := by omega
      rw [this, ldU_end hok] at hs
      (repeat (first | with_reducible refine run_seq ?_ | with_reducible refine run_reg ?_ | with_reducible refine run_block ?_ | with_reducible refine run_blk ?_ | with_reducible refine run_skip ?_ | with_reducible refine run_exit rfl ?_ | with_reducible refine run_drw ?_ | with_reducible refine run_condT ?_ | with_reducible refine run_ret' ?_ | with_reducible refine run_end' ?_ | simp only [go_sem, ↓reduceIte, Nat.reduceAdd, Nat.reduceEqDiff, Nat.reduceBEq, reduceCtorEq, Int.reduceBEq, Int.reduceBNe, Int.reduceLT, Int.reduceLE, h3]))
      exact ⟨ho1.nil ho, f, hs, fun x hx => by have := hf x hx; have := ho1.size; omega⟩
end Go.Proofs.Ytblfmacnkacalaa
