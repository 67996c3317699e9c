/- Lists: searching, cloning; sets sorted; an object's references. -/
import Derived.Test.YtgcofabdialaaaaGreatHpK
namespace Go.Proofs.YtgcofabdialaaaaGreat
set_option linter.unusedSimpArgs false
set_option linter.unusedVariables false
set_option maxRecDepth 8000

theorem take_contains_succ {xs : List Int} {i : Nat} {y : Int} (h : i < xs.length) : (xs.take (i + 1)).contains y = ((xs.take i).contains y || decide (y = xs.getD i 0)) := by
  have e : xs.take (i + 1) = xs.take i ++ [xs.getD i 0] := by rw [List.take_succ_eq_append_getElem h]; simp [h]
  rw [e, Bool.eq_iff_iff]
  simp

theorem Index_m {w : World} {D : List Nat} {v : Value} {xs : List Int} (h : RdB w D v xs) (hl : xs.length ≤ 100000) (y : Int) : Cs Tryz.prog 143 [v, .int .i64 y] w fun r w' => (∃ k : Int, r = .int .i64 k ∧ decide (0 ≤ k) = xs.contains y) ∧ w' = w := by
  refine enter_slices_Index___int_int_ rfl ?_
  unfold x_slices_Index___int_int_
  obtain ⟨a, cap, rfl, hrd⟩ := h
  (repeat (first | with_reducible refine run_seq ?_ | with_reducible refine run_reg ?_ | with_reducible refine run_block ?_ | with_reducible refine run_blk ?_ | with_reducible refine run_skip ?_ | with_reducible refine run_exit rfl ?_ | with_reducible refine run_drw ?_ | with_reducible refine run_condT ?_ | with_reducible refine run_ret' ?_ | with_reducible refine run_end' ?_ | simp only [go_sem, ↓reduceIte, Nat.reduceAdd, Nat.reduceEqDiff, Nat.reduceBEq, reduceCtorEq, Int.reduceBEq, Int.reduceBNe, Int.reduceLT, Int.reduceLE]))
  refine run_loop (4 :: 5 :: 6 :: 7 :: 8 :: 9 :: 10 :: 11 :: 12 :: 13 :: 14 :: 15 :: 16 :: 17 :: 18 :: []) (fun g w' => ∃ i : Nat, g 8 = .int .i64 i ∧ g 7 = .int .i64 xs.length ∧ i ≤ xs.length ∧ (xs.take i).contains y = false ∧ w' = w) (fun g _ => upTo xs.length 8 g) ⟨0, by simp only [go_sem, ↓reduceIte, Nat.reduceAdd, Nat.reduceEqDiff, Nat.reduceBEq, reduceCtorEq, Int.reduceBEq, Int.reduceBNe, Int.reduceLT, Int.reduceLE]; rfl, by simp only [go_sem, ↓reduceIte, Nat.reduceAdd, Nat.reduceEqDiff, Nat.reduceBEq, reduceCtorEq, Int.reduceBEq, Int.reduceBNe, Int.reduceLT, Int.reduceLE], by omega, by simp, rfl⟩ fun g w' hI hnext => ?_
  obtain ⟨i, h8, h7, hi, hno, rfl⟩ := hI
  (repeat (first | with_reducible refine run_seq ?_ | with_reducible refine run_reg ?_ | with_reducible refine run_block ?_ | with_reducible refine run_blk ?_ | with_reducible refine run_skip ?_ | with_reducible refine run_exit rfl ?_ | with_reducible refine run_drw ?_ | with_reducible refine run_condT ?_ | with_reducible refine run_ret' ?_ | with_reducible refine run_end' ?_ | simp only [go_sem, ↓reduceIte, Nat.reduceAdd, Nat.reduceEqDiff, Nat.reduceBEq, reduceCtorEq, Int.reduceBEq, Int.reduceBNe, Int.reduceLT, Int.reduceLE, h8, h7]))
  refine condT (fun hlt => ?_) (fun hge => ?_)
  · have hlt : i < xs.length := by simpa using hlt
    obtain ⟨p, rfl, _, hc⟩ := hrd i hlt
    have c1 : (0 : Int) ≤ (i : Int) ∧ (i : Int) < (xs.length : Int) := ⟨by omega, by omega⟩
    by_cases e : y = xs.getD i 0
    · (repeat (first | with_reducible refine run_seq ?_ | with_reducible refine run_reg ?_ | with_reducible refine run_block ?_ | with_reducible refine run_blk ?_ | with_reducible refine run_skip ?_ | with_reducible refine run_exit rfl ?_ | with_reducible refine run_drw ?_ | with_reducible refine run_condT ?_ | with_reducible refine run_ret' ?_ | with_reducible refine run_end' ?_ | simp only [go_sem, ↓reduceIte, Nat.reduceAdd, Nat.reduceEqDiff, Nat.reduceBEq, reduceCtorEq, Int.reduceBEq, Int.reduceBNe, Int.reduceLT, Int.reduceLE, h8, h7, if_pos c1, Int.toNat_natCast, Nat.mul_one, hc, beq_int_true e]))
      refine ⟨i, rfl, ?_⟩
      have : xs.contains y = true := by
        rw [List.contains_iff_mem, e, List.getD_eq_getElem?_getD, List.getElem?_eq_getElem hlt]; simp
      rw [this]; simp
    · (repeat (first | with_reducible refine run_seq ?_ | with_reducible refine run_reg ?_ | with_reducible refine run_block ?_ | with_reducible refine run_blk ?_ | with_reducible refine run_skip ?_ | with_reducible refine run_exit rfl ?_ | with_reducible refine run_drw ?_ | with_reducible refine run_condT ?_ | with_reducible refine run_ret' ?_ | with_reducible refine run_end' ?_ | simp only [go_sem, ↓reduceIte, Nat.reduceAdd, Nat.reduceEqDiff, Nat.reduceBEq, reduceCtorEq, Int.reduceBEq, Int.reduceBNe, Int.reduceLT, Int.reduceLE, h8, h7, if_pos c1, Int.toNat_natCast, Nat.mul_one, hc, beq_int_false e, i64_succ i (by omega)]))
      refine hnext _ w' ?_ ⟨i + 1, ?_, ?_, by omega, by rw [take_contains_succ hlt, hno]; simpa using e, rfl⟩ ?_
      · (repeat (first | with_reducible exact Keeps.refl _ _ | with_reducible exact Keeps.ovr _ _ _ | refine Keeps.put ?_ rfl _ | exact Keeps.refl _ _ | exact Keeps.ovr _ _ _ | refine Keeps.ovr2 ?_ rfl _))
      · simp only [go_sem, ↓reduceIte, Nat.reduceAdd, Nat.reduceEqDiff, Nat.reduceBEq, reduceCtorEq, Int.reduceBEq, Int.reduceBNe, Int.reduceLT, Int.reduceLE]
      · simp only [go_sem, ↓reduceIte, Nat.reduceAdd, Nat.reduceEqDiff, Nat.reduceBEq, reduceCtorEq, Int.reduceBEq, Int.reduceBNe, Int.reduceLT, Int.reduceLE, h7]
      · rw [upTo_int h8, upTo_int (k := .i64) (i := i + 1) (by simp only [go_sem, ↓reduceIte, Nat.reduceAdd, Nat.reduceEqDiff, Nat.reduceBEq, reduceCtorEq, Int.reduceBEq, Int.reduceBNe, Int.reduceLT, Int.reduceLE])]; omega
  · have : i = xs.length := by have : ¬ (i < xs.length) := by simpa using hge
                               omega
    subst this
    (repeat (first | with_reducible refine run_seq ?_ | with_reducible refine run_reg ?_ | with_reducible refine run_block ?_ | with_reducible refine run_blk ?_ | with_reducible refine run_skip ?_ | with_reducible refine run_exit rfl ?_ | with_reducible refine run_drw ?_ | with_reducible refine run_condT ?_ | with_reducible refine run_ret' ?_ | with_reducible refine run_end' ?_ | simp only [go_sem, ↓reduceIte, Nat.reduceAdd, Nat.reduceEqDiff, Nat.reduceBEq, reduceCtorEq, Int.reduceBEq, Int.reduceBNe, Int.reduceLT, Int.reduceLE]))
    refine ⟨-1, rfl, ?_⟩
    rw [List.take_length] at hno
    rw [hno]; rfl

theorem Contains_m {w : World} {D : List Nat} {v : Value} {xs : List Int} (h : RdB w D v xs) (hl : xs.length ≤ 100000) (y : Int) : Cs Tryz.prog 84 [v, .int .i64 y] w fun r w' => r = .bool (xs.contains y) ∧ w' = w := by
  refine enter_slices_Contains___int_int_ rfl ?_
  unfold x_slices_Contains___int_int_
  (repeat (first | with_reducible refine run_seq ?_ | with_reducible refine run_reg ?_ | with_reducible refine run_block ?_ | with_reducible refine run_blk ?_ | with_reducible refine run_skip ?_ | with_reducible refine run_exit rfl ?_ | with_reducible refine run_drw ?_ | with_reducible refine run_condT ?_ | with_reducible refine run_ret' ?_ | with_reducible refine run_end' ?_ | simp only [go_sem, ↓reduceIte, Nat.reduceAdd, Nat.reduceEqDiff, Nat.reduceBEq, reduceCtorEq, Int.reduceBEq, Int.reduceBNe, Int.reduceLT, Int.reduceLE]))
  refine callT (Index_m h hl y) ?_
  rintro r w' ⟨⟨k, rfl, hk⟩, rfl⟩
  (repeat (first | with_reducible refine run_seq ?_ | with_reducible refine run_reg ?_ | with_reducible refine run_block ?_ | with_reducible refine run_blk ?_ | with_reducible refine run_skip ?_ | with_reducible refine run_exit rfl ?_ | with_reducible refine run_drw ?_ | with_reducible refine run_condT ?_ | with_reducible refine run_ret' ?_ | with_reducible refine run_end' ?_ | simp only [go_sem, ↓reduceIte, Nat.reduceAdd, Nat.reduceEqDiff, Nat.reduceBEq, reduceCtorEq, Int.reduceBEq, Int.reduceBNe, Int.reduceLT, Int.reduceLE, hk]))

theorem SrcIs.keep0 {w w' : World} {sz m : Nat} {v : Value} {us : List Value} (h : SrcIs w sz v m us) (k : Only [] w w') : SrcIs w' sz v m us := by
  refine ⟨h.1, ?_⟩
  rcases h.2 with h1 | ⟨p, c, h1, h2⟩
  · exact .inl h1
  · refine .inr ⟨p, c, h1, ?_⟩
    rcases Nat.eq_zero_or_pos (m * sz) with h0 | h0
    · rw [h0] at h2 ⊢; exact h2
    · have := (cellsAt_spec h2).2 0 h0
      obtain ⟨u, hu⟩ : ∃ u, us[0]? = some u := ⟨us[0]'(by have := h.1; omega), List.getElem?_eq_getElem _⟩
      rw [hu] at this
      have hlt := cell_lt this
      rw [add_block] at hlt
      rw [cellsAt_heap (k.block p.block hlt (by simp))]
      exact h2
theorem SrcIs.val {w : World} {sz m : Nat} {v : Value} {us : List Value} (h : SrcIs w sz v m us) : ∃ (a : Option Addr) (c : Nat), v = .slice a m c ∧ (a = none → m = 0) := by
  rcases h.2 with ⟨c, h1, h2⟩ | ⟨p, c, h1, h2⟩
  · subst h2; exact ⟨none, c, h1, fun _ => rfl⟩
  · exact ⟨some p, c, h1, fun h => by cases h⟩

theorem sclone {w : World} {v : Value} {m : Nat} {us : List Value} (h : SrcIs w 1 v m us) (h1 : ∀ u, u ∈ us → oneC u = true) (hm : m ≤ 100000) : Cs Tryz.prog 52 [v] w fun r w' => Only [] w w' ∧ ∃ fp, Sl w' 1 r m us fp ∧ ∀ x, x ∈ fp → w.heap.size ≤ x := by
  refine enter_slices_Clone___int_int_ rfl ?_
  unfold x_slices_Clone___int_int_
  obtain ⟨a, c, rfl, h0⟩ := h.val
  cases a with
  | none =>
    have : m = 0 := h0 rfl
    subst this
    have : us = [] := List.eq_nil_of_length_eq_zero (by simpa using h.1)
    subst this
    (repeat (first | with_reducible refine run_seq ?_ | with_reducible refine run_reg ?_ | with_reducible refine run_block ?_ | with_reducible refine run_blk ?_ | with_reducible refine run_skip ?_ | with_reducible refine run_exit rfl ?_ | with_reducible refine run_drw ?_ | with_reducible refine run_condT ?_ | with_reducible refine run_ret' ?_ | with_reducible refine run_end' ?_ | simp only [go_sem, ↓reduceIte, Nat.reduceAdd, Nat.reduceEqDiff, Nat.reduceBEq, reduceCtorEq, Int.reduceBEq, Int.reduceBNe, Int.reduceLT, Int.reduceLE]))
    exact ⟨Only.refl _ _, [], Sl.nil1 w, by simp⟩
  | some p =>
    (repeat (first | with_reducible refine run_seq ?_ | with_reducible refine run_reg ?_ | with_reducible refine run_block ?_ | with_reducible refine run_blk ?_ | with_reducible refine run_skip ?_ | with_reducible refine run_exit rfl ?_ | with_reducible refine run_drw ?_ | with_reducible refine run_condT ?_ | with_reducible refine run_ret' ?_ | with_reducible refine run_end' ?_ | simp only [go_sem, ↓reduceIte, Nat.reduceAdd, Nat.reduceEqDiff, Nat.reduceBEq, reduceCtorEq, Int.reduceBEq, Int.reduceBNe, Int.reduceLT, Int.reduceLE]))
    refine bslT fun q w1 hq hs1 hat1 ho1 => ?_
    (repeat (first | with_reducible refine run_seq ?_ | with_reducible refine run_reg ?_ | with_reducible refine run_block ?_ | with_reducible refine run_blk ?_ | with_reducible refine run_skip ?_ | with_reducible refine run_exit rfl ?_ | with_reducible refine run_drw ?_ | with_reducible refine run_condT ?_ | with_reducible refine run_ret' ?_ | with_reducible refine run_end' ?_ | simp only [go_sem, ↓reduceIte, Nat.reduceAdd, Nat.reduceEqDiff, Nat.reduceBEq, reduceCtorEq, Int.reduceBEq, Int.reduceBNe, Int.reduceLT, Int.reduceLE]))
    refine appT (n := 0) (xs := []) (fp := [q]) (m := m) (us := us) ?_ (h.keep0 ho1) h1 (by omega) (by omega) ?_
    · have : ([] : List Value) ++ [] = [] := rfl
      exact Sl.mk1 (ys := []) hat1 rfl rfl
    intro v' w2 fp' hs2 hfp ho2 _
    (repeat (first | with_reducible refine run_seq ?_ | with_reducible refine run_reg ?_ | with_reducible refine run_block ?_ | with_reducible refine run_blk ?_ | with_reducible refine run_skip ?_ | with_reducible refine run_exit rfl ?_ | with_reducible refine run_drw ?_ | with_reducible refine run_condT ?_ | with_reducible refine run_ret' ?_ | with_reducible refine run_end' ?_ | simp only [go_sem, ↓reduceIte, Nat.reduceAdd, Nat.reduceEqDiff, Nat.reduceBEq, reduceCtorEq, Int.reduceBEq, Int.reduceBNe, Int.reduceLT, Int.reduceLE]))
    refine ⟨ho1.trans ho2 fun x hx => .inr ?_, fp', by simpa using hs2, ?_⟩
    · simp only [List.mem_singleton] at hx; omega
    · intro x hx
      rcases hfp with rfl | rfl
      · simp only [List.mem_singleton] at hx; omega
      · simp only [List.mem_singleton] at hx; omega


theorem hCollect {w : World} {q b : Nat} {m : IM} (hq : At w q [.map (some b)]) (hm : MpAt w b m) (hlen : m.length ≤ 100000) :
    Cs Tryz.prog 186 [.func (.func 188) #[] #[.pointer (some ⟨q, 0, none⟩)]] w fun v w' => Only [] w w' ∧ ∃ xs fp, Sl w' 1 v xs.length (ints xs) fp ∧ (∀ x, x ∈ fp → w.heap.size ≤ x) ∧ xs.Perm m.keys := by
  refine enter_slices_Collect_int_ rfl ?_
  unfold x_slices_Collect_int_
  (repeat (first | with_reducible refine run_seq ?_ | with_reducible refine run_reg ?_ | with_reducible refine run_block ?_ | with_reducible refine run_blk ?_ | with_reducible refine run_skip ?_ | with_reducible refine run_exit rfl ?_ | with_reducible refine run_drw ?_ | with_reducible refine run_condT ?_ | with_reducible refine run_ret' ?_ | with_reducible refine run_end' ?_ | simp only [go_sem, ↓reduceIte, Nat.reduceAdd, Nat.reduceEqDiff, Nat.reduceBEq, reduceCtorEq, Int.reduceBEq, Int.reduceBNe, Int.reduceLT, Int.reduceLE]))
  refine callT (hAppendSeq hq hm hlen) ?_
  rintro v w' ⟨ho, h⟩
  (repeat (first | with_reducible refine run_seq ?_ | with_reducible refine run_reg ?_ | with_reducible refine run_block ?_ | with_reducible refine run_blk ?_ | with_reducible refine run_skip ?_ | with_reducible refine run_exit rfl ?_ | with_reducible refine run_drw ?_ | with_reducible refine run_condT ?_ | with_reducible refine run_ret' ?_ | with_reducible refine run_end' ?_ | simp only [go_sem, ↓reduceIte, Nat.reduceAdd, Nat.reduceEqDiff, Nat.reduceBEq, reduceCtorEq, Int.reduceBEq, Int.reduceBNe, Int.reduceLT, Int.reduceLE]))
  exact ⟨ho, h⟩
theorem hSorted {w : World} {q b : Nat} {m : IM} (hq : At w q [.map (some b)]) (hm : MpAt w b m) (hlen : m.length ≤ 100000) :
    Cs Tryz.prog 119 [.func (.func 188) #[] #[.pointer (some ⟨q, 0, none⟩)]] w fun v w' => Only [] w w' ∧ ∃ xs fp, Sl w' 1 v xs.length (ints (sortI xs)) fp ∧ (∀ x, x ∈ fp → w.heap.size ≤ x) ∧ xs.Perm m.keys := by
  refine enter_slices_Sorted_int_ rfl ?_
  unfold x_slices_Sorted_int_
  (repeat (first | with_reducible refine run_seq ?_ | with_reducible refine run_reg ?_ | with_reducible refine run_block ?_ | with_reducible refine run_blk ?_ | with_reducible refine run_skip ?_ | with_reducible refine run_exit rfl ?_ | with_reducible refine run_drw ?_ | with_reducible refine run_condT ?_ | with_reducible refine run_ret' ?_ | with_reducible refine run_end' ?_ | simp only [go_sem, ↓reduceIte, Nat.reduceAdd, Nat.reduceEqDiff, Nat.reduceBEq, reduceCtorEq, Int.reduceBEq, Int.reduceBNe, Int.reduceLT, Int.reduceLE]))
  refine callT (hCollect hq hm hlen) ?_
  rintro v w1 ⟨ho1, xs, fp, hs, hfp, hp⟩
  have hxl : xs.length ≤ 100000 := by have := hp.length_eq; simp only [IM.keys, List.length_map] at this; omega
  (repeat (first | with_reducible refine run_seq ?_ | with_reducible refine run_reg ?_ | with_reducible refine run_block ?_ | with_reducible refine run_blk ?_ | with_reducible refine run_skip ?_ | with_reducible refine run_exit rfl ?_ | with_reducible refine run_drw ?_ | with_reducible refine run_condT ?_ | with_reducible refine run_ret' ?_ | with_reducible refine run_end' ?_ | simp only [go_sem, ↓reduceIte, Nat.reduceAdd, Nat.reduceEqDiff, Nat.reduceBEq, reduceCtorEq, Int.reduceBEq, Int.reduceBNe, Int.reduceLT, Int.reduceLE]))
  by_cases h0 : xs.length = 0
  · have hx : xs = [] := List.eq_nil_of_length_eq_zero h0
    subst hx
    obtain ⟨a, c, rfl⟩ := hs.val
    refine callT0 (hSortN a c) ?_
    (repeat (first | with_reducible refine run_seq ?_ | with_reducible refine run_reg ?_ | with_reducible refine run_block ?_ | with_reducible refine run_blk ?_ | with_reducible refine run_skip ?_ | with_reducible refine run_exit rfl ?_ | with_reducible refine run_drw ?_ | with_reducible refine run_condT ?_ | with_reducible refine run_ret' ?_ | with_reducible refine run_end' ?_ | simp only [go_sem, ↓reduceIte, Nat.reduceAdd, Nat.reduceEqDiff, Nat.reduceBEq, reduceCtorEq, Int.reduceBEq, Int.reduceBNe, Int.reduceLT, Int.reduceLE]))
    have e : sortI [] = [] := by simp [sortI]
    exact ⟨ho1, [], fp, by rw [e]; exact hs, hfp, hp⟩
  · obtain ⟨g, cap, ys, rfl, hat, rfl, _⟩ := hs.pos (by omega)
    refine callT (hSort hat (by omega)) ?_
    rintro r w2 ⟨rfl, ho2, hat2⟩
    (repeat (first | with_reducible refine run_seq ?_ | with_reducible refine run_reg ?_ | with_reducible refine run_block ?_ | with_reducible refine run_blk ?_ | with_reducible refine run_skip ?_ | with_reducible refine run_exit rfl ?_ | with_reducible refine run_drw ?_ | with_reducible refine run_condT ?_ | with_reducible refine run_ret' ?_ | with_reducible refine run_end' ?_ | simp only [go_sem, ↓reduceIte, Nat.reduceAdd, Nat.reduceEqDiff, Nat.reduceBEq, reduceCtorEq, Int.reduceBEq, Int.reduceBNe, Int.reduceLT, Int.reduceLE]))
    have hg := hfp g (by simp)
    refine ⟨ho1.trans ho2 fun x hx => by simp only [List.mem_singleton] at hx; subst hx; exact .inr hg, xs, [g], ?_, hfp, hp⟩
    have hcl : (ints xs ++ ys).length = cap := by
      have h2 := hs.2
      rcases h2 with ⟨h3, _⟩ | ⟨g', cap', ys', T', h3, h4, h5, h6, h7⟩
      · cases h3
      · injection h3 with h8 _ h9
        cases h8
        obtain ⟨T, hT⟩ := hat
        rw [h5] at hT
        injection hT with hT
        injection hT with hT
        have : (ints xs ++ ys').length = (ints xs ++ ys).length := congrArg (fun a : Array Value => a.size) hT
        omega
    exact Sl.mk1 hat2 (by rw [ints_length, sortI_len]) (by rw [List.length_append, ints_length] at hcl; rw [List.length_append, ints_length, sortI_len]; exact hcl)
theorem hKeys (w : World) (b : Nat) : Cs Tryz.prog 120 [.map (some b)] w fun v w' => ∃ q, v = .func (.func 188) #[] #[.pointer (some ⟨q, 0, none⟩)] ∧ At w' q [.map (some b)] ∧ Only [] w w' := by
  refine enter_maps_Keys_barrier_set_int_struct___ rfl ?_
  unfold x_maps_Keys_barrier_set_int_struct___
  (repeat (first | with_reducible refine run_seq ?_ | with_reducible refine run_reg ?_ | with_reducible refine run_block ?_ | with_reducible refine run_blk ?_ | with_reducible refine run_skip ?_ | with_reducible refine run_exit rfl ?_ | with_reducible refine run_drw ?_ | with_reducible refine run_condT ?_ | with_reducible refine run_ret' ?_ | with_reducible refine run_end' ?_ | simp only [go_sem, ↓reduceIte, Nat.reduceAdd, Nat.reduceEqDiff, Nat.reduceBEq, reduceCtorEq, Int.reduceBEq, Int.reduceBNe, Int.reduceLT, Int.reduceLE]))
  refine boxT fun q w1 hq hs1 hat ho => ?_
  (repeat (first | with_reducible refine run_seq ?_ | with_reducible refine run_reg ?_ | with_reducible refine run_block ?_ | with_reducible refine run_blk ?_ | with_reducible refine run_skip ?_ | with_reducible refine run_exit rfl ?_ | with_reducible refine run_drw ?_ | with_reducible refine run_condT ?_ | with_reducible refine run_ret' ?_ | with_reducible refine run_end' ?_ | simp only [go_sem, ↓reduceIte, Nat.reduceAdd, Nat.reduceEqDiff, Nat.reduceBEq, reduceCtorEq, Int.reduceBEq, Int.reduceBNe, Int.reduceLT, Int.reduceLE]))
  exact ⟨q, by simp, hat, ho⟩
theorem hRising {w : World} {b : Nat} {m : IM} (hm : MpAt w b m) (hlen : m.length ≤ 100000) : Cs Tryz.prog 46 [.map (some b)] w fun v w' => Only [] w w' ∧ ∃ xs fp, Sl w' 1 v xs.length (ints (sortI xs)) fp ∧ (∀ x, x ∈ fp → w.heap.size ≤ x) ∧ xs.Perm m.keys := by
  refine enter_barrier_set_rising rfl ?_
  unfold x_barrier_set_rising
  (repeat (first | with_reducible refine run_seq ?_ | with_reducible refine run_reg ?_ | with_reducible refine run_block ?_ | with_reducible refine run_blk ?_ | with_reducible refine run_skip ?_ | with_reducible refine run_exit rfl ?_ | with_reducible refine run_drw ?_ | with_reducible refine run_condT ?_ | with_reducible refine run_ret' ?_ | with_reducible refine run_end' ?_ | simp only [go_sem, ↓reduceIte, Nat.reduceAdd, Nat.reduceEqDiff, Nat.reduceBEq, reduceCtorEq, Int.reduceBEq, Int.reduceBNe, Int.reduceLT, Int.reduceLE]))
  refine callT (hKeys w b) ?_
  rintro v w1 ⟨q, rfl, hat, ho1⟩
  (repeat (first | with_reducible refine run_seq ?_ | with_reducible refine run_reg ?_ | with_reducible refine run_block ?_ | with_reducible refine run_blk ?_ | with_reducible refine run_skip ?_ | with_reducible refine run_exit rfl ?_ | with_reducible refine run_drw ?_ | with_reducible refine run_condT ?_ | with_reducible refine run_ret' ?_ | with_reducible refine run_end' ?_ | simp only [go_sem, ↓reduceIte, Nat.reduceAdd, Nat.reduceEqDiff, Nat.reduceBEq, reduceCtorEq, Int.reduceBEq, Int.reduceBNe, Int.reduceLT, Int.reduceLE]))
  refine callT (hSorted hat (hm.keep0 ho1) hlen) ?_
  rintro v w2 ⟨ho2, xs, fp, h1, h2, h3⟩
  (repeat (first | with_reducible refine run_seq ?_ | with_reducible refine run_reg ?_ | with_reducible refine run_block ?_ | with_reducible refine run_blk ?_ | with_reducible refine run_skip ?_ | with_reducible refine run_exit rfl ?_ | with_reducible refine run_drw ?_ | with_reducible refine run_condT ?_ | with_reducible refine run_ret' ?_ | with_reducible refine run_end' ?_ | simp only [go_sem, ↓reduceIte, Nat.reduceAdd, Nat.reduceEqDiff, Nat.reduceBEq, reduceCtorEq, Int.reduceBEq, Int.reduceBNe, Int.reduceLT, Int.reduceLE]))
  have := ho1.size
  exact ⟨ho1.nil ho2, xs, fp, h1, fun x hx => by have := h2 x hx; omega, h3⟩
theorem hAt12 {w : World} {D : List Nat} {v : Value} {xs : List Int} (h : RdB w D v xs) (hl : xs.length ≤ 100000) (y : Int) : Cs Tryz.prog 47 [v, .int .i64 y] w fun r w' => (∃ k : Int, r = .int .i64 k ∧ decide (0 ≤ k) = xs.contains y) ∧ w' = w := by
  refine enter_ref12_At rfl ?_
  unfold x_ref12_At
  obtain ⟨a, cap, rfl, hrd⟩ := h
  (repeat (first | with_reducible refine run_seq ?_ | with_reducible refine run_reg ?_ | with_reducible refine run_block ?_ | with_reducible refine run_blk ?_ | with_reducible refine run_skip ?_ | with_reducible refine run_exit rfl ?_ | with_reducible refine run_drw ?_ | with_reducible refine run_condT ?_ | with_reducible refine run_ret' ?_ | with_reducible refine run_end' ?_ | simp only [go_sem, ↓reduceIte, Nat.reduceAdd, Nat.reduceEqDiff, Nat.reduceBEq, reduceCtorEq, Int.reduceBEq, Int.reduceBNe, Int.reduceLT, Int.reduceLE]))
  refine run_loop (4 :: 5 :: 6 :: 7 :: 8 :: 9 :: 10 :: 11 :: 12 :: 13 :: 14 :: 15 :: 16 :: 17 :: 18 :: []) (fun g w' => ∃ i : Nat, g 5 = .int .i64 i ∧ i ≤ xs.length ∧ (xs.take i).contains y = false ∧ w' = w) (fun g _ => upTo xs.length 5 g) ⟨0, by simp only [go_sem, ↓reduceIte, Nat.reduceAdd, Nat.reduceEqDiff, Nat.reduceBEq, reduceCtorEq, Int.reduceBEq, Int.reduceBNe, Int.reduceLT, Int.reduceLE]; rfl, by omega, by simp, rfl⟩ fun g w' hI hnext => ?_
  obtain ⟨i, h5, hi, hno, rfl⟩ := hI
  (repeat (first | with_reducible refine run_seq ?_ | with_reducible refine run_reg ?_ | with_reducible refine run_block ?_ | with_reducible refine run_blk ?_ | with_reducible refine run_skip ?_ | with_reducible refine run_exit rfl ?_ | with_reducible refine run_drw ?_ | with_reducible refine run_condT ?_ | with_reducible refine run_ret' ?_ | with_reducible refine run_end' ?_ | simp only [go_sem, ↓reduceIte, Nat.reduceAdd, Nat.reduceEqDiff, Nat.reduceBEq, reduceCtorEq, Int.reduceBEq, Int.reduceBNe, Int.reduceLT, Int.reduceLE, h5]))
  refine condT (fun hlt => ?_) (fun hge => ?_)
  · have hlt : i < xs.length := by simpa using hlt
    obtain ⟨p, rfl, _, hc⟩ := hrd i hlt
    have c1 : (0 : Int) ≤ (i : Int) ∧ (i : Int) < (xs.length : Int) := ⟨by omega, by omega⟩
    by_cases e : xs.getD i 0 = y
    · (repeat (first | with_reducible refine run_seq ?_ | with_reducible refine run_reg ?_ | with_reducible refine run_block ?_ | with_reducible refine run_blk ?_ | with_reducible refine run_skip ?_ | with_reducible refine run_exit rfl ?_ | with_reducible refine run_drw ?_ | with_reducible refine run_condT ?_ | with_reducible refine run_ret' ?_ | with_reducible refine run_end' ?_ | simp only [go_sem, ↓reduceIte, Nat.reduceAdd, Nat.reduceEqDiff, Nat.reduceBEq, reduceCtorEq, Int.reduceBEq, Int.reduceBNe, Int.reduceLT, Int.reduceLE, h5, if_pos c1, Int.toNat_natCast, Nat.mul_one, hc, beq_int_true e]))
      refine ⟨i, rfl, ?_⟩
      have : xs.contains y = true := by
        rw [List.contains_iff_mem, ← e, List.getD_eq_getElem?_getD, List.getElem?_eq_getElem hlt]; simp
      rw [this]; simp
    · (repeat (first | with_reducible refine run_seq ?_ | with_reducible refine run_reg ?_ | with_reducible refine run_block ?_ | with_reducible refine run_blk ?_ | with_reducible refine run_skip ?_ | with_reducible refine run_exit rfl ?_ | with_reducible refine run_drw ?_ | with_reducible refine run_condT ?_ | with_reducible refine run_ret' ?_ | with_reducible refine run_end' ?_ | simp only [go_sem, ↓reduceIte, Nat.reduceAdd, Nat.reduceEqDiff, Nat.reduceBEq, reduceCtorEq, Int.reduceBEq, Int.reduceBNe, Int.reduceLT, Int.reduceLE, h5, if_pos c1, Int.toNat_natCast, Nat.mul_one, hc, beq_int_false e, i64_succ i (by omega)]))
      refine hnext _ w' ?_ ⟨i + 1, ?_, by omega, by rw [take_contains_succ hlt, hno]; simpa using fun h => e h.symm, rfl⟩ ?_
      · (repeat (first | with_reducible exact Keeps.refl _ _ | with_reducible exact Keeps.ovr _ _ _ | refine Keeps.put ?_ rfl _ | exact Keeps.refl _ _ | exact Keeps.ovr _ _ _ | refine Keeps.ovr2 ?_ rfl _))
      · simp only [go_sem, ↓reduceIte, Nat.reduceAdd, Nat.reduceEqDiff, Nat.reduceBEq, reduceCtorEq, Int.reduceBEq, Int.reduceBNe, Int.reduceLT, Int.reduceLE]
      · rw [upTo_int h5, upTo_int (k := .i64) (i := i + 1) (by simp only [go_sem, ↓reduceIte, Nat.reduceAdd, Nat.reduceEqDiff, Nat.reduceBEq, reduceCtorEq, Int.reduceBEq, Int.reduceBNe, Int.reduceLT, Int.reduceLE])]; omega
  · have : i = xs.length := by have : ¬ (i < xs.length) := by simpa using hge
                               omega
    subst this
    (repeat (first | with_reducible refine run_seq ?_ | with_reducible refine run_reg ?_ | with_reducible refine run_block ?_ | with_reducible refine run_blk ?_ | with_reducible refine run_skip ?_ | with_reducible refine run_exit rfl ?_ | with_reducible refine run_drw ?_ | with_reducible refine run_condT ?_ | with_reducible refine run_ret' ?_ | with_reducible refine run_end' ?_ | simp only [go_sem, ↓reduceIte, Nat.reduceAdd, Nat.reduceEqDiff, Nat.reduceBEq, reduceCtorEq, Int.reduceBEq, Int.reduceBNe, Int.reduceLT, Int.reduceLE]))
    refine ⟨-1, rfl, ?_⟩
    rw [List.take_length] at hno
    rw [hno]; rfl
theorem hHas12 {w : World} {D : List Nat} {v : Value} {xs : List Int} (h : RdB w D v xs) (hl : xs.length ≤ 100000) (y : Int) : Cs Tryz.prog 13 [v, .int .i64 y] w fun r w' => r = .bool (xs.contains y) ∧ w' = w := by
  refine enter_ref12_Has rfl ?_
  unfold x_ref12_Has
  (repeat (first | with_reducible refine run_seq ?_ | with_reducible refine run_reg ?_ | with_reducible refine run_block ?_ | with_reducible refine run_blk ?_ | with_reducible refine run_skip ?_ | with_reducible refine run_exit rfl ?_ | with_reducible refine run_drw ?_ | with_reducible refine run_condT ?_ | with_reducible refine run_ret' ?_ | with_reducible refine run_end' ?_ | simp only [go_sem, ↓reduceIte, Nat.reduceAdd, Nat.reduceEqDiff, Nat.reduceBEq, reduceCtorEq, Int.reduceBEq, Int.reduceBNe, Int.reduceLT, Int.reduceLE]))
  refine callT (hAt12 h hl y) ?_
  rintro r w' ⟨⟨k, rfl, hk⟩, rfl⟩
  (repeat (first | with_reducible refine run_seq ?_ | with_reducible refine run_reg ?_ | with_reducible refine run_block ?_ | with_reducible refine run_blk ?_ | with_reducible refine run_skip ?_ | with_reducible refine run_exit rfl ?_ | with_reducible refine run_drw ?_ | with_reducible refine run_condT ?_ | with_reducible refine run_ret' ?_ | with_reducible refine run_end' ?_ | simp only [go_sem, ↓reduceIte, Nat.reduceAdd, Nat.reduceEqDiff, Nat.reduceBEq, reduceCtorEq, Int.reduceBEq, Int.reduceBNe, Int.reduceLT, Int.reduceLE, hk]))
/-- the references of an object -/
def refsO (m : HO) (x : Int) : List Int := (List.range (shapeO m x).1.1.toNat).map fun (i : Nat) => (refO m x (i : Int)).1
theorem shape_refs {m : HO} (hok : ∀ s, m = some s → s.Ok) (x : Int) : 0 ≤ (shapeO m x).1.1 ∧ (shapeO m x).1.1 ≤ 15 := by
  match m, hok with
  | none, _ => exact ⟨by simp [shapeO], by simp [shapeO]⟩
  | some s, hok =>
    unfold shapeO
    by_cases he : objE (some s) x = 0
    · simp only [he, if_true]
      have hh : hasO (some s) x = true := by
        cases hh : hasO (some s) x with
        | true => rfl
        | false => simp [objE, hh] at he
      obtain ⟨i, rfl, hi⟩ := has_spec (hok s rfl) hh
      obtain ⟨_, _, r, d, k, g3, _, _, _, _, g8⟩ := (hok s rfl).start hi
      have : s.shapeAt ((2 * i : Nat) : Int) = ((r : Int), (d : Int), (k : Int)) := by unfold HL.shapeAt; rw [Int.toNat_natCast]; exact g8
      rw [this]
      simp only [validS, Bool.and_eq_true, decide_eq_true_eq] at g3
      simp only
      omega
    · simp only [he, if_false]
      omega
theorem HR.ok {w : World} {a : Option Addr} {fp : List Nat} {m : HO} (h : HR w a fp m) : ∀ s, m = some s → s.Ok := by
  rintro s rfl
  obtain ⟨b, _, gB, gW, cB, cW, yB, yW, sb, sg, pb, pg, bl, bf, _, h3⟩ := h
  exact h3.ok
theorem hRefs {w : World} {a : Option Addr} {fp : List Nat} {m : HO} (h : HR w a fp m) (x : Int) (hx : x ≤ 4611686018427387904) : Cs Tryz.prog 70 [.pointer a, .int .i64 x] w fun v w' => Only [] w w' ∧ ∃ fq, Sl w' 1 v (refsO m x).length (ints (refsO m x)) fq ∧ ∀ y, y ∈ fq → w.heap.size ≤ y := by
  refine enter_place_Refs rfl ?_
  unfold x_place_Refs
  (repeat (first | with_reducible refine run_seq ?_ | with_reducible refine run_reg ?_ | with_reducible refine run_block ?_ | with_reducible refine run_blk ?_ | with_reducible refine run_skip ?_ | with_reducible refine run_exit rfl ?_ | with_reducible refine run_drw ?_ | with_reducible refine run_condT ?_ | with_reducible refine run_ret' ?_ | with_reducible refine run_end' ?_ | simp only [go_sem, ↓reduceIte, Nat.reduceAdd, Nat.reduceEqDiff, Nat.reduceBEq, reduceCtorEq, Int.reduceBEq, Int.reduceBNe, Int.reduceLT, Int.reduceLE]))
  refine callT1 (hShape h x hx) fun w1 ho1 => ?_
  obtain ⟨hr0, hr15⟩ := shape_refs h.ok x
  have hrl : (refsO m x).length = (shapeO m x).1.1.toNat := by simp [refsO]
  generalize hsh : (shapeO m x).1 = sh at *
  (repeat (first | with_reducible refine run_seq ?_ | with_reducible refine run_reg ?_ | with_reducible refine run_block ?_ | with_reducible refine run_blk ?_ | with_reducible refine run_skip ?_ | with_reducible refine run_exit rfl ?_ | with_reducible refine run_drw ?_ | with_reducible refine run_condT ?_ | with_reducible refine run_ret' ?_ | with_reducible refine run_end' ?_ | simp only [go_sem, ↓reduceIte, Nat.reduceAdd, Nat.reduceEqDiff, Nat.reduceBEq, reduceCtorEq, Int.reduceBEq, Int.reduceBNe, Int.reduceLT, Int.reduceLE]))
  refine boxT fun q w2 hq hs2 hat2 ho2 => ?_
  (repeat (first | with_reducible refine run_seq ?_ | with_reducible refine run_reg ?_ | with_reducible refine run_block ?_ | with_reducible refine run_blk ?_ | with_reducible refine run_skip ?_ | with_reducible refine run_exit rfl ?_ | with_reducible refine run_drw ?_ | with_reducible refine run_condT ?_ | with_reducible refine run_ret' ?_ | with_reducible refine run_end' ?_ | simp only [go_sem, ↓reduceIte, Nat.reduceAdd, Nat.reduceEqDiff, Nat.reduceBEq, reduceCtorEq, Int.reduceBEq, Int.reduceBNe, Int.reduceLT, Int.reduceLE]))
  refine stNT (cs := shV sh) hat2 rfl (by simp) (shV_one _) fun w3 hs3 hat3 ho3 => ?_
  rw [setL_sh] at hat3
  have hz1 := ho1.size
  have o3 : Only [] w w3 := (ho1.nil ho2).trans ho3 fun y hy => by simp only [List.mem_singleton] at hy; subst hy; exact .inr (by omega)
  have c0 := hat3.cell 0
  simp only [shV, List.getElem?_cons_zero] at c0
  obtain ⟨n, hn⟩ : ∃ n : Nat, sh.1 = n := ⟨sh.1.toNat, by omega⟩
  rw [hn] at c0 hrl
  simp only [Int.toNat_natCast] at hrl
  (repeat (first | with_reducible refine run_seq ?_ | with_reducible refine run_reg ?_ | with_reducible refine run_block ?_ | with_reducible refine run_blk ?_ | with_reducible refine run_skip ?_ | with_reducible refine run_exit rfl ?_ | with_reducible refine run_drw ?_ | with_reducible refine run_condT ?_ | with_reducible refine run_ret' ?_ | with_reducible refine run_end' ?_ | simp only [go_sem, ↓reduceIte, Nat.reduceAdd, Nat.reduceEqDiff, Nat.reduceBEq, reduceCtorEq, Int.reduceBEq, Int.reduceBNe, Int.reduceLT, Int.reduceLE, c0]))
  refine mksT (n := 0) (m := n) (by omega) (by omega) (by omega) fun g w4 hg hs4 hat4 ho4 => ?_
  rw [rowZ_one] at hat4
  have c4 : w4.cell? ⟨q, 0, none⟩ = some (.int .i64 n) := by rw [(hat3.keep0 ho4).cell]; simp [shV, hn]
  have o4 := o3.nil ho4
  (repeat (first | with_reducible refine run_seq ?_ | with_reducible refine run_reg ?_ | with_reducible refine run_block ?_ | with_reducible refine run_blk ?_ | with_reducible refine run_skip ?_ | with_reducible refine run_exit rfl ?_ | with_reducible refine run_drw ?_ | with_reducible refine run_condT ?_ | with_reducible refine run_ret' ?_ | with_reducible refine run_end' ?_ | simp only [go_sem, ↓reduceIte, Nat.reduceAdd, Nat.reduceEqDiff, Nat.reduceBEq, reduceCtorEq, Int.reduceBEq, Int.reduceBNe, Int.reduceLT, Int.reduceLE, c4]))
  refine run_loop (7 :: 8 :: 9 :: 10 :: 22 :: 23 :: 24 :: 25 :: 26 :: 27 :: 28 :: 29 :: 30 :: 31 :: 32 :: 33 :: 34 :: 35 :: 36 :: []) (fun g' w' => ∃ (i : Nat) (v : Value) (f : List Nat), g' 22 = .int .i64 i ∧ g' 7 = v ∧ i ≤ n ∧ Sl w' 1 v i (ints ((refsO m x).take i)) f ∧ (∀ y, y ∈ f → w.heap.size ≤ y) ∧ Only [] w w') (fun g' _ => upTo n 22 g')
    ⟨0, .slice (some ⟨g, 0, none⟩) 0 n, [g], by simp only [go_sem, ↓reduceIte, Nat.reduceAdd, Nat.reduceEqDiff, Nat.reduceBEq, reduceCtorEq, Int.reduceBEq, Int.reduceBNe, Int.reduceLT, Int.reduceLE]; rfl, by simp only [go_sem, ↓reduceIte, Nat.reduceAdd, Nat.reduceEqDiff, Nat.reduceBEq, reduceCtorEq, Int.reduceBEq, Int.reduceBNe, Int.reduceLT, Int.reduceLE], by omega, Sl.mk1 (ys := List.replicate n (.int .i64 0)) hat4 rfl (by simp [ints]), fun y hy => by have := o3.size; simp only [List.mem_singleton] at hy; omega, o4⟩ fun g' w5 hI hnext => ?_
  obtain ⟨i, v, f, h22, h7, hi, hsl, hf, ho5⟩ := hI
  (repeat (first | with_reducible refine run_seq ?_ | with_reducible refine run_reg ?_ | with_reducible refine run_block ?_ | with_reducible refine run_blk ?_ | with_reducible refine run_skip ?_ | with_reducible refine run_exit rfl ?_ | with_reducible refine run_drw ?_ | with_reducible refine run_condT ?_ | with_reducible refine run_ret' ?_ | with_reducible refine run_end' ?_ | simp only [go_sem, ↓reduceIte, Nat.reduceAdd, Nat.reduceEqDiff, Nat.reduceBEq, reduceCtorEq, Int.reduceBEq, Int.reduceBNe, Int.reduceLT, Int.reduceLE, h22]))
  refine condT (fun hlt => ?_) (fun hge => ?_)
  · have hlt : i < n := by simpa using hlt
    (repeat (first | with_reducible refine run_seq ?_ | with_reducible refine run_reg ?_ | with_reducible refine run_block ?_ | with_reducible refine run_blk ?_ | with_reducible refine run_skip ?_ | with_reducible refine run_exit rfl ?_ | with_reducible refine run_drw ?_ | with_reducible refine run_condT ?_ | with_reducible refine run_ret' ?_ | with_reducible refine run_end' ?_ | simp only [go_sem, ↓reduceIte, Nat.reduceAdd, Nat.reduceEqDiff, Nat.reduceBEq, reduceCtorEq, Int.reduceBEq, Int.reduceBNe, Int.reduceLT, Int.reduceLE, h22]))
    refine callT1 (hRef (h.keep0 ho5) x (i : Int) hx) fun w6 ho6 => ?_
    (repeat (first | with_reducible refine run_seq ?_ | with_reducible refine run_reg ?_ | with_reducible refine run_block ?_ | with_reducible refine run_blk ?_ | with_reducible refine run_skip ?_ | with_reducible refine run_exit rfl ?_ | with_reducible refine run_drw ?_ | with_reducible refine run_condT ?_ | with_reducible refine run_ret' ?_ | with_reducible refine run_end' ?_ | simp only [go_sem, ↓reduceIte, Nat.reduceAdd, Nat.reduceEqDiff, Nat.reduceBEq, reduceCtorEq, Int.reduceBEq, Int.reduceBNe, Int.reduceLT, Int.reduceLE, h7]))
    rw [fillL_one rfl rfl]
    (repeat (first | with_reducible refine run_seq ?_ | with_reducible refine run_reg ?_ | with_reducible refine run_block ?_ | with_reducible refine run_blk ?_ | with_reducible refine run_skip ?_ | with_reducible refine run_exit rfl ?_ | with_reducible refine run_drw ?_ | with_reducible refine run_condT ?_ | with_reducible refine run_ret' ?_ | with_reducible refine run_end' ?_ | simp only [go_sem, ↓reduceIte, Nat.reduceAdd, Nat.reduceEqDiff, Nat.reduceBEq, reduceCtorEq, Int.reduceBEq, Int.reduceBNe, Int.reduceLT, Int.reduceLE]))
    refine bslT fun q7 w7 hq7 hs7 hat7 ho7 => ?_
    (repeat (first | with_reducible refine run_seq ?_ | with_reducible refine run_reg ?_ | with_reducible refine run_block ?_ | with_reducible refine run_blk ?_ | with_reducible refine run_skip ?_ | with_reducible refine run_exit rfl ?_ | with_reducible refine run_drw ?_ | with_reducible refine run_condT ?_ | with_reducible refine run_ret' ?_ | with_reducible refine run_end' ?_ | simp only [go_sem, ↓reduceIte, Nat.reduceAdd, Nat.reduceEqDiff, Nat.reduceBEq, reduceCtorEq, Int.reduceBEq, Int.reduceBNe, Int.reduceLT, Int.reduceLE, h7]))
    refine appT ((hsl.keep0 ho6).keep0 ho7) (SrcIs.at hat7 rfl) (by simp [oneC]) (by omega) (by omega) ?_
    intro v8 w8 f8 hs8 hf8 ho8 _
    have hz5 := ho5.size
    have hz6 := ho6.size
    have e1 : (refsO m x).take (i + 1) = (refsO m x).take i ++ [(refO m x (i : Int)).1] := by
      rw [List.take_succ_eq_append_getElem (by omega)]
      simp [refsO]
    (repeat (first | with_reducible refine run_seq ?_ | with_reducible refine run_reg ?_ | with_reducible refine run_block ?_ | with_reducible refine run_blk ?_ | with_reducible refine run_skip ?_ | with_reducible refine run_exit rfl ?_ | with_reducible refine run_drw ?_ | with_reducible refine run_condT ?_ | with_reducible refine run_ret' ?_ | with_reducible refine run_end' ?_ | simp only [go_sem, ↓reduceIte, Nat.reduceAdd, Nat.reduceEqDiff, Nat.reduceBEq, reduceCtorEq, Int.reduceBEq, Int.reduceBNe, Int.reduceLT, Int.reduceLE, h22, i64_succ i (by omega)]))
    refine hnext _ w8 ?_ ⟨i + 1, v8, f8, ?_, ?_, by omega, by rw [e1, ints_append]; exact hs8, ?_, ((ho5.nil ho6).nil ho7).trans ho8 fun y hy => .inr (hf y hy)⟩ ?_
    · (repeat (first | with_reducible exact Keeps.refl _ _ | with_reducible exact Keeps.ovr _ _ _ | refine Keeps.put ?_ rfl _ | exact Keeps.refl _ _ | exact Keeps.ovr _ _ _ | refine Keeps.ovr2 ?_ rfl _))
    · simp only [go_sem, ↓reduceIte, Nat.reduceAdd, Nat.reduceEqDiff, Nat.reduceBEq, reduceCtorEq, Int.reduceBEq, Int.reduceBNe, Int.reduceLT, Int.reduceLE]
    · simp only [go_sem, ↓reduceIte, Nat.reduceAdd, Nat.reduceEqDiff, Nat.reduceBEq, reduceCtorEq, Int.reduceBEq, Int.reduceBNe, Int.reduceLT, Int.reduceLE]
    · intro y hy
      rcases hf8 with rfl | rfl
      · exact hf y hy
      · simp only [List.mem_singleton] at hy; omega
    · rw [upTo_int h22, upTo_int (k := .i64) (i := i + 1) (by simp only [go_sem, ↓reduceIte, Nat.reduceAdd, Nat.reduceEqDiff, Nat.reduceBEq, reduceCtorEq, Int.reduceBEq, Int.reduceBNe, Int.reduceLT, Int.reduceLE])]; omega
  · have : i = n := by have : ¬ (i < n) := by simpa using hge
                       omega
    subst this
    (repeat (first | with_reducible refine run_seq ?_ | with_reducible refine run_reg ?_ | with_reducible refine run_block ?_ | with_reducible refine run_blk ?_ | with_reducible refine run_skip ?_ | with_reducible refine run_exit rfl ?_ | with_reducible refine run_drw ?_ | with_reducible refine run_condT ?_ | with_reducible refine run_ret' ?_ | with_reducible refine run_end' ?_ | simp only [go_sem, ↓reduceIte, Nat.reduceAdd, Nat.reduceEqDiff, Nat.reduceBEq, reduceCtorEq, Int.reduceBEq, Int.reduceBNe, Int.reduceLT, Int.reduceLE, h7]))
    refine ⟨ho5, f, ?_, hf⟩
    rw [hrl]
    rw [List.take_of_length_le (by omega)] at hsl
    exact hsl
end Go.Proofs.YtgcofabdialaaaaGreat
