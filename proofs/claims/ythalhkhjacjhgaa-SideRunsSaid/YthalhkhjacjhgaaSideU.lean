/- Side tables: Count; the reference's Count and Runs; SameRuns. -/
import Derived.Test.YthalhkhjacjhgaaSideT
namespace Go.Proofs.Ythalhkhjacjhgaa
set_option linter.unusedSimpArgs false
set_option linter.unusedVariables false
set_option maxRecDepth 8000

theorem runCells_two (rs : Runs) (ys : List Value) (i : Nat) (h : i < rs.length) : ((runCells rs ++ ys).drop (i * 2)).take 2 = [.int .i64 (((rs.getD i (0, 0)).1 : Nat) : Int), .int .i64 (((rs.getD i (0, 0)).2 : Nat) : Int)] := by
  obtain ⟨g1, g2⟩ := runCells_get rs ys i h
  have hl : i * 2 + 2 ≤ (runCells rs ++ ys).length := by rw [List.length_append, runCells_len]; omega
  generalize runCells rs ++ ys = zs at *
  apply List.ext_getElem?
  intro j
  rw [List.getElem?_take, List.getElem?_drop]
  match j with
  | 0 => simp only [Nat.add_zero, g1]; rfl
  | 1 => simp only [g2]; rfl
  | j + 2 => rw [if_neg (by omega)]; rfl
theorem run_cells {w : World} {q i : Nat} {rs : Runs} {ys : List Value} (h : At w q (runCells rs ++ ys)) (hi : i < rs.length) : cellsAt w ⟨q, i * 2, none⟩ 2 = some [.int .i64 (((rs.getD i (0, 0)).1 : Nat) : Int), .int .i64 (((rs.getD i (0, 0)).2 : Nat) : Int)] := by
  rw [cellsAt_at h _ _ (by rw [List.length_append, runCells_len]; omega), runCells_two rs ys i hi]
theorem sizes_take_succ (rs : Runs) (i : Nat) (h : i < rs.length) : sizes (rs.take (i + 1)) = sizes (rs.take i) + (rs.getD i (0, 0)).2 := by
  have e : rs.getD i (0, 0) = rs[i] := by simp [h]
  rw [List.take_succ_eq_append_getElem h, e]
  simp only [sizes, List.map_append, List.sum_append, List.map_cons, List.map_nil, List.sum_cons, List.sum_nil, Nat.add_zero]
theorem sizes_take_le (rs : Runs) (i : Nat) : sizes (rs.take i) ≤ sizes rs := by
  have : sizes rs = sizes (rs.take i) + sizes (rs.drop i) := by
    simp only [sizes, ← List.sum_append, ← List.map_append, List.take_append_drop]
  omega
theorem MT.runs_len (m : MT) (v : Int) : (m.runs v).length ≤ m.entries := runsN_len _ _
theorem MT.count_le (m : MT) (v : Int) : m.count v ≤ m.entries := cntN_le _ _
theorem MT.sizes (m : MT) (v : Int) : Go.Proofs.Ythalhkhjacjhgaa.sizes (m.runs v) = m.count v := sizes_runsN _ _
theorem Tab.max {w : World} {a : Option Addr} {S : List Nat} {m : MT} (h : Tab w a S m) : m.entries ≤ 4096 := by
  match m, h with
  | none, _ => exact Nat.zero_le _
  | some (wd, l), ⟨b, g, h1, h2, h3⟩ => exact h3.n2
theorem RT.max {w : World} {a : Option Addr} {S : List Nat} {m : MT} (h : RT w a S m) : m.entries ≤ 4096 := by
  match m, h with
  | none, _ => exact Nat.zero_le _
  | some (wd, l), ⟨b, g, h1, h2, h3⟩ => exact h3.n2

theorem Count_m {w : World} {a : Option Addr} {S : List Nat} {m : MT} (h : Tab w a S m) (v : Int) : Cs Try.prog 22 [.pointer a, .int .i64 v] w fun r w' => r = .int .i64 (m.count v) ∧ Only [] w w' := by
  have hmax := h.max
  have hrl := m.runs_len v
  have hcl := m.count_le v
  have hsz := m.sizes v
  refine enter_side_Table_Count rfl ?_
  unfold x_side_Table_Count
  (repeat (first | with_reducible refine run_seq ?_ | with_reducible refine run_reg ?_ | with_reducible refine run_block ?_ | with_reducible refine run_blk ?_ | with_reducible refine run_skip ?_ | with_reducible refine run_exit rfl ?_ | with_reducible refine run_drw ?_ | with_reducible refine run_condT ?_ | with_reducible refine run_ret' ?_ | with_reducible refine run_end' ?_ | simp only [go_sem, ↓reduceIte, Nat.reduceAdd, Nat.reduceEqDiff, Nat.reduceBEq, reduceCtorEq, Int.reduceBEq, Int.reduceBNe, Int.reduceLT, Int.reduceLE]))
  refine callT (Runs_m h v) ?_
  rintro s w1 ⟨hs, ho1⟩
  generalize m.runs v = rs at *
  rcases hs.cases with ⟨rfl, rfl⟩ | ⟨q, cap, ys, rfl, hat, hq, hc1, hc2⟩
  · (repeat (first | with_reducible refine run_seq ?_ | with_reducible refine run_reg ?_ | with_reducible refine run_block ?_ | with_reducible refine run_blk ?_ | with_reducible refine run_skip ?_ | with_reducible refine run_exit rfl ?_ | with_reducible refine run_drw ?_ | with_reducible refine run_condT ?_ | with_reducible refine run_ret' ?_ | with_reducible refine run_end' ?_ | simp only [go_sem, ↓reduceIte, Nat.reduceAdd, Nat.reduceEqDiff, Nat.reduceBEq, reduceCtorEq, Int.reduceBEq, Int.reduceBNe, Int.reduceLT, Int.reduceLE]))
    refine run_loop1 ?_
    (repeat (first | with_reducible refine run_seq ?_ | with_reducible refine run_reg ?_ | with_reducible refine run_block ?_ | with_reducible refine run_blk ?_ | with_reducible refine run_skip ?_ | with_reducible refine run_exit rfl ?_ | with_reducible refine run_drw ?_ | with_reducible refine run_condT ?_ | with_reducible refine run_ret' ?_ | with_reducible refine run_end' ?_ | simp only [go_sem, ↓reduceIte, Nat.reduceAdd, Nat.reduceEqDiff, Nat.reduceBEq, reduceCtorEq, Int.reduceBEq, Int.reduceBNe, Int.reduceLT, Int.reduceLE, List.length_nil, Int.natCast_zero]))
    exact ⟨by rw [← hsz]; rfl, ho1⟩
  · (repeat (first | with_reducible refine run_seq ?_ | with_reducible refine run_reg ?_ | with_reducible refine run_block ?_ | with_reducible refine run_blk ?_ | with_reducible refine run_skip ?_ | with_reducible refine run_exit rfl ?_ | with_reducible refine run_drw ?_ | with_reducible refine run_condT ?_ | with_reducible refine run_ret' ?_ | with_reducible refine run_end' ?_ | simp only [go_sem, ↓reduceIte, Nat.reduceAdd, Nat.reduceEqDiff, Nat.reduceBEq, reduceCtorEq, Int.reduceBEq, Int.reduceBNe, Int.reduceLT, Int.reduceLE]))
    refine run_loop (5 :: 7 :: 12 :: 13 :: 14 :: 15 :: 16 :: 17 :: 18 :: 19 :: 20 :: []) (fun g' w' => ∃ (i : Nat), g' 12 = .int .i64 i ∧ g' 5 = .int .i64 (sizes (rs.take i) : Nat) ∧ i ≤ rs.length ∧ Only [] w1 w') (fun g' _ => upTo rs.length 12 g')
      ⟨0, by simp only [go_sem, ↓reduceIte, Nat.reduceAdd, Nat.reduceEqDiff, Nat.reduceBEq, reduceCtorEq, Int.reduceBEq, Int.reduceBNe, Int.reduceLT, Int.reduceLE]; rfl, by simp only [go_sem, ↓reduceIte, Nat.reduceAdd, Nat.reduceEqDiff, Nat.reduceBEq, reduceCtorEq, Int.reduceBEq, Int.reduceBNe, Int.reduceLT, Int.reduceLE]; rfl, by omega, Only.refl _ _⟩ fun g' w' hI hnext => ?_
    obtain ⟨i, hi, h5, hir, ho⟩ := hI
    (repeat (first | with_reducible refine run_seq ?_ | with_reducible refine run_reg ?_ | with_reducible refine run_block ?_ | with_reducible refine run_blk ?_ | with_reducible refine run_skip ?_ | with_reducible refine run_exit rfl ?_ | with_reducible refine run_drw ?_ | with_reducible refine run_condT ?_ | with_reducible refine run_ret' ?_ | with_reducible refine run_end' ?_ | simp only [go_sem, ↓reduceIte, Nat.reduceAdd, Nat.reduceEqDiff, Nat.reduceBEq, reduceCtorEq, Int.reduceBEq, Int.reduceBNe, Int.reduceLT, Int.reduceLE, hi]))
    refine condT (fun hlt => ?_) (fun hge => ?_)
    · have hlt : i < rs.length := by simpa using hlt
      have c1 : (0 : Int) ≤ (i : Int) ∧ (i : Int) < (rs.length : Int) := ⟨by omega, by omega⟩
      have e := run_cells (hat.keep0 ho) hlt
      (repeat (first | with_reducible refine run_seq ?_ | with_reducible refine run_reg ?_ | with_reducible refine run_block ?_ | with_reducible refine run_blk ?_ | with_reducible refine run_skip ?_ | with_reducible refine run_exit rfl ?_ | with_reducible refine run_drw ?_ | with_reducible refine run_condT ?_ | with_reducible refine run_ret' ?_ | with_reducible refine run_end' ?_ | simp only [go_sem, ↓reduceIte, Nat.reduceAdd, Nat.reduceEqDiff, Nat.reduceBEq, reduceCtorEq, Int.reduceBEq, Int.reduceBNe, Int.reduceLT, Int.reduceLE, hi, if_pos c1, Int.toNat_natCast, e]))
      refine boxT fun p w2 hp hs2 hat2 ho2 => ?_
      (repeat (first | with_reducible refine run_seq ?_ | with_reducible refine run_reg ?_ | with_reducible refine run_block ?_ | with_reducible refine run_blk ?_ | with_reducible refine run_skip ?_ | with_reducible refine run_exit rfl ?_ | with_reducible refine run_drw ?_ | with_reducible refine run_condT ?_ | with_reducible refine run_ret' ?_ | with_reducible refine run_end' ?_ | simp only [go_sem, ↓reduceIte, Nat.reduceAdd, Nat.reduceEqDiff, Nat.reduceBEq, reduceCtorEq, Int.reduceBEq, Int.reduceBNe, Int.reduceLT, Int.reduceLE]))
      refine stNT hat2 rfl (by simp) ?_ fun w3 hs3 hat3 ho3 => ?_
      · intro u hu
        rcases List.mem_cons.1 hu with rfl | hu
        · rfl
        · rcases List.mem_cons.1 hu with rfl | hu
          · rfl
          · cases hu
      rw [setL_two] at hat3
      have hle := sizes_take_le rs (i + 1)
      have hsu := sizes_take_succ rs i hlt
      have hadd : IntKind.i64.wrap (((sizes (rs.take i) : Nat) : Int) + ((rs.getD i (0, 0)).2 : Nat)) = ((sizes (rs.take (i + 1)) : Nat) : Int) := by rw [hsu, IntWalk.i64_in _ (by omega)]; omega
      (repeat (first | with_reducible refine run_seq ?_ | with_reducible refine run_reg ?_ | with_reducible refine run_block ?_ | with_reducible refine run_blk ?_ | with_reducible refine run_skip ?_ | with_reducible refine run_exit rfl ?_ | with_reducible refine run_drw ?_ | with_reducible refine run_condT ?_ | with_reducible refine run_ret' ?_ | with_reducible refine run_end' ?_ | simp only [go_sem, ↓reduceIte, Nat.reduceAdd, Nat.reduceEqDiff, Nat.reduceBEq, reduceCtorEq, Int.reduceBEq, Int.reduceBNe, Int.reduceLT, Int.reduceLE, h5, hat3.cell, hadd, hi, i64_succ i (by omega)]))
      have ho4 : Only [] w1 w3 := (ho.same ho2).same5 ho3 (by subst hp; simpa using ho.size)
      refine hnext _ _ ?_ ⟨i + 1, ?_, ?_, hlt, ho4⟩ ?_
      · (repeat (first | with_reducible exact Keeps.refl _ _ | with_reducible exact Keeps.ovr _ _ _ | refine Keeps.put ?_ rfl _ | exact Keeps.refl _ _ | exact Keeps.ovr _ _ _ | refine Keeps.ovr2 ?_ rfl _))
      · simp only [go_sem, ↓reduceIte, Nat.reduceAdd, Nat.reduceEqDiff, Nat.reduceBEq, reduceCtorEq, Int.reduceBEq, Int.reduceBNe, Int.reduceLT, Int.reduceLE]
      · simp only [go_sem, ↓reduceIte, Nat.reduceAdd, Nat.reduceEqDiff, Nat.reduceBEq, reduceCtorEq, Int.reduceBEq, Int.reduceBNe, Int.reduceLT, Int.reduceLE]
      · rw [upTo_int hi, upTo_int (k := .i64) (i := i + 1) (by simp only [go_sem, ↓reduceIte, Nat.reduceAdd, Nat.reduceEqDiff, Nat.reduceBEq, reduceCtorEq, Int.reduceBEq, Int.reduceBNe, Int.reduceLT, Int.reduceLE])]; omega
    · have hge : ¬ i < rs.length := by simpa using hge
      have : i = rs.length := by omega
      subst this
      (repeat (first | with_reducible refine run_seq ?_ | with_reducible refine run_reg ?_ | with_reducible refine run_block ?_ | with_reducible refine run_blk ?_ | with_reducible refine run_skip ?_ | with_reducible refine run_exit rfl ?_ | with_reducible refine run_drw ?_ | with_reducible refine run_condT ?_ | with_reducible refine run_ret' ?_ | with_reducible refine run_end' ?_ | simp only [go_sem, ↓reduceIte, Nat.reduceAdd, Nat.reduceEqDiff, Nat.reduceBEq, reduceCtorEq, Int.reduceBEq, Int.reduceBNe, Int.reduceLT, Int.reduceLE, h5]))
      exact ⟨by rw [List.take_length, hsz], ho1.same ho⟩
end Go.Proofs.Ythalhkhjacjhgaa
