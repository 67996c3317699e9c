/- Side tables: Runs. -/
import Derived.Test.YthalhkhjacjhgaaSideS
namespace Go.Proofs.Ythalhkhjacjhgaa
set_option linter.unusedSimpArgs false
set_option linter.unusedVariables false
set_option maxRecDepth 8000

def runCells (rs : Runs) : List Value := rs.flatMap fun r => [.int .i64 ((r.1 : Nat) : Int), .int .i64 ((r.2 : Nat) : Int)]
theorem runCells_len (rs : Runs) : (runCells rs).length = rs.length * 2 := by
  induction rs with
  | nil => rfl
  | cons r rs ih => simp only [runCells, List.flatMap_cons, List.length_append, List.length_cons, List.length_nil] at *; omega
theorem runCells_append (rs : Runs) (r : Nat × Nat) : runCells (rs ++ [r]) = runCells rs ++ [.int .i64 ((r.1 : Nat) : Int), .int .i64 ((r.2 : Nat) : Int)] := by simp [runCells]
theorem runCells_get (rs : Runs) (ys : List Value) (i : Nat) (h : i < rs.length) : (runCells rs ++ ys)[i * 2]? = some (.int .i64 (((rs.getD i (0, 0)).1 : Nat) : Int)) ∧ (runCells rs ++ ys)[i * 2 + 1]? = some (.int .i64 (((rs.getD i (0, 0)).2 : Nat) : Int)) := by
  induction rs generalizing i with
  | nil => simp at h
  | cons r rs ih =>
    cases i with
    | zero => simp [runCells]
    | succ i =>
      have := ih i (by simpa using h)
      have e1 : (i + 1) * 2 = i * 2 + 1 + 1 := by omega
      rw [e1]
      simp only [runCells, List.flatMap_cons, List.cons_append, List.nil_append, List.getElem?_cons_succ, List.getD_cons_succ] at this ⊢
      exact this
theorem runCells_set (rs : Runs) (ys : List Value) (i b : Nat) (h : i < rs.length) : (runCells rs ++ ys).set (i * 2 + 1) (.int .i64 (b : Int)) = runCells (rs.set i ((rs.getD i (0, 0)).1, b)) ++ ys := by
  induction rs generalizing i with
  | nil => simp at h
  | cons r rs ih =>
    cases i with
    | zero => simp [runCells]
    | succ i =>
      have := ih i (by simpa using h)
      have e1 : (i + 1) * 2 + 1 = i * 2 + 1 + 1 + 1 := by omega
      rw [e1]
      simp only [runCells, List.flatMap_cons, List.cons_append, List.nil_append, List.set_cons_succ, List.getD_cons_succ] at this ⊢
      rw [this]
/-- a slice of runs in memory of its own, none of it in the first h0 blocks -/
def RS (w : World) (h0 : Nat) (v : Value) (rs : Runs) : Prop := ∃ fp, Sl w 2 v rs.length (runCells rs) fp ∧ ∀ x, x ∈ fp → h0 ≤ x
theorem RS.cases {w : World} {h0 : Nat} {v : Value} {rs : Runs} (h : RS w h0 v rs) : (v = .slice none 0 0 ∧ rs = []) ∨ ∃ g cap ys, v = .slice (some ⟨g, 0, none⟩) rs.length cap ∧ At w g (runCells rs ++ ys) ∧ h0 ≤ g ∧ (runCells rs ++ ys).length = cap * 2 ∧ rs.length ≤ cap := by
  obtain ⟨fp, ⟨_, h⟩, hf⟩ := h
  rcases h with ⟨h1, h2, _⟩ | ⟨g, cap, ys, T, h1, h2, h3, h4, h5⟩
  · exact .inl ⟨h1, List.length_eq_zero_iff.1 h2⟩
  · exact .inr ⟨g, cap, ys, h1, ⟨T, h3⟩, hf g (by simp [h2]), h4, h5⟩
theorem RS.nil (w : World) (h0 : Nat) : RS w h0 (.slice none 0 0) [] := ⟨[], ⟨rfl, .inl ⟨rfl, rfl, rfl⟩⟩, by simp⟩
theorem RS.at {w : World} {h0 g cap : Nat} {rs : Runs} {ys : List Value} (hat : At w g (runCells rs ++ ys)) (hg : h0 ≤ g) (h4 : (runCells rs ++ ys).length = cap * 2) (h5 : rs.length ≤ cap) : RS w h0 (.slice (some ⟨g, 0, none⟩) rs.length cap) rs := by
  obtain ⟨T, hat⟩ := hat
  exact ⟨[g], ⟨runCells_len rs, .inr ⟨g, cap, ys, T, rfl, rfl, hat, h4, h5⟩⟩, by simpa using hg⟩
theorem RS.keep {S : List Nat} {w w' : World} {h0 : Nat} {v : Value} {rs : Runs} (h : RS w h0 v rs) (k : Only S w w') (hs : ∀ x, x ∈ S → x < h0) : RS w' h0 v rs := by
  rcases h.cases with ⟨rfl, rfl⟩ | ⟨g, cap, ys, rfl, hat, hg, h4, h5⟩
  · exact .nil _ _
  · exact .at (hat.keep k fun h => by have := hs g h; omega) hg h4 h5
theorem RS.keep0 {w w' : World} {h0 : Nat} {v : Value} {rs : Runs} (h : RS w h0 v rs) (k : Only [] w w') : RS w' h0 v rs := h.keep k (by simp)

theorem fillL_two (x y a b : Value) : fillL [x, y] [(0, 2, .agg ⟨[a, b]⟩)] = some [a, b] := Eq.trans rfl rfl
theorem SrcIs.at {w : World} {sz q m c : Nat} {us : List Value} (h : At w q us) (h1 : us.length = m * sz) : SrcIs w sz (.slice (some ⟨q, 0, none⟩) m c) m us :=
  ⟨h1, .inr ⟨⟨q, 0, none⟩, c, rfl, by rw [cellsAt_at h 0 (m * sz) (by omega), List.drop_zero, ← h1, List.take_length]⟩⟩
theorem le_sizes (rs : Runs) (k : Nat) : (rs.getD k (0, 0)).2 ≤ sizes rs := by
  induction rs generalizing k with
  | nil => simp
  | cons r rs ih =>
    cases k with
    | zero => simp [sizes]
    | succ k => have := ih k; simp only [List.getD_cons_succ, sizes, List.map_cons, List.sum_cons] at *; omega
theorem app_run {P : Program} {wb w : World} {s : Value} {rs : Runs} {i q bytes : Nat} {d : Option Nat} {rest : List XO} {ρ : Env} {C : Env → World → Prop} (hs : RS w wb.heap.size s rs) (hb : Only [] wb w) (hq : At w q [.int .i64 (i : Int), .int .i64 1]) (hl : rs.length ≤ 4096) (hby : bytes ≤ 16)
    (k : ∀ v' w', RS w' wb.heap.size v' (rs ++ [(i, 1)]) → Only [] wb w' → VO P rest (putO ρ d v') w' C) : AppT P 2 bytes s (.slice (some ⟨q, 0, none⟩) 1 1) d rest ρ w C := by
  obtain ⟨fp, h1, h2⟩ := hs
  refine appT h1 (SrcIs.at hq rfl) ?_ (by omega) ?_ fun v' w' fp' h3 h4 h5 _ => k v' w' ⟨fp', ?_, ?_⟩ (hb.trans h5 fun x hx => .inr (h2 x hx))
  · intro u hu
    rcases List.mem_cons.1 hu with rfl | hu
    · rfl
    · rcases List.mem_cons.1 hu with rfl | hu
      · rfl
      · cases hu
  · calc (rs.length + 1) * bytes ≤ (rs.length + 1) * 16 := Nat.mul_le_mul_left _ hby
      _ ≤ 1099511627776 := by omega
  · rw [runCells_append, List.length_append]; exact h3
  · intro x hx
    rcases h4 with rfl | rfl
    · exact h2 x hx
    · rcases List.mem_cons.1 hx with rfl | hx
      · exact hb.size
      · cases hx
theorem Only.same5 {a b c : World} {S : List Nat} (h : Only [] a b) (k : Only S b c) (hs : ∀ x, x ∈ S → a.heap.size ≤ x) : Only [] a c :=
  h.trans k fun x hx => .inr (hs x hx)
theorem Runs_m {w : World} {a : Option Addr} {S : List Nat} {m : MT} (h : Tab w a S m) (v : Int) : Cs Try.prog 21 [.pointer a, .int .i64 v] w fun r w' => RS w' w.heap.size r (m.runs v) ∧ Only [] w w' := by
  refine enter_side_Table_Runs rfl ?_
  unfold x_side_Table_Runs
  (repeat (first | with_reducible refine run_seq ?_ | with_reducible refine run_reg ?_ | with_reducible refine run_block ?_ | with_reducible refine run_blk ?_ | with_reducible refine run_skip ?_ | with_reducible refine run_exit rfl ?_ | with_reducible refine run_drw ?_ | with_reducible refine run_condT ?_ | with_reducible refine run_ret' ?_ | with_reducible refine run_end' ?_ | simp only [go_sem, ↓reduceIte, Nat.reduceAdd, Nat.reduceEqDiff, Nat.reduceBEq, reduceCtorEq, Int.reduceBEq, Int.reduceBNe, Int.reduceLT, Int.reduceLE]))
  refine callT1 (Entries_m h) fun w1 ho1 => ?_
  (repeat (first | with_reducible refine run_seq ?_ | with_reducible refine run_reg ?_ | with_reducible refine run_block ?_ | with_reducible refine run_blk ?_ | with_reducible refine run_skip ?_ | with_reducible refine run_exit rfl ?_ | with_reducible refine run_drw ?_ | with_reducible refine run_condT ?_ | with_reducible refine run_ret' ?_ | with_reducible refine run_end' ?_ | simp only [go_sem, ↓reduceIte, Nat.reduceAdd, Nat.reduceEqDiff, Nat.reduceBEq, reduceCtorEq, Int.reduceBEq, Int.reduceBNe, Int.reduceLT, Int.reduceLE]))
  refine run_loop (5 :: 6 :: 9 :: 10 :: 11 :: 12 :: 13 :: 14 :: 15 :: 16 :: 17 :: 18 :: 19 :: 20 :: 21 :: 22 :: 23 :: 24 :: 25 :: 26 :: 27 :: 28 :: 29 :: 30 :: 31 :: 32 :: 33 :: 34 :: 35 :: 36 :: 37 :: 38 :: 39 :: 40 :: 41 :: 42 :: 43 :: 44 :: []) (fun g' w' => ∃ (i : Nat) (s : Value), g' 9 = .int .i64 i ∧ g' 5 = s ∧ i ≤ m.entries ∧ RS w' w.heap.size s (runsN (m.is v) i) ∧ Only [] w w') (fun g' _ => upTo m.entries 9 g')
    ⟨0, .slice none 0 0, by simp only [go_sem, ↓reduceIte, Nat.reduceAdd, Nat.reduceEqDiff, Nat.reduceBEq, reduceCtorEq, Int.reduceBEq, Int.reduceBNe, Int.reduceLT, Int.reduceLE]; rfl, by simp only [go_sem, ↓reduceIte, Nat.reduceAdd, Nat.reduceEqDiff, Nat.reduceBEq, reduceCtorEq, Int.reduceBEq, Int.reduceBNe, Int.reduceLT, Int.reduceLE], by omega, .nil _ _, ho1⟩ fun g' w' hI hnext => ?_
  obtain ⟨i, s, hi, h5, hin, hsl, ho⟩ := hI
  (repeat (first | with_reducible refine run_seq ?_ | with_reducible refine run_reg ?_ | with_reducible refine run_block ?_ | with_reducible refine run_blk ?_ | with_reducible refine run_skip ?_ | with_reducible refine run_exit rfl ?_ | with_reducible refine run_drw ?_ | with_reducible refine run_condT ?_ | with_reducible refine run_ret' ?_ | with_reducible refine run_end' ?_ | simp only [go_sem, ↓reduceIte, Nat.reduceAdd, Nat.reduceEqDiff, Nat.reduceBEq, reduceCtorEq, Int.reduceBEq, Int.reduceBNe, Int.reduceLT, Int.reduceLE, hi]))
  refine condT (fun hlt => ?_) (fun hge => ?_)
  · have hlt : i < m.entries := by simpa using hlt
    match m, h with
    | none, _ => cases hlt
    | some (wd, l), ⟨b, g, h1, h2, h3⟩ =>
      subst h1 h2
      have hn2 := h3.n2
      have hlt : i < l.length := hlt
      have h4 := h3.keep ho (by simp) (by simp)
      have hip : ∀ k, MT.is (some (wd, l)) v k = decide (((l.getD k 0 : Nat) : Int) = v) := fun _ => rfl
      (repeat (first | with_reducible refine run_seq ?_ | with_reducible refine run_reg ?_ | with_reducible refine run_block ?_ | with_reducible refine run_blk ?_ | with_reducible refine run_skip ?_ | with_reducible refine run_exit rfl ?_ | with_reducible refine run_drw ?_ | with_reducible refine run_condT ?_ | with_reducible refine run_ret' ?_ | with_reducible refine run_end' ?_ | simp only [go_sem, ↓reduceIte, Nat.reduceAdd, Nat.reduceEqDiff, Nat.reduceBEq, reduceCtorEq, Int.reduceBEq, Int.reduceBNe, Int.reduceLT, Int.reduceLE, hi]))
      refine callT1 (get_tab h4 hlt) fun w3 ho3 => ?_
      (repeat (first | with_reducible refine run_seq ?_ | with_reducible refine run_reg ?_ | with_reducible refine run_block ?_ | with_reducible refine run_blk ?_ | with_reducible refine run_skip ?_ | with_reducible refine run_exit rfl ?_ | with_reducible refine run_drw ?_ | with_reducible refine run_condT ?_ | with_reducible refine run_ret' ?_ | with_reducible refine run_end' ?_ | simp only [go_sem, ↓reduceIte, Nat.reduceAdd, Nat.reduceEqDiff, Nat.reduceBEq, reduceCtorEq, Int.reduceBEq, Int.reduceBNe, Int.reduceLT, Int.reduceLE]))
      refine condT (fun hne => ?_) (fun he => ?_)
      · have hne : ¬ ((l.getD i 0 : Nat) : Int) = v := by simpa using hne
        (repeat (first | with_reducible refine run_seq ?_ | with_reducible refine run_reg ?_ | with_reducible refine run_block ?_ | with_reducible refine run_blk ?_ | with_reducible refine run_skip ?_ | with_reducible refine run_exit rfl ?_ | with_reducible refine run_drw ?_ | with_reducible refine run_condT ?_ | with_reducible refine run_ret' ?_ | with_reducible refine run_end' ?_ | simp only [go_sem, ↓reduceIte, Nat.reduceAdd, Nat.reduceEqDiff, Nat.reduceBEq, reduceCtorEq, Int.reduceBEq, Int.reduceBNe, Int.reduceLT, Int.reduceLE, hi, i64_succ i (by omega)]))
        have hr : runsN (MT.is (some (wd, l)) v) (i + 1) = runsN (MT.is (some (wd, l)) v) i := by simp only [runsN, hip, decide_eq_false hne]; rfl
        refine hnext _ _ ?_ ⟨i + 1, s, ?_, ?_, hlt, by rw [hr]; exact hsl.keep0 ho3, ho.same ho3⟩ ?_
        · (repeat (first | with_reducible exact Keeps.refl _ _ | with_reducible exact Keeps.ovr _ _ _ | refine Keeps.put ?_ rfl _ | exact Keeps.refl _ _ | exact Keeps.ovr _ _ _ | refine Keeps.ovr2 ?_ rfl _))
        · simp only [go_sem, ↓reduceIte, Nat.reduceAdd, Nat.reduceEqDiff, Nat.reduceBEq, reduceCtorEq, Int.reduceBEq, Int.reduceBNe, Int.reduceLT, Int.reduceLE]
        · simp only [go_sem, ↓reduceIte, Nat.reduceAdd, Nat.reduceEqDiff, Nat.reduceBEq, reduceCtorEq, Int.reduceBEq, Int.reduceBNe, Int.reduceLT, Int.reduceLE, h5]
        · rw [upTo_int hi, upTo_int (k := .i64) (i := i + 1) (by simp only [go_sem, ↓reduceIte, Nat.reduceAdd, Nat.reduceEqDiff, Nat.reduceBEq, reduceCtorEq, Int.reduceBEq, Int.reduceBNe, Int.reduceLT, Int.reduceLE])]; omega
      · have he : ((l.getD i 0 : Nat) : Int) = v := by simpa using he
        have hpi : MT.is (some (wd, l)) v i = true := by rw [hip]; exact decide_eq_true he
        by_cases h0 : (0 : Int) < (i : Int)
        · have hsub : IntKind.i64.wrap ((i : Int) - 1) = ((i - 1 : Nat) : Int) := by rw [IntWalk.i64_in _ (by omega)]; omega
          have h6 := h4.keep ho3 (by simp) (by simp)
          (repeat (first | with_reducible refine run_seq ?_ | with_reducible refine run_reg ?_ | with_reducible refine run_block ?_ | with_reducible refine run_blk ?_ | with_reducible refine run_skip ?_ | with_reducible refine run_exit rfl ?_ | with_reducible refine run_drw ?_ | with_reducible refine run_condT ?_ | with_reducible refine run_ret' ?_ | with_reducible refine run_end' ?_ | simp only [go_sem, ↓reduceIte, Nat.reduceAdd, Nat.reduceEqDiff, Nat.reduceBEq, reduceCtorEq, Int.reduceBEq, Int.reduceBNe, Int.reduceLT, Int.reduceLE, hi, decide_eq_true h0, hsub]))
          refine callT1 (get_tab h6 (show i - 1 < l.length by omega)) fun w4 ho4 => ?_
          (repeat (first | with_reducible refine run_seq ?_ | with_reducible refine run_reg ?_ | with_reducible refine run_block ?_ | with_reducible refine run_blk ?_ | with_reducible refine run_skip ?_ | with_reducible refine run_exit rfl ?_ | with_reducible refine run_drw ?_ | with_reducible refine run_condT ?_ | with_reducible refine run_ret' ?_ | with_reducible refine run_end' ?_ | simp only [go_sem, ↓reduceIte, Nat.reduceAdd, Nat.reduceEqDiff, Nat.reduceBEq, reduceCtorEq, Int.reduceBEq, Int.reduceBNe, Int.reduceLT, Int.reduceLE]))
          refine condT (fun he2 => ?_) (fun hne2 => ?_)
          · have he2 : ((l.getD (i - 1) 0 : Nat) : Int) = v := by simpa using he2
            have hpp : MT.is (some (wd, l)) v (i - 1) = true := by rw [hip]; exact decide_eq_true he2
            have hpos := runsN_pos (MT.is (some (wd, l)) v) i (by omega) hpp
            have hlen := runsN_len (MT.is (some (wd, l)) v) i
            have hr : runsN (MT.is (some (wd, l)) v) (i + 1) = bump (runsN (MT.is (some (wd, l)) v) i) := by
              simp only [runsN, hpi, if_true]; rw [if_pos ⟨by omega, hpp⟩]
            have hb := bump_len (runsN (MT.is (some (wd, l)) v) i)
            have hcnt := sizes_runsN (MT.is (some (wd, l)) v) i
            have hcl := cntN_le (MT.is (some (wd, l)) v) i
            generalize hrs : runsN (MT.is (some (wd, l)) v) i = rs at *
            rcases hsl.cases with ⟨_, rfl⟩ | ⟨q, cap, ys, rfl, hat, hq, hc1, hc2⟩
            · simp at hpos
            have hat := (hat.keep0 ho3).keep0 ho4
            have e1 : IntKind.i64.wrap ((rs.length : Int) - 1) = ((rs.length - 1 : Nat) : Int) := by rw [IntWalk.i64_in _ (by omega)]; omega
            have c1 : (0 : Int) ≤ ((rs.length - 1 : Nat) : Int) ∧ ((rs.length - 1 : Nat) : Int) < (rs.length : Int) := ⟨by omega, by omega⟩
            obtain ⟨g1, g2⟩ := runCells_get rs ys (rs.length - 1) (by omega)
            have hsz : (rs.getD (rs.length - 1) (0, 0)).2 ≤ 4096 := by have := le_sizes rs (rs.length - 1); omega
            (repeat (first | with_reducible refine run_seq ?_ | with_reducible refine run_reg ?_ | with_reducible refine run_block ?_ | with_reducible refine run_blk ?_ | with_reducible refine run_skip ?_ | with_reducible refine run_exit rfl ?_ | with_reducible refine run_drw ?_ | with_reducible refine run_condT ?_ | with_reducible refine run_ret' ?_ | with_reducible refine run_end' ?_ | simp only [go_sem, ↓reduceIte, Nat.reduceAdd, Nat.reduceEqDiff, Nat.reduceBEq, reduceCtorEq, Int.reduceBEq, Int.reduceBNe, Int.reduceLT, Int.reduceLE, h5, e1, if_pos c1, Int.toNat_natCast, hat.cell, g2, i64_succ _ (show (rs.getD (rs.length - 1) (0, 0)).2 ≤ 4611686018427387903 by omega)]))
            refine stT hat (by rw [hc1]; omega) rfl fun w5 hs5 ha5 ho5 => ?_
            rw [runCells_set rs ys _ _ (by omega)] at ha5
            have ho5' : Only [] w w5 := ((ho.same ho3).same ho4).same5 ho5 (by simp; omega)
            (repeat (first | with_reducible refine run_seq ?_ | with_reducible refine run_reg ?_ | with_reducible refine run_block ?_ | with_reducible refine run_blk ?_ | with_reducible refine run_skip ?_ | with_reducible refine run_exit rfl ?_ | with_reducible refine run_drw ?_ | with_reducible refine run_condT ?_ | with_reducible refine run_ret' ?_ | with_reducible refine run_end' ?_ | simp only [go_sem, ↓reduceIte, Nat.reduceAdd, Nat.reduceEqDiff, Nat.reduceBEq, reduceCtorEq, Int.reduceBEq, Int.reduceBNe, Int.reduceLT, Int.reduceLE, hi, i64_succ i (by omega)]))
            refine hnext _ _ ?_ ⟨i + 1, .slice (some ⟨q, 0, none⟩) rs.length cap, ?_, ?_, hlt, ?_, ho5'⟩ ?_
            · (repeat (first | with_reducible exact Keeps.refl _ _ | with_reducible exact Keeps.ovr _ _ _ | refine Keeps.put ?_ rfl _ | exact Keeps.refl _ _ | exact Keeps.ovr _ _ _ | refine Keeps.ovr2 ?_ rfl _))
            · simp only [go_sem, ↓reduceIte, Nat.reduceAdd, Nat.reduceEqDiff, Nat.reduceBEq, reduceCtorEq, Int.reduceBEq, Int.reduceBNe, Int.reduceLT, Int.reduceLE]
            · simp only [go_sem, ↓reduceIte, Nat.reduceAdd, Nat.reduceEqDiff, Nat.reduceBEq, reduceCtorEq, Int.reduceBEq, Int.reduceBNe, Int.reduceLT, Int.reduceLE, h5]
            · have := RS.at (rs := bump rs) (cap := cap) ha5 hq (by rw [List.length_append, runCells_len, bump_len, ← runCells_len, ← List.length_append]; exact hc1) (by rw [bump_len]; exact hc2)
              rw [hr, ← hb]; exact this
            · rw [upTo_int hi, upTo_int (k := .i64) (i := i + 1) (by simp only [go_sem, ↓reduceIte, Nat.reduceAdd, Nat.reduceEqDiff, Nat.reduceBEq, reduceCtorEq, Int.reduceBEq, Int.reduceBNe, Int.reduceLT, Int.reduceLE])]; omega
          · have hne2 : ¬ ((l.getD (i - 1) 0 : Nat) : Int) = v := by simpa using hne2
            have hlen := runsN_len (MT.is (some (wd, l)) v) i
            have hr : runsN (MT.is (some (wd, l)) v) (i + 1) = runsN (MT.is (some (wd, l)) v) i ++ [(i, 1)] := by
              simp only [runsN, hpi, if_true]; rw [if_neg (fun h => by rw [hip] at h; exact hne2 (of_decide_eq_true h.2))]
            (repeat (first | with_reducible refine run_seq ?_ | with_reducible refine run_reg ?_ | with_reducible refine run_block ?_ | with_reducible refine run_blk ?_ | with_reducible refine run_skip ?_ | with_reducible refine run_exit rfl ?_ | with_reducible refine run_drw ?_ | with_reducible refine run_condT ?_ | with_reducible refine run_ret' ?_ | with_reducible refine run_end' ?_ | simp only [go_sem, ↓reduceIte, Nat.reduceAdd, Nat.reduceEqDiff, Nat.reduceBEq, reduceCtorEq, Int.reduceBEq, Int.reduceBNe, Int.reduceLT, Int.reduceLE, h5, hi]))
            rw [fillL_one rfl rfl, fillL_one rfl rfl]
            (repeat (first | with_reducible refine run_seq ?_ | with_reducible refine run_reg ?_ | with_reducible refine run_block ?_ | with_reducible refine run_blk ?_ | with_reducible refine run_skip ?_ | with_reducible refine run_exit rfl ?_ | with_reducible refine run_drw ?_ | with_reducible refine run_condT ?_ | with_reducible refine run_ret' ?_ | with_reducible refine run_end' ?_ | simp only [go_sem, ↓reduceIte, Nat.reduceAdd, Nat.reduceEqDiff, Nat.reduceBEq, reduceCtorEq, Int.reduceBEq, Int.reduceBNe, Int.reduceLT, Int.reduceLE, h5, fillL_two]))
            refine bslT fun q w5 hq hs5 hat5 ho5 => ?_
            (repeat (first | with_reducible refine run_seq ?_ | with_reducible refine run_reg ?_ | with_reducible refine run_block ?_ | with_reducible refine run_blk ?_ | with_reducible refine run_skip ?_ | with_reducible refine run_exit rfl ?_ | with_reducible refine run_drw ?_ | with_reducible refine run_condT ?_ | with_reducible refine run_ret' ?_ | with_reducible refine run_end' ?_ | simp only [go_sem, ↓reduceIte, Nat.reduceAdd, Nat.reduceEqDiff, Nat.reduceBEq, reduceCtorEq, Int.reduceBEq, Int.reduceBNe, Int.reduceLT, Int.reduceLE, h5]))
            have ho6 := ((ho.same ho3).same ho4).same ho5
            have hsl6 := (hsl.keep0 ho3).keep0 ho4
            refine app_run (wb := w) (i := i) (rs := runsN (MT.is (some (wd, l)) v) i) (hsl6.keep0 ho5) ho6 hat5 (by omega) (by omega) fun v' w6 hs6 hno6 => ?_
            (repeat (first | with_reducible refine run_seq ?_ | with_reducible refine run_reg ?_ | with_reducible refine run_block ?_ | with_reducible refine run_blk ?_ | with_reducible refine run_skip ?_ | with_reducible refine run_exit rfl ?_ | with_reducible refine run_drw ?_ | with_reducible refine run_condT ?_ | with_reducible refine run_ret' ?_ | with_reducible refine run_end' ?_ | simp only [go_sem, ↓reduceIte, Nat.reduceAdd, Nat.reduceEqDiff, Nat.reduceBEq, reduceCtorEq, Int.reduceBEq, Int.reduceBNe, Int.reduceLT, Int.reduceLE, hi, i64_succ i (by omega)]))
            refine hnext _ _ ?_ ⟨i + 1, v', ?_, ?_, hlt, by rw [hr]; exact hs6, hno6⟩ ?_
            · (repeat (first | with_reducible exact Keeps.refl _ _ | with_reducible exact Keeps.ovr _ _ _ | refine Keeps.put ?_ rfl _ | exact Keeps.refl _ _ | exact Keeps.ovr _ _ _ | refine Keeps.ovr2 ?_ rfl _))
            · simp only [go_sem, ↓reduceIte, Nat.reduceAdd, Nat.reduceEqDiff, Nat.reduceBEq, reduceCtorEq, Int.reduceBEq, Int.reduceBNe, Int.reduceLT, Int.reduceLE]
            · simp only [go_sem, ↓reduceIte, Nat.reduceAdd, Nat.reduceEqDiff, Nat.reduceBEq, reduceCtorEq, Int.reduceBEq, Int.reduceBNe, Int.reduceLT, Int.reduceLE]
            · rw [upTo_int hi, upTo_int (k := .i64) (i := i + 1) (by simp only [go_sem, ↓reduceIte, Nat.reduceAdd, Nat.reduceEqDiff, Nat.reduceBEq, reduceCtorEq, Int.reduceBEq, Int.reduceBNe, Int.reduceLT, Int.reduceLE])]; omega
        · have hlen := runsN_len (MT.is (some (wd, l)) v) i
          have hr : runsN (MT.is (some (wd, l)) v) (i + 1) = runsN (MT.is (some (wd, l)) v) i ++ [(i, 1)] := by
              simp only [runsN, hpi, if_true]; rw [if_neg (fun h => by omega)]
          (repeat (first | with_reducible refine run_seq ?_ | with_reducible refine run_reg ?_ | with_reducible refine run_block ?_ | with_reducible refine run_blk ?_ | with_reducible refine run_skip ?_ | with_reducible refine run_exit rfl ?_ | with_reducible refine run_drw ?_ | with_reducible refine run_condT ?_ | with_reducible refine run_ret' ?_ | with_reducible refine run_end' ?_ | simp only [go_sem, ↓reduceIte, Nat.reduceAdd, Nat.reduceEqDiff, Nat.reduceBEq, reduceCtorEq, Int.reduceBEq, Int.reduceBNe, Int.reduceLT, Int.reduceLE, h5, hi, decide_eq_false h0]))
          rw [fillL_one rfl rfl, fillL_one rfl rfl]
          (repeat (first | with_reducible refine run_seq ?_ | with_reducible refine run_reg ?_ | with_reducible refine run_block ?_ | with_reducible refine run_blk ?_ | with_reducible refine run_skip ?_ | with_reducible refine run_exit rfl ?_ | with_reducible refine run_drw ?_ | with_reducible refine run_condT ?_ | with_reducible refine run_ret' ?_ | with_reducible refine run_end' ?_ | simp only [go_sem, ↓reduceIte, Nat.reduceAdd, Nat.reduceEqDiff, Nat.reduceBEq, reduceCtorEq, Int.reduceBEq, Int.reduceBNe, Int.reduceLT, Int.reduceLE, h5, fillL_two]))
          refine bslT fun q w5 hq hs5 hat5 ho5 => ?_
          (repeat (first | with_reducible refine run_seq ?_ | with_reducible refine run_reg ?_ | with_reducible refine run_block ?_ | with_reducible refine run_blk ?_ | with_reducible refine run_skip ?_ | with_reducible refine run_exit rfl ?_ | with_reducible refine run_drw ?_ | with_reducible refine run_condT ?_ | with_reducible refine run_ret' ?_ | with_reducible refine run_end' ?_ | simp only [go_sem, ↓reduceIte, Nat.reduceAdd, Nat.reduceEqDiff, Nat.reduceBEq, reduceCtorEq, Int.reduceBEq, Int.reduceBNe, Int.reduceLT, Int.reduceLE, h5]))
          have ho6 := (ho.same ho3).same ho5
          have hsl6 := hsl.keep0 ho3
          refine app_run (wb := w) (i := i) (rs := runsN (MT.is (some (wd, l)) v) i) (hsl6.keep0 ho5) ho6 hat5 (by omega) (by omega) fun v' w6 hs6 hno6 => ?_
          (repeat (first | with_reducible refine run_seq ?_ | with_reducible refine run_reg ?_ | with_reducible refine run_block ?_ | with_reducible refine run_blk ?_ | with_reducible refine run_skip ?_ | with_reducible refine run_exit rfl ?_ | with_reducible refine run_drw ?_ | with_reducible refine run_condT ?_ | with_reducible refine run_ret' ?_ | with_reducible refine run_end' ?_ | simp only [go_sem, ↓reduceIte, Nat.reduceAdd, Nat.reduceEqDiff, Nat.reduceBEq, reduceCtorEq, Int.reduceBEq, Int.reduceBNe, Int.reduceLT, Int.reduceLE, hi, i64_succ i (by omega)]))
          refine hnext _ _ ?_ ⟨i + 1, v', ?_, ?_, hlt, by rw [hr]; exact hs6, hno6⟩ ?_
          · (repeat (first | with_reducible exact Keeps.refl _ _ | with_reducible exact Keeps.ovr _ _ _ | refine Keeps.put ?_ rfl _ | exact Keeps.refl _ _ | exact Keeps.ovr _ _ _ | refine Keeps.ovr2 ?_ rfl _))
          · simp only [go_sem, ↓reduceIte, Nat.reduceAdd, Nat.reduceEqDiff, Nat.reduceBEq, reduceCtorEq, Int.reduceBEq, Int.reduceBNe, Int.reduceLT, Int.reduceLE]
          · simp only [go_sem, ↓reduceIte, Nat.reduceAdd, Nat.reduceEqDiff, Nat.reduceBEq, reduceCtorEq, Int.reduceBEq, Int.reduceBNe, Int.reduceLT, Int.reduceLE]
          · rw [upTo_int hi, upTo_int (k := .i64) (i := i + 1) (by simp only [go_sem, ↓reduceIte, Nat.reduceAdd, Nat.reduceEqDiff, Nat.reduceBEq, reduceCtorEq, Int.reduceBEq, Int.reduceBNe, Int.reduceLT, Int.reduceLE])]; omega
  · have hge : ¬ i < m.entries := by simpa using hge
    have : i = m.entries := by omega
    subst this
    (repeat (first | with_reducible refine run_seq ?_ | with_reducible refine run_reg ?_ | with_reducible refine run_block ?_ | with_reducible refine run_blk ?_ | with_reducible refine run_skip ?_ | with_reducible refine run_exit rfl ?_ | with_reducible refine run_drw ?_ | with_reducible refine run_condT ?_ | with_reducible refine run_ret' ?_ | with_reducible refine run_end' ?_ | simp only [go_sem, ↓reduceIte, Nat.reduceAdd, Nat.reduceEqDiff, Nat.reduceBEq, reduceCtorEq, Int.reduceBEq, Int.reduceBNe, Int.reduceLT, Int.reduceLE, h5]))
    exact ⟨hsl, ho⟩
end Go.Proofs.Ythalhkhjacjhgaa
