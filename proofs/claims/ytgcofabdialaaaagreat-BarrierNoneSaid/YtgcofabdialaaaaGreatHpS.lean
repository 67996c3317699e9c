/- Side tables for heaps: Next, Last, New. -/
import Derived.Test.YtgcofabdialaaaaGreatSideD
namespace Go.Proofs.YtgcofabdialaaaaGreat
set_option linter.unusedSimpArgs false
set_option linter.unusedVariables false
set_option maxRecDepth 8000

theorem STab.head {w : World} {b g n wd : Nat} {l : List Nat} (h : STab w b g n wd l) : ∃ k cap, At w b [.int .i64 n, .int .i64 wd, .slice (some ⟨g, 0, none⟩) k cap] := by
  obtain ⟨ws, cap, rest, h1, h2, h3, h4⟩ := h.mem
  exact ⟨_, _, h2⟩
theorem Next_m {w : World} {a : Option Addr} {S : List Nat} {m : MT} (h : Tab w a S m) (i v : Int) : Cs Tryz.prog 199 [.pointer a, .int .i64 i, .int .i64 v] w fun r w' => r = .tuple #[.int .i64 (optR (m.nextO i v)), .int .i64 (m.err (m.nextO i v))] ∧ Only [] w w' := by
  refine enter_side_Table_Next rfl ?_
  unfold x_side_Table_Next
  (repeat (first | with_reducible refine run_seq ?_ | with_reducible refine run_reg ?_ | with_reducible refine run_block ?_ | with_reducible refine run_blk ?_ | with_reducible refine run_skip ?_ | with_reducible refine run_exit rfl ?_ | with_reducible refine run_drw ?_ | with_reducible refine run_condT ?_ | with_reducible refine run_ret' ?_ | with_reducible refine run_end' ?_ | simp only [go_sem, ↓reduceIte, Nat.reduceAdd, Nat.reduceEqDiff, Nat.reduceBEq, reduceCtorEq, Int.reduceBEq, Int.reduceBNe, Int.reduceLT, Int.reduceLE]))
  refine callT0 (made_m h) ?_
  match m, h with
  | none, h =>
    (repeat (first | with_reducible refine run_seq ?_ | with_reducible refine run_reg ?_ | with_reducible refine run_block ?_ | with_reducible refine run_blk ?_ | with_reducible refine run_skip ?_ | with_reducible refine run_exit rfl ?_ | with_reducible refine run_drw ?_ | with_reducible refine run_condT ?_ | with_reducible refine run_ret' ?_ | with_reducible refine run_end' ?_ | simp only [go_sem, ↓reduceIte, Nat.reduceAdd, Nat.reduceEqDiff, Nat.reduceBEq, reduceCtorEq, Int.reduceBEq, Int.reduceBNe, Int.reduceLT, Int.reduceLE, Option.isSome_none]))
    exact ⟨rfl, Only.refl _ _⟩
  | some (wd, l), ⟨b, g, h1, h2, h3⟩ =>
    subst h1 h2
    have hn2 := h3.n2
    (repeat (first | with_reducible refine run_seq ?_ | with_reducible refine run_reg ?_ | with_reducible refine run_block ?_ | with_reducible refine run_blk ?_ | with_reducible refine run_skip ?_ | with_reducible refine run_exit rfl ?_ | with_reducible refine run_drw ?_ | with_reducible refine run_condT ?_ | with_reducible refine run_ret' ?_ | with_reducible refine run_end' ?_ | simp only [go_sem, ↓reduceIte, Nat.reduceAdd, Nat.reduceEqDiff, Nat.reduceBEq, reduceCtorEq, Int.reduceBEq, Int.reduceBNe, Int.reduceLT, Int.reduceLE, Option.isSome_some]))
    refine run_loop [8, 14, 15, 16, 17, 18, 19, 20, 21, 22, 23, 24, 25, 26] (fun g' w' => ∃ j : Nat, g' 8 = .int .i64 j ∧ i ≤ j ∧ (∀ q : Nat, q < j → q < l.length → i ≤ q → ¬ ((l.getD q 0 : Nat) : Int) = v) ∧ Only [] w w') (fun g' _ => upTo l.length 8 g') ⟨(max i 0).toNat, by simp only [go_sem, ↓reduceIte, Nat.reduceAdd, Nat.reduceEqDiff, Nat.reduceBEq, reduceCtorEq, Int.reduceBEq, Int.reduceBNe, Int.reduceLT, Int.reduceLE]; congr; omega, by omega, fun q h1 h2 h3 => absurd h3 (by omega), Only.refl _ _⟩ fun g' w' hI hnext => ?_
    obtain ⟨j, hj, hij, hno, ho⟩ := hI
    have h4 := h3.keep ho (by simp) (by simp)
    obtain ⟨kk, cap, hb⟩ := h4.head
    (repeat (first | with_reducible refine run_seq ?_ | with_reducible refine run_reg ?_ | with_reducible refine run_block ?_ | with_reducible refine run_blk ?_ | with_reducible refine run_skip ?_ | with_reducible refine run_exit rfl ?_ | with_reducible refine run_drw ?_ | with_reducible refine run_condT ?_ | with_reducible refine run_ret' ?_ | with_reducible refine run_end' ?_ | simp only [go_sem, ↓reduceIte, Nat.reduceAdd, Nat.reduceEqDiff, Nat.reduceBEq, reduceCtorEq, Int.reduceBEq, Int.reduceBNe, Int.reduceLT, Int.reduceLE, hj, hb.cell]))
    refine condT (fun hlt => ?_) (fun hge => ?_)
    · have hlt : j < l.length := by simpa using hlt
      (repeat (first | with_reducible refine run_seq ?_ | with_reducible refine run_reg ?_ | with_reducible refine run_block ?_ | with_reducible refine run_blk ?_ | with_reducible refine run_skip ?_ | with_reducible refine run_exit rfl ?_ | with_reducible refine run_drw ?_ | with_reducible refine run_condT ?_ | with_reducible refine run_ret' ?_ | with_reducible refine run_end' ?_ | simp only [go_sem, ↓reduceIte, Nat.reduceAdd, Nat.reduceEqDiff, Nat.reduceBEq, reduceCtorEq, Int.reduceBEq, Int.reduceBNe, Int.reduceLT, Int.reduceLE, hj]))
      refine callT1 (get_tab h4 hlt) fun w3 ho3 => ?_
      (repeat (first | with_reducible refine run_seq ?_ | with_reducible refine run_reg ?_ | with_reducible refine run_block ?_ | with_reducible refine run_blk ?_ | with_reducible refine run_skip ?_ | with_reducible refine run_exit rfl ?_ | with_reducible refine run_drw ?_ | with_reducible refine run_condT ?_ | with_reducible refine run_ret' ?_ | with_reducible refine run_end' ?_ | simp only [go_sem, ↓reduceIte, Nat.reduceAdd, Nat.reduceEqDiff, Nat.reduceBEq, reduceCtorEq, Int.reduceBEq, Int.reduceBNe, Int.reduceLT, Int.reduceLE]))
      refine condT (fun he => ?_) (fun hne => ?_)
      · have he : ((l.getD j 0 : Nat) : Int) = v := by simpa using he
        have hO : MT.nextO (some (wd, l)) i v = some j := firstI_some (by simp [hij, ← he]) hlt fun q hq => by
          by_cases hiq : i ≤ (q : Int)
          · have := hno q hq (by omega) hiq
            simp only [decide_eq_false this, Bool.and_false]
          · simp [hiq]
        (repeat (first | with_reducible refine run_seq ?_ | with_reducible refine run_reg ?_ | with_reducible refine run_block ?_ | with_reducible refine run_blk ?_ | with_reducible refine run_skip ?_ | with_reducible refine run_exit rfl ?_ | with_reducible refine run_drw ?_ | with_reducible refine run_condT ?_ | with_reducible refine run_ret' ?_ | with_reducible refine run_end' ?_ | simp only [go_sem, ↓reduceIte, Nat.reduceAdd, Nat.reduceEqDiff, Nat.reduceBEq, reduceCtorEq, Int.reduceBEq, Int.reduceBNe, Int.reduceLT, Int.reduceLE, hj]))
        rw [hO]
        exact ⟨rfl, ho.same ho3⟩
      · have hne : ¬ ((l.getD j 0 : Nat) : Int) = v := by simpa using hne
        (repeat (first | with_reducible refine run_seq ?_ | with_reducible refine run_reg ?_ | with_reducible refine run_block ?_ | with_reducible refine run_blk ?_ | with_reducible refine run_skip ?_ | with_reducible refine run_exit rfl ?_ | with_reducible refine run_drw ?_ | with_reducible refine run_condT ?_ | with_reducible refine run_ret' ?_ | with_reducible refine run_end' ?_ | simp only [go_sem, ↓reduceIte, Nat.reduceAdd, Nat.reduceEqDiff, Nat.reduceBEq, reduceCtorEq, Int.reduceBEq, Int.reduceBNe, Int.reduceLT, Int.reduceLE, hj, i64_succ j (by omega)]))
        refine hnext _ w3 ?_ ⟨j + 1, ?_, by omega, fun q h1 h2 h3 => ?_, ho.same ho3⟩ ?_
        · (repeat (first | with_reducible exact Keeps.refl _ _ | with_reducible exact Keeps.ovr _ _ _ | refine Keeps.put ?_ rfl _ | exact Keeps.refl _ _ | exact Keeps.ovr _ _ _ | refine Keeps.ovr2 ?_ rfl _))
        · simp only [go_sem, ↓reduceIte, Nat.reduceAdd, Nat.reduceEqDiff, Nat.reduceBEq, reduceCtorEq, Int.reduceBEq, Int.reduceBNe, Int.reduceLT, Int.reduceLE]
        · rcases Nat.lt_or_ge q j with h | h
          · exact hno q h h2 h3
          · have : q = j := by omega
            subst this; exact hne
        · rw [upTo_int hj, upTo_int (k := .i64) (i := j + 1) (by simp only [go_sem, ↓reduceIte, Nat.reduceAdd, Nat.reduceEqDiff, Nat.reduceBEq, reduceCtorEq, Int.reduceBEq, Int.reduceBNe, Int.reduceLT, Int.reduceLE])]; omega
    · have hge : ¬ j < l.length := by simpa using hge
      have hO : MT.nextO (some (wd, l)) i v = none := firstI_none fun q hq => by
        by_cases hiq : i ≤ (q : Int)
        · have := hno q (by omega) hq hiq
          simp only [decide_eq_false this, Bool.and_false]
        · simp [hiq]
      (repeat (first | with_reducible refine run_seq ?_ | with_reducible refine run_reg ?_ | with_reducible refine run_block ?_ | with_reducible refine run_blk ?_ | with_reducible refine run_skip ?_ | with_reducible refine run_exit rfl ?_ | with_reducible refine run_drw ?_ | with_reducible refine run_condT ?_ | with_reducible refine run_ret' ?_ | with_reducible refine run_end' ?_ | simp only [go_sem, ↓reduceIte, Nat.reduceAdd, Nat.reduceEqDiff, Nat.reduceBEq, reduceCtorEq, Int.reduceBEq, Int.reduceBNe, Int.reduceLT, Int.reduceLE]))
      rw [hO]
      exact ⟨rfl, ho⟩

/-- how far slot t is above -1 -/
def downTo (t : Nat) (g : Env) : Nat := match g t with | .int _ i => (i + 1).toNat | _ => 0
theorem downTo_int {t : Nat} {g : Env} {k : IntKind} {i : Int} (h : g t = .int k i) : downTo t g = (i + 1).toNat := by unfold downTo; rw [h]

theorem Last_m {w : World} {a : Option Addr} {S : List Nat} {m : MT} (h : Tab w a S m) (i v : Int) : Cs Tryz.prog 226 [.pointer a, .int .i64 i, .int .i64 v] w fun r w' => r = .tuple #[.int .i64 (optR (m.lastO i v)), .int .i64 (m.err (m.lastO i v))] ∧ Only [] w w' := by
  refine enter_side_Table_Last rfl ?_
  unfold x_side_Table_Last
  (repeat (first | with_reducible refine run_seq ?_ | with_reducible refine run_reg ?_ | with_reducible refine run_block ?_ | with_reducible refine run_blk ?_ | with_reducible refine run_skip ?_ | with_reducible refine run_exit rfl ?_ | with_reducible refine run_drw ?_ | with_reducible refine run_condT ?_ | with_reducible refine run_ret' ?_ | with_reducible refine run_end' ?_ | simp only [go_sem, ↓reduceIte, Nat.reduceAdd, Nat.reduceEqDiff, Nat.reduceBEq, reduceCtorEq, Int.reduceBEq, Int.reduceBNe, Int.reduceLT, Int.reduceLE]))
  refine callT0 (made_m h) ?_
  match m, h with
  | none, h =>
    (repeat (first | with_reducible refine run_seq ?_ | with_reducible refine run_reg ?_ | with_reducible refine run_block ?_ | with_reducible refine run_blk ?_ | with_reducible refine run_skip ?_ | with_reducible refine run_exit rfl ?_ | with_reducible refine run_drw ?_ | with_reducible refine run_condT ?_ | with_reducible refine run_ret' ?_ | with_reducible refine run_end' ?_ | simp only [go_sem, ↓reduceIte, Nat.reduceAdd, Nat.reduceEqDiff, Nat.reduceBEq, reduceCtorEq, Int.reduceBEq, Int.reduceBNe, Int.reduceLT, Int.reduceLE, Option.isSome_none]))
    exact ⟨rfl, Only.refl _ _⟩
  | some (wd, l), ⟨b, g, h1, h2, h3⟩ =>
    subst h1 h2
    have hn2 := h3.n2
    obtain ⟨kk, cap, hb⟩ := h3.head
    have hsub : IntKind.i64.wrap (min (max i 0) (l.length : Int) - 1) = min (max i 0) (l.length : Int) - 1 := IntWalk.i64_in _ (by omega)
    (repeat (first | with_reducible refine run_seq ?_ | with_reducible refine run_reg ?_ | with_reducible refine run_block ?_ | with_reducible refine run_blk ?_ | with_reducible refine run_skip ?_ | with_reducible refine run_exit rfl ?_ | with_reducible refine run_drw ?_ | with_reducible refine run_condT ?_ | with_reducible refine run_ret' ?_ | with_reducible refine run_end' ?_ | simp only [go_sem, ↓reduceIte, Nat.reduceAdd, Nat.reduceEqDiff, Nat.reduceBEq, reduceCtorEq, Int.reduceBEq, Int.reduceBNe, Int.reduceLT, Int.reduceLE, Option.isSome_some, hb.cell, hsub]))
    refine run_loop [8, 20, 21, 22, 23, 24, 25, 26, 27, 28] (fun g' w' => ∃ j : Int, g' 8 = .int .i64 j ∧ (j < i ∨ j < 0) ∧ j < l.length ∧ -1 ≤ j ∧ (∀ q : Nat, j < q → q < l.length → (q : Int) < i → ¬ ((l.getD q 0 : Nat) : Int) = v) ∧ Only [] w w') (fun g' _ => downTo 8 g') ⟨_, by simp only [go_sem, ↓reduceIte, Nat.reduceAdd, Nat.reduceEqDiff, Nat.reduceBEq, reduceCtorEq, Int.reduceBEq, Int.reduceBNe, Int.reduceLT, Int.reduceLE]; rfl, by omega, by omega, by omega, fun q h1 h2 h3 => absurd h3 (by omega), Only.refl _ _⟩ fun g' w' hI hnext => ?_
    obtain ⟨j, hj, hij, hjl, hj1, hno, ho⟩ := hI
    have h4 := h3.keep ho (by simp) (by simp)
    (repeat (first | with_reducible refine run_seq ?_ | with_reducible refine run_reg ?_ | with_reducible refine run_block ?_ | with_reducible refine run_blk ?_ | with_reducible refine run_skip ?_ | with_reducible refine run_exit rfl ?_ | with_reducible refine run_drw ?_ | with_reducible refine run_condT ?_ | with_reducible refine run_ret' ?_ | with_reducible refine run_end' ?_ | simp only [go_sem, ↓reduceIte, Nat.reduceAdd, Nat.reduceEqDiff, Nat.reduceBEq, reduceCtorEq, Int.reduceBEq, Int.reduceBNe, Int.reduceLT, Int.reduceLE, hj]))
    refine condT (fun hlt => ?_) (fun hge => ?_)
    · have hlt : 0 ≤ j := by simpa using hlt
      obtain ⟨k, rfl⟩ : ∃ k : Nat, j = k := ⟨j.toNat, by omega⟩
      (repeat (first | with_reducible refine run_seq ?_ | with_reducible refine run_reg ?_ | with_reducible refine run_block ?_ | with_reducible refine run_blk ?_ | with_reducible refine run_skip ?_ | with_reducible refine run_exit rfl ?_ | with_reducible refine run_drw ?_ | with_reducible refine run_condT ?_ | with_reducible refine run_ret' ?_ | with_reducible refine run_end' ?_ | simp only [go_sem, ↓reduceIte, Nat.reduceAdd, Nat.reduceEqDiff, Nat.reduceBEq, reduceCtorEq, Int.reduceBEq, Int.reduceBNe, Int.reduceLT, Int.reduceLE, hj]))
      refine callT1 (get_tab h4 (by omega)) fun w3 ho3 => ?_
      (repeat (first | with_reducible refine run_seq ?_ | with_reducible refine run_reg ?_ | with_reducible refine run_block ?_ | with_reducible refine run_blk ?_ | with_reducible refine run_skip ?_ | with_reducible refine run_exit rfl ?_ | with_reducible refine run_drw ?_ | with_reducible refine run_condT ?_ | with_reducible refine run_ret' ?_ | with_reducible refine run_end' ?_ | simp only [go_sem, ↓reduceIte, Nat.reduceAdd, Nat.reduceEqDiff, Nat.reduceBEq, reduceCtorEq, Int.reduceBEq, Int.reduceBNe, Int.reduceLT, Int.reduceLE]))
      refine condT (fun he => ?_) (fun hne => ?_)
      · have he : ((l.getD k 0 : Nat) : Int) = v := by simpa using he
        have hO : MT.lastO (some (wd, l)) i v = some k := lastI_some (by simp [← he]; omega) (by omega) fun q hq hq2 => by
          by_cases hiq : (q : Int) < i
          · have := hno q (by omega) hq2 hiq
            simp only [decide_eq_false this, Bool.and_false]
          · simp [hiq]
        (repeat (first | with_reducible refine run_seq ?_ | with_reducible refine run_reg ?_ | with_reducible refine run_block ?_ | with_reducible refine run_blk ?_ | with_reducible refine run_skip ?_ | with_reducible refine run_exit rfl ?_ | with_reducible refine run_drw ?_ | with_reducible refine run_condT ?_ | with_reducible refine run_ret' ?_ | with_reducible refine run_end' ?_ | simp only [go_sem, ↓reduceIte, Nat.reduceAdd, Nat.reduceEqDiff, Nat.reduceBEq, reduceCtorEq, Int.reduceBEq, Int.reduceBNe, Int.reduceLT, Int.reduceLE, hj]))
        rw [hO]
        exact ⟨rfl, ho.same ho3⟩
      · have hne : ¬ ((l.getD k 0 : Nat) : Int) = v := by simpa using hne
        have hsub : IntKind.i64.wrap ((k : Int) - 1) = (k : Int) - 1 := IntWalk.i64_in _ (by omega)
        (repeat (first | with_reducible refine run_seq ?_ | with_reducible refine run_reg ?_ | with_reducible refine run_block ?_ | with_reducible refine run_blk ?_ | with_reducible refine run_skip ?_ | with_reducible refine run_exit rfl ?_ | with_reducible refine run_drw ?_ | with_reducible refine run_condT ?_ | with_reducible refine run_ret' ?_ | with_reducible refine run_end' ?_ | simp only [go_sem, ↓reduceIte, Nat.reduceAdd, Nat.reduceEqDiff, Nat.reduceBEq, reduceCtorEq, Int.reduceBEq, Int.reduceBNe, Int.reduceLT, Int.reduceLE, hj, hsub]))
        refine hnext _ w3 ?_ ⟨(k : Int) - 1, ?_, by omega, by omega, by omega, fun q h1 h2 h3 => ?_, ho.same ho3⟩ ?_
        · (repeat (first | with_reducible exact Keeps.refl _ _ | with_reducible exact Keeps.ovr _ _ _ | refine Keeps.put ?_ rfl _ | exact Keeps.refl _ _ | exact Keeps.ovr _ _ _ | refine Keeps.ovr2 ?_ rfl _))
        · simp only [go_sem, ↓reduceIte, Nat.reduceAdd, Nat.reduceEqDiff, Nat.reduceBEq, reduceCtorEq, Int.reduceBEq, Int.reduceBNe, Int.reduceLT, Int.reduceLE]
        · rcases Nat.lt_or_ge k q with h | h
          · exact hno q (by omega) h2 h3
          · have : q = k := by omega
            subst this; exact hne
        · rw [downTo_int hj, downTo_int (k := .i64) (i := (k : Int) - 1) (by simp only [go_sem, ↓reduceIte, Nat.reduceAdd, Nat.reduceEqDiff, Nat.reduceBEq, reduceCtorEq, Int.reduceBEq, Int.reduceBNe, Int.reduceLT, Int.reduceLE])]; omega
    · have hge : ¬ 0 ≤ j := by simpa using hge
      have hO : MT.lastO (some (wd, l)) i v = none := lastI_none fun q hq => by
        by_cases hiq : (q : Int) < i
        · have := hno q (by omega) hq hiq
          simp only [decide_eq_false this, Bool.and_false]
        · simp [hiq]
      (repeat (first | with_reducible refine run_seq ?_ | with_reducible refine run_reg ?_ | with_reducible refine run_block ?_ | with_reducible refine run_blk ?_ | with_reducible refine run_skip ?_ | with_reducible refine run_exit rfl ?_ | with_reducible refine run_drw ?_ | with_reducible refine run_condT ?_ | with_reducible refine run_ret' ?_ | with_reducible refine run_end' ?_ | simp only [go_sem, ↓reduceIte, Nat.reduceAdd, Nat.reduceEqDiff, Nat.reduceBEq, reduceCtorEq, Int.reduceBEq, Int.reduceBNe, Int.reduceLT, Int.reduceLE]))
      rw [hO]
      exact ⟨rfl, ho⟩
theorem index {w : World} {x : Int} {s : Nat} {xs : List Int} {cap : Nat} {rest : List Value} (hs : At w s (ints xs ++ rest)) (hlen : xs.length ≤ 1000) :
    Cs Tryz.prog 143 [.slice (some ⟨s, 0, none⟩) xs.length cap, .int .i64 x] w fun v w' => (∃ k : Int, v = .int .i64 k ∧ decide (0 ≤ k) = xs.any (x == ·)) ∧ w' = w := by
  refine enter_slices_Index___int_int_ rfl ?_
  unfold x_slices_Index___int_int_
  (repeat (first | with_reducible refine run_seq ?_ | with_reducible refine run_reg ?_ | with_reducible refine run_block ?_ | with_reducible refine run_blk ?_ | with_reducible refine run_skip ?_ | with_reducible refine run_exit rfl ?_ | with_reducible refine run_drw ?_ | with_reducible refine run_condT ?_ | with_reducible refine run_ret' ?_ | with_reducible refine run_end' ?_ | simp only [go_sem, ↓reduceIte, Nat.reduceAdd, Nat.reduceEqDiff, Nat.reduceBEq, reduceCtorEq, Int.reduceBEq, Int.reduceBNe, Int.reduceLT, Int.reduceLE]))
  refine run_loop (5 :: 8 :: 9 :: 10 :: 11 :: 12 :: 13 :: 14 :: 15 :: 16 :: 18 :: []) (fun g w' => ∃ i : Nat, g 8 = .int .i64 i ∧ i ≤ xs.length ∧ (xs.take i).any (x == ·) = false ∧ w' = w) (fun g _ => upTo xs.length 8 g) ⟨0, by simp only [go_sem, ↓reduceIte, Nat.reduceAdd, Nat.reduceEqDiff, Nat.reduceBEq, reduceCtorEq, Int.reduceBEq, Int.reduceBNe, Int.reduceLT, Int.reduceLE]; rfl, by omega, by simp, rfl⟩ fun g w' hI hnext => ?_
  obtain ⟨i, h8, hi, hany, rfl⟩ := hI
  (repeat (first | with_reducible refine run_seq ?_ | with_reducible refine run_reg ?_ | with_reducible refine run_block ?_ | with_reducible refine run_blk ?_ | with_reducible refine run_skip ?_ | with_reducible refine run_exit rfl ?_ | with_reducible refine run_drw ?_ | with_reducible refine run_condT ?_ | with_reducible refine run_ret' ?_ | with_reducible refine run_end' ?_ | simp only [go_sem, ↓reduceIte, Nat.reduceAdd, Nat.reduceEqDiff, Nat.reduceBEq, reduceCtorEq, Int.reduceBEq, Int.reduceBNe, Int.reduceLT, Int.reduceLE, h8]))
  refine condT (fun hlt => ?_) (fun hge => ?_)
  · have hlt : i < xs.length := by simpa using hlt
    have c1 : (0 : Int) ≤ (i : Int) ∧ (i : Int) < (xs.length : Int) := ⟨by omega, by omega⟩
    (repeat (first | with_reducible refine run_seq ?_ | with_reducible refine run_reg ?_ | with_reducible refine run_block ?_ | with_reducible refine run_blk ?_ | with_reducible refine run_skip ?_ | with_reducible refine run_exit rfl ?_ | with_reducible refine run_drw ?_ | with_reducible refine run_condT ?_ | with_reducible refine run_ret' ?_ | with_reducible refine run_end' ?_ | simp only [go_sem, ↓reduceIte, Nat.reduceAdd, Nat.reduceEqDiff, Nat.reduceBEq, reduceCtorEq, Int.reduceBEq, Int.reduceBNe, Int.reduceLT, Int.reduceLE, h8, if_pos c1, hs.cell, ints_append_get rest hlt, Int.toNat_natCast, Nat.mul_one]))
    refine condT (fun hp => ?_) (fun hp => ?_)
    · (repeat (first | with_reducible refine run_seq ?_ | with_reducible refine run_reg ?_ | with_reducible refine run_block ?_ | with_reducible refine run_blk ?_ | with_reducible refine run_skip ?_ | with_reducible refine run_exit rfl ?_ | with_reducible refine run_drw ?_ | with_reducible refine run_condT ?_ | with_reducible refine run_ret' ?_ | with_reducible refine run_end' ?_ | simp only [go_sem, ↓reduceIte, Nat.reduceAdd, Nat.reduceEqDiff, Nat.reduceBEq, reduceCtorEq, Int.reduceBEq, Int.reduceBNe, Int.reduceLT, Int.reduceLE]))
      refine ⟨i, rfl, ?_⟩
      have : xs.any (x == ·) = true := List.any_eq_true.2 ⟨_, by simp [hlt], hp⟩
      simp [this]
    · (repeat (first | with_reducible refine run_seq ?_ | with_reducible refine run_reg ?_ | with_reducible refine run_block ?_ | with_reducible refine run_blk ?_ | with_reducible refine run_skip ?_ | with_reducible refine run_exit rfl ?_ | with_reducible refine run_drw ?_ | with_reducible refine run_condT ?_ | with_reducible refine run_ret' ?_ | with_reducible refine run_end' ?_ | simp only [go_sem, ↓reduceIte, Nat.reduceAdd, Nat.reduceEqDiff, Nat.reduceBEq, reduceCtorEq, Int.reduceBEq, Int.reduceBNe, Int.reduceLT, Int.reduceLE, h8, i64_succ i (by omega)]))
      refine hnext _ _ ?_ ⟨i + 1, ?_, by omega, by rw [any_take_succ hlt, hany, hp]; rfl, rfl⟩ ?_
      · (repeat (first | with_reducible exact Keeps.refl _ _ | with_reducible exact Keeps.ovr _ _ _ | refine Keeps.put ?_ rfl _ | exact Keeps.refl _ _ | exact Keeps.ovr _ _ _ | refine Keeps.ovr2 ?_ rfl _))
      · simp only [go_sem, ↓reduceIte, Nat.reduceAdd, Nat.reduceEqDiff, Nat.reduceBEq, reduceCtorEq, Int.reduceBEq, Int.reduceBNe, Int.reduceLT, Int.reduceLE]
      · rw [upTo_int h8, upTo_int (k := .i64) (i := i + 1) (by simp only [go_sem, ↓reduceIte, Nat.reduceAdd, Nat.reduceEqDiff, Nat.reduceBEq, reduceCtorEq, Int.reduceBEq, Int.reduceBNe, Int.reduceLT, Int.reduceLE])]; omega
  · have : i = xs.length := by have : ¬ (i < xs.length) := by simpa using hge
                               omega
    subst this
    (repeat (first | with_reducible refine run_seq ?_ | with_reducible refine run_reg ?_ | with_reducible refine run_block ?_ | with_reducible refine run_blk ?_ | with_reducible refine run_skip ?_ | with_reducible refine run_exit rfl ?_ | with_reducible refine run_drw ?_ | with_reducible refine run_condT ?_ | with_reducible refine run_ret' ?_ | with_reducible refine run_end' ?_ | simp only [go_sem, ↓reduceIte, Nat.reduceAdd, Nat.reduceEqDiff, Nat.reduceBEq, reduceCtorEq, Int.reduceBEq, Int.reduceBNe, Int.reduceLT, Int.reduceLE]))
    refine ⟨-1, rfl, ?_⟩
    rw [List.take_length] at hany
    simp [hany]
theorem contains {w : World} {x : Int} {s : Nat} {xs : List Int} {cap : Nat} {rest : List Value} (hs : At w s (ints xs ++ rest)) (hlen : xs.length ≤ 1000) :
    Cs Tryz.prog 84 [.slice (some ⟨s, 0, none⟩) xs.length cap, .int .i64 x] w fun v w' => v = .bool (xs.any (x == ·)) ∧ w' = w := by
  refine enter_slices_Contains___int_int_ rfl ?_
  unfold x_slices_Contains___int_int_
  (repeat (first | with_reducible refine run_seq ?_ | with_reducible refine run_reg ?_ | with_reducible refine run_block ?_ | with_reducible refine run_blk ?_ | with_reducible refine run_skip ?_ | with_reducible refine run_exit rfl ?_ | with_reducible refine run_drw ?_ | with_reducible refine run_condT ?_ | with_reducible refine run_ret' ?_ | with_reducible refine run_end' ?_ | simp only [go_sem, ↓reduceIte, Nat.reduceAdd, Nat.reduceEqDiff, Nat.reduceBEq, reduceCtorEq, Int.reduceBEq, Int.reduceBNe, Int.reduceLT, Int.reduceLE]))
  refine callT (index hs hlen) ?_
  rintro v w' ⟨⟨k, rfl, hk⟩, rfl⟩
  (repeat (first | with_reducible refine run_seq ?_ | with_reducible refine run_reg ?_ | with_reducible refine run_block ?_ | with_reducible refine run_blk ?_ | with_reducible refine run_skip ?_ | with_reducible refine run_exit rfl ?_ | with_reducible refine run_drw ?_ | with_reducible refine run_condT ?_ | with_reducible refine run_ret' ?_ | with_reducible refine run_end' ?_ | simp only [go_sem, ↓reduceIte, Nat.reduceAdd, Nat.reduceEqDiff, Nat.reduceBEq, reduceCtorEq, Int.reduceBEq, Int.reduceBNe, Int.reduceLT, Int.reduceLE, hk]))

/-- a table in new memory, or nil -/
structure NewT (h0 : Nat) (w : World) (a : Option Addr) (S : List Nat) (m : MT) : Prop where
  tab : Tab w a S m
  some : a.isSome = m.isSome
  new : ∀ x, x ∈ S → h0 ≤ x
theorem NewT.none (h0 : Nat) (w : World) : NewT h0 w none [] none := ⟨.inl ⟨rfl, rfl⟩, rfl, by simp⟩
theorem NewT.mk' {h0 : Nat} {w : World} {b g n wd : Nat} {l : List Nat} (h : STab w b g n wd l) (hb : h0 ≤ b) (hg : h0 ≤ g) : NewT h0 w (.some ⟨b, 0, .none⟩) [b, g] (.some (wd, l)) :=
  ⟨.mk h, rfl, by simp; omega⟩
theorem NewT.keep {h0 : Nat} {w w' : World} {a : Option Addr} {S T : List Nat} {m : MT} (h : NewT h0 w a S m) (k : Only T w w') (hd : ∀ x, x ∈ S → x ∉ T) : NewT h0 w' a S m := ⟨h.tab.keep k hd, h.some, h.new⟩
theorem NewT.keep0 {h0 : Nat} {w w' : World} {a : Option Addr} {S : List Nat} {m : MT} (h : NewT h0 w a S m) (k : Only [] w w') : NewT h0 w' a S m := h.keep k fun _ _ => by simp

theorem okW_wd {wd : Int} (h : okW wd = true) : ∃ k : Nat, wd = k ∧ Wd k := by
  simp only [okW, List.any_cons, List.any_nil, Bool.or_eq_true, beq_iff_eq, Bool.false_eq_true, or_false] at h
  refine ⟨wd.toNat, by omega, ?_⟩
  unfold Wd; omega

theorem New_m (w : World) (n wd : Int) : Cs Tryz.prog 86 [.int .i64 n, .int .i64 wd] w fun r w' => ∃ a S, r = .tuple #[.pointer a, .int .i64 (errOf (newM n wd))] ∧ NewT w.heap.size w' a S (newM n wd) ∧ Only [] w w' := by
  refine enter_side_New rfl ?_
  unfold x_side_New
  have bad : ∀ w', Only [] w w' → ¬ (1 ≤ n ∧ n ≤ 4096 ∧ okW wd = true) → ∃ a S, Value.tuple #[.pointer none, .int .i64 1] = .tuple #[.pointer a, .int .i64 (errOf (newM n wd))] ∧ NewT w.heap.size w' a S (newM n wd) ∧ Only [] w w' := fun w' ho hb => by
    have : newM n wd = none := if_neg hb
    rw [this]
    exact ⟨none, [], rfl, .none _ _, ho⟩
  by_cases c1 : n < 1
  · (repeat (first | with_reducible refine run_seq ?_ | with_reducible refine run_reg ?_ | with_reducible refine run_block ?_ | with_reducible refine run_blk ?_ | with_reducible refine run_skip ?_ | with_reducible refine run_exit rfl ?_ | with_reducible refine run_drw ?_ | with_reducible refine run_condT ?_ | with_reducible refine run_ret' ?_ | with_reducible refine run_end' ?_ | simp only [go_sem, ↓reduceIte, Nat.reduceAdd, Nat.reduceEqDiff, Nat.reduceBEq, reduceCtorEq, Int.reduceBEq, Int.reduceBNe, Int.reduceLT, Int.reduceLE, decide_eq_true c1]))
    exact bad _ (Only.refl _ _) (by omega)
  by_cases c2 : 4096 < n
  · (repeat (first | with_reducible refine run_seq ?_ | with_reducible refine run_reg ?_ | with_reducible refine run_block ?_ | with_reducible refine run_blk ?_ | with_reducible refine run_skip ?_ | with_reducible refine run_exit rfl ?_ | with_reducible refine run_drw ?_ | with_reducible refine run_condT ?_ | with_reducible refine run_ret' ?_ | with_reducible refine run_end' ?_ | simp only [go_sem, ↓reduceIte, Nat.reduceAdd, Nat.reduceEqDiff, Nat.reduceBEq, reduceCtorEq, Int.reduceBEq, Int.reduceBNe, Int.reduceLT, Int.reduceLE, decide_eq_false c1, decide_eq_true c2]))
    exact bad _ (Only.refl _ _) (by omega)
  (repeat (first | with_reducible refine run_seq ?_ | with_reducible refine run_reg ?_ | with_reducible refine run_block ?_ | with_reducible refine run_blk ?_ | with_reducible refine run_skip ?_ | with_reducible refine run_exit rfl ?_ | with_reducible refine run_drw ?_ | with_reducible refine run_condT ?_ | with_reducible refine run_ret' ?_ | with_reducible refine run_end' ?_ | simp only [go_sem, ↓reduceIte, Nat.reduceAdd, Nat.reduceEqDiff, Nat.reduceBEq, reduceCtorEq, Int.reduceBEq, Int.reduceBNe, Int.reduceLT, Int.reduceLE, decide_eq_false c1, decide_eq_false c2]))
  rw [fillL_one rfl rfl, fillL_one rfl rfl, fillL_one rfl rfl, fillL_one rfl rfl]
  (repeat (first | with_reducible refine run_seq ?_ | with_reducible refine run_reg ?_ | with_reducible refine run_block ?_ | with_reducible refine run_blk ?_ | with_reducible refine run_skip ?_ | with_reducible refine run_exit rfl ?_ | with_reducible refine run_drw ?_ | with_reducible refine run_condT ?_ | with_reducible refine run_ret' ?_ | with_reducible refine run_end' ?_ | simp only [go_sem, ↓reduceIte, Nat.reduceAdd, Nat.reduceEqDiff, Nat.reduceBEq, reduceCtorEq, Int.reduceBEq, Int.reduceBNe, Int.reduceLT, Int.reduceLE]))
  refine bslT fun q w1 hq hs1 hat ho1 => ?_
  (repeat (first | with_reducible refine run_seq ?_ | with_reducible refine run_reg ?_ | with_reducible refine run_block ?_ | with_reducible refine run_blk ?_ | with_reducible refine run_skip ?_ | with_reducible refine run_exit rfl ?_ | with_reducible refine run_drw ?_ | with_reducible refine run_condT ?_ | with_reducible refine run_ret' ?_ | with_reducible refine run_end' ?_ | simp only [go_sem, ↓reduceIte, Nat.reduceAdd, Nat.reduceEqDiff, Nat.reduceBEq, reduceCtorEq, Int.reduceBEq, Int.reduceBNe, Int.reduceLT, Int.reduceLE]))
  refine callT0 (contains (xs := [1, 2, 4, 8]) (rest := []) hat (by simp)) ?_
  by_cases c3 : okW wd = true
  · have c3' : [1, 2, 4, 8].any (wd == ·) = true := c3
    obtain ⟨k, rfl, hk⟩ := okW_wd c3
    obtain ⟨e, rfl⟩ : ∃ e : Nat, n = e := ⟨n.toNat, by omega⟩
    have he : e ≤ 4096 := by omega
    have hb : e * k ≤ 40000 := by rcases hk with rfl | rfl | rfl | rfl <;> omega
    have r1 : IntKind.i64.wrap ((e : Int) * k) = ((e * k : Nat) : Int) := by rw [← Int.natCast_mul, i64_of_nat _ (by omega)]
    have r2 : IntKind.i64.wrap (((e * k : Nat) : Int) + 64) = ((e * k + 64 : Nat) : Int) := i64_of_nat (e * k + 64) (by omega)
    have r3 : IntKind.i64.wrap (((e * k + 64 : Nat) : Int) - 1) = ((e * k + 63 : Nat) : Int) := by rw [IntWalk.i64_in _ (by omega)]; omega
    have r4 := tdiv64 (e * k + 63) (by omega)
    (repeat (first | with_reducible refine run_seq ?_ | with_reducible refine run_reg ?_ | with_reducible refine run_block ?_ | with_reducible refine run_blk ?_ | with_reducible refine run_skip ?_ | with_reducible refine run_exit rfl ?_ | with_reducible refine run_drw ?_ | with_reducible refine run_condT ?_ | with_reducible refine run_ret' ?_ | with_reducible refine run_end' ?_ | simp only [go_sem, ↓reduceIte, Nat.reduceAdd, Nat.reduceEqDiff, Nat.reduceBEq, reduceCtorEq, Int.reduceBEq, Int.reduceBNe, Int.reduceLT, Int.reduceLE, c3', r1, r2, r3, r4]))
    refine mksT (Nat.le_refl _) (by omega) ?_ fun g w2 hg hs2 hat2 ho2 => ?_
    · have : (e * k + 63) / 64 ≤ 1000 := by omega
      omega
    (repeat (first | with_reducible refine run_seq ?_ | with_reducible refine run_reg ?_ | with_reducible refine run_block ?_ | with_reducible refine run_blk ?_ | with_reducible refine run_skip ?_ | with_reducible refine run_exit rfl ?_ | with_reducible refine run_drw ?_ | with_reducible refine run_condT ?_ | with_reducible refine run_ret' ?_ | with_reducible refine run_end' ?_ | simp only [go_sem, ↓reduceIte, Nat.reduceAdd, Nat.reduceEqDiff, Nat.reduceBEq, reduceCtorEq, Int.reduceBEq, Int.reduceBNe, Int.reduceLT, Int.reduceLE]))
    rw [fillL_one rfl rfl, fillL_one rfl rfl, fillL_one rfl rfl]
    (repeat (first | with_reducible refine run_seq ?_ | with_reducible refine run_reg ?_ | with_reducible refine run_block ?_ | with_reducible refine run_blk ?_ | with_reducible refine run_skip ?_ | with_reducible refine run_exit rfl ?_ | with_reducible refine run_drw ?_ | with_reducible refine run_condT ?_ | with_reducible refine run_ret' ?_ | with_reducible refine run_end' ?_ | simp only [go_sem, ↓reduceIte, Nat.reduceAdd, Nat.reduceEqDiff, Nat.reduceBEq, reduceCtorEq, Int.reduceBEq, Int.reduceBNe, Int.reduceLT, Int.reduceLE]))
    refine boxT fun b w3 hb3 hs3 hat3 ho3 => ?_
    (repeat (first | with_reducible refine run_seq ?_ | with_reducible refine run_reg ?_ | with_reducible refine run_block ?_ | with_reducible refine run_blk ?_ | with_reducible refine run_skip ?_ | with_reducible refine run_exit rfl ?_ | with_reducible refine run_drw ?_ | with_reducible refine run_condT ?_ | with_reducible refine run_ret' ?_ | with_reducible refine run_end' ?_ | simp only [go_sem, ↓reduceIte, Nat.reduceAdd, Nat.reduceEqDiff, Nat.reduceBEq, reduceCtorEq, Int.reduceBEq, Int.reduceBNe, Int.reduceLT, Int.reduceLE]))
    have hm : newM (e : Int) (k : Int) = some (k, List.replicate e 0) := by
      unfold newM; rw [if_pos ⟨by omega, by omega, c3⟩]; simp only [Int.toNat_natCast]
    rw [hm]
    have hz : rowZ [Value.int IntKind.u64 0] ((e * k + 63) / 64) = u64s (List.replicate ((e * k + 63) / 64) 0) ++ [] := by
      rw [rowZ_one]; simp [u64s]
    rw [hz] at hat2
    have hT : STab w3 b g e k (List.replicate e 0) := by
      refine ⟨hk, by simp, by omega, he, (Pk.zero k e hk).el, List.replicate ((e * k + 63) / 64) 0, (e * k + 63) / 64, [], Pk.zero k e hk, ?_, hat2.keep0 ho3, by omega⟩
      rw [List.length_replicate]; exact hat3
    exact ⟨_, _, rfl, .mk' hT (by omega) (by omega), (ho1.same ho2).same ho3⟩
  · rw [Bool.not_eq_true] at c3
    have c3' : [1, 2, 4, 8].any (wd == ·) = false := c3
    (repeat (first | with_reducible refine run_seq ?_ | with_reducible refine run_reg ?_ | with_reducible refine run_block ?_ | with_reducible refine run_blk ?_ | with_reducible refine run_skip ?_ | with_reducible refine run_exit rfl ?_ | with_reducible refine run_drw ?_ | with_reducible refine run_condT ?_ | with_reducible refine run_ret' ?_ | with_reducible refine run_end' ?_ | simp only [go_sem, ↓reduceIte, Nat.reduceAdd, Nat.reduceEqDiff, Nat.reduceBEq, reduceCtorEq, Int.reduceBEq, Int.reduceBNe, Int.reduceLT, Int.reduceLE, c3']))
    exact bad _ ho1 (by rw [c3]; simp)

end Go.Proofs.YtgcofabdialaaaaGreat
