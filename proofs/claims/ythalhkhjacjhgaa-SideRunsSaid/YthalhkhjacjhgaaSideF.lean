/- Side tables: Add, Next, Last. -/
import Derived.Test.YthalhkhjacjhgaaSideE
namespace Go.Proofs.Ythalhkhjacjhgaa
set_option linter.unusedSimpArgs false
set_option linter.unusedVariables false
set_option maxRecDepth 8000

theorem Add_m {w : World} {a : Option Addr} {S : List Nat} {m : MT} (h : Tab w a S m) (i d : Int) : Cs Try.prog 26 [.pointer a, .int .i64 i, .int .i64 d] w fun r w' => r = .tuple #[.int .i64 (m.addR i d), .int .i64 (m.addE i d)] ∧ Tab w' a S (m.addM i d) ∧ Only S w w' := by
  refine enter_side_Table_Add rfl ?_
  unfold x_side_Table_Add
  (repeat (first | with_reducible refine run_seq ?_ | with_reducible refine run_reg ?_ | with_reducible refine run_block ?_ | with_reducible refine run_blk ?_ | with_reducible refine run_skip ?_ | with_reducible refine run_exit rfl ?_ | with_reducible refine run_drw ?_ | with_reducible refine run_condT ?_ | with_reducible refine run_ret' ?_ | with_reducible refine run_end' ?_ | simp only [go_sem, ↓reduceIte, Nat.reduceAdd, Nat.reduceEqDiff, Nat.reduceBEq, reduceCtorEq, Int.reduceBEq, Int.reduceBNe, Int.reduceLT, Int.reduceLE]))
  refine callT1 (check0_m h i rfl) fun w2 ho2 => ?_
  match m, h with
  | none, h =>
    (repeat (first | with_reducible refine run_seq ?_ | with_reducible refine run_reg ?_ | with_reducible refine run_block ?_ | with_reducible refine run_blk ?_ | with_reducible refine run_skip ?_ | with_reducible refine run_exit rfl ?_ | with_reducible refine run_drw ?_ | with_reducible refine run_condT ?_ | with_reducible refine run_ret' ?_ | with_reducible refine run_end' ?_ | simp only [go_sem, ↓reduceIte, Nat.reduceAdd, Nat.reduceEqDiff, Nat.reduceBEq, reduceCtorEq, Int.reduceBEq, Int.reduceBNe, Int.reduceLT, Int.reduceLE, MT.check_none]))
    exact ⟨rfl, h.keep0 ho2, ho2.of_nil⟩
  | some (wd, l), ⟨b, g, h1, h2, h3⟩ =>
    subst h1 h2
    have h3 := h3.keep ho2 (by simp) (by simp)
    have hw := h3.hw
    rcases MT.check_cases (wd := wd) (l := l) (i := i) (vs := []) with ⟨e, e1, e2⟩ | ⟨e, e1⟩
    · obtain ⟨k, rfl, hk⟩ := hasB_nat e1
      by_cases hbad : d < -255 ∨ 255 < d
      · have hE : MT.addE (some (wd, l)) (k : Int) d = 1 := by simp only [MT.addE, e, if_true, if_pos hbad]
        have hR : MT.addR (some (wd, l)) (k : Int) d = 0 := by simp only [MT.addR, hE]; rfl
        have hM : MT.addM (some (wd, l)) (k : Int) d = some (wd, l) := by simp only [MT.addM, hE]; rfl
        by_cases hs1 : d < -255
        · (repeat (first | with_reducible refine run_seq ?_ | with_reducible refine run_reg ?_ | with_reducible refine run_block ?_ | with_reducible refine run_blk ?_ | with_reducible refine run_skip ?_ | with_reducible refine run_exit rfl ?_ | with_reducible refine run_drw ?_ | with_reducible refine run_condT ?_ | with_reducible refine run_ret' ?_ | with_reducible refine run_end' ?_ | simp only [go_sem, ↓reduceIte, Nat.reduceAdd, Nat.reduceEqDiff, Nat.reduceBEq, reduceCtorEq, Int.reduceBEq, Int.reduceBNe, Int.reduceLT, Int.reduceLE, e, decide_eq_true hs1]))
          rw [hE, hR, hM]
          exact ⟨rfl, .mk h3, ho2.of_nil⟩
        · have hs2 := hbad.resolve_left hs1
          (repeat (first | with_reducible refine run_seq ?_ | with_reducible refine run_reg ?_ | with_reducible refine run_block ?_ | with_reducible refine run_blk ?_ | with_reducible refine run_skip ?_ | with_reducible refine run_exit rfl ?_ | with_reducible refine run_drw ?_ | with_reducible refine run_condT ?_ | with_reducible refine run_ret' ?_ | with_reducible refine run_end' ?_ | simp only [go_sem, ↓reduceIte, Nat.reduceAdd, Nat.reduceEqDiff, Nat.reduceBEq, reduceCtorEq, Int.reduceBEq, Int.reduceBNe, Int.reduceLT, Int.reduceLE, e, decide_eq_false hs1, decide_eq_true hs2]))
          rw [hE, hR, hM]
          exact ⟨rfl, .mk h3, ho2.of_nil⟩
      · have hE : MT.addE (some (wd, l)) (k : Int) d = 0 := by simp only [MT.addE, e, if_true, if_neg hbad]
        have hR : MT.addR (some (wd, l)) (k : Int) d = ((addV wd (l.getD k 0) d : Nat) : Int) := by simp only [MT.addR, hE, if_true, Int.toNat_natCast]
        have hM : MT.addM (some (wd, l)) (k : Int) d = some (wd, l.set k (addV wd (l.getD k 0) d)) := by simp only [MT.addM, hE, if_true, Int.toNat_natCast]
        have hs1 : ¬ d < -255 := fun h => hbad (.inl h)
        have hs2 : ¬ 255 < d := fun h => hbad (.inr h)
        rw [hE, hR, hM]
        (repeat (first | with_reducible refine run_seq ?_ | with_reducible refine run_reg ?_ | with_reducible refine run_block ?_ | with_reducible refine run_blk ?_ | with_reducible refine run_skip ?_ | with_reducible refine run_exit rfl ?_ | with_reducible refine run_drw ?_ | with_reducible refine run_condT ?_ | with_reducible refine run_ret' ?_ | with_reducible refine run_end' ?_ | simp only [go_sem, ↓reduceIte, Nat.reduceAdd, Nat.reduceEqDiff, Nat.reduceBEq, reduceCtorEq, Int.reduceBEq, Int.reduceBNe, Int.reduceLT, Int.reduceLE, e, decide_eq_false hs1, decide_eq_false hs2]))
        refine callT1 (get_tab h3 hk) fun w3 ho3 => ?_
        have h4 := h3.keep ho3 (by simp) (by simp)
        (repeat (first | with_reducible refine run_seq ?_ | with_reducible refine run_reg ?_ | with_reducible refine run_block ?_ | with_reducible refine run_blk ?_ | with_reducible refine run_skip ?_ | with_reducible refine run_exit rfl ?_ | with_reducible refine run_drw ?_ | with_reducible refine run_condT ?_ | with_reducible refine run_ret' ?_ | with_reducible refine run_end' ?_ | simp only [go_sem, ↓reduceIte, Nat.reduceAdd, Nat.reduceEqDiff, Nat.reduceBEq, reduceCtorEq, Int.reduceBEq, Int.reduceBNe, Int.reduceLT, Int.reduceLE]))
        refine callT0 (most_tab h4) ?_
        have hm8 : 2 ^ wd - 1 < 256 := by rcases hw with rfl | rfl | rfl | rfl <;> decide
        have hx := h3.el k
        generalize hxx : l.getD k 0 = x at hx ⊢
        (repeat (first | with_reducible refine run_seq ?_ | with_reducible refine run_reg ?_ | with_reducible refine run_block ?_ | with_reducible refine run_blk ?_ | with_reducible refine run_skip ?_ | with_reducible refine run_exit rfl ?_ | with_reducible refine run_drw ?_ | with_reducible refine run_condT ?_ | with_reducible refine run_ret' ?_ | with_reducible refine run_end' ?_ | simp only [go_sem, ↓reduceIte, Nat.reduceAdd, Nat.reduceEqDiff, Nat.reduceBEq, reduceCtorEq, Int.reduceBEq, Int.reduceBNe, Int.reduceLT, Int.reduceLE]))
        refine condT (fun hlt => ?_) (fun hge => ?_)
        · have hlt : (x : Int) < ((2 ^ wd - 1 : Nat) : Int) := by simpa using hlt
          have hadd : IntKind.i64.wrap ((x : Int) + d) = x + d := IntWalk.i64_in _ (by omega)
          have hv : addV wd x d = (min (max ((x : Int) + d) 0) ((2 ^ wd - 1 : Nat) : Int)).toNat := if_pos (by omega)
          have hv2 : (min (max ((x : Int) + d) 0) ((2 ^ wd - 1 : Nat) : Int)) = ((addV wd x d : Nat) : Int) := by rw [hv]; omega
          have hv3 : addV wd x d < 2 ^ wd := by rw [hv]; have := Nat.two_pow_pos wd; omega
          (repeat (first | with_reducible refine run_seq ?_ | with_reducible refine run_reg ?_ | with_reducible refine run_block ?_ | with_reducible refine run_blk ?_ | with_reducible refine run_skip ?_ | with_reducible refine run_exit rfl ?_ | with_reducible refine run_drw ?_ | with_reducible refine run_condT ?_ | with_reducible refine run_ret' ?_ | with_reducible refine run_end' ?_ | simp only [go_sem, ↓reduceIte, Nat.reduceAdd, Nat.reduceEqDiff, Nat.reduceBEq, reduceCtorEq, Int.reduceBEq, Int.reduceBNe, Int.reduceLT, Int.reduceLE, hadd]))
          refine callT0 (most_tab h4) ?_
          (repeat (first | with_reducible refine run_seq ?_ | with_reducible refine run_reg ?_ | with_reducible refine run_block ?_ | with_reducible refine run_blk ?_ | with_reducible refine run_skip ?_ | with_reducible refine run_exit rfl ?_ | with_reducible refine run_drw ?_ | with_reducible refine run_condT ?_ | with_reducible refine run_ret' ?_ | with_reducible refine run_end' ?_ | simp only [go_sem, ↓reduceIte, Nat.reduceAdd, Nat.reduceEqDiff, Nat.reduceBEq, reduceCtorEq, Int.reduceBEq, Int.reduceBNe, Int.reduceLT, Int.reduceLE, hv2]))
          refine callT (put_tab h4 hk hv3) ?_
          rintro r w5 ⟨rfl, h5, ho5⟩
          (repeat (first | with_reducible refine run_seq ?_ | with_reducible refine run_reg ?_ | with_reducible refine run_block ?_ | with_reducible refine run_blk ?_ | with_reducible refine run_skip ?_ | with_reducible refine run_exit rfl ?_ | with_reducible refine run_drw ?_ | with_reducible refine run_condT ?_ | with_reducible refine run_ret' ?_ | with_reducible refine run_end' ?_ | simp only [go_sem, ↓reduceIte, Nat.reduceAdd, Nat.reduceEqDiff, Nat.reduceBEq, reduceCtorEq, Int.reduceBEq, Int.reduceBNe, Int.reduceLT, Int.reduceLE]))
          exact ⟨.mk h5, (ho2.same ho3).of_nil.same ho5.g⟩
        · have hge : ¬ (x : Int) < ((2 ^ wd - 1 : Nat) : Int) := by simpa using hge
          have hv : addV wd x d = x := if_neg (by omega)
          have hset : l.set k x = l := by
            apply List.ext_getElem (by simp)
            intro j h1 h2
            rw [List.getElem_set]
            split
            · rename_i e; subst e; rw [← hxx]; simp [h2]
            · rfl
          (repeat (first | with_reducible refine run_seq ?_ | with_reducible refine run_reg ?_ | with_reducible refine run_block ?_ | with_reducible refine run_blk ?_ | with_reducible refine run_skip ?_ | with_reducible refine run_exit rfl ?_ | with_reducible refine run_drw ?_ | with_reducible refine run_condT ?_ | with_reducible refine run_ret' ?_ | with_reducible refine run_end' ?_ | simp only [go_sem, ↓reduceIte, Nat.reduceAdd, Nat.reduceEqDiff, Nat.reduceBEq, reduceCtorEq, Int.reduceBEq, Int.reduceBNe, Int.reduceLT, Int.reduceLE]))
          rw [hv, hset]
          exact ⟨rfl, .mk h4, (ho2.same ho3).of_nil⟩
    · have hE : MT.addE (some (wd, l)) i d = 1 := by simp [MT.addE, e]
      have hR : MT.addR (some (wd, l)) i d = 0 := by simp only [MT.addR, hE]; rfl
      have hM : MT.addM (some (wd, l)) i d = some (wd, l) := by simp only [MT.addM, hE]; rfl
      rw [hE, hR, hM]
      (repeat (first | with_reducible refine run_seq ?_ | with_reducible refine run_reg ?_ | with_reducible refine run_block ?_ | with_reducible refine run_blk ?_ | with_reducible refine run_skip ?_ | with_reducible refine run_exit rfl ?_ | with_reducible refine run_drw ?_ | with_reducible refine run_condT ?_ | with_reducible refine run_ret' ?_ | with_reducible refine run_end' ?_ | simp only [go_sem, ↓reduceIte, Nat.reduceAdd, Nat.reduceEqDiff, Nat.reduceBEq, reduceCtorEq, Int.reduceBEq, Int.reduceBNe, Int.reduceLT, Int.reduceLE, e]))
      exact ⟨.mk h3, ho2.of_nil⟩

theorem Next_m {w : World} {a : Option Addr} {S : List Nat} {m : MT} (h : Tab w a S m) (i v : Int) : Cs Try.prog 23 [.pointer a, .int .i64 i, .int .i64 v] w fun r w' => r = .tuple #[.int .i64 (optR (m.nextO i v)), .int .i64 (m.err (m.nextO i v))] ∧ Only [] w w' := by
  refine enter_side_Table_Next rfl ?_
  unfold x_side_Table_Next
  (repeat (first | with_reducible refine run_seq ?_ | with_reducible refine run_reg ?_ | with_reducible refine run_block ?_ | with_reducible refine run_blk ?_ | with_reducible refine run_skip ?_ | with_reducible refine run_exit rfl ?_ | with_reducible refine run_drw ?_ | with_reducible refine run_condT ?_ | with_reducible refine run_ret' ?_ | with_reducible refine run_end' ?_ | simp only [go_sem, ↓reduceIte, Nat.reduceAdd, Nat.reduceEqDiff, Nat.reduceBEq, reduceCtorEq, Int.reduceBEq, Int.reduceBNe, Int.reduceLT, Int.reduceLE]))
  refine callT0 (made_m h) ?_
  match m, h with
  | none, h =>
    (repeat (first | with_reducible refine run_seq ?_ | with_reducible refine run_reg ?_ | with_reducible refine run_block ?_ | with_reducible refine run_blk ?_ | with_reducible refine run_skip ?_ | with_reducible refine run_exit rfl ?_ | with_reducible refine run_drw ?_ | with_reducible refine run_condT ?_ | with_reducible refine run_ret' ?_ | with_reducible refine run_end' ?_ | simp only [go_sem, ↓reduceIte, Nat.reduceAdd, Nat.reduceEqDiff, Nat.reduceBEq, reduceCtorEq, Int.reduceBEq, Int.reduceBNe, Int.reduceLT, Int.reduceLE, Option.isSome_none]))
    exact ⟨rfl, Only.refl _ _⟩
  | some (wd, l), ⟨b, g, h1, h2, h3⟩ =>
    subst h1 h2
    have hn2 := h3.n2
    (repeat (first | with_reducible refine run_seq ?_ | with_reducible refine run_reg ?_ | with_reducible refine run_block ?_ | with_reducible refine run_blk ?_ | with_reducible refine run_skip ?_ | with_reducible refine run_exit rfl ?_ | with_reducible refine run_drw ?_ | with_reducible refine run_condT ?_ | with_reducible refine run_ret' ?_ | with_reducible refine run_end' ?_ | simp only [go_sem, ↓reduceIte, Nat.reduceAdd, Nat.reduceEqDiff, Nat.reduceBEq, reduceCtorEq, Int.reduceBEq, Int.reduceBNe, Int.reduceLT, Int.reduceLE, Option.isSome_some]))
    refine run_loop [8, 14, 15, 16, 17, 18, 19, 20, 21, 22, 23, 24, 25, 26] (fun g' w' => ∃ j : Nat, g' 8 = .int .i64 j ∧ i ≤ j ∧ (∀ q : Nat, q < j → q < l.length → i ≤ q → ¬ ((l.getD q 0 : Nat) : Int) = v) ∧ Only [] w w') (fun g' _ => upTo l.length 8 g') ⟨(max i 0).toNat, by simp only [go_sem, ↓reduceIte, Nat.reduceAdd, Nat.reduceEqDiff, Nat.reduceBEq, reduceCtorEq, Int.reduceBEq, Int.reduceBNe, Int.reduceLT, Int.reduceLE]; congr; omega, by omega, fun q h1 h2 h3 => absurd h3 (by omega), Only.refl _ _⟩ fun g' w' hI hnext => ?_
    obtain ⟨j, hj, hij, hno, ho⟩ := hI
    have h4 := h3.keep ho (by simp) (by simp)
    obtain ⟨kk, cap, hb⟩ := h4.head
    (repeat (first | with_reducible refine run_seq ?_ | with_reducible refine run_reg ?_ | with_reducible refine run_block ?_ | with_reducible refine run_blk ?_ | with_reducible refine run_skip ?_ | with_reducible refine run_exit rfl ?_ | with_reducible refine run_drw ?_ | with_reducible refine run_condT ?_ | with_reducible refine run_ret' ?_ | with_reducible refine run_end' ?_ | simp only [go_sem, ↓reduceIte, Nat.reduceAdd, Nat.reduceEqDiff, Nat.reduceBEq, reduceCtorEq, Int.reduceBEq, Int.reduceBNe, Int.reduceLT, Int.reduceLE, hj, hb.cell]))
    refine condT (fun hlt => ?_) (fun hge => ?_)
    · have hlt : j < l.length := by simpa using hlt
      (repeat (first | with_reducible refine run_seq ?_ | with_reducible refine run_reg ?_ | with_reducible refine run_block ?_ | with_reducible refine run_blk ?_ | with_reducible refine run_skip ?_ | with_reducible refine run_exit rfl ?_ | with_reducible refine run_drw ?_ | with_reducible refine run_condT ?_ | with_reducible refine run_ret' ?_ | with_reducible refine run_end' ?_ | simp only [go_sem, ↓reduceIte, Nat.reduceAdd, Nat.reduceEqDiff, Nat.reduceBEq, reduceCtorEq, Int.reduceBEq, Int.reduceBNe, Int.reduceLT, Int.reduceLE, hj]))
      refine callT1 (get_tab h4 hlt) fun w3 ho3 => ?_
      (repeat (first | with_reducible refine run_seq ?_ | with_reducible refine run_reg ?_ | with_reducible refine run_block ?_ | with_reducible refine run_blk ?_ | with_reducible refine run_skip ?_ | with_reducible refine run_exit rfl ?_ | with_reducible refine run_drw ?_ | with_reducible refine run_condT ?_ | with_reducible refine run_ret' ?_ | with_reducible refine run_end' ?_ | simp only [go_sem, ↓reduceIte, Nat.reduceAdd, Nat.reduceEqDiff, Nat.reduceBEq, reduceCtorEq, Int.reduceBEq, Int.reduceBNe, Int.reduceLT, Int.reduceLE]))
      refine condT (fun he => ?_) (fun hne => ?_)
      · have he : ((l.getD j 0 : Nat) : Int) = v := by simpa using he
        have hO : MT.nextO (some (wd, l)) i v = some j := firstI_some (by simp [hij, ← he]) hlt fun q hq => by
          by_cases hiq : i ≤ (q : Int)
          · have := hno q hq (by omega) hiq
            simp only [decide_eq_false this, Bool.and_false]
          · simp [hiq]
        (repeat (first | with_reducible refine run_seq ?_ | with_reducible refine run_reg ?_ | with_reducible refine run_block ?_ | with_reducible refine run_blk ?_ | with_reducible refine run_skip ?_ | with_reducible refine run_exit rfl ?_ | with_reducible refine run_drw ?_ | with_reducible refine run_condT ?_ | with_reducible refine run_ret' ?_ | with_reducible refine run_end' ?_ | simp only [go_sem, ↓reduceIte, Nat.reduceAdd, Nat.reduceEqDiff, Nat.reduceBEq, reduceCtorEq, Int.reduceBEq, Int.reduceBNe, Int.reduceLT, Int.reduceLE, hj]))
        rw [hO]
        exact ⟨rfl, ho.same ho3⟩
      · have hne : ¬ ((l.getD j 0 : Nat) : Int) = v := by simpa using hne
        (repeat (first | with_reducible refine run_seq ?_ | with_reducible refine run_reg ?_ | with_reducible refine run_block ?_ | with_reducible refine run_blk ?_ | with_reducible refine run_skip ?_ | with_reducible refine run_exit rfl ?_ | with_reducible refine run_drw ?_ | with_reducible refine run_condT ?_ | with_reducible refine run_ret' ?_ | with_reducible refine run_end' ?_ | simp only [go_sem, ↓reduceIte, Nat.reduceAdd, Nat.reduceEqDiff, Nat.reduceBEq, reduceCtorEq, Int.reduceBEq, Int.reduceBNe, Int.reduceLT, Int.reduceLE, hj, i64_succ j (by omega)]))
        refine hnext _ w3 ?_ ⟨j + 1, ?_, by omega, fun q h1 h2 h3 => ?_, ho.same ho3⟩ ?_
        · (repeat (first | with_reducible exact Keeps.refl _ _ | with_reducible exact Keeps.ovr _ _ _ | refine Keeps.put ?_ rfl _ | exact Keeps.refl _ _ | exact Keeps.ovr _ _ _ | refine Keeps.ovr2 ?_ rfl _))
        · simp only [go_sem, ↓reduceIte, Nat.reduceAdd, Nat.reduceEqDiff, Nat.reduceBEq, reduceCtorEq, Int.reduceBEq, Int.reduceBNe, Int.reduceLT, Int.reduceLE]
        · rcases Nat.lt_or_ge q j with h | h
          · exact hno q h h2 h3
          · have : q = j := by omega
            subst this; exact hne
        · rw [upTo_int hj, upTo_int (k := .i64) (i := j + 1) (by simp only [go_sem, ↓reduceIte, Nat.reduceAdd, Nat.reduceEqDiff, Nat.reduceBEq, reduceCtorEq, Int.reduceBEq, Int.reduceBNe, Int.reduceLT, Int.reduceLE])]; omega
    · have hge : ¬ j < l.length := by simpa using hge
      have hO : MT.nextO (some (wd, l)) i v = none := firstI_none fun q hq => by
        by_cases hiq : i ≤ (q : Int)
        · have := hno q (by omega) hq hiq
          simp only [decide_eq_false this, Bool.and_false]
        · simp [hiq]
      (repeat (first | with_reducible refine run_seq ?_ | with_reducible refine run_reg ?_ | with_reducible refine run_block ?_ | with_reducible refine run_blk ?_ | with_reducible refine run_skip ?_ | with_reducible refine run_exit rfl ?_ | with_reducible refine run_drw ?_ | with_reducible refine run_condT ?_ | with_reducible refine run_ret' ?_ | with_reducible refine run_end' ?_ | simp only [go_sem, ↓reduceIte, Nat.reduceAdd, Nat.reduceEqDiff, Nat.reduceBEq, reduceCtorEq, Int.reduceBEq, Int.reduceBNe, Int.reduceLT, Int.reduceLE]))
      rw [hO]
      exact ⟨rfl, ho⟩

/-- how far slot t is above -1 -/
def downTo (t : Nat) (g : Env) : Nat := match g t with | .int _ i => (i + 1).toNat | _ => 0
theorem downTo_int {t : Nat} {g : Env} {k : IntKind} {i : Int} (h : g t = .int k i) : downTo t g = (i + 1).toNat := by unfold downTo; rw [h]

theorem Last_m {w : World} {a : Option Addr} {S : List Nat} {m : MT} (h : Tab w a S m) (i v : Int) : Cs Try.prog 24 [.pointer a, .int .i64 i, .int .i64 v] w fun r w' => r = .tuple #[.int .i64 (optR (m.lastO i v)), .int .i64 (m.err (m.lastO i v))] ∧ Only [] w w' := by
  refine enter_side_Table_Last rfl ?_
  unfold x_side_Table_Last
  (repeat (first | with_reducible refine run_seq ?_ | with_reducible refine run_reg ?_ | with_reducible refine run_block ?_ | with_reducible refine run_blk ?_ | with_reducible refine run_skip ?_ | with_reducible refine run_exit rfl ?_ | with_reducible refine run_drw ?_ | with_reducible refine run_condT ?_ | with_reducible refine run_ret' ?_ | with_reducible refine run_end' ?_ | simp only [go_sem, ↓reduceIte, Nat.reduceAdd, Nat.reduceEqDiff, Nat.reduceBEq, reduceCtorEq, Int.reduceBEq, Int.reduceBNe, Int.reduceLT, Int.reduceLE]))
  refine callT0 (made_m h) ?_
  match m, h with
  | none, h =>
    (repeat (first | with_reducible refine run_seq ?_ | with_reducible refine run_reg ?_ | with_reducible refine run_block ?_ | with_reducible refine run_blk ?_ | with_reducible refine run_skip ?_ | with_reducible refine run_exit rfl ?_ | with_reducible refine run_drw ?_ | with_reducible refine run_condT ?_ | with_reducible refine run_ret' ?_ | with_reducible refine run_end' ?_ | simp only [go_sem, ↓reduceIte, Nat.reduceAdd, Nat.reduceEqDiff, Nat.reduceBEq, reduceCtorEq, Int.reduceBEq, Int.reduceBNe, Int.reduceLT, Int.reduceLE, Option.isSome_none]))
    exact ⟨rfl, Only.refl _ _⟩
  | some (wd, l), ⟨b, g, h1, h2, h3⟩ =>
    subst h1 h2
    have hn2 := h3.n2
    obtain ⟨kk, cap, hb⟩ := h3.head
    have hsub : IntKind.i64.wrap (min (max i 0) (l.length : Int) - 1) = min (max i 0) (l.length : Int) - 1 := IntWalk.i64_in _ (by omega)
    (repeat (first | with_reducible refine run_seq ?_ | with_reducible refine run_reg ?_ | with_reducible refine run_block ?_ | with_reducible refine run_blk ?_ | with_reducible refine run_skip ?_ | with_reducible refine run_exit rfl ?_ | with_reducible refine run_drw ?_ | with_reducible refine run_condT ?_ | with_reducible refine run_ret' ?_ | with_reducible refine run_end' ?_ | simp only [go_sem, ↓reduceIte, Nat.reduceAdd, Nat.reduceEqDiff, Nat.reduceBEq, reduceCtorEq, Int.reduceBEq, Int.reduceBNe, Int.reduceLT, Int.reduceLE, Option.isSome_some, hb.cell, hsub]))
    refine run_loop [8, 20, 21, 22, 23, 24, 25, 26, 27, 28] (fun g' w' => ∃ j : Int, g' 8 = .int .i64 j ∧ (j < i ∨ j < 0) ∧ j < l.length ∧ -1 ≤ j ∧ (∀ q : Nat, j < q → q < l.length → (q : Int) < i → ¬ ((l.getD q 0 : Nat) : Int) = v) ∧ Only [] w w') (fun g' _ => downTo 8 g') ⟨_, by simp only [go_sem, ↓reduceIte, Nat.reduceAdd, Nat.reduceEqDiff, Nat.reduceBEq, reduceCtorEq, Int.reduceBEq, Int.reduceBNe, Int.reduceLT, Int.reduceLE]; rfl, by omega, by omega, by omega, fun q h1 h2 h3 => absurd h3 (by omega), Only.refl _ _⟩ fun g' w' hI hnext => ?_
    obtain ⟨j, hj, hij, hjl, hj1, hno, ho⟩ := hI
    have h4 := h3.keep ho (by simp) (by simp)
    (repeat (first | with_reducible refine run_seq ?_ | with_reducible refine run_reg ?_ | with_reducible refine run_block ?_ | with_reducible refine run_blk ?_ | with_reducible refine run_skip ?_ | with_reducible refine run_exit rfl ?_ | with_reducible refine run_drw ?_ | with_reducible refine run_condT ?_ | with_reducible refine run_ret' ?_ | with_reducible refine run_end' ?_ | simp only [go_sem, ↓reduceIte, Nat.reduceAdd, Nat.reduceEqDiff, Nat.reduceBEq, reduceCtorEq, Int.reduceBEq, Int.reduceBNe, Int.reduceLT, Int.reduceLE, hj]))
    refine condT (fun hlt => ?_) (fun hge => ?_)
    · have hlt : 0 ≤ j := by simpa using hlt
      obtain ⟨k, rfl⟩ : ∃ k : Nat, j = k := ⟨j.toNat, by omega⟩
      (repeat (first | with_reducible refine run_seq ?_ | with_reducible refine run_reg ?_ | with_reducible refine run_block ?_ | with_reducible refine run_blk ?_ | with_reducible refine run_skip ?_ | with_reducible refine run_exit rfl ?_ | with_reducible refine run_drw ?_ | with_reducible refine run_condT ?_ | with_reducible refine run_ret' ?_ | with_reducible refine run_end' ?_ | simp only [go_sem, ↓reduceIte, Nat.reduceAdd, Nat.reduceEqDiff, Nat.reduceBEq, reduceCtorEq, Int.reduceBEq, Int.reduceBNe, Int.reduceLT, Int.reduceLE, hj]))
      refine callT1 (get_tab h4 (by omega)) fun w3 ho3 => ?_
      (repeat (first | with_reducible refine run_seq ?_ | with_reducible refine run_reg ?_ | with_reducible refine run_block ?_ | with_reducible refine run_blk ?_ | with_reducible refine run_skip ?_ | with_reducible refine run_exit rfl ?_ | with_reducible refine run_drw ?_ | with_reducible refine run_condT ?_ | with_reducible refine run_ret' ?_ | with_reducible refine run_end' ?_ | simp only [go_sem, ↓reduceIte, Nat.reduceAdd, Nat.reduceEqDiff, Nat.reduceBEq, reduceCtorEq, Int.reduceBEq, Int.reduceBNe, Int.reduceLT, Int.reduceLE]))
      refine condT (fun he => ?_) (fun hne => ?_)
      · have he : ((l.getD k 0 : Nat) : Int) = v := by simpa using he
        have hO : MT.lastO (some (wd, l)) i v = some k := lastI_some (by simp [← he]; omega) (by omega) fun q hq hq2 => by
          by_cases hiq : (q : Int) < i
          · have := hno q (by omega) hq2 hiq
            simp only [decide_eq_false this, Bool.and_false]
          · simp [hiq]
        (repeat (first | with_reducible refine run_seq ?_ | with_reducible refine run_reg ?_ | with_reducible refine run_block ?_ | with_reducible refine run_blk ?_ | with_reducible refine run_skip ?_ | with_reducible refine run_exit rfl ?_ | with_reducible refine run_drw ?_ | with_reducible refine run_condT ?_ | with_reducible refine run_ret' ?_ | with_reducible refine run_end' ?_ | simp only [go_sem, ↓reduceIte, Nat.reduceAdd, Nat.reduceEqDiff, Nat.reduceBEq, reduceCtorEq, Int.reduceBEq, Int.reduceBNe, Int.reduceLT, Int.reduceLE, hj]))
        rw [hO]
        exact ⟨rfl, ho.same ho3⟩
      · have hne : ¬ ((l.getD k 0 : Nat) : Int) = v := by simpa using hne
        have hsub : IntKind.i64.wrap ((k : Int) - 1) = (k : Int) - 1 := IntWalk.i64_in _ (by omega)
        (repeat (first | with_reducible refine run_seq ?_ | with_reducible refine run_reg ?_ | with_reducible refine run_block ?_ | with_reducible refine run_blk ?_ | with_reducible refine run_skip ?_ | with_reducible refine run_exit rfl ?_ | with_reducible refine run_drw ?_ | with_reducible refine run_condT ?_ | with_reducible refine run_ret' ?_ | with_reducible refine run_end' ?_ | simp only [go_sem, ↓reduceIte, Nat.reduceAdd, Nat.reduceEqDiff, Nat.reduceBEq, reduceCtorEq, Int.reduceBEq, Int.reduceBNe, Int.reduceLT, Int.reduceLE, hj, hsub]))
        refine hnext _ w3 ?_ ⟨(k : Int) - 1, ?_, by omega, by omega, by omega, fun q h1 h2 h3 => ?_, ho.same ho3⟩ ?_
        · (repeat (first | with_reducible exact Keeps.refl _ _ | with_reducible exact Keeps.ovr _ _ _ | refine Keeps.put ?_ rfl _ | exact Keeps.refl _ _ | exact Keeps.ovr _ _ _ | refine Keeps.ovr2 ?_ rfl _))
        · simp only [go_sem, ↓reduceIte, Nat.reduceAdd, Nat.reduceEqDiff, Nat.reduceBEq, reduceCtorEq, Int.reduceBEq, Int.reduceBNe, Int.reduceLT, Int.reduceLE]
        · rcases Nat.lt_or_ge k q with h | h
          · exact hno q (by omega) h2 h3
          · have : q = k := by omega
            subst this; exact hne
        · rw [downTo_int hj, downTo_int (k := .i64) (i := (k : Int) - 1) (by simp only [go_sem, ↓reduceIte, Nat.reduceAdd, Nat.reduceEqDiff, Nat.reduceBEq, reduceCtorEq, Int.reduceBEq, Int.reduceBNe, Int.reduceLT, Int.reduceLE])]; omega
    · have hge : ¬ 0 ≤ j := by simpa using hge
      have hO : MT.lastO (some (wd, l)) i v = none := lastI_none fun q hq => by
        by_cases hiq : (q : Int) < i
        · have := hno q (by omega) hq hiq
          simp only [decide_eq_false this, Bool.and_false]
        · simp [hiq]
      (repeat (first | with_reducible refine run_seq ?_ | with_reducible refine run_reg ?_ | with_reducible refine run_block ?_ | with_reducible refine run_blk ?_ | with_reducible refine run_skip ?_ | with_reducible refine run_exit rfl ?_ | with_reducible refine run_drw ?_ | with_reducible refine run_condT ?_ | with_reducible refine run_ret' ?_ | with_reducible refine run_end' ?_ | simp only [go_sem, ↓reduceIte, Nat.reduceAdd, Nat.reduceEqDiff, Nat.reduceBEq, reduceCtorEq, Int.reduceBEq, Int.reduceBNe, Int.reduceLT, Int.reduceLE]))
      rw [hO]
      exact ⟨rfl, ho⟩
end Go.Proofs.Ythalhkhjacjhgaa
