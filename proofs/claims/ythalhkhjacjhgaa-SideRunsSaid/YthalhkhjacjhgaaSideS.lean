/- The reference's tables: Fill, Add, Next, Last. -/
import Derived.Test.YthalhkhjacjhgaaSideR
namespace Go.Proofs.Ythalhkhjacjhgaa
set_option linter.unusedSimpArgs false
set_option linter.unusedVariables false
set_option maxRecDepth 8000

theorem rFill {w : World} {a : Option Addr} {S : List Nat} {m : MT} (h : RT w a S m) (i size v : Int) : Cs Try.prog 50 [.pointer a, .int .i64 i, .int .i64 size, .int .i64 v] w fun r w' => r = .int .i64 (m.fillE i size v) ∧ RT w' a S (m.fillM i size v) ∧ Only S w w' := by
  refine enter_ref01_Table_Fill rfl ?_
  unfold x_ref01_Table_Fill
  (repeat (first | with_reducible refine run_seq ?_ | with_reducible refine run_reg ?_ | with_reducible refine run_block ?_ | with_reducible refine run_blk ?_ | with_reducible refine run_skip ?_ | with_reducible refine run_exit rfl ?_ | with_reducible refine run_drw ?_ | with_reducible refine run_condT ?_ | with_reducible refine run_ret' ?_ | with_reducible refine run_end' ?_ | simp only [go_sem, ↓reduceIte, Nat.reduceAdd, Nat.reduceEqDiff, Nat.reduceBEq, reduceCtorEq, Int.reduceBEq, Int.reduceBNe, Int.reduceLT, Int.reduceLE]))
  refine callT0 (rmade h) ?_
  match m, h with
  | none, h =>
    (repeat (first | with_reducible refine run_seq ?_ | with_reducible refine run_reg ?_ | with_reducible refine run_block ?_ | with_reducible refine run_blk ?_ | with_reducible refine run_skip ?_ | with_reducible refine run_exit rfl ?_ | with_reducible refine run_drw ?_ | with_reducible refine run_condT ?_ | with_reducible refine run_ret' ?_ | with_reducible refine run_end' ?_ | simp only [go_sem, ↓reduceIte, Nat.reduceAdd, Nat.reduceEqDiff, Nat.reduceBEq, reduceCtorEq, Int.reduceBEq, Int.reduceBNe, Int.reduceLT, Int.reduceLE, Option.isSome_none]))
    exact ⟨rfl, h, Only.refl _ _⟩
  | some (wd, l), ⟨b, g, h1, h2, h3⟩ =>
    subst h1 h2
    obtain ⟨cap, rest, e2, e3, e4⟩ := h3.mem
    have hn2 := h3.n2
    have bad : ∀ (_ : MT.fillE (some (wd, l)) i size v = 1), (Value.int .i64 1 = Value.int .i64 (MT.fillE (some (wd, l)) i size v) ∧ RT w (some ⟨b, 0, none⟩) [b, g] (MT.fillM (some (wd, l)) i size v) ∧ Only [b, g] w w) := fun e =>
      ⟨by rw [e], by simp only [MT.fillM, e]; exact .mk h3, Only.refl _ _⟩
    (repeat (first | with_reducible refine run_seq ?_ | with_reducible refine run_reg ?_ | with_reducible refine run_block ?_ | with_reducible refine run_blk ?_ | with_reducible refine run_skip ?_ | with_reducible refine run_exit rfl ?_ | with_reducible refine run_drw ?_ | with_reducible refine run_condT ?_ | with_reducible refine run_ret' ?_ | with_reducible refine run_end' ?_ | simp only [go_sem, ↓reduceIte, Nat.reduceAdd, Nat.reduceEqDiff, Nat.reduceBEq, reduceCtorEq, Int.reduceBEq, Int.reduceBNe, Int.reduceLT, Int.reduceLE, Option.isSome_some]))
    by_cases c1 : i < 0
    · (repeat (first | with_reducible refine run_seq ?_ | with_reducible refine run_reg ?_ | with_reducible refine run_block ?_ | with_reducible refine run_blk ?_ | with_reducible refine run_skip ?_ | with_reducible refine run_exit rfl ?_ | with_reducible refine run_drw ?_ | with_reducible refine run_condT ?_ | with_reducible refine run_ret' ?_ | with_reducible refine run_end' ?_ | simp only [go_sem, ↓reduceIte, Nat.reduceAdd, Nat.reduceEqDiff, Nat.reduceBEq, reduceCtorEq, Int.reduceBEq, Int.reduceBNe, Int.reduceLT, Int.reduceLE, decide_eq_true c1]))
      have hh : hasB l.length i = false := by simp [hasB]; omega
      exact bad (by simp [MT.fillE, MT.check, hh])
    by_cases c2 : size < 1
    · (repeat (first | with_reducible refine run_seq ?_ | with_reducible refine run_reg ?_ | with_reducible refine run_block ?_ | with_reducible refine run_blk ?_ | with_reducible refine run_skip ?_ | with_reducible refine run_exit rfl ?_ | with_reducible refine run_drw ?_ | with_reducible refine run_condT ?_ | with_reducible refine run_ret' ?_ | with_reducible refine run_end' ?_ | simp only [go_sem, ↓reduceIte, Nat.reduceAdd, Nat.reduceEqDiff, Nat.reduceBEq, reduceCtorEq, Int.reduceBEq, Int.reduceBNe, Int.reduceLT, Int.reduceLE, decide_eq_false c1, decide_eq_true c2]))
      refine bad ?_
      simp only [MT.fillE]
      rcases MT.check_cases (wd := wd) (l := l) (i := i) (vs := [v]) with ⟨e, _⟩ | ⟨e, _⟩
      · rw [if_pos e, if_pos (.inl c2)]
      · rw [e]; rfl
    by_cases c3 : (l.length : Int) ≤ i
    · (repeat (first | with_reducible refine run_seq ?_ | with_reducible refine run_reg ?_ | with_reducible refine run_block ?_ | with_reducible refine run_blk ?_ | with_reducible refine run_skip ?_ | with_reducible refine run_exit rfl ?_ | with_reducible refine run_drw ?_ | with_reducible refine run_condT ?_ | with_reducible refine run_ret' ?_ | with_reducible refine run_end' ?_ | simp only [go_sem, ↓reduceIte, Nat.reduceAdd, Nat.reduceEqDiff, Nat.reduceBEq, reduceCtorEq, Int.reduceBEq, Int.reduceBNe, Int.reduceLT, Int.reduceLE, decide_eq_false c1, decide_eq_false c2, e2.cell, decide_eq_true c3]))
      have hh : hasB l.length i = false := by simp [hasB]; omega
      exact bad (by simp [MT.fillE, MT.check, hh])
    obtain ⟨k, rfl⟩ : ∃ k : Nat, i = k := ⟨i.toNat, by omega⟩
    obtain ⟨s, rfl⟩ : ∃ k : Nat, size = k := ⟨size.toNat, by omega⟩
    have hh : hasB l.length (k : Int) = true := hasB_of (by omega)
    have hsub : IntKind.i64.wrap ((l.length : Int) - k) = (l.length : Int) - k := IntWalk.i64_in _ (by omega)
    by_cases c4 : (l.length : Int) - k < s
    · (repeat (first | with_reducible refine run_seq ?_ | with_reducible refine run_reg ?_ | with_reducible refine run_block ?_ | with_reducible refine run_blk ?_ | with_reducible refine run_skip ?_ | with_reducible refine run_exit rfl ?_ | with_reducible refine run_drw ?_ | with_reducible refine run_condT ?_ | with_reducible refine run_ret' ?_ | with_reducible refine run_end' ?_ | simp only [go_sem, ↓reduceIte, Nat.reduceAdd, Nat.reduceEqDiff, Nat.reduceBEq, reduceCtorEq, Int.reduceBEq, Int.reduceBNe, Int.reduceLT, Int.reduceLE, decide_eq_false c1, decide_eq_false c2, e2.cell, decide_eq_false c3, hsub, decide_eq_true c4]))
      refine bad ?_
      simp only [MT.fillE]
      rcases MT.check_cases (wd := wd) (l := l) (i := (k : Int)) (vs := [v]) with ⟨e, _⟩ | ⟨e, _⟩
      · rw [if_pos e, if_pos (.inr c4)]
      · rw [e]; rfl
    (repeat (first | with_reducible refine run_seq ?_ | with_reducible refine run_reg ?_ | with_reducible refine run_block ?_ | with_reducible refine run_blk ?_ | with_reducible refine run_skip ?_ | with_reducible refine run_exit rfl ?_ | with_reducible refine run_drw ?_ | with_reducible refine run_condT ?_ | with_reducible refine run_ret' ?_ | with_reducible refine run_end' ?_ | simp only [go_sem, ↓reduceIte, Nat.reduceAdd, Nat.reduceEqDiff, Nat.reduceBEq, reduceCtorEq, Int.reduceBEq, Int.reduceBNe, Int.reduceLT, Int.reduceLE, decide_eq_false c1, decide_eq_false c2, e2.cell, decide_eq_false c3, hsub, decide_eq_false c4]))
    by_cases c5 : mayB wd v = true
    · refine callT0 (rmay h3 c5) ?_
      obtain ⟨x, rfl, hx⟩ := mayB_nat c5
      have e : MT.check (some (wd, l)) (k : Int) [(x : Int)] = 0 := by simp [MT.check, hh, c5]
      have hE : MT.fillE (some (wd, l)) (k : Int) s (x : Int) = 0 := by simp only [MT.fillE, e, if_true, if_neg (not_or.2 ⟨c2, c4⟩)]
      (repeat (first | with_reducible refine run_seq ?_ | with_reducible refine run_reg ?_ | with_reducible refine run_block ?_ | with_reducible refine run_blk ?_ | with_reducible refine run_skip ?_ | with_reducible refine run_exit rfl ?_ | with_reducible refine run_drw ?_ | with_reducible refine run_condT ?_ | with_reducible refine run_ret' ?_ | with_reducible refine run_end' ?_ | simp only [go_sem, ↓reduceIte, Nat.reduceAdd, Nat.reduceEqDiff, Nat.reduceBEq, reduceCtorEq, Int.reduceBEq, Int.reduceBNe, Int.reduceLT, Int.reduceLE]))
      refine run_loop [9, 46, 47, 48, 49, 50, 51, 52, 53, 54, 55, 56, 57, 58, 59] (fun g' w' => ∃ j : Nat, g' 9 = .int .i64 ((k + j : Nat) : Int) ∧ j ≤ s ∧ RTab w' b g wd (fillN l k x j) ∧ Only [g] w w') (fun g' _ => upTo (k + s) 9 g') ⟨0, by simp only [go_sem, ↓reduceIte, Nat.reduceAdd, Nat.reduceEqDiff, Nat.reduceBEq, reduceCtorEq, Int.reduceBEq, Int.reduceBNe, Int.reduceLT, Int.reduceLE], by omega, h3, Only.refl _ _⟩ fun g' w' hI hnext => ?_
      obtain ⟨j, hj, hjs, h4, ho4⟩ := hI
      have hl := fillN_len l k x j
      obtain ⟨cap', rest', f2, f3, f4⟩ := h4.mem
      have hadd : IntKind.i64.wrap ((k : Int) + s) = ((k + s : Nat) : Int) := i64_of_nat (k + s) (by omega)
      (repeat (first | with_reducible refine run_seq ?_ | with_reducible refine run_reg ?_ | with_reducible refine run_block ?_ | with_reducible refine run_blk ?_ | with_reducible refine run_skip ?_ | with_reducible refine run_exit rfl ?_ | with_reducible refine run_drw ?_ | with_reducible refine run_condT ?_ | with_reducible refine run_ret' ?_ | with_reducible refine run_end' ?_ | simp only [go_sem, ↓reduceIte, Nat.reduceAdd, Nat.reduceEqDiff, Nat.reduceBEq, reduceCtorEq, Int.reduceBEq, Int.reduceBNe, Int.reduceLT, Int.reduceLE, hj, hadd]))
      refine condT (fun hlt => ?_) (fun hge => ?_)
      · have hlt : j < s := by have : ((k + j : Nat) : Int) < ((k + s : Nat) : Int) := by simpa using hlt
                               omega
        have d1 : (0 : Int) ≤ ((k + j : Nat) : Int) ∧ ((k + j : Nat) : Int) < (l.length : Int) := ⟨by omega, by omega⟩
        (repeat (first | with_reducible refine run_seq ?_ | with_reducible refine run_reg ?_ | with_reducible refine run_block ?_ | with_reducible refine run_blk ?_ | with_reducible refine run_skip ?_ | with_reducible refine run_exit rfl ?_ | with_reducible refine run_drw ?_ | with_reducible refine run_condT ?_ | with_reducible refine run_ret' ?_ | with_reducible refine run_end' ?_ | simp only [go_sem, ↓reduceIte, Nat.reduceAdd, Nat.reduceEqDiff, Nat.reduceBEq, reduceCtorEq, Int.reduceBEq, Int.reduceBNe, Int.reduceLT, Int.reduceLE, hj, f2.cell, hl, if_pos d1, Int.toNat_natCast, Nat.mul_one]))
        refine stT f3 (by simp [nats, hl]; omega) rfl fun w5 hs5 ha ho5 => ?_
        (repeat (first | with_reducible refine run_seq ?_ | with_reducible refine run_reg ?_ | with_reducible refine run_block ?_ | with_reducible refine run_blk ?_ | with_reducible refine run_skip ?_ | with_reducible refine run_exit rfl ?_ | with_reducible refine run_drw ?_ | with_reducible refine run_condT ?_ | with_reducible refine run_ret' ?_ | with_reducible refine run_end' ?_ | simp only [go_sem, ↓reduceIte, Nat.reduceAdd, Nat.reduceEqDiff, Nat.reduceBEq, reduceCtorEq, Int.reduceBEq, Int.reduceBNe, Int.reduceLT, Int.reduceLE, hj, i64_succ (k + j) (by omega)]))
        refine hnext _ w5 ?_ ⟨j + 1, ?_, by omega, h4.put (by rw [hl]; omega) hx f3 ha ho5, ho4.same ho5⟩ ?_
        · (repeat (first | with_reducible exact Keeps.refl _ _ | with_reducible exact Keeps.ovr _ _ _ | refine Keeps.put ?_ rfl _ | exact Keeps.refl _ _ | exact Keeps.ovr _ _ _ | refine Keeps.ovr2 ?_ rfl _))
        · simp only [go_sem, ↓reduceIte, Nat.reduceAdd, Nat.reduceEqDiff, Nat.reduceBEq, reduceCtorEq, Int.reduceBEq, Int.reduceBNe, Int.reduceLT, Int.reduceLE, Nat.add_assoc]
        · rw [upTo_int hj, upTo_int (k := .i64) (i := k + j + 1) (by simp only [go_sem, ↓reduceIte, Nat.reduceAdd, Nat.reduceEqDiff, Nat.reduceBEq, reduceCtorEq, Int.reduceBEq, Int.reduceBNe, Int.reduceLT, Int.reduceLE])]; omega
      · have hge : ¬ j < s := by have : ¬ ((k + j : Nat) : Int) < ((k + s : Nat) : Int) := by simpa using hge
                                 omega
        have : j = s := by omega
        subst this
        (repeat (first | with_reducible refine run_seq ?_ | with_reducible refine run_reg ?_ | with_reducible refine run_block ?_ | with_reducible refine run_blk ?_ | with_reducible refine run_skip ?_ | with_reducible refine run_exit rfl ?_ | with_reducible refine run_drw ?_ | with_reducible refine run_condT ?_ | with_reducible refine run_ret' ?_ | with_reducible refine run_end' ?_ | simp only [go_sem, ↓reduceIte, Nat.reduceAdd, Nat.reduceEqDiff, Nat.reduceBEq, reduceCtorEq, Int.reduceBEq, Int.reduceBNe, Int.reduceLT, Int.reduceLE]))
        exact ⟨by rw [hE], by simp only [MT.fillM, hE, if_true, Int.toNat_natCast]; exact .mk h4, ho4.g⟩
    · rw [Bool.not_eq_true] at c5
      refine callT0 (rmay h3 c5) ?_
      (repeat (first | with_reducible refine run_seq ?_ | with_reducible refine run_reg ?_ | with_reducible refine run_block ?_ | with_reducible refine run_blk ?_ | with_reducible refine run_skip ?_ | with_reducible refine run_exit rfl ?_ | with_reducible refine run_drw ?_ | with_reducible refine run_condT ?_ | with_reducible refine run_ret' ?_ | with_reducible refine run_end' ?_ | simp only [go_sem, ↓reduceIte, Nat.reduceAdd, Nat.reduceEqDiff, Nat.reduceBEq, reduceCtorEq, Int.reduceBEq, Int.reduceBNe, Int.reduceLT, Int.reduceLE]))
      exact bad (by simp [MT.fillE, MT.check, hh, c5])

theorem rAdd {w : World} {a : Option Addr} {S : List Nat} {m : MT} (h : RT w a S m) (i d : Int) : Cs Try.prog 52 [.pointer a, .int .i64 i, .int .i64 d] w fun r w' => r = .tuple #[.int .i64 (m.addR i d), .int .i64 (m.addE i d)] ∧ RT w' a S (m.addM i d) ∧ Only S w w' := by
  refine enter_ref01_Table_Add rfl ?_
  unfold x_ref01_Table_Add
  (repeat (first | with_reducible refine run_seq ?_ | with_reducible refine run_reg ?_ | with_reducible refine run_block ?_ | with_reducible refine run_blk ?_ | with_reducible refine run_skip ?_ | with_reducible refine run_exit rfl ?_ | with_reducible refine run_drw ?_ | with_reducible refine run_condT ?_ | with_reducible refine run_ret' ?_ | with_reducible refine run_end' ?_ | simp only [go_sem, ↓reduceIte, Nat.reduceAdd, Nat.reduceEqDiff, Nat.reduceBEq, reduceCtorEq, Int.reduceBEq, Int.reduceBNe, Int.reduceLT, Int.reduceLE]))
  refine callT0 (rmade h) ?_
  match m, h with
  | none, h =>
    (repeat (first | with_reducible refine run_seq ?_ | with_reducible refine run_reg ?_ | with_reducible refine run_block ?_ | with_reducible refine run_blk ?_ | with_reducible refine run_skip ?_ | with_reducible refine run_exit rfl ?_ | with_reducible refine run_drw ?_ | with_reducible refine run_condT ?_ | with_reducible refine run_ret' ?_ | with_reducible refine run_end' ?_ | simp only [go_sem, ↓reduceIte, Nat.reduceAdd, Nat.reduceEqDiff, Nat.reduceBEq, reduceCtorEq, Int.reduceBEq, Int.reduceBNe, Int.reduceLT, Int.reduceLE, Option.isSome_none]))
    exact ⟨rfl, h, Only.refl _ _⟩
  | some (wd, l), ⟨b, g, h1, h2, h3⟩ =>
    subst h1 h2
    obtain ⟨cap, rest, e2, e3, e4⟩ := h3.mem
    have hw := h3.hw
    have hn2 := h3.n2
    (repeat (first | with_reducible refine run_seq ?_ | with_reducible refine run_reg ?_ | with_reducible refine run_block ?_ | with_reducible refine run_blk ?_ | with_reducible refine run_skip ?_ | with_reducible refine run_exit rfl ?_ | with_reducible refine run_drw ?_ | with_reducible refine run_condT ?_ | with_reducible refine run_ret' ?_ | with_reducible refine run_end' ?_ | simp only [go_sem, ↓reduceIte, Nat.reduceAdd, Nat.reduceEqDiff, Nat.reduceBEq, reduceCtorEq, Int.reduceBEq, Int.reduceBNe, Int.reduceLT, Int.reduceLE, Option.isSome_some]))
    rcases MT.check_cases (wd := wd) (l := l) (i := i) (vs := []) with ⟨e, q1, q2⟩ | ⟨e, q1⟩
    · obtain ⟨k, rfl, hk⟩ := hasB_nat q1
      refine callT0 (rhas h3 q1) ?_
      by_cases hbad : d < -255 ∨ 255 < d
      · have hE : MT.addE (some (wd, l)) (k : Int) d = 1 := by simp only [MT.addE, e, if_true, if_pos hbad]
        have hR : MT.addR (some (wd, l)) (k : Int) d = 0 := by simp only [MT.addR, hE]; rfl
        have hM : MT.addM (some (wd, l)) (k : Int) d = some (wd, l) := by simp only [MT.addM, hE]; rfl
        rw [hE, hR, hM]
        by_cases hs1 : d < -255
        · (repeat (first | with_reducible refine run_seq ?_ | with_reducible refine run_reg ?_ | with_reducible refine run_block ?_ | with_reducible refine run_blk ?_ | with_reducible refine run_skip ?_ | with_reducible refine run_exit rfl ?_ | with_reducible refine run_drw ?_ | with_reducible refine run_condT ?_ | with_reducible refine run_ret' ?_ | with_reducible refine run_end' ?_ | simp only [go_sem, ↓reduceIte, Nat.reduceAdd, Nat.reduceEqDiff, Nat.reduceBEq, reduceCtorEq, Int.reduceBEq, Int.reduceBNe, Int.reduceLT, Int.reduceLE, decide_eq_true hs1]))
          exact ⟨.mk h3, Only.refl _ _⟩
        · have hs2 := hbad.resolve_left hs1
          (repeat (first | with_reducible refine run_seq ?_ | with_reducible refine run_reg ?_ | with_reducible refine run_block ?_ | with_reducible refine run_blk ?_ | with_reducible refine run_skip ?_ | with_reducible refine run_exit rfl ?_ | with_reducible refine run_drw ?_ | with_reducible refine run_condT ?_ | with_reducible refine run_ret' ?_ | with_reducible refine run_end' ?_ | simp only [go_sem, ↓reduceIte, Nat.reduceAdd, Nat.reduceEqDiff, Nat.reduceBEq, reduceCtorEq, Int.reduceBEq, Int.reduceBNe, Int.reduceLT, Int.reduceLE, decide_eq_false hs1, decide_eq_true hs2]))
          exact ⟨.mk h3, Only.refl _ _⟩
      · have hE : MT.addE (some (wd, l)) (k : Int) d = 0 := by simp only [MT.addE, e, if_true, if_neg hbad]
        have hR : MT.addR (some (wd, l)) (k : Int) d = ((addV wd (l.getD k 0) d : Nat) : Int) := by simp only [MT.addR, hE, if_true, Int.toNat_natCast]
        have hM : MT.addM (some (wd, l)) (k : Int) d = some (wd, l.set k (addV wd (l.getD k 0) d)) := by simp only [MT.addM, hE, if_true, Int.toNat_natCast]
        have hs1 : ¬ d < -255 := fun h => hbad (.inl h)
        have hs2 : ¬ 255 < d := fun h => hbad (.inr h)
        rw [hE, hR, hM]
        have c1 : (0 : Int) ≤ (k : Int) ∧ (k : Int) < (l.length : Int) := ⟨by omega, by omega⟩
        (repeat (first | with_reducible refine run_seq ?_ | with_reducible refine run_reg ?_ | with_reducible refine run_block ?_ | with_reducible refine run_blk ?_ | with_reducible refine run_skip ?_ | with_reducible refine run_exit rfl ?_ | with_reducible refine run_drw ?_ | with_reducible refine run_condT ?_ | with_reducible refine run_ret' ?_ | with_reducible refine run_end' ?_ | simp only [go_sem, ↓reduceIte, Nat.reduceAdd, Nat.reduceEqDiff, Nat.reduceBEq, reduceCtorEq, Int.reduceBEq, Int.reduceBNe, Int.reduceLT, Int.reduceLE, decide_eq_false hs1, decide_eq_false hs2, e2.cell, e3.cell, if_pos c1, Int.toNat_natCast, Nat.mul_one, nats_get rest hk]))
        have hm8 : 2 ^ wd - 1 < 256 := by rcases hw with rfl | rfl | rfl | rfl <;> decide
        have hx := h3.el k
        generalize hxx : l.getD k 0 = x at hx ⊢
        refine condT (fun hlt => ?_) (fun hge => ?_)
        · have hlt : ¬ (x : Int) = ((2 ^ wd - 1 : Nat) : Int) := by simpa using hlt
          have hadd : IntKind.i64.wrap ((x : Int) + d) = x + d := IntWalk.i64_in _ (by omega)
          have hv : addV wd x d = (min (max ((x : Int) + d) 0) ((2 ^ wd - 1 : Nat) : Int)).toNat := if_pos (by omega)
          have hv2 : max 0 (min ((2 ^ wd - 1 : Nat) : Int) ((x : Int) + d)) = ((addV wd x d : Nat) : Int) := by rw [hv]; omega
          have hv3 : addV wd x d < 2 ^ wd := by rw [hv]; have := Nat.two_pow_pos wd; omega
          (repeat (first | with_reducible refine run_seq ?_ | with_reducible refine run_reg ?_ | with_reducible refine run_block ?_ | with_reducible refine run_blk ?_ | with_reducible refine run_skip ?_ | with_reducible refine run_exit rfl ?_ | with_reducible refine run_drw ?_ | with_reducible refine run_condT ?_ | with_reducible refine run_ret' ?_ | with_reducible refine run_end' ?_ | simp only [go_sem, ↓reduceIte, Nat.reduceAdd, Nat.reduceEqDiff, Nat.reduceBEq, reduceCtorEq, Int.reduceBEq, Int.reduceBNe, Int.reduceLT, Int.reduceLE, e2.cell, e3.cell, if_pos c1, Int.toNat_natCast, Nat.mul_one, nats_get rest hk, hxx, hadd, hv2]))
          refine stT (vs := nats l ++ rest) e3 (by simp [nats]; omega) rfl fun w' hs ha ho => ?_
          have h5 := RTab.put h3 hk hv3 e3 ha ⟨ho.os, ho.tape, ho.output, ho.size, ho.block⟩
          obtain ⟨cap', rest', f2, f3, f4⟩ := h5.mem
          have d1 : (0 : Int) ≤ (k : Int) ∧ (k : Int) < ((l.set k (addV wd x d)).length : Int) := ⟨by omega, by simp; omega⟩
          have hg : (l.set k (addV wd x d)).getD k 0 = addV wd x d := by rw [getD_set]; simp [hk]
          (repeat (first | with_reducible refine run_seq ?_ | with_reducible refine run_reg ?_ | with_reducible refine run_block ?_ | with_reducible refine run_blk ?_ | with_reducible refine run_skip ?_ | with_reducible refine run_exit rfl ?_ | with_reducible refine run_drw ?_ | with_reducible refine run_condT ?_ | with_reducible refine run_ret' ?_ | with_reducible refine run_end' ?_ | simp only [go_sem, ↓reduceIte, Nat.reduceAdd, Nat.reduceEqDiff, Nat.reduceBEq, reduceCtorEq, Int.reduceBEq, Int.reduceBNe, Int.reduceLT, Int.reduceLE, f2.cell, f3.cell, if_pos d1, Int.toNat_natCast, Nat.mul_one, nats_get rest' (show k < (l.set k (addV wd x d)).length by simp; omega), hg]))
          exact ⟨.mk h5, Only.g ⟨ho.os, ho.tape, ho.output, ho.size, ho.block⟩⟩
        · have hge : (x : Int) = ((2 ^ wd - 1 : Nat) : Int) := by simpa using hge
          have hv : addV wd x d = x := if_neg (by omega)
          have hset : l.set k x = l := by
            apply List.ext_getElem (by simp)
            intro j h1 h2
            rw [List.getElem_set]
            split
            · rename_i e; subst e; rw [← hxx]; simp [h2]
            · rfl
          (repeat (first | with_reducible refine run_seq ?_ | with_reducible refine run_reg ?_ | with_reducible refine run_block ?_ | with_reducible refine run_blk ?_ | with_reducible refine run_skip ?_ | with_reducible refine run_exit rfl ?_ | with_reducible refine run_drw ?_ | with_reducible refine run_condT ?_ | with_reducible refine run_ret' ?_ | with_reducible refine run_end' ?_ | simp only [go_sem, ↓reduceIte, Nat.reduceAdd, Nat.reduceEqDiff, Nat.reduceBEq, reduceCtorEq, Int.reduceBEq, Int.reduceBNe, Int.reduceLT, Int.reduceLE, e2.cell, e3.cell, if_pos c1, Int.toNat_natCast, Nat.mul_one, nats_get rest hk, hxx]))
          rw [hv, hset]
          exact ⟨rfl, .mk (h3.keep (Only.drew [] w) (by simp) (by simp)), Only.drew _ _⟩
    · have hE : MT.addE (some (wd, l)) i d = 1 := by simp [MT.addE, e]
      have hR : MT.addR (some (wd, l)) i d = 0 := by simp only [MT.addR, hE]; rfl
      have hM : MT.addM (some (wd, l)) i d = some (wd, l) := by simp only [MT.addM, hE]; rfl
      rw [hE, hR, hM]
      refine callT0 (rhas h3 (t := false) (by simpa using q1)) ?_
      (repeat (first | with_reducible refine run_seq ?_ | with_reducible refine run_reg ?_ | with_reducible refine run_block ?_ | with_reducible refine run_blk ?_ | with_reducible refine run_skip ?_ | with_reducible refine run_exit rfl ?_ | with_reducible refine run_drw ?_ | with_reducible refine run_condT ?_ | with_reducible refine run_ret' ?_ | with_reducible refine run_end' ?_ | simp only [go_sem, ↓reduceIte, Nat.reduceAdd, Nat.reduceEqDiff, Nat.reduceBEq, reduceCtorEq, Int.reduceBEq, Int.reduceBNe, Int.reduceLT, Int.reduceLE]))
      exact ⟨.mk h3, Only.refl _ _⟩

theorem rNext {w : World} {a : Option Addr} {S : List Nat} {m : MT} (h : RT w a S m) (i v : Int) : Cs Try.prog 53 [.pointer a, .int .i64 i, .int .i64 v] w fun r w' => r = .tuple #[.int .i64 (optR (m.nextO i v)), .int .i64 (m.err (m.nextO i v))] ∧ Only [] w w' := by
  refine enter_ref01_Table_Next rfl ?_
  unfold x_ref01_Table_Next
  (repeat (first | with_reducible refine run_seq ?_ | with_reducible refine run_reg ?_ | with_reducible refine run_block ?_ | with_reducible refine run_blk ?_ | with_reducible refine run_skip ?_ | with_reducible refine run_exit rfl ?_ | with_reducible refine run_drw ?_ | with_reducible refine run_condT ?_ | with_reducible refine run_ret' ?_ | with_reducible refine run_end' ?_ | simp only [go_sem, ↓reduceIte, Nat.reduceAdd, Nat.reduceEqDiff, Nat.reduceBEq, reduceCtorEq, Int.reduceBEq, Int.reduceBNe, Int.reduceLT, Int.reduceLE]))
  refine callT0 (rmade h) ?_
  match m, h with
  | none, h =>
    (repeat (first | with_reducible refine run_seq ?_ | with_reducible refine run_reg ?_ | with_reducible refine run_block ?_ | with_reducible refine run_blk ?_ | with_reducible refine run_skip ?_ | with_reducible refine run_exit rfl ?_ | with_reducible refine run_drw ?_ | with_reducible refine run_condT ?_ | with_reducible refine run_ret' ?_ | with_reducible refine run_end' ?_ | simp only [go_sem, ↓reduceIte, Nat.reduceAdd, Nat.reduceEqDiff, Nat.reduceBEq, reduceCtorEq, Int.reduceBEq, Int.reduceBNe, Int.reduceLT, Int.reduceLE, Option.isSome_none]))
    exact ⟨rfl, Only.refl _ _⟩
  | some (wd, l), ⟨b, g, h1, h2, h3⟩ =>
    subst h1 h2
    have hn2 := h3.n2
    (repeat (first | with_reducible refine run_seq ?_ | with_reducible refine run_reg ?_ | with_reducible refine run_block ?_ | with_reducible refine run_blk ?_ | with_reducible refine run_skip ?_ | with_reducible refine run_exit rfl ?_ | with_reducible refine run_drw ?_ | with_reducible refine run_condT ?_ | with_reducible refine run_ret' ?_ | with_reducible refine run_end' ?_ | simp only [go_sem, ↓reduceIte, Nat.reduceAdd, Nat.reduceEqDiff, Nat.reduceBEq, reduceCtorEq, Int.reduceBEq, Int.reduceBNe, Int.reduceLT, Int.reduceLE, Option.isSome_some]))
    refine run_loop [8, 12, 13, 14, 15, 16, 17, 18, 19, 20, 21, 22, 23, 24, 25, 26, 27, 28, 29, 30, 31, 32, 33, 34] (fun g' w' => ∃ j : Nat, g' 8 = .int .i64 j ∧ j ≤ l.length ∧ (∀ q : Nat, q < j → (decide (i ≤ (q : Int)) && decide (((l.getD q 0 : Nat) : Int) = v)) = false) ∧ Only [] w w') (fun g' _ => upTo l.length 8 g') ⟨0, by simp only [go_sem, ↓reduceIte, Nat.reduceAdd, Nat.reduceEqDiff, Nat.reduceBEq, reduceCtorEq, Int.reduceBEq, Int.reduceBNe, Int.reduceLT, Int.reduceLE]; rfl, by omega, fun q h1 => absurd h1 (by omega), Only.refl _ _⟩ fun g' w' hI hnext => ?_
    obtain ⟨j, hj, hjl, hno, ho⟩ := hI
    obtain ⟨cap, rest, f2, f3, f4⟩ := (h3.keep ho (by simp) (by simp)).mem
    (repeat (first | with_reducible refine run_seq ?_ | with_reducible refine run_reg ?_ | with_reducible refine run_block ?_ | with_reducible refine run_blk ?_ | with_reducible refine run_skip ?_ | with_reducible refine run_exit rfl ?_ | with_reducible refine run_drw ?_ | with_reducible refine run_condT ?_ | with_reducible refine run_ret' ?_ | with_reducible refine run_end' ?_ | simp only [go_sem, ↓reduceIte, Nat.reduceAdd, Nat.reduceEqDiff, Nat.reduceBEq, reduceCtorEq, Int.reduceBEq, Int.reduceBNe, Int.reduceLT, Int.reduceLE, hj, f2.cell]))
    refine condT (fun hlt => ?_) (fun hge => ?_)
    · have hlt : j < l.length := by simpa using hlt
      have c1 : (0 : Int) ≤ (j : Int) ∧ (j : Int) < (l.length : Int) := ⟨by omega, by omega⟩
      have next : ∀ (ρ' : Env), (decide (i ≤ (j : Int)) && decide (((l.getD j 0 : Nat) : Int) = v)) = false → ρ' 8 = .int .i64 ((j + 1 : Nat) : Int) → (∃ j : Nat, ρ' 8 = .int .i64 j ∧ j ≤ l.length ∧ (∀ q : Nat, q < j → (decide (i ≤ (q : Int)) && decide (((l.getD q 0 : Nat) : Int) = v)) = false) ∧ Only [] w w') ∧ upTo l.length 8 ρ' < upTo l.length 8 g' := fun ρ' hn h8 => by
        refine ⟨⟨j + 1, h8, by omega, fun q h1 => ?_, ho⟩, ?_⟩
        · rcases Nat.lt_or_ge q j with h | h
          · exact hno q h
          · have : q = j := by omega
            subst this; exact hn
        · rw [upTo_int hj, upTo_int h8]; omega
      by_cases hij : i ≤ (j : Int)
      · (repeat (first | with_reducible refine run_seq ?_ | with_reducible refine run_reg ?_ | with_reducible refine run_block ?_ | with_reducible refine run_blk ?_ | with_reducible refine run_skip ?_ | with_reducible refine run_exit rfl ?_ | with_reducible refine run_drw ?_ | with_reducible refine run_condT ?_ | with_reducible refine run_ret' ?_ | with_reducible refine run_end' ?_ | simp only [go_sem, ↓reduceIte, Nat.reduceAdd, Nat.reduceEqDiff, Nat.reduceBEq, reduceCtorEq, Int.reduceBEq, Int.reduceBNe, Int.reduceLT, Int.reduceLE, hj, decide_eq_true hij, f2.cell, f3.cell, if_pos c1, Int.toNat_natCast, Nat.mul_one, nats_get rest hlt]))
        refine condT (fun he => ?_) (fun hne => ?_)
        · have he : ((l.getD j 0 : Nat) : Int) = v := by simpa using he
          have hO : MT.nextO (some (wd, l)) i v = some j := firstI_some (by simp [hij, ← he]) hlt hno
          (repeat (first | with_reducible refine run_seq ?_ | with_reducible refine run_reg ?_ | with_reducible refine run_block ?_ | with_reducible refine run_blk ?_ | with_reducible refine run_skip ?_ | with_reducible refine run_exit rfl ?_ | with_reducible refine run_drw ?_ | with_reducible refine run_condT ?_ | with_reducible refine run_ret' ?_ | with_reducible refine run_end' ?_ | simp only [go_sem, ↓reduceIte, Nat.reduceAdd, Nat.reduceEqDiff, Nat.reduceBEq, reduceCtorEq, Int.reduceBEq, Int.reduceBNe, Int.reduceLT, Int.reduceLE, hj]))
          rw [hO]
          exact ⟨rfl, ho⟩
        · have hne : ¬ ((l.getD j 0 : Nat) : Int) = v := by simpa using hne
          (repeat (first | with_reducible refine run_seq ?_ | with_reducible refine run_reg ?_ | with_reducible refine run_block ?_ | with_reducible refine run_blk ?_ | with_reducible refine run_skip ?_ | with_reducible refine run_exit rfl ?_ | with_reducible refine run_drw ?_ | with_reducible refine run_condT ?_ | with_reducible refine run_ret' ?_ | with_reducible refine run_end' ?_ | simp only [go_sem, ↓reduceIte, Nat.reduceAdd, Nat.reduceEqDiff, Nat.reduceBEq, reduceCtorEq, Int.reduceBEq, Int.reduceBNe, Int.reduceLT, Int.reduceLE, hj, i64_succ j (by omega)]))
          refine hnext _ _ ?_ ?_ ?_
          · (repeat (first | with_reducible exact Keeps.refl _ _ | with_reducible exact Keeps.ovr _ _ _ | refine Keeps.put ?_ rfl _ | exact Keeps.refl _ _ | exact Keeps.ovr _ _ _ | refine Keeps.ovr2 ?_ rfl _))
          · exact (next _ (by simp only [decide_eq_false hne, Bool.and_false]) (by simp only [go_sem, ↓reduceIte, Nat.reduceAdd, Nat.reduceEqDiff, Nat.reduceBEq, reduceCtorEq, Int.reduceBEq, Int.reduceBNe, Int.reduceLT, Int.reduceLE])).1
          · exact (next _ (by simp only [decide_eq_false hne, Bool.and_false]) (by simp only [go_sem, ↓reduceIte, Nat.reduceAdd, Nat.reduceEqDiff, Nat.reduceBEq, reduceCtorEq, Int.reduceBEq, Int.reduceBNe, Int.reduceLT, Int.reduceLE])).2
      · (repeat (first | with_reducible refine run_seq ?_ | with_reducible refine run_reg ?_ | with_reducible refine run_block ?_ | with_reducible refine run_blk ?_ | with_reducible refine run_skip ?_ | with_reducible refine run_exit rfl ?_ | with_reducible refine run_drw ?_ | with_reducible refine run_condT ?_ | with_reducible refine run_ret' ?_ | with_reducible refine run_end' ?_ | simp only [go_sem, ↓reduceIte, Nat.reduceAdd, Nat.reduceEqDiff, Nat.reduceBEq, reduceCtorEq, Int.reduceBEq, Int.reduceBNe, Int.reduceLT, Int.reduceLE, hj, decide_eq_false hij, i64_succ j (by omega)]))
        refine hnext _ _ ?_ ?_ ?_
        · (repeat (first | with_reducible exact Keeps.refl _ _ | with_reducible exact Keeps.ovr _ _ _ | refine Keeps.put ?_ rfl _ | exact Keeps.refl _ _ | exact Keeps.ovr _ _ _ | refine Keeps.ovr2 ?_ rfl _))
        · exact (next _ (by simp only [decide_eq_false hij, Bool.false_and]) (by simp only [go_sem, ↓reduceIte, Nat.reduceAdd, Nat.reduceEqDiff, Nat.reduceBEq, reduceCtorEq, Int.reduceBEq, Int.reduceBNe, Int.reduceLT, Int.reduceLE])).1
        · exact (next _ (by simp only [decide_eq_false hij, Bool.false_and]) (by simp only [go_sem, ↓reduceIte, Nat.reduceAdd, Nat.reduceEqDiff, Nat.reduceBEq, reduceCtorEq, Int.reduceBEq, Int.reduceBNe, Int.reduceLT, Int.reduceLE])).2
    · have hge : ¬ j < l.length := by simpa using hge
      have : j = l.length := by omega
      subst this
      have hO : MT.nextO (some (wd, l)) i v = none := firstI_none hno
      (repeat (first | with_reducible refine run_seq ?_ | with_reducible refine run_reg ?_ | with_reducible refine run_block ?_ | with_reducible refine run_blk ?_ | with_reducible refine run_skip ?_ | with_reducible refine run_exit rfl ?_ | with_reducible refine run_drw ?_ | with_reducible refine run_condT ?_ | with_reducible refine run_ret' ?_ | with_reducible refine run_end' ?_ | simp only [go_sem, ↓reduceIte, Nat.reduceAdd, Nat.reduceEqDiff, Nat.reduceBEq, reduceCtorEq, Int.reduceBEq, Int.reduceBNe, Int.reduceLT, Int.reduceLE]))
      rw [hO]
      exact ⟨rfl, ho⟩

theorem rLast {w : World} {a : Option Addr} {S : List Nat} {m : MT} (h : RT w a S m) (i v : Int) : Cs Try.prog 54 [.pointer a, .int .i64 i, .int .i64 v] w fun r w' => r = .tuple #[.int .i64 (optR (m.lastO i v)), .int .i64 (m.err (m.lastO i v))] ∧ Only [] w w' := by
  refine enter_ref01_Table_Last rfl ?_
  unfold x_ref01_Table_Last
  (repeat (first | with_reducible refine run_seq ?_ | with_reducible refine run_reg ?_ | with_reducible refine run_block ?_ | with_reducible refine run_blk ?_ | with_reducible refine run_skip ?_ | with_reducible refine run_exit rfl ?_ | with_reducible refine run_drw ?_ | with_reducible refine run_condT ?_ | with_reducible refine run_ret' ?_ | with_reducible refine run_end' ?_ | simp only [go_sem, ↓reduceIte, Nat.reduceAdd, Nat.reduceEqDiff, Nat.reduceBEq, reduceCtorEq, Int.reduceBEq, Int.reduceBNe, Int.reduceLT, Int.reduceLE]))
  refine callT0 (rmade h) ?_
  match m, h with
  | none, h =>
    (repeat (first | with_reducible refine run_seq ?_ | with_reducible refine run_reg ?_ | with_reducible refine run_block ?_ | with_reducible refine run_blk ?_ | with_reducible refine run_skip ?_ | with_reducible refine run_exit rfl ?_ | with_reducible refine run_drw ?_ | with_reducible refine run_condT ?_ | with_reducible refine run_ret' ?_ | with_reducible refine run_end' ?_ | simp only [go_sem, ↓reduceIte, Nat.reduceAdd, Nat.reduceEqDiff, Nat.reduceBEq, reduceCtorEq, Int.reduceBEq, Int.reduceBNe, Int.reduceLT, Int.reduceLE, Option.isSome_none]))
    exact ⟨rfl, Only.refl _ _⟩
  | some (wd, l), ⟨b, g, h1, h2, h3⟩ =>
    subst h1 h2
    have hn2 := h3.n2
    have hn1 := h3.n1
    obtain ⟨cap, rest, f2, f3, f4⟩ := h3.mem
    have hsub : IntKind.i64.wrap ((l.length : Int) - 1) = (l.length : Int) - 1 := IntWalk.i64_in _ (by omega)
    (repeat (first | with_reducible refine run_seq ?_ | with_reducible refine run_reg ?_ | with_reducible refine run_block ?_ | with_reducible refine run_blk ?_ | with_reducible refine run_skip ?_ | with_reducible refine run_exit rfl ?_ | with_reducible refine run_drw ?_ | with_reducible refine run_condT ?_ | with_reducible refine run_ret' ?_ | with_reducible refine run_end' ?_ | simp only [go_sem, ↓reduceIte, Nat.reduceAdd, Nat.reduceEqDiff, Nat.reduceBEq, reduceCtorEq, Int.reduceBEq, Int.reduceBNe, Int.reduceLT, Int.reduceLE, Option.isSome_some, f2.cell, hsub]))
    refine run_loop [8, 18, 19, 20, 21, 22, 23, 24, 25, 26, 27, 28, 29, 30, 31, 32, 33, 34, 35] (fun g' w' => ∃ j : Int, g' 8 = .int .i64 j ∧ j < l.length ∧ -1 ≤ j ∧ (∀ q : Nat, j < q → q < l.length → (decide ((q : Int) < i) && decide (((l.getD q 0 : Nat) : Int) = v)) = false) ∧ Only [] w w') (fun g' _ => downTo 8 g') ⟨_, by simp only [go_sem, ↓reduceIte, Nat.reduceAdd, Nat.reduceEqDiff, Nat.reduceBEq, reduceCtorEq, Int.reduceBEq, Int.reduceBNe, Int.reduceLT, Int.reduceLE]; rfl, by omega, by omega, fun q h1 h2 => absurd h2 (by omega), Only.refl _ _⟩ fun g' w' hI hnext => ?_
    obtain ⟨j, hj, hjl, hj1, hno, ho⟩ := hI
    have h4 := h3.keep ho (by simp) (by simp)
    obtain ⟨cap, rest, f2, f3, f4⟩ := h4.mem
    (repeat (first | with_reducible refine run_seq ?_ | with_reducible refine run_reg ?_ | with_reducible refine run_block ?_ | with_reducible refine run_blk ?_ | with_reducible refine run_skip ?_ | with_reducible refine run_exit rfl ?_ | with_reducible refine run_drw ?_ | with_reducible refine run_condT ?_ | with_reducible refine run_ret' ?_ | with_reducible refine run_end' ?_ | simp only [go_sem, ↓reduceIte, Nat.reduceAdd, Nat.reduceEqDiff, Nat.reduceBEq, reduceCtorEq, Int.reduceBEq, Int.reduceBNe, Int.reduceLT, Int.reduceLE, hj]))
    refine condT (fun hlt => ?_) (fun hge => ?_)
    · have hlt : 0 ≤ j := by simpa using hlt
      obtain ⟨k, rfl⟩ : ∃ k : Nat, j = k := ⟨j.toNat, by omega⟩
      have c1 : (0 : Int) ≤ (k : Int) ∧ (k : Int) < (l.length : Int) := ⟨by omega, by omega⟩
      have hk : k < l.length := by omega
      have hsub : IntKind.i64.wrap ((k : Int) - 1) = (k : Int) - 1 := IntWalk.i64_in _ (by omega)
      have next : ∀ (ρ' : Env), (decide ((k : Int) < i) && decide (((l.getD k 0 : Nat) : Int) = v)) = false → ρ' 8 = .int .i64 ((k : Int) - 1) → (∃ j : Int, ρ' 8 = .int .i64 j ∧ j < l.length ∧ -1 ≤ j ∧ (∀ q : Nat, j < q → q < l.length → (decide ((q : Int) < i) && decide (((l.getD q 0 : Nat) : Int) = v)) = false) ∧ Only [] w w') ∧ downTo 8 ρ' < downTo 8 g' := fun ρ' hn h8 => by
        refine ⟨⟨(k : Int) - 1, h8, by omega, by omega, fun q h1 h2 => ?_, ho⟩, ?_⟩
        · rcases Nat.lt_or_ge k q with h | h
          · exact hno q (by omega) h2
          · have : q = k := by omega
            subst this; exact hn
        · rw [downTo_int hj, downTo_int h8]; omega
      by_cases hij : (k : Int) < i
      · (repeat (first | with_reducible refine run_seq ?_ | with_reducible refine run_reg ?_ | with_reducible refine run_block ?_ | with_reducible refine run_blk ?_ | with_reducible refine run_skip ?_ | with_reducible refine run_exit rfl ?_ | with_reducible refine run_drw ?_ | with_reducible refine run_condT ?_ | with_reducible refine run_ret' ?_ | with_reducible refine run_end' ?_ | simp only [go_sem, ↓reduceIte, Nat.reduceAdd, Nat.reduceEqDiff, Nat.reduceBEq, reduceCtorEq, Int.reduceBEq, Int.reduceBNe, Int.reduceLT, Int.reduceLE, hj, decide_eq_true hij, f2.cell, f3.cell, if_pos c1, Int.toNat_natCast, Nat.mul_one, nats_get rest hk]))
        refine condT (fun he => ?_) (fun hne => ?_)
        · have he : ((l.getD k 0 : Nat) : Int) = v := by simpa using he
          have hO : MT.lastO (some (wd, l)) i v = some k := lastI_some (by simp [hij, ← he]) hk fun q h1 h2 => hno q (by omega) h2
          (repeat (first | with_reducible refine run_seq ?_ | with_reducible refine run_reg ?_ | with_reducible refine run_block ?_ | with_reducible refine run_blk ?_ | with_reducible refine run_skip ?_ | with_reducible refine run_exit rfl ?_ | with_reducible refine run_drw ?_ | with_reducible refine run_condT ?_ | with_reducible refine run_ret' ?_ | with_reducible refine run_end' ?_ | simp only [go_sem, ↓reduceIte, Nat.reduceAdd, Nat.reduceEqDiff, Nat.reduceBEq, reduceCtorEq, Int.reduceBEq, Int.reduceBNe, Int.reduceLT, Int.reduceLE, hj]))
          rw [hO]
          exact ⟨rfl, ho⟩
        · have hne : ¬ ((l.getD k 0 : Nat) : Int) = v := by simpa using hne
          (repeat (first | with_reducible refine run_seq ?_ | with_reducible refine run_reg ?_ | with_reducible refine run_block ?_ | with_reducible refine run_blk ?_ | with_reducible refine run_skip ?_ | with_reducible refine run_exit rfl ?_ | with_reducible refine run_drw ?_ | with_reducible refine run_condT ?_ | with_reducible refine run_ret' ?_ | with_reducible refine run_end' ?_ | simp only [go_sem, ↓reduceIte, Nat.reduceAdd, Nat.reduceEqDiff, Nat.reduceBEq, reduceCtorEq, Int.reduceBEq, Int.reduceBNe, Int.reduceLT, Int.reduceLE, hj, hsub]))
          refine hnext _ _ ?_ ?_ ?_
          · (repeat (first | with_reducible exact Keeps.refl _ _ | with_reducible exact Keeps.ovr _ _ _ | refine Keeps.put ?_ rfl _ | exact Keeps.refl _ _ | exact Keeps.ovr _ _ _ | refine Keeps.ovr2 ?_ rfl _))
          · exact (next _ (by simp only [decide_eq_false hne, Bool.and_false]) (by simp only [go_sem, ↓reduceIte, Nat.reduceAdd, Nat.reduceEqDiff, Nat.reduceBEq, reduceCtorEq, Int.reduceBEq, Int.reduceBNe, Int.reduceLT, Int.reduceLE])).1
          · exact (next _ (by simp only [decide_eq_false hne, Bool.and_false]) (by simp only [go_sem, ↓reduceIte, Nat.reduceAdd, Nat.reduceEqDiff, Nat.reduceBEq, reduceCtorEq, Int.reduceBEq, Int.reduceBNe, Int.reduceLT, Int.reduceLE])).2
      · (repeat (first | with_reducible refine run_seq ?_ | with_reducible refine run_reg ?_ | with_reducible refine run_block ?_ | with_reducible refine run_blk ?_ | with_reducible refine run_skip ?_ | with_reducible refine run_exit rfl ?_ | with_reducible refine run_drw ?_ | with_reducible refine run_condT ?_ | with_reducible refine run_ret' ?_ | with_reducible refine run_end' ?_ | simp only [go_sem, ↓reduceIte, Nat.reduceAdd, Nat.reduceEqDiff, Nat.reduceBEq, reduceCtorEq, Int.reduceBEq, Int.reduceBNe, Int.reduceLT, Int.reduceLE, hj, decide_eq_false hij, hsub]))
        refine hnext _ _ ?_ ?_ ?_
        · (repeat (first | with_reducible exact Keeps.refl _ _ | with_reducible exact Keeps.ovr _ _ _ | refine Keeps.put ?_ rfl _ | exact Keeps.refl _ _ | exact Keeps.ovr _ _ _ | refine Keeps.ovr2 ?_ rfl _))
        · exact (next _ (by simp only [decide_eq_false hij, Bool.false_and]) (by simp only [go_sem, ↓reduceIte, Nat.reduceAdd, Nat.reduceEqDiff, Nat.reduceBEq, reduceCtorEq, Int.reduceBEq, Int.reduceBNe, Int.reduceLT, Int.reduceLE])).1
        · exact (next _ (by simp only [decide_eq_false hij, Bool.false_and]) (by simp only [go_sem, ↓reduceIte, Nat.reduceAdd, Nat.reduceEqDiff, Nat.reduceBEq, reduceCtorEq, Int.reduceBEq, Int.reduceBNe, Int.reduceLT, Int.reduceLE])).2
    · have hge : ¬ 0 ≤ j := by simpa using hge
      have hO : MT.lastO (some (wd, l)) i v = none := lastI_none fun q hq => hno q (by omega) hq
      (repeat (first | with_reducible refine run_seq ?_ | with_reducible refine run_reg ?_ | with_reducible refine run_block ?_ | with_reducible refine run_blk ?_ | with_reducible refine run_skip ?_ | with_reducible refine run_exit rfl ?_ | with_reducible refine run_drw ?_ | with_reducible refine run_condT ?_ | with_reducible refine run_ret' ?_ | with_reducible refine run_end' ?_ | simp only [go_sem, ↓reduceIte, Nat.reduceAdd, Nat.reduceEqDiff, Nat.reduceBEq, reduceCtorEq, Int.reduceBEq, Int.reduceBNe, Int.reduceLT, Int.reduceLE]))
      rw [hO]
      exact ⟨rfl, ho⟩
end Go.Proofs.Ythalhkhjacjhgaa
