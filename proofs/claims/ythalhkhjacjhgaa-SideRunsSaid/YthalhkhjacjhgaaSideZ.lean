/- The reference's Merge and Same. -/
import Derived.Test.YthalhkhjacjhgaaSideY
namespace Go.Proofs.Ythalhkhjacjhgaa
set_option linter.unusedSimpArgs false
set_option linter.unusedVariables false
set_option maxRecDepth 8000

theorem two_lt {w : World} {b1 b2 : Nat} (h1 : b1 < w.heap.size) (h2 : b2 < w.heap.size) : ∀ x, x ∈ [b1, b2] → x < w.heap.size := by
  intro x hx
  rcases List.mem_cons.1 hx with rfl | hx
  · exact h1
  · rcases List.mem_cons.1 hx with rfl | hx
    · exact h2
    · cases hx

theorem rSame {w : World} {a b : Option Addr} {S T : List Nat} {m k : MT} (h1 : RT w a S m) (h2 : RT w b T k) : Cs Try.prog 39 [.pointer a, .pointer b] w fun r w' => r = .bool (m.same k) ∧ Only [] w w' := by
  refine enter_ref01_Same rfl ?_
  unfold x_ref01_Same
  match m, h1 with
  | none, h1 =>
    (repeat (first | with_reducible refine run_seq ?_ | with_reducible refine run_reg ?_ | with_reducible refine run_block ?_ | with_reducible refine run_blk ?_ | with_reducible refine run_skip ?_ | with_reducible refine run_exit rfl ?_ | with_reducible refine run_drw ?_ | with_reducible refine run_condT ?_ | with_reducible refine run_ret' ?_ | with_reducible refine run_end' ?_ | simp only [go_sem, ↓reduceIte, Nat.reduceAdd, Nat.reduceEqDiff, Nat.reduceBEq, reduceCtorEq, Int.reduceBEq, Int.reduceBNe, Int.reduceLT, Int.reduceLE]))
    refine run_drg [] ?_
    (repeat (first | with_reducible refine run_seq ?_ | with_reducible refine run_reg ?_ | with_reducible refine run_block ?_ | with_reducible refine run_blk ?_ | with_reducible refine run_skip ?_ | with_reducible refine run_exit rfl ?_ | with_reducible refine run_drw ?_ | with_reducible refine run_condT ?_ | with_reducible refine run_ret' ?_ | with_reducible refine run_end' ?_ | simp only [go_sem, ↓reduceIte, Nat.reduceAdd, Nat.reduceEqDiff, Nat.reduceBEq, reduceCtorEq, Int.reduceBEq, Int.reduceBNe, Int.reduceLT, Int.reduceLE]))
    refine callS0 (rmade (h1.keep0 (Only.drew _ _))) (.inr (SB.refl _ _)) ?_
    (repeat (first | with_reducible refine run_seq ?_ | with_reducible refine run_reg ?_ | with_reducible refine run_block ?_ | with_reducible refine run_blk ?_ | with_reducible refine run_skip ?_ | with_reducible refine run_exit rfl ?_ | with_reducible refine run_drw ?_ | with_reducible refine run_condT ?_ | with_reducible refine run_ret' ?_ | with_reducible refine run_end' ?_ | simp only [go_sem, ↓reduceIte, Nat.reduceAdd, Nat.reduceEqDiff, Nat.reduceBEq, reduceCtorEq, Int.reduceBEq, Int.reduceBNe, Int.reduceLT, Int.reduceLE, Option.isSome_none]))
    exact ⟨rfl, Only.drew _ _⟩
  | some (wd, l), ⟨b1, g1, e1, e2, h3⟩ =>
    subst e1 e2
    match k, h2 with
    | none, h2 =>
      (repeat (first | with_reducible refine run_seq ?_ | with_reducible refine run_reg ?_ | with_reducible refine run_block ?_ | with_reducible refine run_blk ?_ | with_reducible refine run_skip ?_ | with_reducible refine run_exit rfl ?_ | with_reducible refine run_drw ?_ | with_reducible refine run_condT ?_ | with_reducible refine run_ret' ?_ | with_reducible refine run_end' ?_ | simp only [go_sem, ↓reduceIte, Nat.reduceAdd, Nat.reduceEqDiff, Nat.reduceBEq, reduceCtorEq, Int.reduceBEq, Int.reduceBNe, Int.reduceLT, Int.reduceLE]))
      refine run_drg [] ?_
      (repeat (first | with_reducible refine run_seq ?_ | with_reducible refine run_reg ?_ | with_reducible refine run_block ?_ | with_reducible refine run_blk ?_ | with_reducible refine run_skip ?_ | with_reducible refine run_exit rfl ?_ | with_reducible refine run_drw ?_ | with_reducible refine run_condT ?_ | with_reducible refine run_ret' ?_ | with_reducible refine run_end' ?_ | simp only [go_sem, ↓reduceIte, Nat.reduceAdd, Nat.reduceEqDiff, Nat.reduceBEq, reduceCtorEq, Int.reduceBEq, Int.reduceBNe, Int.reduceLT, Int.reduceLE]))
      refine callS0 (rmade (RT.mk (h3.keep (Only.drew [] w) (by simp) (by simp)))) (.inr (SB.refl _ _)) ?_
      (repeat (first | with_reducible refine run_seq ?_ | with_reducible refine run_reg ?_ | with_reducible refine run_block ?_ | with_reducible refine run_blk ?_ | with_reducible refine run_skip ?_ | with_reducible refine run_exit rfl ?_ | with_reducible refine run_drw ?_ | with_reducible refine run_condT ?_ | with_reducible refine run_ret' ?_ | with_reducible refine run_end' ?_ | simp only [go_sem, ↓reduceIte, Nat.reduceAdd, Nat.reduceEqDiff, Nat.reduceBEq, reduceCtorEq, Int.reduceBEq, Int.reduceBNe, Int.reduceLT, Int.reduceLE, Option.isSome_some]))
      refine callS0 (rmade (h2.keep0 (Only.drew _ _))) (.inr (SB.refl _ _)) ?_
      (repeat (first | with_reducible refine run_seq ?_ | with_reducible refine run_reg ?_ | with_reducible refine run_block ?_ | with_reducible refine run_blk ?_ | with_reducible refine run_skip ?_ | with_reducible refine run_exit rfl ?_ | with_reducible refine run_drw ?_ | with_reducible refine run_condT ?_ | with_reducible refine run_ret' ?_ | with_reducible refine run_end' ?_ | simp only [go_sem, ↓reduceIte, Nat.reduceAdd, Nat.reduceEqDiff, Nat.reduceBEq, reduceCtorEq, Int.reduceBEq, Int.reduceBNe, Int.reduceLT, Int.reduceLE, Option.isSome_none]))
      exact ⟨rfl, Only.drew _ _⟩
    | some (wd', l'), ⟨b2, g2, e3, e4, h4⟩ =>
      subst e3 e4
      obtain ⟨cap, rest, f2, f3, _⟩ := h3.mem
      obtain ⟨cap', rest', q2, q3, _⟩ := h4.mem
      have n2 := h3.n2
      (repeat (first | with_reducible refine run_seq ?_ | with_reducible refine run_reg ?_ | with_reducible refine run_block ?_ | with_reducible refine run_blk ?_ | with_reducible refine run_skip ?_ | with_reducible refine run_exit rfl ?_ | with_reducible refine run_drw ?_ | with_reducible refine run_condT ?_ | with_reducible refine run_ret' ?_ | with_reducible refine run_end' ?_ | simp only [go_sem, ↓reduceIte, Nat.reduceAdd, Nat.reduceEqDiff, Nat.reduceBEq, reduceCtorEq, Int.reduceBEq, Int.reduceBNe, Int.reduceLT, Int.reduceLE]))
      refine run_drg [b1, b2] ?_
      (repeat (first | with_reducible refine run_seq ?_ | with_reducible refine run_reg ?_ | with_reducible refine run_block ?_ | with_reducible refine run_blk ?_ | with_reducible refine run_skip ?_ | with_reducible refine run_exit rfl ?_ | with_reducible refine run_drw ?_ | with_reducible refine run_condT ?_ | with_reducible refine run_ret' ?_ | with_reducible refine run_end' ?_ | simp only [go_sem, ↓reduceIte, Nat.reduceAdd, Nat.reduceEqDiff, Nat.reduceBEq, reduceCtorEq, Int.reduceBEq, Int.reduceBNe, Int.reduceLT, Int.reduceLE]))
      refine callS0 (rmade (RT.mk (h3.keep (Only.drew [] w) (by simp) (by simp)))) (.inr (SB.refl _ _)) ?_
      (repeat (first | with_reducible refine run_seq ?_ | with_reducible refine run_reg ?_ | with_reducible refine run_block ?_ | with_reducible refine run_blk ?_ | with_reducible refine run_skip ?_ | with_reducible refine run_exit rfl ?_ | with_reducible refine run_drw ?_ | with_reducible refine run_condT ?_ | with_reducible refine run_ret' ?_ | with_reducible refine run_end' ?_ | simp only [go_sem, ↓reduceIte, Nat.reduceAdd, Nat.reduceEqDiff, Nat.reduceBEq, reduceCtorEq, Int.reduceBEq, Int.reduceBNe, Int.reduceLT, Int.reduceLE, Option.isSome_some]))
      refine callS0 (rmade (RT.mk (h4.keep (Only.drew [] w) (by simp) (by simp)))) (.inr (SB.refl _ _)) ?_
      by_cases hww : wd = wd'
      · subst hww
        have t1 : ((wd : Int) != (wd : Int)) = false := by simp
        by_cases hll : l.length = l'.length
        · have t2 : ((l.length : Int) != (l'.length : Int)) = false := by simp [hll]
          (repeat (first | with_reducible refine run_seq ?_ | with_reducible refine run_reg ?_ | with_reducible refine run_block ?_ | with_reducible refine run_blk ?_ | with_reducible refine run_skip ?_ | with_reducible refine run_exit rfl ?_ | with_reducible refine run_drw ?_ | with_reducible refine run_condT ?_ | with_reducible refine run_ret' ?_ | with_reducible refine run_end' ?_ | simp only [go_sem, ↓reduceIte, Nat.reduceAdd, Nat.reduceEqDiff, Nat.reduceBEq, reduceCtorEq, Int.reduceBEq, Int.reduceBNe, Int.reduceLT, Int.reduceLE, Option.isSome_some, f2.cell, q2.cell, t1, t2]))
          refine run_loop (5 :: 38 :: 39 :: 40 :: 41 :: 42 :: 43 :: 44 :: 45 :: 46 :: 47 :: 48 :: 49 :: 50 :: 51 :: 52 :: 53 :: 54 :: 55 :: 56 :: 57 :: 58 :: 59 :: 60 :: 61 :: []) (fun g' w' => ∃ (i : Nat), g' 5 = .int .i64 i ∧ i ≤ l.length ∧ (∀ j, j < i → l.getD j 0 = l'.getD j 0) ∧ Only [] w w') (fun g' _ => upTo l.length 5 g')
            ⟨0, by simp only [go_sem, ↓reduceIte, Nat.reduceAdd, Nat.reduceEqDiff, Nat.reduceBEq, reduceCtorEq, Int.reduceBEq, Int.reduceBNe, Int.reduceLT, Int.reduceLE]; rfl, by omega, fun j hj => by omega, Only.drew _ _⟩ fun g'' w' hI hnext => ?_
          obtain ⟨i, hi, hin, hall, ho⟩ := hI
          (repeat (first | with_reducible refine run_seq ?_ | with_reducible refine run_reg ?_ | with_reducible refine run_block ?_ | with_reducible refine run_blk ?_ | with_reducible refine run_skip ?_ | with_reducible refine run_exit rfl ?_ | with_reducible refine run_drw ?_ | with_reducible refine run_condT ?_ | with_reducible refine run_ret' ?_ | with_reducible refine run_end' ?_ | simp only [go_sem, ↓reduceIte, Nat.reduceAdd, Nat.reduceEqDiff, Nat.reduceBEq, reduceCtorEq, Int.reduceBEq, Int.reduceBNe, Int.reduceLT, Int.reduceLE, hi, (f2.keep0 ho).cell]))
          refine condT (fun hlt => ?_) (fun hge => ?_)
          · have hlt : i < l.length := by simpa using hlt
            have c1 : (0 : Int) ≤ (i : Int) ∧ (i : Int) < (l.length : Int) := ⟨by omega, by omega⟩
            have c2 : (0 : Int) ≤ (i : Int) ∧ (i : Int) < (l'.length : Int) := ⟨by omega, by omega⟩
            (repeat (first | with_reducible refine run_seq ?_ | with_reducible refine run_reg ?_ | with_reducible refine run_block ?_ | with_reducible refine run_blk ?_ | with_reducible refine run_skip ?_ | with_reducible refine run_exit rfl ?_ | with_reducible refine run_drw ?_ | with_reducible refine run_condT ?_ | with_reducible refine run_ret' ?_ | with_reducible refine run_end' ?_ | simp only [go_sem, ↓reduceIte, Nat.reduceAdd, Nat.reduceEqDiff, Nat.reduceBEq, reduceCtorEq, Int.reduceBEq, Int.reduceBNe, Int.reduceLT, Int.reduceLE, hi, if_pos c1, if_pos c2, Int.toNat_natCast, Nat.mul_one, (f2.keep0 ho).cell, (f3.keep0 ho).cell, (q2.keep0 ho).cell, (q3.keep0 ho).cell, nats_get rest hlt, nats_get rest' (show i < l'.length by omega)]))
            refine condT (fun hne => ?_) (fun he => ?_)
            · have hne : ¬ ((l.getD i 0 : Nat) : Int) = ((l'.getD i 0 : Nat) : Int) := by simpa using hne
              (repeat (first | with_reducible refine run_seq ?_ | with_reducible refine run_reg ?_ | with_reducible refine run_block ?_ | with_reducible refine run_blk ?_ | with_reducible refine run_skip ?_ | with_reducible refine run_exit rfl ?_ | with_reducible refine run_drw ?_ | with_reducible refine run_condT ?_ | with_reducible refine run_ret' ?_ | with_reducible refine run_end' ?_ | simp only [go_sem, ↓reduceIte, Nat.reduceAdd, Nat.reduceEqDiff, Nat.reduceBEq, reduceCtorEq, Int.reduceBEq, Int.reduceBNe, Int.reduceLT, Int.reduceLE]))
              refine ⟨?_, ho.nil (Only.drew _ _)⟩
              have : ¬ l = l' := fun e => hne (by rw [e])
              simp [MT.same, this]
            · have he : ((l.getD i 0 : Nat) : Int) = ((l'.getD i 0 : Nat) : Int) := by simpa using he
              (repeat (first | with_reducible refine run_seq ?_ | with_reducible refine run_reg ?_ | with_reducible refine run_block ?_ | with_reducible refine run_blk ?_ | with_reducible refine run_skip ?_ | with_reducible refine run_exit rfl ?_ | with_reducible refine run_drw ?_ | with_reducible refine run_condT ?_ | with_reducible refine run_ret' ?_ | with_reducible refine run_end' ?_ | simp only [go_sem, ↓reduceIte, Nat.reduceAdd, Nat.reduceEqDiff, Nat.reduceBEq, reduceCtorEq, Int.reduceBEq, Int.reduceBNe, Int.reduceLT, Int.reduceLE, hi, i64_succ i (by omega)]))
              refine hnext _ _ ?_ ⟨i + 1, ?_, hlt, fun j hj => ?_, ho.nil (Only.drew _ _)⟩ ?_
              · (repeat (first | with_reducible exact Keeps.refl _ _ | with_reducible exact Keeps.ovr _ _ _ | refine Keeps.put ?_ rfl _ | exact Keeps.refl _ _ | exact Keeps.ovr _ _ _ | refine Keeps.ovr2 ?_ rfl _))
              · simp only [go_sem, ↓reduceIte, Nat.reduceAdd, Nat.reduceEqDiff, Nat.reduceBEq, reduceCtorEq, Int.reduceBEq, Int.reduceBNe, Int.reduceLT, Int.reduceLE]
              · rcases Nat.lt_or_ge j i with h | h
                · exact hall j h
                · have : j = i := by omega
                  subst this; omega
              · rw [upTo_int hi, upTo_int (k := .i64) (i := i + 1) (by simp only [go_sem, ↓reduceIte, Nat.reduceAdd, Nat.reduceEqDiff, Nat.reduceBEq, reduceCtorEq, Int.reduceBEq, Int.reduceBNe, Int.reduceLT, Int.reduceLE])]; omega
          · have hge : ¬ i < l.length := by simpa using hge
            have : i = l.length := by omega
            subst this
            (repeat (first | with_reducible refine run_seq ?_ | with_reducible refine run_reg ?_ | with_reducible refine run_block ?_ | with_reducible refine run_blk ?_ | with_reducible refine run_skip ?_ | with_reducible refine run_exit rfl ?_ | with_reducible refine run_drw ?_ | with_reducible refine run_condT ?_ | with_reducible refine run_ret' ?_ | with_reducible refine run_end' ?_ | simp only [go_sem, ↓reduceIte, Nat.reduceAdd, Nat.reduceEqDiff, Nat.reduceBEq, reduceCtorEq, Int.reduceBEq, Int.reduceBNe, Int.reduceLT, Int.reduceLE]))
            refine ⟨?_, ho⟩
            have : l = l' := List.ext_getElem hll fun j h1 h2 => by
              have := hall j h1
              simpa [h1, h2] using this
            simp [MT.same, this]
        · have t2 : ((l.length : Int) != (l'.length : Int)) = true := by simp; omega
          (repeat (first | with_reducible refine run_seq ?_ | with_reducible refine run_reg ?_ | with_reducible refine run_block ?_ | with_reducible refine run_blk ?_ | with_reducible refine run_skip ?_ | with_reducible refine run_exit rfl ?_ | with_reducible refine run_drw ?_ | with_reducible refine run_condT ?_ | with_reducible refine run_ret' ?_ | with_reducible refine run_end' ?_ | simp only [go_sem, ↓reduceIte, Nat.reduceAdd, Nat.reduceEqDiff, Nat.reduceBEq, reduceCtorEq, Int.reduceBEq, Int.reduceBNe, Int.reduceLT, Int.reduceLE, Option.isSome_some, f2.cell, q2.cell, t1, t2]))
          refine ⟨?_, Only.drew _ _⟩
          have : ¬ l = l' := fun e => hll (by rw [e])
          simp [MT.same, this]
      · have t1 : ((wd : Int) != (wd' : Int)) = true := by simp; omega
        (repeat (first | with_reducible refine run_seq ?_ | with_reducible refine run_reg ?_ | with_reducible refine run_block ?_ | with_reducible refine run_blk ?_ | with_reducible refine run_skip ?_ | with_reducible refine run_exit rfl ?_ | with_reducible refine run_drw ?_ | with_reducible refine run_condT ?_ | with_reducible refine run_ret' ?_ | with_reducible refine run_end' ?_ | simp only [go_sem, ↓reduceIte, Nat.reduceAdd, Nat.reduceEqDiff, Nat.reduceBEq, reduceCtorEq, Int.reduceBEq, Int.reduceBNe, Int.reduceLT, Int.reduceLE, Option.isSome_some, f2.cell, q2.cell, t1]))
        exact ⟨by simp [MT.same, hww], Only.drew _ _⟩

theorem rMerge {w : World} {a b : Option Addr} {S T : List Nat} {m k : MT} (h1 : RT w a S m) (h2 : RT w b T k) (op : Int) : Cs Try.prog 36 [.pointer a, .pointer b, .int .i64 op] w fun r w' => ∃ a' S', r = .tuple #[.pointer a', .int .i64 (errOf (m.merge k op))] ∧ (RT w' a' S' (m.merge k op) ∧ ∀ x, x ∈ S' → w.heap.size ≤ x) ∧ Only [] w w' := by
  refine enter_ref01_Merge rfl ?_
  unfold x_ref01_Merge
  have bad : ∀ w', Only [] w w' → ¬ (m.alike k = true ∧ 0 ≤ op ∧ op ≤ 2) → ∃ a S, Value.tuple #[.pointer none, .int .i64 1] = .tuple #[.pointer a, .int .i64 (errOf (m.merge k op))] ∧ (RT w' a S (m.merge k op) ∧ ∀ x, x ∈ S → w.heap.size ≤ x) ∧ Only [] w w' := fun w' ho hb => by
    have : m.merge k op = none := by
      match m, k with
      | none, _ => rfl
      | some _, none => rfl
      | some (wd, l), some (wd', l') => simp only [MT.merge]; rw [if_neg hb]
    rw [this]
    exact ⟨none, [], rfl, ⟨⟨rfl, rfl⟩, by simp⟩, ho⟩
  match m, h1 with
  | none, h1 =>
    (repeat (first | with_reducible refine run_seq ?_ | with_reducible refine run_reg ?_ | with_reducible refine run_block ?_ | with_reducible refine run_blk ?_ | with_reducible refine run_skip ?_ | with_reducible refine run_exit rfl ?_ | with_reducible refine run_drw ?_ | with_reducible refine run_condT ?_ | with_reducible refine run_ret' ?_ | with_reducible refine run_end' ?_ | simp only [go_sem, ↓reduceIte, Nat.reduceAdd, Nat.reduceEqDiff, Nat.reduceBEq, reduceCtorEq, Int.reduceBEq, Int.reduceBNe, Int.reduceLT, Int.reduceLE]))
    refine run_drg [] ?_
    (repeat (first | with_reducible refine run_seq ?_ | with_reducible refine run_reg ?_ | with_reducible refine run_block ?_ | with_reducible refine run_blk ?_ | with_reducible refine run_skip ?_ | with_reducible refine run_exit rfl ?_ | with_reducible refine run_drw ?_ | with_reducible refine run_condT ?_ | with_reducible refine run_ret' ?_ | with_reducible refine run_end' ?_ | simp only [go_sem, ↓reduceIte, Nat.reduceAdd, Nat.reduceEqDiff, Nat.reduceBEq, reduceCtorEq, Int.reduceBEq, Int.reduceBNe, Int.reduceLT, Int.reduceLE]))
    refine callS0 (rmade (h1.keep0 (Only.drew _ _))) (.inr (SB.refl _ _)) ?_
    (repeat (first | with_reducible refine run_seq ?_ | with_reducible refine run_reg ?_ | with_reducible refine run_block ?_ | with_reducible refine run_blk ?_ | with_reducible refine run_skip ?_ | with_reducible refine run_exit rfl ?_ | with_reducible refine run_drw ?_ | with_reducible refine run_condT ?_ | with_reducible refine run_ret' ?_ | with_reducible refine run_end' ?_ | simp only [go_sem, ↓reduceIte, Nat.reduceAdd, Nat.reduceEqDiff, Nat.reduceBEq, reduceCtorEq, Int.reduceBEq, Int.reduceBNe, Int.reduceLT, Int.reduceLE, Option.isSome_none]))
    exact bad _ (Only.drew _ _) (fun h => by simp [MT.alike] at h)
  | some (wd, l), ⟨b1, g1, e1, e2, h3⟩ =>
    subst e1 e2
    match k, h2 with
    | none, h2 =>
      (repeat (first | with_reducible refine run_seq ?_ | with_reducible refine run_reg ?_ | with_reducible refine run_block ?_ | with_reducible refine run_blk ?_ | with_reducible refine run_skip ?_ | with_reducible refine run_exit rfl ?_ | with_reducible refine run_drw ?_ | with_reducible refine run_condT ?_ | with_reducible refine run_ret' ?_ | with_reducible refine run_end' ?_ | simp only [go_sem, ↓reduceIte, Nat.reduceAdd, Nat.reduceEqDiff, Nat.reduceBEq, reduceCtorEq, Int.reduceBEq, Int.reduceBNe, Int.reduceLT, Int.reduceLE]))
      refine run_drg [] ?_
      (repeat (first | with_reducible refine run_seq ?_ | with_reducible refine run_reg ?_ | with_reducible refine run_block ?_ | with_reducible refine run_blk ?_ | with_reducible refine run_skip ?_ | with_reducible refine run_exit rfl ?_ | with_reducible refine run_drw ?_ | with_reducible refine run_condT ?_ | with_reducible refine run_ret' ?_ | with_reducible refine run_end' ?_ | simp only [go_sem, ↓reduceIte, Nat.reduceAdd, Nat.reduceEqDiff, Nat.reduceBEq, reduceCtorEq, Int.reduceBEq, Int.reduceBNe, Int.reduceLT, Int.reduceLE]))
      refine callS0 (rmade (RT.mk (h3.keep (Only.drew [] w) (by simp) (by simp)))) (.inr (SB.refl _ _)) ?_
      (repeat (first | with_reducible refine run_seq ?_ | with_reducible refine run_reg ?_ | with_reducible refine run_block ?_ | with_reducible refine run_blk ?_ | with_reducible refine run_skip ?_ | with_reducible refine run_exit rfl ?_ | with_reducible refine run_drw ?_ | with_reducible refine run_condT ?_ | with_reducible refine run_ret' ?_ | with_reducible refine run_end' ?_ | simp only [go_sem, ↓reduceIte, Nat.reduceAdd, Nat.reduceEqDiff, Nat.reduceBEq, reduceCtorEq, Int.reduceBEq, Int.reduceBNe, Int.reduceLT, Int.reduceLE, Option.isSome_some]))
      refine callS0 (rmade (h2.keep0 (Only.drew _ _))) (.inr (SB.refl _ _)) ?_
      (repeat (first | with_reducible refine run_seq ?_ | with_reducible refine run_reg ?_ | with_reducible refine run_block ?_ | with_reducible refine run_blk ?_ | with_reducible refine run_skip ?_ | with_reducible refine run_exit rfl ?_ | with_reducible refine run_drw ?_ | with_reducible refine run_condT ?_ | with_reducible refine run_ret' ?_ | with_reducible refine run_end' ?_ | simp only [go_sem, ↓reduceIte, Nat.reduceAdd, Nat.reduceEqDiff, Nat.reduceBEq, reduceCtorEq, Int.reduceBEq, Int.reduceBNe, Int.reduceLT, Int.reduceLE, Option.isSome_none]))
      exact bad _ (Only.drew _ _) (fun h => by simp [MT.alike] at h)
    | some (wd', l'), ⟨b2, g2, e3, e4, h4⟩ =>
      subst e3 e4
      obtain ⟨cap, rest, f2, f3, _⟩ := h3.mem
      obtain ⟨cap', rest', q2, q3, _⟩ := h4.mem
      have n2 := h3.n2
      (repeat (first | with_reducible refine run_seq ?_ | with_reducible refine run_reg ?_ | with_reducible refine run_block ?_ | with_reducible refine run_blk ?_ | with_reducible refine run_skip ?_ | with_reducible refine run_exit rfl ?_ | with_reducible refine run_drw ?_ | with_reducible refine run_condT ?_ | with_reducible refine run_ret' ?_ | with_reducible refine run_end' ?_ | simp only [go_sem, ↓reduceIte, Nat.reduceAdd, Nat.reduceEqDiff, Nat.reduceBEq, reduceCtorEq, Int.reduceBEq, Int.reduceBNe, Int.reduceLT, Int.reduceLE]))
      refine run_drg [b1, b2] ?_
      (repeat (first | with_reducible refine run_seq ?_ | with_reducible refine run_reg ?_ | with_reducible refine run_block ?_ | with_reducible refine run_blk ?_ | with_reducible refine run_skip ?_ | with_reducible refine run_exit rfl ?_ | with_reducible refine run_drw ?_ | with_reducible refine run_condT ?_ | with_reducible refine run_ret' ?_ | with_reducible refine run_end' ?_ | simp only [go_sem, ↓reduceIte, Nat.reduceAdd, Nat.reduceEqDiff, Nat.reduceBEq, reduceCtorEq, Int.reduceBEq, Int.reduceBNe, Int.reduceLT, Int.reduceLE]))
      refine callS0 (rmade (RT.mk (h3.keep (Only.drew [] w) (by simp) (by simp)))) (.inr (SB.refl _ _)) ?_
      (repeat (first | with_reducible refine run_seq ?_ | with_reducible refine run_reg ?_ | with_reducible refine run_block ?_ | with_reducible refine run_blk ?_ | with_reducible refine run_skip ?_ | with_reducible refine run_exit rfl ?_ | with_reducible refine run_drw ?_ | with_reducible refine run_condT ?_ | with_reducible refine run_ret' ?_ | with_reducible refine run_end' ?_ | simp only [go_sem, ↓reduceIte, Nat.reduceAdd, Nat.reduceEqDiff, Nat.reduceBEq, reduceCtorEq, Int.reduceBEq, Int.reduceBNe, Int.reduceLT, Int.reduceLE, Option.isSome_some]))
      refine callS0 (rmade (RT.mk (h4.keep (Only.drew [] w) (by simp) (by simp)))) (.inr (SB.refl _ _)) ?_
      by_cases hll : l.length = l'.length
      case neg =>
        have t2 : ((l.length : Int) != (l'.length : Int)) = true := by simp; omega
        (repeat (first | with_reducible refine run_seq ?_ | with_reducible refine run_reg ?_ | with_reducible refine run_block ?_ | with_reducible refine run_blk ?_ | with_reducible refine run_skip ?_ | with_reducible refine run_exit rfl ?_ | with_reducible refine run_drw ?_ | with_reducible refine run_condT ?_ | with_reducible refine run_ret' ?_ | with_reducible refine run_end' ?_ | simp only [go_sem, ↓reduceIte, Nat.reduceAdd, Nat.reduceEqDiff, Nat.reduceBEq, reduceCtorEq, Int.reduceBEq, Int.reduceBNe, Int.reduceLT, Int.reduceLE, Option.isSome_some, f2.cell, q2.cell, t2]))
        exact bad _ (Only.drew _ _) (fun h => by simp [MT.alike, hll] at h)
      have t2 : ((l.length : Int) != (l'.length : Int)) = false := by simp [hll]
      by_cases hww : wd = wd'
      case neg =>
        have t1 : ((wd : Int) != (wd' : Int)) = true := by simp; omega
        (repeat (first | with_reducible refine run_seq ?_ | with_reducible refine run_reg ?_ | with_reducible refine run_block ?_ | with_reducible refine run_blk ?_ | with_reducible refine run_skip ?_ | with_reducible refine run_exit rfl ?_ | with_reducible refine run_drw ?_ | with_reducible refine run_condT ?_ | with_reducible refine run_ret' ?_ | with_reducible refine run_end' ?_ | simp only [go_sem, ↓reduceIte, Nat.reduceAdd, Nat.reduceEqDiff, Nat.reduceBEq, reduceCtorEq, Int.reduceBEq, Int.reduceBNe, Int.reduceLT, Int.reduceLE, Option.isSome_some, f2.cell, q2.cell, t1, t2]))
        exact bad _ (Only.drew _ _) (fun h => by simp [MT.alike, hww] at h)
      subst hww
      have t1 : ((wd : Int) != (wd : Int)) = false := by simp
      by_cases c1 : op < 0
      · (repeat (first | with_reducible refine run_seq ?_ | with_reducible refine run_reg ?_ | with_reducible refine run_block ?_ | with_reducible refine run_blk ?_ | with_reducible refine run_skip ?_ | with_reducible refine run_exit rfl ?_ | with_reducible refine run_drw ?_ | with_reducible refine run_condT ?_ | with_reducible refine run_ret' ?_ | with_reducible refine run_end' ?_ | simp only [go_sem, ↓reduceIte, Nat.reduceAdd, Nat.reduceEqDiff, Nat.reduceBEq, reduceCtorEq, Int.reduceBEq, Int.reduceBNe, Int.reduceLT, Int.reduceLE, Option.isSome_some, f2.cell, q2.cell, t1, t2, decide_eq_true c1]))
        exact bad _ (Only.drew _ _) (by omega)
      by_cases c2 : 2 < op
      · (repeat (first | with_reducible refine run_seq ?_ | with_reducible refine run_reg ?_ | with_reducible refine run_block ?_ | with_reducible refine run_blk ?_ | with_reducible refine run_skip ?_ | with_reducible refine run_exit rfl ?_ | with_reducible refine run_drw ?_ | with_reducible refine run_condT ?_ | with_reducible refine run_ret' ?_ | with_reducible refine run_end' ?_ | simp only [go_sem, ↓reduceIte, Nat.reduceAdd, Nat.reduceEqDiff, Nat.reduceBEq, reduceCtorEq, Int.reduceBEq, Int.reduceBNe, Int.reduceLT, Int.reduceLE, Option.isSome_some, f2.cell, q2.cell, t1, t2, decide_eq_false c1, decide_eq_true c2]))
        exact bad _ (Only.drew _ _) (by omega)
      (repeat (first | with_reducible refine run_seq ?_ | with_reducible refine run_reg ?_ | with_reducible refine run_block ?_ | with_reducible refine run_blk ?_ | with_reducible refine run_skip ?_ | with_reducible refine run_exit rfl ?_ | with_reducible refine run_drw ?_ | with_reducible refine run_condT ?_ | with_reducible refine run_ret' ?_ | with_reducible refine run_end' ?_ | simp only [go_sem, ↓reduceIte, Nat.reduceAdd, Nat.reduceEqDiff, Nat.reduceBEq, reduceCtorEq, Int.reduceBEq, Int.reduceBNe, Int.reduceLT, Int.reduceLE, Option.isSome_some, f2.cell, q2.cell, t1, t2, decide_eq_false c1, decide_eq_false c2]))
      have hm : MT.merge (some (wd, l)) (some (wd, l')) op = some (wd, mixN op l l' l.length) := by
        simp only [MT.merge]; rw [if_pos ⟨by simp [MT.alike, hll], by omega, by omega⟩]
      rw [hm]
      refine callT (rClone (RT.mk (h3.keep (Only.drew [] w) (by simp) (by simp)))) ?_
      rintro r w2 ⟨a', S', rfl, ⟨hN, hnew⟩, ho2⟩
      have ho2 : Only [] w w2 := ho2.drew_left
      obtain ⟨b3, g3, e5, e6, h5⟩ := hN
      subst e5 e6
      have hd : w.drew.heap.size = w.heap.size := rfl
      have i5 : w.heap.size ≤ b3 ∧ w.heap.size ≤ g3 := ⟨hnew b3 (by simp), hnew g3 (by simp)⟩
      have i3 : b1 < w.heap.size ∧ g1 < w.heap.size := ⟨f2.lt, f3.lt⟩
      have i4 : b2 < w.heap.size ∧ g2 < w.heap.size := ⟨q2.lt, q3.lt⟩
      have f2 := f2.keep0 ho2
      have f3 := f3.keep0 ho2
      have q2 := q2.keep0 ho2
      have q3 := q3.keep0 ho2
      (repeat (first | with_reducible refine run_seq ?_ | with_reducible refine run_reg ?_ | with_reducible refine run_block ?_ | with_reducible refine run_blk ?_ | with_reducible refine run_skip ?_ | with_reducible refine run_exit rfl ?_ | with_reducible refine run_drw ?_ | with_reducible refine run_condT ?_ | with_reducible refine run_ret' ?_ | with_reducible refine run_end' ?_ | simp only [go_sem, ↓reduceIte, Nat.reduceAdd, Nat.reduceEqDiff, Nat.reduceBEq, reduceCtorEq, Int.reduceBEq, Int.reduceBNe, Int.reduceLT, Int.reduceLE]))
      refine run_loop (9 :: 52 :: 53 :: 54 :: 55 :: 56 :: 57 :: 58 :: 59 :: 60 :: 61 :: 62 :: 63 :: 64 :: 65 :: 66 :: 67 :: 68 :: 69 :: 70 :: 71 :: 72 :: 73 :: 74 :: 75 :: 76 :: 77 :: 78 :: 79 :: 80 :: 81 :: 82 :: 83 :: 84 :: 85 :: 86 :: 87 :: 88 :: 89 :: 90 :: 91 :: 92 :: 93 :: 94 :: 95 :: 96 :: 97 :: 98 :: 99 :: 100 :: 101 :: 102 :: 103 :: 104 :: 105 :: 106 :: 107 :: 108 :: 109 :: 110 :: 111 :: 112 :: 113 :: 114 :: 115 :: 116 :: 117 :: 118 :: 119 :: 120 :: 121 :: 122 :: 123 :: 124 :: 125 :: 126 :: 127 :: 128 :: 129 :: []) (fun g' w' => ∃ (i : Nat), g' 9 = .int .i64 i ∧ i ≤ l.length ∧ RTab w' b3 g3 wd (mixN op l l' i) ∧ Only [g3] w2 w') (fun g' _ => upTo l.length 9 g')
        ⟨0, by simp only [go_sem, ↓reduceIte, Nat.reduceAdd, Nat.reduceEqDiff, Nat.reduceBEq, reduceCtorEq, Int.reduceBEq, Int.reduceBNe, Int.reduceLT, Int.reduceLE]; rfl, by omega, h5, Only.refl _ _⟩ fun g'' w' hI hnext => ?_
      obtain ⟨i, hi, hin, h6, ho6⟩ := hI
      have f2 := f2.keep ho6 (by simp; omega)
      have f3 := f3.keep ho6 (by simp; omega)
      have q2 := q2.keep ho6 (by simp; omega)
      have q3 := q3.keep ho6 (by simp; omega)
      (repeat (first | with_reducible refine run_seq ?_ | with_reducible refine run_reg ?_ | with_reducible refine run_block ?_ | with_reducible refine run_blk ?_ | with_reducible refine run_skip ?_ | with_reducible refine run_exit rfl ?_ | with_reducible refine run_drw ?_ | with_reducible refine run_condT ?_ | with_reducible refine run_ret' ?_ | with_reducible refine run_end' ?_ | simp only [go_sem, ↓reduceIte, Nat.reduceAdd, Nat.reduceEqDiff, Nat.reduceBEq, reduceCtorEq, Int.reduceBEq, Int.reduceBNe, Int.reduceLT, Int.reduceLE, hi, f2.cell]))
      refine condT (fun hlt => ?_) (fun hge => ?_)
      · have hlt : i < l.length := by simpa using hlt
        have x1 := h3.el i
        have x2 := h4.el i
        have x3 := mrg_lt (op := op) x1 x2
        have hml := mixN_len op l l' i
        obtain ⟨cap3, rest3, m2, m3, m4⟩ := h6.mem
        have fin : ∀ (ρ' : Env) (w5 : World), At w5 g3 ((nats (mixN op l l' i) ++ rest3).set i (.int .i64 ((mrg op (l.getD i 0) (l'.getD i 0) : Nat) : Int))) → Only [g3] w'.drew w5 → ρ' 9 = .int .i64 ((i + 1 : Nat) : Int) → (∃ (i : Nat), ρ' 9 = .int .i64 i ∧ i ≤ l.length ∧ RTab w5 b3 g3 wd (mixN op l l' i) ∧ Only [g3] w2 w5) ∧ upTo l.length 9 ρ' < upTo l.length 9 g'' := fun ρ' w5 h7 ho7 h8 => by
          refine ⟨⟨i + 1, h8, hlt, h6.put (by omega) x3 m3 h7 ho7.drew_left, ho6.same ho7.drew_left⟩, ?_⟩
          rw [upTo_int hi, upTo_int h8]; omega
        have hmv : ((mrg op (l.getD i 0) (l'.getD i 0) : Nat) : Int) = if op = 0 then max ((l.getD i 0 : Nat) : Int) (l'.getD i 0 : Nat) else if op = 1 then min ((l.getD i 0 : Nat) : Int) (l'.getD i 0 : Nat) else max 0 (((l.getD i 0 : Nat) : Int) - (l'.getD i 0 : Nat)) := by
          unfold mrg; split
          · omega
          · split <;> omega
        have hsm : 2 ^ wd ≤ 256 := by rcases h3.hw with rfl | rfl | rfl | rfl <;> decide
        have c1 : (0 : Int) ≤ (i : Int) ∧ (i : Int) < (l.length : Int) := ⟨by omega, by omega⟩
        have c2 : (0 : Int) ≤ (i : Int) ∧ (i : Int) < (l'.length : Int) := ⟨by omega, by omega⟩
        have c3 : (0 : Int) ≤ (i : Int) ∧ (i : Int) < ((mixN op l l' i).length : Int) := ⟨by omega, by omega⟩
        have y1 := nats_get rest hlt
        have y2 := nats_get rest' (show i < l'.length by omega)
        have hsub : IntKind.i64.wrap (((l.getD i 0 : Nat) : Int) - (l'.getD i 0 : Nat)) = ((l.getD i 0 : Nat) : Int) - (l'.getD i 0 : Nat) := IntWalk.i64_in _ (by omega)
        have hsz : i < (nats (mixN op l l' i) ++ rest3).length := by simp [nats]; omega
        generalize hxx : l.getD i 0 = x at *
        generalize hyy : l'.getD i 0 = y at *
        generalize hmm : mrg op x y = z at *
        by_cases o0 : op = 0
        · have t0 : (op == 0) = true := by simp [o0]
          rw [if_pos o0] at hmv
          (repeat (first | with_reducible refine run_seq ?_ | with_reducible refine run_reg ?_ | with_reducible refine run_block ?_ | with_reducible refine run_blk ?_ | with_reducible refine run_skip ?_ | with_reducible refine run_exit rfl ?_ | with_reducible refine run_drw ?_ | with_reducible refine run_condT ?_ | with_reducible refine run_ret' ?_ | with_reducible refine run_end' ?_ | simp only [go_sem, ↓reduceIte, Nat.reduceAdd, Nat.reduceEqDiff, Nat.reduceBEq, reduceCtorEq, Int.reduceBEq, Int.reduceBNe, Int.reduceLT, Int.reduceLE, hi, t0, f2.cell, f3.cell, q2.cell, q3.cell, m2.cell, if_pos c1, if_pos c2, if_pos c3, y1, y2, Int.toNat_natCast, Nat.mul_one, ← hmv]))
          refine stT m3.drew hsz rfl fun w5 hs5 ha5 ho5 => ?_
          (repeat (first | with_reducible refine run_seq ?_ | with_reducible refine run_reg ?_ | with_reducible refine run_block ?_ | with_reducible refine run_blk ?_ | with_reducible refine run_skip ?_ | with_reducible refine run_exit rfl ?_ | with_reducible refine run_drw ?_ | with_reducible refine run_condT ?_ | with_reducible refine run_ret' ?_ | with_reducible refine run_end' ?_ | simp only [go_sem, ↓reduceIte, Nat.reduceAdd, Nat.reduceEqDiff, Nat.reduceBEq, reduceCtorEq, Int.reduceBEq, Int.reduceBNe, Int.reduceLT, Int.reduceLE, hi, i64_succ i (by omega)]))
          refine hnext _ _ ?_ ?_ ?_
          · (repeat (first | with_reducible exact Keeps.refl _ _ | with_reducible exact Keeps.ovr _ _ _ | refine Keeps.put ?_ rfl _ | exact Keeps.refl _ _ | exact Keeps.ovr _ _ _ | refine Keeps.ovr2 ?_ rfl _))
          · exact (fin _ _ ha5 ho5 (by simp only [go_sem, ↓reduceIte, Nat.reduceAdd, Nat.reduceEqDiff, Nat.reduceBEq, reduceCtorEq, Int.reduceBEq, Int.reduceBNe, Int.reduceLT, Int.reduceLE])).1
          · exact (fin _ _ ha5 ho5 (by simp only [go_sem, ↓reduceIte, Nat.reduceAdd, Nat.reduceEqDiff, Nat.reduceBEq, reduceCtorEq, Int.reduceBEq, Int.reduceBNe, Int.reduceLT, Int.reduceLE])).2
        · have t0 : (op == 0) = false := by simp [o0]
          rw [if_neg o0] at hmv
          by_cases o1 : op = 1
          · have t1 : (op == 1) = true := by simp [o1]
            rw [if_pos o1] at hmv
            (repeat (first | with_reducible refine run_seq ?_ | with_reducible refine run_reg ?_ | with_reducible refine run_block ?_ | with_reducible refine run_blk ?_ | with_reducible refine run_skip ?_ | with_reducible refine run_exit rfl ?_ | with_reducible refine run_drw ?_ | with_reducible refine run_condT ?_ | with_reducible refine run_ret' ?_ | with_reducible refine run_end' ?_ | simp only [go_sem, ↓reduceIte, Nat.reduceAdd, Nat.reduceEqDiff, Nat.reduceBEq, reduceCtorEq, Int.reduceBEq, Int.reduceBNe, Int.reduceLT, Int.reduceLE, hi, t0, t1, f2.cell, f3.cell, q2.cell, q3.cell, m2.cell, if_pos c1, if_pos c2, if_pos c3, y1, y2, Int.toNat_natCast, Nat.mul_one, ← hmv]))
            refine stT m3.drew hsz rfl fun w5 hs5 ha5 ho5 => ?_
            (repeat (first | with_reducible refine run_seq ?_ | with_reducible refine run_reg ?_ | with_reducible refine run_block ?_ | with_reducible refine run_blk ?_ | with_reducible refine run_skip ?_ | with_reducible refine run_exit rfl ?_ | with_reducible refine run_drw ?_ | with_reducible refine run_condT ?_ | with_reducible refine run_ret' ?_ | with_reducible refine run_end' ?_ | simp only [go_sem, ↓reduceIte, Nat.reduceAdd, Nat.reduceEqDiff, Nat.reduceBEq, reduceCtorEq, Int.reduceBEq, Int.reduceBNe, Int.reduceLT, Int.reduceLE, hi, i64_succ i (by omega)]))
            refine hnext _ _ ?_ ?_ ?_
            · (repeat (first | with_reducible exact Keeps.refl _ _ | with_reducible exact Keeps.ovr _ _ _ | refine Keeps.put ?_ rfl _ | exact Keeps.refl _ _ | exact Keeps.ovr _ _ _ | refine Keeps.ovr2 ?_ rfl _))
            · exact (fin _ _ ha5 ho5 (by simp only [go_sem, ↓reduceIte, Nat.reduceAdd, Nat.reduceEqDiff, Nat.reduceBEq, reduceCtorEq, Int.reduceBEq, Int.reduceBNe, Int.reduceLT, Int.reduceLE])).1
            · exact (fin _ _ ha5 ho5 (by simp only [go_sem, ↓reduceIte, Nat.reduceAdd, Nat.reduceEqDiff, Nat.reduceBEq, reduceCtorEq, Int.reduceBEq, Int.reduceBNe, Int.reduceLT, Int.reduceLE])).2
          · have t1 : (op == 1) = false := by simp [o1]
            rw [if_neg o1] at hmv
            (repeat (first | with_reducible refine run_seq ?_ | with_reducible refine run_reg ?_ | with_reducible refine run_block ?_ | with_reducible refine run_blk ?_ | with_reducible refine run_skip ?_ | with_reducible refine run_exit rfl ?_ | with_reducible refine run_drw ?_ | with_reducible refine run_condT ?_ | with_reducible refine run_ret' ?_ | with_reducible refine run_end' ?_ | simp only [go_sem, ↓reduceIte, Nat.reduceAdd, Nat.reduceEqDiff, Nat.reduceBEq, reduceCtorEq, Int.reduceBEq, Int.reduceBNe, Int.reduceLT, Int.reduceLE, hi, t0, t1, f2.cell, f3.cell, q2.cell, q3.cell, m2.cell, if_pos c1, if_pos c2, if_pos c3, y1, y2, Int.toNat_natCast, Nat.mul_one, hsub, ← hmv]))
            refine stT m3.drew hsz rfl fun w5 hs5 ha5 ho5 => ?_
            (repeat (first | with_reducible refine run_seq ?_ | with_reducible refine run_reg ?_ | with_reducible refine run_block ?_ | with_reducible refine run_blk ?_ | with_reducible refine run_skip ?_ | with_reducible refine run_exit rfl ?_ | with_reducible refine run_drw ?_ | with_reducible refine run_condT ?_ | with_reducible refine run_ret' ?_ | with_reducible refine run_end' ?_ | simp only [go_sem, ↓reduceIte, Nat.reduceAdd, Nat.reduceEqDiff, Nat.reduceBEq, reduceCtorEq, Int.reduceBEq, Int.reduceBNe, Int.reduceLT, Int.reduceLE, hi, i64_succ i (by omega)]))
            refine hnext _ _ ?_ ?_ ?_
            · (repeat (first | with_reducible exact Keeps.refl _ _ | with_reducible exact Keeps.ovr _ _ _ | refine Keeps.put ?_ rfl _ | exact Keeps.refl _ _ | exact Keeps.ovr _ _ _ | refine Keeps.ovr2 ?_ rfl _))
            · exact (fin _ _ ha5 ho5 (by simp only [go_sem, ↓reduceIte, Nat.reduceAdd, Nat.reduceEqDiff, Nat.reduceBEq, reduceCtorEq, Int.reduceBEq, Int.reduceBNe, Int.reduceLT, Int.reduceLE])).1
            · exact (fin _ _ ha5 ho5 (by simp only [go_sem, ↓reduceIte, Nat.reduceAdd, Nat.reduceEqDiff, Nat.reduceBEq, reduceCtorEq, Int.reduceBEq, Int.reduceBNe, Int.reduceLT, Int.reduceLE])).2
      · have hge : ¬ i < l.length := by simpa using hge
        have : i = l.length := by omega
        subst this
        (repeat (first | with_reducible refine run_seq ?_ | with_reducible refine run_reg ?_ | with_reducible refine run_block ?_ | with_reducible refine run_blk ?_ | with_reducible refine run_skip ?_ | with_reducible refine run_exit rfl ?_ | with_reducible refine run_drw ?_ | with_reducible refine run_condT ?_ | with_reducible refine run_ret' ?_ | with_reducible refine run_end' ?_ | simp only [go_sem, ↓reduceIte, Nat.reduceAdd, Nat.reduceEqDiff, Nat.reduceBEq, reduceCtorEq, Int.reduceBEq, Int.reduceBNe, Int.reduceLT, Int.reduceLE]))
        exact ⟨_, _, rfl, ⟨.mk h6, by simp; omega⟩, ho2.same5 ho6 (by simp; omega)⟩
end Go.Proofs.Ythalhkhjacjhgaa
