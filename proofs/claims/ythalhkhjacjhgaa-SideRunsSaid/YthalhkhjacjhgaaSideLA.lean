/- The laws' own functions: play. -/
import Derived.Test.YthalhkhjacjhgaaSideZ
namespace Go.Proofs.Ythalhkhjacjhgaa
set_option linter.unusedSimpArgs false
set_option linter.unusedVariables false
set_option maxRecDepth 8000

def Dj (S T : List Nat) : Prop := ∀ x, x ∈ S → x ∉ T
theorem Dj.symm {S T : List Nat} (h : Dj S T) : Dj T S := fun x hx hs => h x hs hx
def actV (x : Act4) : List Value := [.int .i64 x.1, .int .i64 x.2.1, .int .i64 x.2.2.1, .int .i64 x.2.2.2]
theorem sub_l {S T : List Nat} {a b : World} (h : Only S a b) : Only (S ++ T) a b := h.sub fun x hx => List.mem_append_left _ hx
theorem sub_r {S T : List Nat} {a b : World} (h : Only T a b) : Only (S ++ T) a b := h.sub fun x hx => List.mem_append_right _ hx
/-- behind a call on a table and one on the reference's -/
theorem play_end {w w1 w2 : World} {a u : Option Addr} {S T : List Nat} {m k : MT} (hd : Dj S T) (h1 : Tab w1 a S m) (o1 : Only S w w1) (h2 : RT w2 u T k) (o2 : Only T w1 w2) : Tab w2 a S m ∧ RT w2 u T k ∧ Only (S ++ T) w w2 :=
  ⟨h1.keep o2 hd, h2, (sub_l o1).same (sub_r o2)⟩

theorem Only.first {S : List Nat} {a b c : World} (h : Only [] a b) (k : Only S b c) : Only S a c := h.of_nil.same k

theorem play {w : World} {a u : Option Addr} {S T : List Nat} {m : MT} (x : Act4) (h1 : Tab w a S m) (h2 : RT w u T m) (hd : Dj S T) : Cs Try.prog 31 [.pointer a, .pointer u, .agg ⟨actV x⟩] w fun r w' => r = .bool true ∧ Tab w' a S (m.act x) ∧ RT w' u T (m.act x) ∧ Only (S ++ T) w w' := by
  obtain ⟨k, A, B, C⟩ := x
  refine enter_law01_play rfl ?_
  unfold x_law01_play
  simp only [actV]
  (repeat (first | with_reducible refine run_seq ?_ | with_reducible refine run_reg ?_ | with_reducible refine run_block ?_ | with_reducible refine run_blk ?_ | with_reducible refine run_skip ?_ | with_reducible refine run_exit rfl ?_ | with_reducible refine run_drw ?_ | with_reducible refine run_condT ?_ | with_reducible refine run_ret' ?_ | with_reducible refine run_end' ?_ | simp only [go_sem, ↓reduceIte, Nat.reduceAdd, Nat.reduceEqDiff, Nat.reduceBEq, reduceCtorEq, Int.reduceBEq, Int.reduceBNe, Int.reduceLT, Int.reduceLE]))
  refine boxT fun q w1 hq hsz hat ho => ?_
  have hqS : q ∉ S := fun h => by have := h1.lt q h; omega
  have hqT : q ∉ T := fun h => by have := h2.lt q h; omega
  have h1 := h1.keep0 ho
  have h2 := h2.keep0 ho
  by_cases c0 : k = 0
  · have t0 : (k == 0) = true := by simp [c0]
    have hM : MT.act m (k, A, B, C) = m.setM A B := by simp [MT.act, c0]
    rw [hM]
    (repeat (first | with_reducible refine run_seq ?_ | with_reducible refine run_reg ?_ | with_reducible refine run_block ?_ | with_reducible refine run_blk ?_ | with_reducible refine run_skip ?_ | with_reducible refine run_exit rfl ?_ | with_reducible refine run_drw ?_ | with_reducible refine run_condT ?_ | with_reducible refine run_ret' ?_ | with_reducible refine run_end' ?_ | simp only [go_sem, ↓reduceIte, Nat.reduceAdd, Nat.reduceEqDiff, Nat.reduceBEq, reduceCtorEq, Int.reduceBEq, Int.reduceBNe, Int.reduceLT, Int.reduceLE, hat.cell, t0]))
    refine run_drg [q] ?_
    (repeat (first | with_reducible refine run_seq ?_ | with_reducible refine run_reg ?_ | with_reducible refine run_block ?_ | with_reducible refine run_blk ?_ | with_reducible refine run_skip ?_ | with_reducible refine run_exit rfl ?_ | with_reducible refine run_drw ?_ | with_reducible refine run_condT ?_ | with_reducible refine run_ret' ?_ | with_reducible refine run_end' ?_ | simp only [go_sem, ↓reduceIte, Nat.reduceAdd, Nat.reduceEqDiff, Nat.reduceBEq, reduceCtorEq, Int.reduceBEq, Int.reduceBNe, Int.reduceLT, Int.reduceLE, hat.cell]))
    refine callS (Set_m (h1.keep0 (Only.drew _ _)) A B) ?_
    rintro r w2 ⟨rfl, g1, o1⟩
    refine ⟨.inr ((SB.refl _ _).only o1 fun x hx => ?_), ?_⟩
    · rcases List.mem_cons.1 hx with rfl | hx
      · exact ⟨hat.lt, hqS⟩
      · cases hx
    (repeat (first | with_reducible refine run_seq ?_ | with_reducible refine run_reg ?_ | with_reducible refine run_block ?_ | with_reducible refine run_blk ?_ | with_reducible refine run_skip ?_ | with_reducible refine run_exit rfl ?_ | with_reducible refine run_drw ?_ | with_reducible refine run_condT ?_ | with_reducible refine run_ret' ?_ | with_reducible refine run_end' ?_ | simp only [go_sem, ↓reduceIte, Nat.reduceAdd, Nat.reduceEqDiff, Nat.reduceBEq, reduceCtorEq, Int.reduceBEq, Int.reduceBNe, Int.reduceLT, Int.reduceLE]))
    refine callS (rSet ((h2.keep0 (Only.drew _ _)).keep o1 fun x hx hs => hd x hs hx) A B) ?_
    rintro r w3 ⟨rfl, g2, o2⟩
    refine ⟨.inr (((SB.refl _ _).only o1 fun x hx => ?_).only o2 fun x hx => ?_), ?_⟩
    · rcases List.mem_cons.1 hx with rfl | hx
      · exact ⟨hat.lt, hqS⟩
      · cases hx
    · rcases List.mem_cons.1 hx with rfl | hx
      · exact ⟨Nat.lt_of_lt_of_le hat.lt o1.size, hqT⟩
      · cases hx
    (repeat (first | with_reducible refine run_seq ?_ | with_reducible refine run_reg ?_ | with_reducible refine run_block ?_ | with_reducible refine run_blk ?_ | with_reducible refine run_skip ?_ | with_reducible refine run_exit rfl ?_ | with_reducible refine run_drw ?_ | with_reducible refine run_condT ?_ | with_reducible refine run_ret' ?_ | with_reducible refine run_end' ?_ | simp only [go_sem, ↓reduceIte, Nat.reduceAdd, Nat.reduceEqDiff, Nat.reduceBEq, reduceCtorEq, Int.reduceBEq, Int.reduceBNe, Int.reduceLT, Int.reduceLE, beq_self_eq_true]))
    obtain ⟨e1, e2, e3⟩ := play_end hd g1 o1 g2 o2
    exact ⟨e1, e2, Only.first ho e3.drew_left⟩
  have t0 : (k == 0) = false := by simp [c0]
  by_cases c1 : k = 1
  · have t1 : (k == 1) = true := by simp [c1]
    have hM : MT.act m (k, A, B, C) = m.fillM A B C := by simp [MT.act, c0, c1]
    rw [hM]
    (repeat (first | with_reducible refine run_seq ?_ | with_reducible refine run_reg ?_ | with_reducible refine run_block ?_ | with_reducible refine run_blk ?_ | with_reducible refine run_skip ?_ | with_reducible refine run_exit rfl ?_ | with_reducible refine run_drw ?_ | with_reducible refine run_condT ?_ | with_reducible refine run_ret' ?_ | with_reducible refine run_end' ?_ | simp only [go_sem, ↓reduceIte, Nat.reduceAdd, Nat.reduceEqDiff, Nat.reduceBEq, reduceCtorEq, Int.reduceBEq, Int.reduceBNe, Int.reduceLT, Int.reduceLE, hat.cell, t0, t1]))
    refine run_drg [q] ?_
    (repeat (first | with_reducible refine run_seq ?_ | with_reducible refine run_reg ?_ | with_reducible refine run_block ?_ | with_reducible refine run_blk ?_ | with_reducible refine run_skip ?_ | with_reducible refine run_exit rfl ?_ | with_reducible refine run_drw ?_ | with_reducible refine run_condT ?_ | with_reducible refine run_ret' ?_ | with_reducible refine run_end' ?_ | simp only [go_sem, ↓reduceIte, Nat.reduceAdd, Nat.reduceEqDiff, Nat.reduceBEq, reduceCtorEq, Int.reduceBEq, Int.reduceBNe, Int.reduceLT, Int.reduceLE, hat.cell]))
    refine callS (Fill_m (h1.keep0 (Only.drew _ _)) A B C) ?_
    rintro r w2 ⟨rfl, g1, o1⟩
    refine ⟨.inr ((SB.refl _ _).only o1 fun x hx => ?_), ?_⟩
    · rcases List.mem_cons.1 hx with rfl | hx
      · exact ⟨hat.lt, hqS⟩
      · cases hx
    (repeat (first | with_reducible refine run_seq ?_ | with_reducible refine run_reg ?_ | with_reducible refine run_block ?_ | with_reducible refine run_blk ?_ | with_reducible refine run_skip ?_ | with_reducible refine run_exit rfl ?_ | with_reducible refine run_drw ?_ | with_reducible refine run_condT ?_ | with_reducible refine run_ret' ?_ | with_reducible refine run_end' ?_ | simp only [go_sem, ↓reduceIte, Nat.reduceAdd, Nat.reduceEqDiff, Nat.reduceBEq, reduceCtorEq, Int.reduceBEq, Int.reduceBNe, Int.reduceLT, Int.reduceLE]))
    refine callS (rFill ((h2.keep0 (Only.drew _ _)).keep o1 fun x hx hs => hd x hs hx) A B C) ?_
    rintro r w3 ⟨rfl, g2, o2⟩
    refine ⟨.inr (((SB.refl _ _).only o1 fun x hx => ?_).only o2 fun x hx => ?_), ?_⟩
    · rcases List.mem_cons.1 hx with rfl | hx
      · exact ⟨hat.lt, hqS⟩
      · cases hx
    · rcases List.mem_cons.1 hx with rfl | hx
      · exact ⟨Nat.lt_of_lt_of_le hat.lt o1.size, hqT⟩
      · cases hx
    (repeat (first | with_reducible refine run_seq ?_ | with_reducible refine run_reg ?_ | with_reducible refine run_block ?_ | with_reducible refine run_blk ?_ | with_reducible refine run_skip ?_ | with_reducible refine run_exit rfl ?_ | with_reducible refine run_drw ?_ | with_reducible refine run_condT ?_ | with_reducible refine run_ret' ?_ | with_reducible refine run_end' ?_ | simp only [go_sem, ↓reduceIte, Nat.reduceAdd, Nat.reduceEqDiff, Nat.reduceBEq, reduceCtorEq, Int.reduceBEq, Int.reduceBNe, Int.reduceLT, Int.reduceLE, beq_self_eq_true]))
    obtain ⟨e1, e2, e3⟩ := play_end hd g1 o1 g2 o2
    exact ⟨e1, e2, Only.first ho e3.drew_left⟩
  have t1 : (k == 1) = false := by simp [c1]
  by_cases c2 : k = 2
  · have t2 : (k == 2) = true := by simp [c2]
    have hM : MT.act m (k, A, B, C) = m.swapM A B C := by simp [MT.act, c0, c1, c2]
    rw [hM]
    (repeat (first | with_reducible refine run_seq ?_ | with_reducible refine run_reg ?_ | with_reducible refine run_block ?_ | with_reducible refine run_blk ?_ | with_reducible refine run_skip ?_ | with_reducible refine run_exit rfl ?_ | with_reducible refine run_drw ?_ | with_reducible refine run_condT ?_ | with_reducible refine run_ret' ?_ | with_reducible refine run_end' ?_ | simp only [go_sem, ↓reduceIte, Nat.reduceAdd, Nat.reduceEqDiff, Nat.reduceBEq, reduceCtorEq, Int.reduceBEq, Int.reduceBNe, Int.reduceLT, Int.reduceLE, hat.cell, t0, t1, t2]))
    refine callT (Swap_m h1 A B C) ?_
    rintro r w2 ⟨rfl, g1, o1⟩
    have hat2 := hat.keep o1 hqS
    (repeat (first | with_reducible refine run_seq ?_ | with_reducible refine run_reg ?_ | with_reducible refine run_block ?_ | with_reducible refine run_blk ?_ | with_reducible refine run_skip ?_ | with_reducible refine run_exit rfl ?_ | with_reducible refine run_drw ?_ | with_reducible refine run_condT ?_ | with_reducible refine run_ret' ?_ | with_reducible refine run_end' ?_ | simp only [go_sem, ↓reduceIte, Nat.reduceAdd, Nat.reduceEqDiff, Nat.reduceBEq, reduceCtorEq, Int.reduceBEq, Int.reduceBNe, Int.reduceLT, Int.reduceLE, hat2.cell]))
    refine callT (rSwap (h2.keep o1 fun x hx hs => hd x hs hx) A B C) ?_
    rintro r w3 ⟨rfl, g2, o2⟩
    (repeat (first | with_reducible refine run_seq ?_ | with_reducible refine run_reg ?_ | with_reducible refine run_block ?_ | with_reducible refine run_blk ?_ | with_reducible refine run_skip ?_ | with_reducible refine run_exit rfl ?_ | with_reducible refine run_drw ?_ | with_reducible refine run_condT ?_ | with_reducible refine run_ret' ?_ | with_reducible refine run_end' ?_ | simp only [go_sem, ↓reduceIte, Nat.reduceAdd, Nat.reduceEqDiff, Nat.reduceBEq, reduceCtorEq, Int.reduceBEq, Int.reduceBNe, Int.reduceLT, Int.reduceLE, beq_self_eq_true]))
    obtain ⟨e1, e2, e3⟩ := play_end hd g1 o1 g2 o2
    exact ⟨e1, e2, Only.first ho e3⟩
  have t2 : (k == 2) = false := by simp [c2]
  by_cases c3 : k = 3
  · have t3 : (k == 3) = true := by simp [c3]
    have hM : MT.act m (k, A, B, C) = m.addM A B := by simp [MT.act, c0, c1, c2, c3]
    rw [hM]
    (repeat (first | with_reducible refine run_seq ?_ | with_reducible refine run_reg ?_ | with_reducible refine run_block ?_ | with_reducible refine run_blk ?_ | with_reducible refine run_skip ?_ | with_reducible refine run_exit rfl ?_ | with_reducible refine run_drw ?_ | with_reducible refine run_condT ?_ | with_reducible refine run_ret' ?_ | with_reducible refine run_end' ?_ | simp only [go_sem, ↓reduceIte, Nat.reduceAdd, Nat.reduceEqDiff, Nat.reduceBEq, reduceCtorEq, Int.reduceBEq, Int.reduceBNe, Int.reduceLT, Int.reduceLE, hat.cell, t0, t1, t2, t3]))
    refine callT (Add_m h1 A B) ?_
    rintro r w2 ⟨rfl, g1, o1⟩
    have hat2 := hat.keep o1 hqS
    (repeat (first | with_reducible refine run_seq ?_ | with_reducible refine run_reg ?_ | with_reducible refine run_block ?_ | with_reducible refine run_blk ?_ | with_reducible refine run_skip ?_ | with_reducible refine run_exit rfl ?_ | with_reducible refine run_drw ?_ | with_reducible refine run_condT ?_ | with_reducible refine run_ret' ?_ | with_reducible refine run_end' ?_ | simp only [go_sem, ↓reduceIte, Nat.reduceAdd, Nat.reduceEqDiff, Nat.reduceBEq, reduceCtorEq, Int.reduceBEq, Int.reduceBNe, Int.reduceLT, Int.reduceLE, hat2.cell]))
    refine callT (rAdd (h2.keep o1 fun x hx hs => hd x hs hx) A B) ?_
    rintro r w3 ⟨rfl, g2, o2⟩
    (repeat (first | with_reducible refine run_seq ?_ | with_reducible refine run_reg ?_ | with_reducible refine run_block ?_ | with_reducible refine run_blk ?_ | with_reducible refine run_skip ?_ | with_reducible refine run_exit rfl ?_ | with_reducible refine run_drw ?_ | with_reducible refine run_condT ?_ | with_reducible refine run_ret' ?_ | with_reducible refine run_end' ?_ | simp only [go_sem, ↓reduceIte, Nat.reduceAdd, Nat.reduceEqDiff, Nat.reduceBEq, reduceCtorEq, Int.reduceBEq, Int.reduceBNe, Int.reduceLT, Int.reduceLE, beq_self_eq_true]))
    obtain ⟨e1, e2, e3⟩ := play_end hd g1 o1 g2 o2
    exact ⟨e1, e2, Only.first ho e3⟩
  have t3 : (k == 3) = false := by simp [c3]
  have hM : MT.act m (k, A, B, C) = m := by simp [MT.act, c0, c1, c2, c3]
  rw [hM]
  by_cases c4 : k = 4
  · have t4 : (k == 4) = true := by simp [c4]
    (repeat (first | with_reducible refine run_seq ?_ | with_reducible refine run_reg ?_ | with_reducible refine run_block ?_ | with_reducible refine run_blk ?_ | with_reducible refine run_skip ?_ | with_reducible refine run_exit rfl ?_ | with_reducible refine run_drw ?_ | with_reducible refine run_condT ?_ | with_reducible refine run_ret' ?_ | with_reducible refine run_end' ?_ | simp only [go_sem, ↓reduceIte, Nat.reduceAdd, Nat.reduceEqDiff, Nat.reduceBEq, reduceCtorEq, Int.reduceBEq, Int.reduceBNe, Int.reduceLT, Int.reduceLE, hat.cell, t0, t1, t2, t3, t4]))
    refine callT1 (Next_m h1 A B) fun w2 o1 => ?_
    have hat2 := hat.keep0 o1
    (repeat (first | with_reducible refine run_seq ?_ | with_reducible refine run_reg ?_ | with_reducible refine run_block ?_ | with_reducible refine run_blk ?_ | with_reducible refine run_skip ?_ | with_reducible refine run_exit rfl ?_ | with_reducible refine run_drw ?_ | with_reducible refine run_condT ?_ | with_reducible refine run_ret' ?_ | with_reducible refine run_end' ?_ | simp only [go_sem, ↓reduceIte, Nat.reduceAdd, Nat.reduceEqDiff, Nat.reduceBEq, reduceCtorEq, Int.reduceBEq, Int.reduceBNe, Int.reduceLT, Int.reduceLE, hat2.cell]))
    refine callT1 (rNext (h2.keep0 o1) A B) fun w3 o2 => ?_
    (repeat (first | with_reducible refine run_seq ?_ | with_reducible refine run_reg ?_ | with_reducible refine run_block ?_ | with_reducible refine run_blk ?_ | with_reducible refine run_skip ?_ | with_reducible refine run_exit rfl ?_ | with_reducible refine run_drw ?_ | with_reducible refine run_condT ?_ | with_reducible refine run_ret' ?_ | with_reducible refine run_end' ?_ | simp only [go_sem, ↓reduceIte, Nat.reduceAdd, Nat.reduceEqDiff, Nat.reduceBEq, reduceCtorEq, Int.reduceBEq, Int.reduceBNe, Int.reduceLT, Int.reduceLE, beq_self_eq_true]))
    exact ⟨(h1.keep0 o1).keep0 o2, (h2.keep0 o1).keep0 o2, ((ho.same o1).same o2).of_nil⟩
  have t4 : (k == 4) = false := by simp [c4]
  by_cases c5 : k = 5
  · have t5 : (k == 5) = true := by simp [c5]
    (repeat (first | with_reducible refine run_seq ?_ | with_reducible refine run_reg ?_ | with_reducible refine run_block ?_ | with_reducible refine run_blk ?_ | with_reducible refine run_skip ?_ | with_reducible refine run_exit rfl ?_ | with_reducible refine run_drw ?_ | with_reducible refine run_condT ?_ | with_reducible refine run_ret' ?_ | with_reducible refine run_end' ?_ | simp only [go_sem, ↓reduceIte, Nat.reduceAdd, Nat.reduceEqDiff, Nat.reduceBEq, reduceCtorEq, Int.reduceBEq, Int.reduceBNe, Int.reduceLT, Int.reduceLE, hat.cell, t0, t1, t2, t3, t4, t5]))
    refine callT1 (Last_m h1 A B) fun w2 o1 => ?_
    have hat2 := hat.keep0 o1
    (repeat (first | with_reducible refine run_seq ?_ | with_reducible refine run_reg ?_ | with_reducible refine run_block ?_ | with_reducible refine run_blk ?_ | with_reducible refine run_skip ?_ | with_reducible refine run_exit rfl ?_ | with_reducible refine run_drw ?_ | with_reducible refine run_condT ?_ | with_reducible refine run_ret' ?_ | with_reducible refine run_end' ?_ | simp only [go_sem, ↓reduceIte, Nat.reduceAdd, Nat.reduceEqDiff, Nat.reduceBEq, reduceCtorEq, Int.reduceBEq, Int.reduceBNe, Int.reduceLT, Int.reduceLE, hat2.cell]))
    refine callT1 (rLast (h2.keep0 o1) A B) fun w3 o2 => ?_
    (repeat (first | with_reducible refine run_seq ?_ | with_reducible refine run_reg ?_ | with_reducible refine run_block ?_ | with_reducible refine run_blk ?_ | with_reducible refine run_skip ?_ | with_reducible refine run_exit rfl ?_ | with_reducible refine run_drw ?_ | with_reducible refine run_condT ?_ | with_reducible refine run_ret' ?_ | with_reducible refine run_end' ?_ | simp only [go_sem, ↓reduceIte, Nat.reduceAdd, Nat.reduceEqDiff, Nat.reduceBEq, reduceCtorEq, Int.reduceBEq, Int.reduceBNe, Int.reduceLT, Int.reduceLE, beq_self_eq_true]))
    exact ⟨(h1.keep0 o1).keep0 o2, (h2.keep0 o1).keep0 o2, ((ho.same o1).same o2).of_nil⟩
  have t5 : (k == 5) = false := by simp [c5]
  (repeat (first | with_reducible refine run_seq ?_ | with_reducible refine run_reg ?_ | with_reducible refine run_block ?_ | with_reducible refine run_blk ?_ | with_reducible refine run_skip ?_ | with_reducible refine run_exit rfl ?_ | with_reducible refine run_drw ?_ | with_reducible refine run_condT ?_ | with_reducible refine run_ret' ?_ | with_reducible refine run_end' ?_ | simp only [go_sem, ↓reduceIte, Nat.reduceAdd, Nat.reduceEqDiff, Nat.reduceBEq, reduceCtorEq, Int.reduceBEq, Int.reduceBNe, Int.reduceLT, Int.reduceLE, hat.cell, t0, t1, t2, t3, t4, t5]))
  exact ⟨h1, h2, ho.of_nil⟩
end Go.Proofs.Ythalhkhjacjhgaa
