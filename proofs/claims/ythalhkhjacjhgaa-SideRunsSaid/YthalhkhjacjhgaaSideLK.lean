/- The law SidePlays, walked. -/
import Derived.Test.YthalhkhjacjhgaaSideLI
namespace Go.Proofs.Ythalhkhjacjhgaa
set_option linter.unusedSimpArgs false
set_option linter.unusedVariables false
set_option maxRecDepth 8000

theorem inL_any (L : List Nat) (p : Addr) : inL L (.pointer (some p)) = (p.block ∈ L) := Eq.trans rfl rfl
theorem ActsAt.read {h0 i n cap : Nat} {w : World} {a : Option Addr} {l : List Act4} (h : ActsAt h0 w (.slice a n cap) l) (hw : h0 ≤ w.heap.size) (hi : i < l.length) : ∃ p : Addr, a = some p ∧ p.block < h0 ∧ ∀ w', Only [] w w' →
    cellsAt w' (p.add (i * 4)) 4 = some (actV (l.getD i (0, 0, 0, 0))) ∧ w'.cell? (p.add (i * 4)) = some (.int .i64 (l.getD i (0, 0, 0, 0)).1) ∧ w'.cell? ⟨p.block, (p.add (i * 4)).off + 2, none⟩ = some (.int .i64 (l.getD i (0, 0, 0, 0)).2.2.1) := by
  rcases h with ⟨_, rfl⟩ | ⟨p, cap', e, h1, h2⟩
  · simp at hi
  · cases e
    refine ⟨p, rfl, h1 (by omega), fun w' ho => ?_⟩
    have hc : cellsAt w' (p.add (i * 4)) 4 = some (actV (l.getD i (0, 0, 0, 0))) := by
      rw [cellsAt_heap (w := w) (w' := w') (p := p.add (i * 4)) (by rw [add_block]; have := h1 (by omega); exact ho.block _ (by omega) (by simp))]
      exact h2 i hi
    obtain ⟨_, hj⟩ := cellsAt_spec hc
    have h0 := hj 0 (by omega)
    rw [show (p.add (i * 4)).add 0 = p.add (i * 4) by unfold Addr.add; simp] at h0
    have h2 := hj 2 (by omega)
    rw [show (p.add (i * 4)).add 2 = ⟨p.block, (p.add (i * 4)).off + 2, none⟩ by rw [← add_block p (i * 4)]; rfl] at h2
    exact ⟨hc, h0.trans rfl, h2.trans rfl⟩

/-- what holds at the head of the loop -/
def PlaysI (w : World) (l : List Act4) (g : Env) (w' : World) : Prop := ∃ (i : Nat) (a u : Option Addr) (S T : List Nat) (m : MT), g 11 = .int .i64 i ∧ g 7 = .pointer a ∧ g 9 = .pointer u ∧ i ≤ l.length ∧ NewT w.heap.size w' a S m ∧ RT w' u T m ∧ (∀ x, x ∈ T → w.heap.size ≤ x) ∧ Dj S T ∧ Only [] w w'

theorem plays_walk {w : World} {v : Value} {l : List Act4} (n wd : Int) (hl : ActsAt w.heap.size w v l) : Cs Try.prog 9 [.int .i64 n, .int .i64 wd, v] w fun r w' => r = .bool true ∧ Only [] w w' := by
  refine enter_law01_SidePlays rfl ?_
  unfold x_law01_SidePlays
  (repeat (first | with_reducible refine run_seq ?_ | with_reducible refine run_reg ?_ | with_reducible refine run_block ?_ | with_reducible refine run_blk ?_ | with_reducible refine run_skip ?_ | with_reducible refine run_exit rfl ?_ | with_reducible refine run_drw ?_ | with_reducible refine run_condT ?_ | with_reducible refine run_ret' ?_ | with_reducible refine run_end' ?_ | simp only [go_sem, ↓reduceIte, Nat.reduceAdd, Nat.reduceEqDiff, Nat.reduceBEq, reduceCtorEq, Int.reduceBEq, Int.reduceBNe, Int.reduceLT, Int.reduceLE]))
  refine callT0 (law_great hl) ?_
  by_cases h80 : 80 < l.length
  · (repeat (first | with_reducible refine run_seq ?_ | with_reducible refine run_reg ?_ | with_reducible refine run_block ?_ | with_reducible refine run_blk ?_ | with_reducible refine run_skip ?_ | with_reducible refine run_exit rfl ?_ | with_reducible refine run_drw ?_ | with_reducible refine run_condT ?_ | with_reducible refine run_ret' ?_ | with_reducible refine run_end' ?_ | simp only [go_sem, ↓reduceIte, Nat.reduceAdd, Nat.reduceEqDiff, Nat.reduceBEq, reduceCtorEq, Int.reduceBEq, Int.reduceBNe, Int.reduceLT, Int.reduceLE, decide_eq_true h80]))
    refine callT1 (law_alive w) fun w2 o2 => ?_
    (repeat (first | with_reducible refine run_seq ?_ | with_reducible refine run_reg ?_ | with_reducible refine run_block ?_ | with_reducible refine run_blk ?_ | with_reducible refine run_skip ?_ | with_reducible refine run_exit rfl ?_ | with_reducible refine run_drw ?_ | with_reducible refine run_condT ?_ | with_reducible refine run_ret' ?_ | with_reducible refine run_end' ?_ | simp only [go_sem, ↓reduceIte, Nat.reduceAdd, Nat.reduceEqDiff, Nat.reduceBEq, reduceCtorEq, Int.reduceBEq, Int.reduceBNe, Int.reduceLT, Int.reduceLE]))
    exact o2
  (repeat (first | with_reducible refine run_seq ?_ | with_reducible refine run_reg ?_ | with_reducible refine run_block ?_ | with_reducible refine run_blk ?_ | with_reducible refine run_skip ?_ | with_reducible refine run_exit rfl ?_ | with_reducible refine run_drw ?_ | with_reducible refine run_condT ?_ | with_reducible refine run_ret' ?_ | with_reducible refine run_end' ?_ | simp only [go_sem, ↓reduceIte, Nat.reduceAdd, Nat.reduceEqDiff, Nat.reduceBEq, reduceCtorEq, Int.reduceBEq, Int.reduceBNe, Int.reduceLT, Int.reduceLE, decide_eq_false h80]))
  refine callT (New_m w n wd) ?_
  rintro r w1 ⟨a, S, rfl, hN, o1⟩
  (repeat (first | with_reducible refine run_seq ?_ | with_reducible refine run_reg ?_ | with_reducible refine run_block ?_ | with_reducible refine run_blk ?_ | with_reducible refine run_skip ?_ | with_reducible refine run_exit rfl ?_ | with_reducible refine run_drw ?_ | with_reducible refine run_condT ?_ | with_reducible refine run_ret' ?_ | with_reducible refine run_end' ?_ | simp only [go_sem, ↓reduceIte, Nat.reduceAdd, Nat.reduceEqDiff, Nat.reduceBEq, reduceCtorEq, Int.reduceBEq, Int.reduceBNe, Int.reduceLT, Int.reduceLE]))
  refine callT (rNew w1 n wd) ?_
  rintro r w2 ⟨u, T, rfl, ⟨hR, hT⟩, o2⟩
  have hS := hN.tab.lt
  have hd : Dj S T := fun x hx ht => by have := hS x hx; have := hT x ht; omega
  have hT' : ∀ x, x ∈ T → w.heap.size ≤ x := fun x hx => Nat.le_trans o1.size (hT x hx)
  have hN := hN.keep0 o2
  have o2 := o1.same o2
  obtain ⟨sa, cap, rfl, hc⟩ := hl.cases
  (repeat (first | with_reducible refine run_seq ?_ | with_reducible refine run_reg ?_ | with_reducible refine run_block ?_ | with_reducible refine run_blk ?_ | with_reducible refine run_skip ?_ | with_reducible refine run_exit rfl ?_ | with_reducible refine run_drw ?_ | with_reducible refine run_condT ?_ | with_reducible refine run_ret' ?_ | with_reducible refine run_end' ?_ | simp only [go_sem, ↓reduceIte, Nat.reduceAdd, Nat.reduceEqDiff, Nat.reduceBEq, reduceCtorEq, Int.reduceBEq, Int.reduceBNe, Int.reduceLT, Int.reduceLE, bne_self_eq_false, beq_self_eq_true, nil_eq, hN.some, rt_some hR]))
  refine run_loop (7 :: 9 :: 11 :: 12 :: 13 :: 14 :: 15 :: 41 :: 42 :: 43 :: 44 :: 45 :: 46 :: 47 :: 48 :: 49 :: 50 :: 51 :: 52 :: 53 :: 54 :: 55 :: 56 :: 57 :: 58 :: 59 :: 60 :: 61 :: 62 :: 63 :: 64 :: 65 :: 66 :: 67 :: 68 :: 69 :: 70 :: 71 :: 72 :: 73 :: 74 :: 75 :: 76 :: 77 :: 78 :: 79 :: 80 :: 81 :: 82 :: 83 :: 84 :: 85 :: 86 :: 87 :: 88 :: 89 :: 90 :: 91 :: 92 :: 93 :: 94 :: 95 :: 96 :: 97 :: 98 :: 99 :: 100 :: 101 :: 102 :: 103 :: 104 :: 105 :: 106 :: 107 :: 108 :: 109 :: 110 :: 111 :: 112 :: []) (PlaysI w l) (fun g' _ => upTo l.length 11 g') ?_ fun g' w' hI hnext => ?_
  · refine ⟨0, a, u, S, T, newM n wd, ?_, ?_, ?_, by omega, hN, hR, hT', hd, o2⟩
    · simp only [go_sem, ↓reduceIte, Nat.reduceAdd, Nat.reduceEqDiff, Nat.reduceBEq, reduceCtorEq, Int.reduceBEq, Int.reduceBNe, Int.reduceLT, Int.reduceLE]; rfl
    · simp only [go_sem, ↓reduceIte, Nat.reduceAdd, Nat.reduceEqDiff, Nat.reduceBEq, reduceCtorEq, Int.reduceBEq, Int.reduceBNe, Int.reduceLT, Int.reduceLE]
    · simp only [go_sem, ↓reduceIte, Nat.reduceAdd, Nat.reduceEqDiff, Nat.reduceBEq, reduceCtorEq, Int.reduceBEq, Int.reduceBNe, Int.reduceLT, Int.reduceLE]
  clear hN hR hT hT' hS hd o1 o2
  obtain ⟨i, a, u, S, T, m, hi, h7, h9, hin, hN, hR, hT, hd, ho⟩ := hI
  have fin : ∀ (ρ' : Env) (w5 : World) (a u : Option Addr) (S T : List Nat) (m : MT), i < l.length → NewT w.heap.size w5 a S m → RT w5 u T m → (∀ x, x ∈ T → w.heap.size ≤ x) → Dj S T → Only [] w w5 →
      ρ' 11 = .int .i64 ((i + 1 : Nat) : Int) → ρ' 7 = .pointer a → ρ' 9 = .pointer u → PlaysI w l ρ' w5 ∧ upTo l.length 11 ρ' < upTo l.length 11 g' := fun ρ' w5 a u S T m hlt q1 q2 q3 q4 q5 q6 q7 q8 =>
    ⟨⟨i + 1, a, u, S, T, m, q6, q7, q8, hlt, q1, q2, q3, q4, q5⟩, by rw [upTo_int hi, upTo_int q6]; omega⟩
  have endW : ∀ (b : Bool), (decide ((i : Int) < (l.length : Int)) && m.isSome) = b → b = false → True := fun _ _ _ => trivial
  by_cases hlt : (i : Int) < (l.length : Int) ∧ m.isSome = true
  · obtain ⟨hlt, hms⟩ := hlt
    have hlt' : i < l.length := by omega
    have c1 : (0 : Int) ≤ (i : Int) ∧ (i : Int) < (l.length : Int) := ⟨by omega, by omega⟩
    obtain ⟨p, rfl, hpb, hread⟩ := hl.read (Nat.le_refl _) hlt'
    obtain ⟨e1, e2, e3⟩ := hread w' ho
    have hus := rt_some hR
    rw [hms] at hus
    have ended : ∀ (w3 w5 : World) (a u : Option Addr) (S T : List Nat) (m' : MT), Only [] w w3 → NewT w.heap.size w3 a S m' → RT w3 u T m' → (∀ x, x ∈ T → w.heap.size ≤ x) → Dj S T →
        Tab w5 a S (m'.act (l.getD i (0, 0, 0, 0))) → RT w5 u T (m'.act (l.getD i (0, 0, 0, 0))) → Only (S ++ T) w3 w5 → NewT w.heap.size w5 a S (m'.act (l.getD i (0, 0, 0, 0))) ∧ RT w5 u T (m'.act (l.getD i (0, 0, 0, 0))) ∧ (∀ x, x ∈ T → w.heap.size ≤ x) ∧ Dj S T ∧ Only [] w w5 :=
      fun w3 w5 a u S T m' q1 q2 q3 q4 q5 q6 q7 q8 => ⟨⟨q6, by rw [q2.some, MT.act_some], q2.new⟩, q7, q4, q5, q1.same5 q8 fun x hx => by
        rcases List.mem_append.1 hx with hx | hx
        · exact q2.new x hx
        · exact q4 x hx⟩
    generalize hxx : l.getD i (0, 0, 0, 0) = x at *
    by_cases k6 : x.1 = 6
    · have t6 : (x.1 == 6) = true := by simp [k6]
      have t7 : (x.1 == 7) = false := by simp [k6]
      (repeat (first | with_reducible refine run_seq ?_ | with_reducible refine run_reg ?_ | with_reducible refine run_block ?_ | with_reducible refine run_blk ?_ | with_reducible refine run_skip ?_ | with_reducible refine run_exit rfl ?_ | with_reducible refine run_drw ?_ | with_reducible refine run_condT ?_ | with_reducible refine run_ret' ?_ | with_reducible refine run_end' ?_ | simp only [go_sem, ↓reduceIte, Nat.reduceAdd, Nat.reduceEqDiff, Nat.reduceBEq, reduceCtorEq, Int.reduceBEq, Int.reduceBNe, Int.reduceLT, Int.reduceLE, hi, h7, h9, decide_eq_true hlt, nil_eq, hus, if_pos c1, Int.toNat_natCast, e2, t6]))
      refine callT (Clone_m hN.tab) ?_
      rintro r w3 ⟨a', S', rfl, hN', o3⟩
      (repeat (first | with_reducible refine run_seq ?_ | with_reducible refine run_reg ?_ | with_reducible refine run_block ?_ | with_reducible refine run_blk ?_ | with_reducible refine run_skip ?_ | with_reducible refine run_exit rfl ?_ | with_reducible refine run_drw ?_ | with_reducible refine run_condT ?_ | with_reducible refine run_ret' ?_ | with_reducible refine run_end' ?_ | simp only [go_sem, ↓reduceIte, Nat.reduceAdd, Nat.reduceEqDiff, Nat.reduceBEq, reduceCtorEq, Int.reduceBEq, Int.reduceBNe, Int.reduceLT, Int.reduceLE, h9]))
      refine callT (rClone (hR.keep0 o3)) ?_
      rintro r w4 ⟨u', T', rfl, ⟨hR', hT'⟩, o4⟩
      have o34 := (ho.same o3).same o4
      have z3 := (ho.same o3).size
      obtain ⟨f1, f2, f3⟩ := hread w4 o34
      have dj : Dj S' T' := fun x hx ht => by have := hN'.tab.lt x hx; have := hT' x ht; omega
      have n' : NewT w.heap.size w4 a' S' m := ⟨hN'.tab.keep0 o4, hN'.some, fun x hx => Nat.le_trans ho.size (hN'.new x hx)⟩
      have nT : ∀ x, x ∈ T' → w.heap.size ≤ x := fun x hx => Nat.le_trans z3 (hT' x hx)
      (repeat (first | with_reducible refine run_seq ?_ | with_reducible refine run_reg ?_ | with_reducible refine run_block ?_ | with_reducible refine run_blk ?_ | with_reducible refine run_skip ?_ | with_reducible refine run_exit rfl ?_ | with_reducible refine run_drw ?_ | with_reducible refine run_condT ?_ | with_reducible refine run_ret' ?_ | with_reducible refine run_end' ?_ | simp only [go_sem, ↓reduceIte, Nat.reduceAdd, Nat.reduceEqDiff, Nat.reduceBEq, reduceCtorEq, Int.reduceBEq, Int.reduceBNe, Int.reduceLT, Int.reduceLE, hi, if_pos c1, Int.toNat_natCast, f2, t7, f1]))
      refine callT (play x n'.tab hR' dj) ?_
      rintro r w5 ⟨rfl, g1, g2, o5⟩
      obtain ⟨q1, q2, q3, q4, q5⟩ := ended w4 w5 a' u' S' T' m o34 n' hR' nT dj g1 g2 o5
      (repeat (first | with_reducible refine run_seq ?_ | with_reducible refine run_reg ?_ | with_reducible refine run_block ?_ | with_reducible refine run_blk ?_ | with_reducible refine run_skip ?_ | with_reducible refine run_exit rfl ?_ | with_reducible refine run_drw ?_ | with_reducible refine run_condT ?_ | with_reducible refine run_ret' ?_ | with_reducible refine run_end' ?_ | simp only [go_sem, ↓reduceIte, Nat.reduceAdd, Nat.reduceEqDiff, Nat.reduceBEq, reduceCtorEq, Int.reduceBEq, Int.reduceBNe, Int.reduceLT, Int.reduceLE, hi, i64_succ i (by omega)]))
      refine hnext _ _ ?_ ?_ ?_
      · (repeat (first | with_reducible exact Keeps.refl _ _ | with_reducible exact Keeps.ovr _ _ _ | refine Keeps.put ?_ rfl _ | exact Keeps.refl _ _ | exact Keeps.ovr _ _ _ | refine Keeps.ovr2 ?_ rfl _))
      · exact (fin _ _ _ _ _ _ _ hlt' q1 q2 q3 q4 q5 (by simp only [go_sem, ↓reduceIte, Nat.reduceAdd, Nat.reduceEqDiff, Nat.reduceBEq, reduceCtorEq, Int.reduceBEq, Int.reduceBNe, Int.reduceLT, Int.reduceLE]) (by simp only [go_sem, ↓reduceIte, Nat.reduceAdd, Nat.reduceEqDiff, Nat.reduceBEq, reduceCtorEq, Int.reduceBEq, Int.reduceBNe, Int.reduceLT, Int.reduceLE, h7]) (by simp only [go_sem, ↓reduceIte, Nat.reduceAdd, Nat.reduceEqDiff, Nat.reduceBEq, reduceCtorEq, Int.reduceBEq, Int.reduceBNe, Int.reduceLT, Int.reduceLE, h9])).1
      · exact (fin _ _ _ _ _ _ _ hlt' q1 q2 q3 q4 q5 (by simp only [go_sem, ↓reduceIte, Nat.reduceAdd, Nat.reduceEqDiff, Nat.reduceBEq, reduceCtorEq, Int.reduceBEq, Int.reduceBNe, Int.reduceLT, Int.reduceLE]) (by simp only [go_sem, ↓reduceIte, Nat.reduceAdd, Nat.reduceEqDiff, Nat.reduceBEq, reduceCtorEq, Int.reduceBEq, Int.reduceBNe, Int.reduceLT, Int.reduceLE, h7]) (by simp only [go_sem, ↓reduceIte, Nat.reduceAdd, Nat.reduceEqDiff, Nat.reduceBEq, reduceCtorEq, Int.reduceBEq, Int.reduceBNe, Int.reduceLT, Int.reduceLE, h9])).2
    have t6 : (x.1 == 6) = false := by simp [k6]
    by_cases k7 : x.1 = 7
    · have t7 : (x.1 == 7) = true := by simp [k7]
      have hpw : p.block < w'.heap.size := Nat.lt_of_lt_of_le hpb ho.size
      (repeat (first | with_reducible refine run_seq ?_ | with_reducible refine run_reg ?_ | with_reducible refine run_block ?_ | with_reducible refine run_blk ?_ | with_reducible refine run_skip ?_ | with_reducible refine run_exit rfl ?_ | with_reducible refine run_drw ?_ | with_reducible refine run_condT ?_ | with_reducible refine run_ret' ?_ | with_reducible refine run_end' ?_ | simp only [go_sem, ↓reduceIte, Nat.reduceAdd, Nat.reduceEqDiff, Nat.reduceBEq, reduceCtorEq, Int.reduceBEq, Int.reduceBNe, Int.reduceLT, Int.reduceLE, hi, h7, h9, decide_eq_true hlt, nil_eq, hus, if_pos c1, Int.toNat_natCast, e2, t6, t7]))
      refine run_drg [p.block] ?_
      (repeat (first | with_reducible refine run_seq ?_ | with_reducible refine run_reg ?_ | with_reducible refine run_block ?_ | with_reducible refine run_blk ?_ | with_reducible refine run_skip ?_ | with_reducible refine run_exit rfl ?_ | with_reducible refine run_drw ?_ | with_reducible refine run_condT ?_ | with_reducible refine run_ret' ?_ | with_reducible refine run_end' ?_ | simp only [go_sem, ↓reduceIte, Nat.reduceAdd, Nat.reduceEqDiff, Nat.reduceBEq, reduceCtorEq, Int.reduceBEq, Int.reduceBNe, Int.reduceLT, Int.reduceLE, hi, h7, if_pos c1, Int.toNat_natCast, e3, inL_any, add_block]))
      have sbp : ∀ (w3 : World), Only [] w'.drew w3 → SB [p.block] w'.drew w3 := fun w3 o => (SB.refl _ _).only o fun x hx => by
        rcases List.mem_cons.1 hx with rfl | hx
        · exact ⟨hpw, by simp⟩
        · cases hx
      refine callS (Clone_m (hN.tab.keep0 (Only.drew _ _))) ?_
      rintro r w3 ⟨c, C, rfl, hC, o3⟩
      refine ⟨.inr (sbp _ o3), ?_⟩
      (repeat (first | with_reducible refine run_seq ?_ | with_reducible refine run_reg ?_ | with_reducible refine run_block ?_ | with_reducible refine run_blk ?_ | with_reducible refine run_skip ?_ | with_reducible refine run_exit rfl ?_ | with_reducible refine run_drw ?_ | with_reducible refine run_condT ?_ | with_reducible refine run_ret' ?_ | with_reducible refine run_end' ?_ | simp only [go_sem, ↓reduceIte, Nat.reduceAdd, Nat.reduceEqDiff, Nat.reduceBEq, reduceCtorEq, Int.reduceBEq, Int.reduceBNe, Int.reduceLT, Int.reduceLE]))
      refine callS (Merge_m ((hN.tab.keep0 (Only.drew _ _)).keep0 o3) hC.tab x.2.2.1) ?_
      rintro r w4 ⟨a2, S2, rfl, hA2, o4⟩
      refine ⟨.inr (sbp _ (o3.same o4)), ?_⟩
      have o4' : Only [] w' w4 := (o3.same o4).drew_left
      have hR4 := hR.keep0 o4'
      have hN4 := hN.keep0 o4'
      have ho4 := ho.same o4'
      obtain ⟨y1, y2, y3⟩ := hread w4 ho4
      have hpw4 : p.block < w4.heap.size := Nat.lt_of_lt_of_le hpw o4'.size
      (repeat (first | with_reducible refine run_seq ?_ | with_reducible refine run_reg ?_ | with_reducible refine run_block ?_ | with_reducible refine run_blk ?_ | with_reducible refine run_skip ?_ | with_reducible refine run_exit rfl ?_ | with_reducible refine run_drw ?_ | with_reducible refine run_condT ?_ | with_reducible refine run_ret' ?_ | with_reducible refine run_end' ?_ | simp only [go_sem, ↓reduceIte, Nat.reduceAdd, Nat.reduceEqDiff, Nat.reduceBEq, reduceCtorEq, Int.reduceBEq, Int.reduceBNe, Int.reduceLT, Int.reduceLE]))
      refine run_drg [p.block] ?_
      (repeat (first | with_reducible refine run_seq ?_ | with_reducible refine run_reg ?_ | with_reducible refine run_block ?_ | with_reducible refine run_blk ?_ | with_reducible refine run_skip ?_ | with_reducible refine run_exit rfl ?_ | with_reducible refine run_drw ?_ | with_reducible refine run_condT ?_ | with_reducible refine run_ret' ?_ | with_reducible refine run_end' ?_ | simp only [go_sem, ↓reduceIte, Nat.reduceAdd, Nat.reduceEqDiff, Nat.reduceBEq, reduceCtorEq, Int.reduceBEq, Int.reduceBNe, Int.reduceLT, Int.reduceLE, hi, h9, if_pos c1, Int.toNat_natCast, y3, inL_any, add_block]))
      have sbp : ∀ (w3 : World), Only [] w4.drew w3 → SB [p.block] w4.drew w3 := fun w3 o => (SB.refl _ _).only o fun x hx => by
        rcases List.mem_cons.1 hx with rfl | hx
        · exact ⟨hpw4, by simp⟩
        · cases hx
      refine callS (rClone (hR4.keep0 (Only.drew _ _))) ?_
      rintro r w5 ⟨d, D, rfl, ⟨hD, _⟩, o5⟩
      refine ⟨.inr (sbp _ o5), ?_⟩
      (repeat (first | with_reducible refine run_seq ?_ | with_reducible refine run_reg ?_ | with_reducible refine run_block ?_ | with_reducible refine run_blk ?_ | with_reducible refine run_skip ?_ | with_reducible refine run_exit rfl ?_ | with_reducible refine run_drw ?_ | with_reducible refine run_condT ?_ | with_reducible refine run_ret' ?_ | with_reducible refine run_end' ?_ | simp only [go_sem, ↓reduceIte, Nat.reduceAdd, Nat.reduceEqDiff, Nat.reduceBEq, reduceCtorEq, Int.reduceBEq, Int.reduceBNe, Int.reduceLT, Int.reduceLE]))
      refine callS (rMerge ((hR4.keep0 (Only.drew _ _)).keep0 o5) hD x.2.2.1) ?_
      rintro r w6 ⟨u2, T2, rfl, ⟨hU2, hT2⟩, o6⟩
      refine ⟨.inr (sbp _ (o5.same o6)), ?_⟩
      have o6' : Only [] w4 w6 := (o5.same o6).drew_left
      have ho6 := ho4.same o6'
      have hA6 := hA2.keep0 o6'
      have hN6 := hN4.keep0 o6'
      have hR6 := hR4.keep0 o6'
      obtain ⟨z1, z2, z3⟩ := hread w6 ho6
      have hss : a2.isSome = (m.merge m x.2.2.1).isSome := hA2.some
      have hus2 := rt_some hU2
      cases hmm : (m.merge m x.2.2.1).isSome with
      | true =>
        rw [hmm] at hss hus2
        have n6 : NewT w.heap.size w6 a2 S2 (m.merge m x.2.2.1) := ⟨hA6.tab, hA6.some, fun y hy => Nat.le_trans (Nat.le_trans ho.size o3.size) (hA2.new y hy)⟩
        have nT : ∀ y, y ∈ T2 → w.heap.size ≤ y := fun y hy => Nat.le_trans (Nat.le_trans ho4.size o5.size) (hT2 y hy)
        have dj : Dj S2 T2 := fun y h1 h2 => by have := hA2.tab.lt y h1; have := hT2 y h2; have := o5.size; have e : w4.drew.heap.size = w4.heap.size := rfl; omega
        (repeat (first | with_reducible refine run_seq ?_ | with_reducible refine run_reg ?_ | with_reducible refine run_block ?_ | with_reducible refine run_blk ?_ | with_reducible refine run_skip ?_ | with_reducible refine run_exit rfl ?_ | with_reducible refine run_drw ?_ | with_reducible refine run_condT ?_ | with_reducible refine run_ret' ?_ | with_reducible refine run_end' ?_ | simp only [go_sem, ↓reduceIte, Nat.reduceAdd, Nat.reduceEqDiff, Nat.reduceBEq, reduceCtorEq, Int.reduceBEq, Int.reduceBNe, Int.reduceLT, Int.reduceLE, hi, bne_self_eq_false, beq_self_eq_true, nil_eq, hss, hus2, if_pos c1, Int.toNat_natCast, z1]))
        refine callT (play x n6.tab hU2 dj) ?_
        rintro r w7 ⟨rfl, g1, g2, o7⟩
        obtain ⟨q1, q2, q3, q4, q5⟩ := ended w6 w7 a2 u2 S2 T2 _ ho6 n6 hU2 nT dj g1 g2 o7
        (repeat (first | with_reducible refine run_seq ?_ | with_reducible refine run_reg ?_ | with_reducible refine run_block ?_ | with_reducible refine run_blk ?_ | with_reducible refine run_skip ?_ | with_reducible refine run_exit rfl ?_ | with_reducible refine run_drw ?_ | with_reducible refine run_condT ?_ | with_reducible refine run_ret' ?_ | with_reducible refine run_end' ?_ | simp only [go_sem, ↓reduceIte, Nat.reduceAdd, Nat.reduceEqDiff, Nat.reduceBEq, reduceCtorEq, Int.reduceBEq, Int.reduceBNe, Int.reduceLT, Int.reduceLE, hi, i64_succ i (by omega)]))
        refine hnext _ _ ?_ ?_ ?_
        · (repeat (first | with_reducible exact Keeps.refl _ _ | with_reducible exact Keeps.ovr _ _ _ | refine Keeps.put ?_ rfl _ | exact Keeps.refl _ _ | exact Keeps.ovr _ _ _ | refine Keeps.ovr2 ?_ rfl _))
        · exact (fin _ _ _ _ _ _ _ hlt' q1 q2 q3 q4 q5 (by simp only [go_sem, ↓reduceIte, Nat.reduceAdd, Nat.reduceEqDiff, Nat.reduceBEq, reduceCtorEq, Int.reduceBEq, Int.reduceBNe, Int.reduceLT, Int.reduceLE]) (by simp only [go_sem, ↓reduceIte, Nat.reduceAdd, Nat.reduceEqDiff, Nat.reduceBEq, reduceCtorEq, Int.reduceBEq, Int.reduceBNe, Int.reduceLT, Int.reduceLE, h7]) (by simp only [go_sem, ↓reduceIte, Nat.reduceAdd, Nat.reduceEqDiff, Nat.reduceBEq, reduceCtorEq, Int.reduceBEq, Int.reduceBNe, Int.reduceLT, Int.reduceLE, h9])).1
        · exact (fin _ _ _ _ _ _ _ hlt' q1 q2 q3 q4 q5 (by simp only [go_sem, ↓reduceIte, Nat.reduceAdd, Nat.reduceEqDiff, Nat.reduceBEq, reduceCtorEq, Int.reduceBEq, Int.reduceBNe, Int.reduceLT, Int.reduceLE]) (by simp only [go_sem, ↓reduceIte, Nat.reduceAdd, Nat.reduceEqDiff, Nat.reduceBEq, reduceCtorEq, Int.reduceBEq, Int.reduceBNe, Int.reduceLT, Int.reduceLE, h7]) (by simp only [go_sem, ↓reduceIte, Nat.reduceAdd, Nat.reduceEqDiff, Nat.reduceBEq, reduceCtorEq, Int.reduceBEq, Int.reduceBNe, Int.reduceLT, Int.reduceLE, h9])).2
      | false =>
        rw [hmm] at hss hus2
        (repeat (first | with_reducible refine run_seq ?_ | with_reducible refine run_reg ?_ | with_reducible refine run_block ?_ | with_reducible refine run_blk ?_ | with_reducible refine run_skip ?_ | with_reducible refine run_exit rfl ?_ | with_reducible refine run_drw ?_ | with_reducible refine run_condT ?_ | with_reducible refine run_ret' ?_ | with_reducible refine run_end' ?_ | simp only [go_sem, ↓reduceIte, Nat.reduceAdd, Nat.reduceEqDiff, Nat.reduceBEq, reduceCtorEq, Int.reduceBEq, Int.reduceBNe, Int.reduceLT, Int.reduceLE, hi, h7, h9, bne_self_eq_false, beq_self_eq_true, nil_eq, hss, hus2, if_pos c1, Int.toNat_natCast, z1]))
        refine callT (play x hN6.tab hR6 hd) ?_
        rintro r w7 ⟨rfl, g1, g2, o7⟩
        obtain ⟨q1, q2, q3, q4, q5⟩ := ended w6 w7 a u S T m ho6 hN6 hR6 hT hd g1 g2 o7
        (repeat (first | with_reducible refine run_seq ?_ | with_reducible refine run_reg ?_ | with_reducible refine run_block ?_ | with_reducible refine run_blk ?_ | with_reducible refine run_skip ?_ | with_reducible refine run_exit rfl ?_ | with_reducible refine run_drw ?_ | with_reducible refine run_condT ?_ | with_reducible refine run_ret' ?_ | with_reducible refine run_end' ?_ | simp only [go_sem, ↓reduceIte, Nat.reduceAdd, Nat.reduceEqDiff, Nat.reduceBEq, reduceCtorEq, Int.reduceBEq, Int.reduceBNe, Int.reduceLT, Int.reduceLE, hi, i64_succ i (by omega)]))
        refine hnext _ _ ?_ ?_ ?_
        · (repeat (first | with_reducible exact Keeps.refl _ _ | with_reducible exact Keeps.ovr _ _ _ | refine Keeps.put ?_ rfl _ | exact Keeps.refl _ _ | exact Keeps.ovr _ _ _ | refine Keeps.ovr2 ?_ rfl _))
        · exact (fin _ _ _ _ _ _ _ hlt' q1 q2 q3 q4 q5 (by simp only [go_sem, ↓reduceIte, Nat.reduceAdd, Nat.reduceEqDiff, Nat.reduceBEq, reduceCtorEq, Int.reduceBEq, Int.reduceBNe, Int.reduceLT, Int.reduceLE]) (by simp only [go_sem, ↓reduceIte, Nat.reduceAdd, Nat.reduceEqDiff, Nat.reduceBEq, reduceCtorEq, Int.reduceBEq, Int.reduceBNe, Int.reduceLT, Int.reduceLE, h7]) (by simp only [go_sem, ↓reduceIte, Nat.reduceAdd, Nat.reduceEqDiff, Nat.reduceBEq, reduceCtorEq, Int.reduceBEq, Int.reduceBNe, Int.reduceLT, Int.reduceLE, h9])).1
        · exact (fin _ _ _ _ _ _ _ hlt' q1 q2 q3 q4 q5 (by simp only [go_sem, ↓reduceIte, Nat.reduceAdd, Nat.reduceEqDiff, Nat.reduceBEq, reduceCtorEq, Int.reduceBEq, Int.reduceBNe, Int.reduceLT, Int.reduceLE]) (by simp only [go_sem, ↓reduceIte, Nat.reduceAdd, Nat.reduceEqDiff, Nat.reduceBEq, reduceCtorEq, Int.reduceBEq, Int.reduceBNe, Int.reduceLT, Int.reduceLE, h7]) (by simp only [go_sem, ↓reduceIte, Nat.reduceAdd, Nat.reduceEqDiff, Nat.reduceBEq, reduceCtorEq, Int.reduceBEq, Int.reduceBNe, Int.reduceLT, Int.reduceLE, h9])).2
    have t7 : (x.1 == 7) = false := by simp [k7]
    (repeat (first | with_reducible refine run_seq ?_ | with_reducible refine run_reg ?_ | with_reducible refine run_block ?_ | with_reducible refine run_blk ?_ | with_reducible refine run_skip ?_ | with_reducible refine run_exit rfl ?_ | with_reducible refine run_drw ?_ | with_reducible refine run_condT ?_ | with_reducible refine run_ret' ?_ | with_reducible refine run_end' ?_ | simp only [go_sem, ↓reduceIte, Nat.reduceAdd, Nat.reduceEqDiff, Nat.reduceBEq, reduceCtorEq, Int.reduceBEq, Int.reduceBNe, Int.reduceLT, Int.reduceLE, hi, h7, h9, decide_eq_true hlt, nil_eq, hus, if_pos c1, Int.toNat_natCast, e1, e2, t6, t7]))
    refine callT (play x hN.tab hR hd) ?_
    rintro r w5 ⟨rfl, g1, g2, o5⟩
    obtain ⟨q1, q2, q3, q4, q5⟩ := ended w' w5 a u S T m ho hN hR hT hd g1 g2 o5
    (repeat (first | with_reducible refine run_seq ?_ | with_reducible refine run_reg ?_ | with_reducible refine run_block ?_ | with_reducible refine run_blk ?_ | with_reducible refine run_skip ?_ | with_reducible refine run_exit rfl ?_ | with_reducible refine run_drw ?_ | with_reducible refine run_condT ?_ | with_reducible refine run_ret' ?_ | with_reducible refine run_end' ?_ | simp only [go_sem, ↓reduceIte, Nat.reduceAdd, Nat.reduceEqDiff, Nat.reduceBEq, reduceCtorEq, Int.reduceBEq, Int.reduceBNe, Int.reduceLT, Int.reduceLE, hi, i64_succ i (by omega)]))
    refine hnext _ _ ?_ ?_ ?_
    · (repeat (first | with_reducible exact Keeps.refl _ _ | with_reducible exact Keeps.ovr _ _ _ | refine Keeps.put ?_ rfl _ | exact Keeps.refl _ _ | exact Keeps.ovr _ _ _ | refine Keeps.ovr2 ?_ rfl _))
    · exact (fin _ _ _ _ _ _ _ hlt' q1 q2 q3 q4 q5 (by simp only [go_sem, ↓reduceIte, Nat.reduceAdd, Nat.reduceEqDiff, Nat.reduceBEq, reduceCtorEq, Int.reduceBEq, Int.reduceBNe, Int.reduceLT, Int.reduceLE]) (by simp only [go_sem, ↓reduceIte, Nat.reduceAdd, Nat.reduceEqDiff, Nat.reduceBEq, reduceCtorEq, Int.reduceBEq, Int.reduceBNe, Int.reduceLT, Int.reduceLE, h7]) (by simp only [go_sem, ↓reduceIte, Nat.reduceAdd, Nat.reduceEqDiff, Nat.reduceBEq, reduceCtorEq, Int.reduceBEq, Int.reduceBNe, Int.reduceLT, Int.reduceLE, h9])).1
    · exact (fin _ _ _ _ _ _ _ hlt' q1 q2 q3 q4 q5 (by simp only [go_sem, ↓reduceIte, Nat.reduceAdd, Nat.reduceEqDiff, Nat.reduceBEq, reduceCtorEq, Int.reduceBEq, Int.reduceBNe, Int.reduceLT, Int.reduceLE]) (by simp only [go_sem, ↓reduceIte, Nat.reduceAdd, Nat.reduceEqDiff, Nat.reduceBEq, reduceCtorEq, Int.reduceBEq, Int.reduceBNe, Int.reduceLT, Int.reduceLE, h7]) (by simp only [go_sem, ↓reduceIte, Nat.reduceAdd, Nat.reduceEqDiff, Nat.reduceBEq, reduceCtorEq, Int.reduceBEq, Int.reduceBNe, Int.reduceLT, Int.reduceLE, h9])).2
  · have done : ∀ (ρ : Env), ρ 7 = .pointer a → ρ 9 = .pointer u → True := fun _ _ _ => trivial
    have hcond : ((i : Int) < (l.length : Int)) = False ∨ (((i : Int) < (l.length : Int)) = True ∧ m.isSome = false) := by
      by_cases h : (i : Int) < (l.length : Int)
      · refine .inr ⟨by simp [h], ?_⟩
        cases hm : m.isSome with
        | false => rfl
        | true => exact absurd ⟨h, hm⟩ hlt
      · exact .inl (by simp [h])
    have hus := rt_some hR
    rcases hcond with hc1 | ⟨hc1, hc2⟩
    case' inr => rw [hc2] at hus
    all_goals
      (repeat (first | with_reducible refine run_seq ?_ | with_reducible refine run_reg ?_ | with_reducible refine run_block ?_ | with_reducible refine run_blk ?_ | with_reducible refine run_skip ?_ | with_reducible refine run_exit rfl ?_ | with_reducible refine run_drw ?_ | with_reducible refine run_condT ?_ | with_reducible refine run_ret' ?_ | with_reducible refine run_end' ?_ | simp only [go_sem, ↓reduceIte, Nat.reduceAdd, Nat.reduceEqDiff, Nat.reduceBEq, reduceCtorEq, Int.reduceBEq, Int.reduceBNe, Int.reduceLT, Int.reduceLE, hi, h7, h9, hc1, nil_eq, hus]))
      refine callT1 (law_Same hN.tab hN.some hR) fun w3 o3 => ?_
      (repeat (first | with_reducible refine run_seq ?_ | with_reducible refine run_reg ?_ | with_reducible refine run_block ?_ | with_reducible refine run_blk ?_ | with_reducible refine run_skip ?_ | with_reducible refine run_exit rfl ?_ | with_reducible refine run_drw ?_ | with_reducible refine run_condT ?_ | with_reducible refine run_ret' ?_ | with_reducible refine run_end' ?_ | simp only [go_sem, ↓reduceIte, Nat.reduceAdd, Nat.reduceEqDiff, Nat.reduceBEq, reduceCtorEq, Int.reduceBEq, Int.reduceBNe, Int.reduceLT, Int.reduceLE, h7, h9]))
      refine callT1 (law_looks (hN.tab.keep0 o3) (hR.keep0 o3) 0) fun w4 o4 => ?_
      have o4 := o3.same o4
      (repeat (first | with_reducible refine run_seq ?_ | with_reducible refine run_reg ?_ | with_reducible refine run_block ?_ | with_reducible refine run_blk ?_ | with_reducible refine run_skip ?_ | with_reducible refine run_exit rfl ?_ | with_reducible refine run_drw ?_ | with_reducible refine run_condT ?_ | with_reducible refine run_ret' ?_ | with_reducible refine run_end' ?_ | simp only [go_sem, ↓reduceIte, Nat.reduceAdd, Nat.reduceEqDiff, Nat.reduceBEq, reduceCtorEq, Int.reduceBEq, Int.reduceBNe, Int.reduceLT, Int.reduceLE, h7, h9]))
      refine callT1 (law_looks (hN.tab.keep0 o4) (hR.keep0 o4) 1) fun w5 o5 => ?_
      have o5 := o4.same o5
      (repeat (first | with_reducible refine run_seq ?_ | with_reducible refine run_reg ?_ | with_reducible refine run_block ?_ | with_reducible refine run_blk ?_ | with_reducible refine run_skip ?_ | with_reducible refine run_exit rfl ?_ | with_reducible refine run_drw ?_ | with_reducible refine run_condT ?_ | with_reducible refine run_ret' ?_ | with_reducible refine run_end' ?_ | simp only [go_sem, ↓reduceIte, Nat.reduceAdd, Nat.reduceEqDiff, Nat.reduceBEq, reduceCtorEq, Int.reduceBEq, Int.reduceBNe, Int.reduceLT, Int.reduceLE, h7, h9]))
      refine callT1 (law_looks (hN.tab.keep0 o5) (hR.keep0 o5) 3) fun w6 o6 => ?_
      have o6 := o5.same o6
      (repeat (first | with_reducible refine run_seq ?_ | with_reducible refine run_reg ?_ | with_reducible refine run_block ?_ | with_reducible refine run_blk ?_ | with_reducible refine run_skip ?_ | with_reducible refine run_exit rfl ?_ | with_reducible refine run_drw ?_ | with_reducible refine run_condT ?_ | with_reducible refine run_ret' ?_ | with_reducible refine run_end' ?_ | simp only [go_sem, ↓reduceIte, Nat.reduceAdd, Nat.reduceEqDiff, Nat.reduceBEq, reduceCtorEq, Int.reduceBEq, Int.reduceBNe, Int.reduceLT, Int.reduceLE, h7, h9]))
      refine callT1 (law_looks (hN.tab.keep0 o6) (hR.keep0 o6) 255) fun w7 o7 => ?_
      have o7 := o6.same o7
      (repeat (first | with_reducible refine run_seq ?_ | with_reducible refine run_reg ?_ | with_reducible refine run_block ?_ | with_reducible refine run_blk ?_ | with_reducible refine run_skip ?_ | with_reducible refine run_exit rfl ?_ | with_reducible refine run_drw ?_ | with_reducible refine run_condT ?_ | with_reducible refine run_ret' ?_ | with_reducible refine run_end' ?_ | simp only [go_sem, ↓reduceIte, Nat.reduceAdd, Nat.reduceEqDiff, Nat.reduceBEq, reduceCtorEq, Int.reduceBEq, Int.reduceBNe, Int.reduceLT, Int.reduceLE, h7, h9]))
      refine callT1 (law_looks (hN.tab.keep0 o7) (hR.keep0 o7) (-1)) fun w8 o8 => ?_
      have o8 := o7.same o8
      (repeat (first | with_reducible refine run_seq ?_ | with_reducible refine run_reg ?_ | with_reducible refine run_block ?_ | with_reducible refine run_blk ?_ | with_reducible refine run_skip ?_ | with_reducible refine run_exit rfl ?_ | with_reducible refine run_drw ?_ | with_reducible refine run_condT ?_ | with_reducible refine run_ret' ?_ | with_reducible refine run_end' ?_ | simp only [go_sem, ↓reduceIte, Nat.reduceAdd, Nat.reduceEqDiff, Nat.reduceBEq, reduceCtorEq, Int.reduceBEq, Int.reduceBNe, Int.reduceLT, Int.reduceLE, h7, h9]))
      refine callT1 (law_alive _) fun w9 o9 => ?_
      (repeat (first | with_reducible refine run_seq ?_ | with_reducible refine run_reg ?_ | with_reducible refine run_block ?_ | with_reducible refine run_blk ?_ | with_reducible refine run_skip ?_ | with_reducible refine run_exit rfl ?_ | with_reducible refine run_drw ?_ | with_reducible refine run_condT ?_ | with_reducible refine run_ret' ?_ | with_reducible refine run_end' ?_ | simp only [go_sem, ↓reduceIte, Nat.reduceAdd, Nat.reduceEqDiff, Nat.reduceBEq, reduceCtorEq, Int.reduceBEq, Int.reduceBNe, Int.reduceLT, Int.reduceLE]))
      exact (ho.same o8).same o9
end Go.Proofs.Ythalhkhjacjhgaa
