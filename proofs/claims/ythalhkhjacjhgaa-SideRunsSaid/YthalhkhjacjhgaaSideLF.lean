/- The law SideStuck, walked. -/
import Derived.Test.YthalhkhjacjhgaaSideLE
import Derived.Test.YthalhkhjacjhgaaSideP
namespace Go.Proofs.Ythalhkhjacjhgaa
set_option linter.unusedSimpArgs false
set_option linter.unusedVariables false
set_option maxRecDepth 8000

theorem add_facts {wd x : Nat} {d : Int} (hx : x < 2 ^ wd) :
    addV wd x d < 2 ^ wd ∧ (x = 2 ^ wd - 1 → addV wd x d = x) ∧ (x ≠ 2 ^ wd - 1 → ((addV wd x d : Nat) : Int) = max 0 (min ((2 ^ wd - 1 : Nat) : Int) ((x : Int) + d))) := by
  have hp := Nat.two_pow_pos wd
  refine ⟨?_, fun e => ?_, fun e => ?_⟩
  · unfold addV; split <;> omega
  · unfold addV; rw [if_neg (by omega)]
  · unfold addV; rw [if_pos (by omega)]; omega

theorem IntsAt.cells {h0 k n cap : Nat} {w : World} {a : Option Addr} {l : List Int} (h : IntsAt h0 w (.slice a n cap) l) (hw : h0 ≤ w.heap.size) (hk : k < l.length) : ∃ p, a = some p ∧ ∀ w', Only [] w w' → w'.cell? (p.add k) = some (.int .i64 (l.getD k 0)) := by
  rcases h with ⟨_, rfl⟩ | ⟨p, cap', e, h1, h2⟩
  · simp at hk
  · cases e
    refine ⟨p, rfl, fun w' ho => ?_⟩
    rw [cell_of_heap (w := w) (w' := w') (a := p.add k) (by rw [add_block]; have := h1 (by omega); exact ho.block _ (by omega) (by simp))]
    exact h2 k hk
theorem add_ok {wd : Nat} {l : List Nat} {i d : Int} (h : MT.addE (some (wd, l)) i d = 0) : ∃ k : Nat, i = k ∧ k < l.length ∧ -255 ≤ d ∧ d ≤ 255 := by
  simp only [MT.addE] at h
  rcases MT.check_cases (wd := wd) (l := l) (i := i) (vs := []) with ⟨e, q1, _⟩ | ⟨e, _⟩
  · rw [if_pos e] at h
    obtain ⟨k, rfl, hk⟩ := hasB_nat q1
    refine ⟨k, rfl, hk, ?_⟩
    split at h
    · cases h
    · omega
  · rw [if_neg (by rw [e]; decide), e] at h; cases h
theorem stuck_walk {w : World} {v v4 : Value} {l : List Act4} {l4 : List Int} (n wd i : Int) (hl : ActsAt w.heap.size w v l) (hl4 : IntsAt w.heap.size w v4 l4) : Cs Try.prog 7 [.int .i64 n, .int .i64 wd, v, .int .i64 i, v4] w fun r w' => r = .bool true ∧ Only [] w w' := by
  refine enter_law01_SideStuck rfl ?_
  unfold x_law01_SideStuck
  obtain ⟨a4, cap4, rfl⟩ : ∃ (a : Option Addr) (cap : Nat), v4 = .slice a l4.length cap := by
    rcases hl4 with ⟨h, rfl⟩ | ⟨a, cap, h, _⟩
    · exact ⟨_, _, h⟩
    · exact ⟨_, _, h⟩
  by_cases h80 : 80 < l.length
  · (repeat (first | with_reducible refine run_seq ?_ | with_reducible refine run_reg ?_ | with_reducible refine run_block ?_ | with_reducible refine run_blk ?_ | with_reducible refine run_skip ?_ | with_reducible refine run_exit rfl ?_ | with_reducible refine run_drw ?_ | with_reducible refine run_condT ?_ | with_reducible refine run_ret' ?_ | with_reducible refine run_end' ?_ | simp only [go_sem, ↓reduceIte, Nat.reduceAdd, Nat.reduceEqDiff, Nat.reduceBEq, reduceCtorEq, Int.reduceBEq, Int.reduceBNe, Int.reduceLT, Int.reduceLE]))
    refine callT (law_made_great hl n wd h80) ?_
    rintro r w1 ⟨rfl, o1⟩
    (repeat (first | with_reducible refine run_seq ?_ | with_reducible refine run_reg ?_ | with_reducible refine run_block ?_ | with_reducible refine run_blk ?_ | with_reducible refine run_skip ?_ | with_reducible refine run_exit rfl ?_ | with_reducible refine run_drw ?_ | with_reducible refine run_condT ?_ | with_reducible refine run_ret' ?_ | with_reducible refine run_end' ?_ | simp only [go_sem, ↓reduceIte, Nat.reduceAdd, Nat.reduceEqDiff, Nat.reduceBEq, reduceCtorEq, Int.reduceBEq, Int.reduceBNe, Int.reduceLT, Int.reduceLE]))
    refine callT0 (law_great hl) ?_
    (repeat (first | with_reducible refine run_seq ?_ | with_reducible refine run_reg ?_ | with_reducible refine run_block ?_ | with_reducible refine run_blk ?_ | with_reducible refine run_skip ?_ | with_reducible refine run_exit rfl ?_ | with_reducible refine run_drw ?_ | with_reducible refine run_condT ?_ | with_reducible refine run_ret' ?_ | with_reducible refine run_end' ?_ | simp only [go_sem, ↓reduceIte, Nat.reduceAdd, Nat.reduceEqDiff, Nat.reduceBEq, reduceCtorEq, Int.reduceBEq, Int.reduceBNe, Int.reduceLT, Int.reduceLE, decide_eq_true h80]))
    refine callT1 (law_alive w1) fun w2 o2 => ?_
    (repeat (first | with_reducible refine run_seq ?_ | with_reducible refine run_reg ?_ | with_reducible refine run_block ?_ | with_reducible refine run_blk ?_ | with_reducible refine run_skip ?_ | with_reducible refine run_exit rfl ?_ | with_reducible refine run_drw ?_ | with_reducible refine run_condT ?_ | with_reducible refine run_ret' ?_ | with_reducible refine run_end' ?_ | simp only [go_sem, ↓reduceIte, Nat.reduceAdd, Nat.reduceEqDiff, Nat.reduceBEq, reduceCtorEq, Int.reduceBEq, Int.reduceBNe, Int.reduceLT, Int.reduceLE]))
    exact o1.same o2
  (repeat (first | with_reducible refine run_seq ?_ | with_reducible refine run_reg ?_ | with_reducible refine run_block ?_ | with_reducible refine run_blk ?_ | with_reducible refine run_skip ?_ | with_reducible refine run_exit rfl ?_ | with_reducible refine run_drw ?_ | with_reducible refine run_condT ?_ | with_reducible refine run_ret' ?_ | with_reducible refine run_end' ?_ | simp only [go_sem, ↓reduceIte, Nat.reduceAdd, Nat.reduceEqDiff, Nat.reduceBEq, reduceCtorEq, Int.reduceBEq, Int.reduceBNe, Int.reduceLT, Int.reduceLE]))
  refine callT (law_made hl (Nat.le_refl _) n wd h80) ?_
  rintro r w1 ⟨a, u, S, T, rfl, hN, hR, hT, hd, o1⟩
  (repeat (first | with_reducible refine run_seq ?_ | with_reducible refine run_reg ?_ | with_reducible refine run_block ?_ | with_reducible refine run_blk ?_ | with_reducible refine run_skip ?_ | with_reducible refine run_exit rfl ?_ | with_reducible refine run_drw ?_ | with_reducible refine run_condT ?_ | with_reducible refine run_ret' ?_ | with_reducible refine run_end' ?_ | simp only [go_sem, ↓reduceIte, Nat.reduceAdd, Nat.reduceEqDiff, Nat.reduceBEq, reduceCtorEq, Int.reduceBEq, Int.reduceBNe, Int.reduceLT, Int.reduceLE]))
  refine callT0 (law_great hl) ?_
  generalize madeM n wd l = m at *
  rcases hN.elim with ⟨rfl, rfl⟩ | ⟨wd', l', b, g, rfl, rfl, rfl⟩
  · (repeat (first | with_reducible refine run_seq ?_ | with_reducible refine run_reg ?_ | with_reducible refine run_block ?_ | with_reducible refine run_blk ?_ | with_reducible refine run_skip ?_ | with_reducible refine run_exit rfl ?_ | with_reducible refine run_drw ?_ | with_reducible refine run_condT ?_ | with_reducible refine run_ret' ?_ | with_reducible refine run_end' ?_ | simp only [go_sem, ↓reduceIte, Nat.reduceAdd, Nat.reduceEqDiff, Nat.reduceBEq, reduceCtorEq, Int.reduceBEq, Int.reduceBNe, Int.reduceLT, Int.reduceLE, decide_eq_false h80]))
    refine callT1 (law_alive w1) fun w2 o2 => ?_
    (repeat (first | with_reducible refine run_seq ?_ | with_reducible refine run_reg ?_ | with_reducible refine run_block ?_ | with_reducible refine run_blk ?_ | with_reducible refine run_skip ?_ | with_reducible refine run_exit rfl ?_ | with_reducible refine run_drw ?_ | with_reducible refine run_condT ?_ | with_reducible refine run_ret' ?_ | with_reducible refine run_end' ?_ | simp only [go_sem, ↓reduceIte, Nat.reduceAdd, Nat.reduceEqDiff, Nat.reduceBEq, reduceCtorEq, Int.reduceBEq, Int.reduceBNe, Int.reduceLT, Int.reduceLE]))
    exact o1.same o2
  by_cases h84 : (80 : Int) < (l4.length : Int)
  · (repeat (first | with_reducible refine run_seq ?_ | with_reducible refine run_reg ?_ | with_reducible refine run_block ?_ | with_reducible refine run_blk ?_ | with_reducible refine run_skip ?_ | with_reducible refine run_exit rfl ?_ | with_reducible refine run_drw ?_ | with_reducible refine run_condT ?_ | with_reducible refine run_ret' ?_ | with_reducible refine run_end' ?_ | simp only [go_sem, ↓reduceIte, Nat.reduceAdd, Nat.reduceEqDiff, Nat.reduceBEq, reduceCtorEq, Int.reduceBEq, Int.reduceBNe, Int.reduceLT, Int.reduceLE, decide_eq_false h80, decide_eq_true h84]))
    refine callT1 (law_alive w1) fun w2 o2 => ?_
    (repeat (first | with_reducible refine run_seq ?_ | with_reducible refine run_reg ?_ | with_reducible refine run_block ?_ | with_reducible refine run_blk ?_ | with_reducible refine run_skip ?_ | with_reducible refine run_exit rfl ?_ | with_reducible refine run_drw ?_ | with_reducible refine run_condT ?_ | with_reducible refine run_ret' ?_ | with_reducible refine run_end' ?_ | simp only [go_sem, ↓reduceIte, Nat.reduceAdd, Nat.reduceEqDiff, Nat.reduceBEq, reduceCtorEq, Int.reduceBEq, Int.reduceBNe, Int.reduceLT, Int.reduceLE]))
    exact o1.same o2
  have h1 := hN.tab
  have hnew : ∀ x, x ∈ [b, g] → w.heap.size ≤ x := hN.new
  have hwd : Wd wd' := by obtain ⟨_, _, e1, _, h3⟩ := h1; exact h3.hw
  have e1 : IntKind.i64.wrap (IntKind.i64.wrap (1 * 2 ^ (min ((wd' : Int).toNat) 64)) - 1) = ((2 ^ wd' - 1 : Nat) : Int) := by
    rcases hwd with rfl | rfl | rfl | rfl <;> decide
  have hm8 : 2 ^ wd' - 1 < 256 := by rcases hwd with rfl | rfl | rfl | rfl <;> decide
  (repeat (first | with_reducible refine run_seq ?_ | with_reducible refine run_reg ?_ | with_reducible refine run_block ?_ | with_reducible refine run_blk ?_ | with_reducible refine run_skip ?_ | with_reducible refine run_exit rfl ?_ | with_reducible refine run_drw ?_ | with_reducible refine run_condT ?_ | with_reducible refine run_ret' ?_ | with_reducible refine run_end' ?_ | simp only [go_sem, ↓reduceIte, Nat.reduceAdd, Nat.reduceEqDiff, Nat.reduceBEq, reduceCtorEq, Int.reduceBEq, Int.reduceBNe, Int.reduceLT, Int.reduceLE, decide_eq_false h80, decide_eq_false h84]))
  refine callT1 (Width_m h1) fun w2 o2 => ?_
  (repeat (first | with_reducible refine run_seq ?_ | with_reducible refine run_reg ?_ | with_reducible refine run_block ?_ | with_reducible refine run_blk ?_ | with_reducible refine run_skip ?_ | with_reducible refine run_exit rfl ?_ | with_reducible refine run_drw ?_ | with_reducible refine run_condT ?_ | with_reducible refine run_ret' ?_ | with_reducible refine run_end' ?_ | simp only [go_sem, ↓reduceIte, Nat.reduceAdd, Nat.reduceEqDiff, Nat.reduceBEq, reduceCtorEq, Int.reduceBEq, Int.reduceBNe, Int.reduceLT, Int.reduceLE, MT.width, e1]))
  refine run_loop (14 :: 15 :: 16 :: 17 :: 18 :: 42 :: 43 :: 44 :: 45 :: 46 :: 47 :: 48 :: 49 :: 50 :: 51 :: 52 :: 53 :: 54 :: 55 :: 56 :: 57 :: 58 :: 59 :: 60 :: 61 :: 62 :: 63 :: 64 :: 65 :: 66 :: 67 :: 68 :: 69 :: 70 :: 71 :: 72 :: 73 :: 74 :: 75 :: 76 :: 77 :: 78 :: 79 :: 80 :: 81 :: 82 :: 83 :: 84 :: 85 :: 86 :: 87 :: 88 :: 89 :: 90 :: 91 :: 92 :: 93 :: 94 :: 95 :: 96 :: 97 :: 98 :: 99 :: 100 :: 101 :: 102 :: 103 :: 104 :: 105 :: 106 :: 107 :: 108 :: 109 :: 110 :: 111 :: 112 :: []) (fun g' w' => ∃ (k : Nat) (l2 : List Nat), g' 14 = .int .i64 k ∧ k ≤ l4.length ∧ Tab w' (some ⟨b, 0, none⟩) [b, g] (some (wd', l2)) ∧ Only [] w w') (fun g' _ => upTo l4.length 14 g')
    ⟨0, l', by simp only [go_sem, ↓reduceIte, Nat.reduceAdd, Nat.reduceEqDiff, Nat.reduceBEq, reduceCtorEq, Int.reduceBEq, Int.reduceBNe, Int.reduceLT, Int.reduceLE]; rfl, by omega, h1.keep0 o2, o1.same o2⟩ fun g' w' hI hnext => ?_
  obtain ⟨k, l2, hk, hkn, hT2, ho⟩ := hI
  (repeat (first | with_reducible refine run_seq ?_ | with_reducible refine run_reg ?_ | with_reducible refine run_block ?_ | with_reducible refine run_blk ?_ | with_reducible refine run_skip ?_ | with_reducible refine run_exit rfl ?_ | with_reducible refine run_drw ?_ | with_reducible refine run_condT ?_ | with_reducible refine run_ret' ?_ | with_reducible refine run_end' ?_ | simp only [go_sem, ↓reduceIte, Nat.reduceAdd, Nat.reduceEqDiff, Nat.reduceBEq, reduceCtorEq, Int.reduceBEq, Int.reduceBNe, Int.reduceLT, Int.reduceLE, hk]))
  refine condT (fun hlt => ?_) (fun hge => ?_)
  · have hlt : k < l4.length := by simpa using hlt
    have c1 : (0 : Int) ≤ (k : Int) ∧ (k : Int) < (l4.length : Int) := ⟨by omega, by omega⟩
    (repeat (first | with_reducible refine run_seq ?_ | with_reducible refine run_reg ?_ | with_reducible refine run_block ?_ | with_reducible refine run_blk ?_ | with_reducible refine run_skip ?_ | with_reducible refine run_exit rfl ?_ | with_reducible refine run_drw ?_ | with_reducible refine run_condT ?_ | with_reducible refine run_ret' ?_ | with_reducible refine run_end' ?_ | simp only [go_sem, ↓reduceIte, Nat.reduceAdd, Nat.reduceEqDiff, Nat.reduceBEq, reduceCtorEq, Int.reduceBEq, Int.reduceBNe, Int.reduceLT, Int.reduceLE, hk]))
    refine callT1 (Get_m hT2 i) fun w3 o3 => ?_
    have ho3 := ho.same o3
    have hT3 := hT2.keep0 o3
    obtain ⟨p, rfl, e4⟩ := hl4.cells (Nat.le_refl _) hlt
    have e5 := e4 w3 ho3
    generalize l4.getD k 0 = d at e4 e5
    (repeat (first | with_reducible refine run_seq ?_ | with_reducible refine run_reg ?_ | with_reducible refine run_block ?_ | with_reducible refine run_blk ?_ | with_reducible refine run_skip ?_ | with_reducible refine run_exit rfl ?_ | with_reducible refine run_drw ?_ | with_reducible refine run_condT ?_ | with_reducible refine run_ret' ?_ | with_reducible refine run_end' ?_ | simp only [go_sem, ↓reduceIte, Nat.reduceAdd, Nat.reduceEqDiff, Nat.reduceBEq, reduceCtorEq, Int.reduceBEq, Int.reduceBNe, Int.reduceLT, Int.reduceLE, hk, if_pos c1, Int.toNat_natCast, Nat.mul_one, e5]))
    refine callT (Add_m hT3 i d) ?_
    rintro r w4 ⟨rfl, hT4, o4⟩
    have ho4 := ho3.news o4 hnew
    (repeat (first | with_reducible refine run_seq ?_ | with_reducible refine run_reg ?_ | with_reducible refine run_block ?_ | with_reducible refine run_blk ?_ | with_reducible refine run_skip ?_ | with_reducible refine run_exit rfl ?_ | with_reducible refine run_drw ?_ | with_reducible refine run_condT ?_ | with_reducible refine run_ret' ?_ | with_reducible refine run_end' ?_ | simp only [go_sem, ↓reduceIte, Nat.reduceAdd, Nat.reduceEqDiff, Nat.reduceBEq, reduceCtorEq, Int.reduceBEq, Int.reduceBNe, Int.reduceLT, Int.reduceLE]))
    refine callT1 (Get_m hT4 i) fun w5 o5 => ?_
    have hT5 := hT4.keep0 o5
    have ho5 := ho4.same o5
    have e7 := e4 w5 ho5
    by_cases hz : MT.addE (some (wd', l2)) i d = 0
    · obtain ⟨k0, rfl, hk0, hd1, hd2⟩ := add_ok hz
      have hx : l2.getD k0 0 < 2 ^ wd' := by obtain ⟨_, _, _, _, h3⟩ := hT2; exact h3.el k0
      have hM : MT.addM (some (wd', l2)) (k0 : Int) d = some (wd', l2.set k0 (addV wd' (l2.getD k0 0) d)) := by simp only [MT.addM, hz, if_true, Int.toNat_natCast]
      have hR2 : MT.addR (some (wd', l2)) (k0 : Int) d = ((addV wd' (l2.getD k0 0) d : Nat) : Int) := by simp only [MT.addR, hz, if_true, Int.toNat_natCast]
      have hG0 : MT.get (some (wd', l2)) (k0 : Int) = ((l2.getD k0 0 : Nat) : Int) := by simp only [MT.get, hasB_of hk0, if_true, Int.toNat_natCast]
      have hG1 : MT.get (some (wd', l2.set k0 (addV wd' (l2.getD k0 0) d))) (k0 : Int) = ((addV wd' (l2.getD k0 0) d : Nat) : Int) := by
        simp only [MT.get, hasB_of (show k0 < (l2.set k0 (addV wd' (l2.getD k0 0) d)).length by simpa using hk0), if_true, Int.toNat_natCast]
        rw [getD_set]; simp [hk0]
      obtain ⟨f1, f2, f3⟩ := add_facts (d := d) hx
      rw [hM] at hT5
      rw [hM, hR2, hz, hG0, hG1]
      generalize hyy : addV wd' (l2.getD k0 0) d = y at *
      generalize hxx : l2.getD k0 0 = x at *
      have d1 : decide ((y : Int) < 0) = false := decide_eq_false (by omega)
      have d2 : decide (((2 ^ wd' - 1 : Nat) : Int) < (y : Int)) = false := decide_eq_false (by omega)
      have hadd : IntKind.i64.wrap ((x : Int) + d) = x + d := IntWalk.i64_in _ (by omega)
      have fin : ∀ (ρ' : Env), ρ' 14 = .int .i64 ((k + 1 : Nat) : Int) → (∃ (k : Nat) (l2 : List Nat), ρ' 14 = .int .i64 k ∧ k ≤ l4.length ∧ Tab w5 (some ⟨b, 0, none⟩) [b, g] (some (wd', l2)) ∧ Only [] w w5) ∧ upTo l4.length 14 ρ' < upTo l4.length 14 g' := fun ρ' h8 =>
        ⟨⟨k + 1, _, h8, hlt, hT5, ho5⟩, by rw [upTo_int hk, upTo_int h8]; omega⟩
      by_cases hxm : x = 2 ^ wd' - 1
      · have hy : y = x := f2 hxm
        have t2 : ((x : Int) == ((2 ^ wd' - 1 : Nat) : Int)) = true := by simp [hxm]
        have t3 : ((x : Int) != ((2 ^ wd' - 1 : Nat) : Int)) = false := by simp [hxm]
        have t4 : ((y : Int) != ((2 ^ wd' - 1 : Nat) : Int)) = false := by simp [hy, hxm]
        (repeat (first | with_reducible refine run_seq ?_ | with_reducible refine run_reg ?_ | with_reducible refine run_block ?_ | with_reducible refine run_blk ?_ | with_reducible refine run_skip ?_ | with_reducible refine run_exit rfl ?_ | with_reducible refine run_drw ?_ | with_reducible refine run_condT ?_ | with_reducible refine run_ret' ?_ | with_reducible refine run_end' ?_ | simp only [go_sem, ↓reduceIte, Nat.reduceAdd, Nat.reduceEqDiff, Nat.reduceBEq, reduceCtorEq, Int.reduceBEq, Int.reduceBNe, Int.reduceLT, Int.reduceLE, bne_self_eq_false, d1, d2, t2, t3, t4, hk, i64_succ k (by omega)]))
        refine hnext _ _ ?_ ?_ ?_
        · (repeat (first | with_reducible exact Keeps.refl _ _ | with_reducible exact Keeps.ovr _ _ _ | refine Keeps.put ?_ rfl _ | exact Keeps.refl _ _ | exact Keeps.ovr _ _ _ | refine Keeps.ovr2 ?_ rfl _))
        · exact (fin _ (by simp only [go_sem, ↓reduceIte, Nat.reduceAdd, Nat.reduceEqDiff, Nat.reduceBEq, reduceCtorEq, Int.reduceBEq, Int.reduceBNe, Int.reduceLT, Int.reduceLE])).1
        · exact (fin _ (by simp only [go_sem, ↓reduceIte, Nat.reduceAdd, Nat.reduceEqDiff, Nat.reduceBEq, reduceCtorEq, Int.reduceBEq, Int.reduceBNe, Int.reduceLT, Int.reduceLE])).2
      · have t2 : ((x : Int) == ((2 ^ wd' - 1 : Nat) : Int)) = false := by simp only [beq_eq_false_iff_ne, ne_eq]; omega
        have t3 : ((x : Int) != ((2 ^ wd' - 1 : Nat) : Int)) = true := by simp only [bne_iff_ne, ne_eq]; omega
        have f4 := f3 hxm
        (repeat (first | with_reducible refine run_seq ?_ | with_reducible refine run_reg ?_ | with_reducible refine run_block ?_ | with_reducible refine run_blk ?_ | with_reducible refine run_skip ?_ | with_reducible refine run_exit rfl ?_ | with_reducible refine run_drw ?_ | with_reducible refine run_condT ?_ | with_reducible refine run_ret' ?_ | with_reducible refine run_end' ?_ | simp only [go_sem, ↓reduceIte, Nat.reduceAdd, Nat.reduceEqDiff, Nat.reduceBEq, reduceCtorEq, Int.reduceBEq, Int.reduceBNe, Int.reduceLT, Int.reduceLE, bne_self_eq_false, d1, d2, t2, t3, hk, if_pos c1, Int.toNat_natCast, Nat.mul_one, e7, hadd, ← f4, i64_succ k (by omega)]))
        refine hnext _ _ ?_ ?_ ?_
        · (repeat (first | with_reducible exact Keeps.refl _ _ | with_reducible exact Keeps.ovr _ _ _ | refine Keeps.put ?_ rfl _ | exact Keeps.refl _ _ | exact Keeps.ovr _ _ _ | refine Keeps.ovr2 ?_ rfl _))
        · exact (fin _ (by simp only [go_sem, ↓reduceIte, Nat.reduceAdd, Nat.reduceEqDiff, Nat.reduceBEq, reduceCtorEq, Int.reduceBEq, Int.reduceBNe, Int.reduceLT, Int.reduceLE])).1
        · exact (fin _ (by simp only [go_sem, ↓reduceIte, Nat.reduceAdd, Nat.reduceEqDiff, Nat.reduceBEq, reduceCtorEq, Int.reduceBEq, Int.reduceBNe, Int.reduceLT, Int.reduceLE])).2
    · have t1 : (MT.addE (some (wd', l2)) i d != 0) = true := by simpa using hz
      have hM : MT.addM (some (wd', l2)) i d = some (wd', l2) := by simp only [MT.addM, if_neg hz]
      have hR2 : MT.addR (some (wd', l2)) i d = 0 := by simp only [MT.addR, if_neg hz]
      rw [hM, hR2]
      rw [hM] at hT5
      (repeat (first | with_reducible refine run_seq ?_ | with_reducible refine run_reg ?_ | with_reducible refine run_block ?_ | with_reducible refine run_blk ?_ | with_reducible refine run_skip ?_ | with_reducible refine run_exit rfl ?_ | with_reducible refine run_drw ?_ | with_reducible refine run_condT ?_ | with_reducible refine run_ret' ?_ | with_reducible refine run_end' ?_ | simp only [go_sem, ↓reduceIte, Nat.reduceAdd, Nat.reduceEqDiff, Nat.reduceBEq, reduceCtorEq, Int.reduceBEq, Int.reduceBNe, Int.reduceLT, Int.reduceLE, t1, bne_self_eq_false, hk, i64_succ k (by omega)]))
      refine hnext _ _ ?_ ⟨k + 1, l2, ?_, hlt, hT5, ho5⟩ ?_
      · (repeat (first | with_reducible exact Keeps.refl _ _ | with_reducible exact Keeps.ovr _ _ _ | refine Keeps.put ?_ rfl _ | exact Keeps.refl _ _ | exact Keeps.ovr _ _ _ | refine Keeps.ovr2 ?_ rfl _))
      · simp only [go_sem, ↓reduceIte, Nat.reduceAdd, Nat.reduceEqDiff, Nat.reduceBEq, reduceCtorEq, Int.reduceBEq, Int.reduceBNe, Int.reduceLT, Int.reduceLE]
      · rw [upTo_int hk, upTo_int (k := .i64) (i := k + 1) (by simp only [go_sem, ↓reduceIte, Nat.reduceAdd, Nat.reduceEqDiff, Nat.reduceBEq, reduceCtorEq, Int.reduceBEq, Int.reduceBNe, Int.reduceLT, Int.reduceLE])]; omega
  · (repeat (first | with_reducible refine run_seq ?_ | with_reducible refine run_reg ?_ | with_reducible refine run_block ?_ | with_reducible refine run_blk ?_ | with_reducible refine run_skip ?_ | with_reducible refine run_exit rfl ?_ | with_reducible refine run_drw ?_ | with_reducible refine run_condT ?_ | with_reducible refine run_ret' ?_ | with_reducible refine run_end' ?_ | simp only [go_sem, ↓reduceIte, Nat.reduceAdd, Nat.reduceEqDiff, Nat.reduceBEq, reduceCtorEq, Int.reduceBEq, Int.reduceBNe, Int.reduceLT, Int.reduceLE]))
    refine callT1 (law_alive _) fun w6 o6 => ?_
    (repeat (first | with_reducible refine run_seq ?_ | with_reducible refine run_reg ?_ | with_reducible refine run_block ?_ | with_reducible refine run_blk ?_ | with_reducible refine run_skip ?_ | with_reducible refine run_exit rfl ?_ | with_reducible refine run_drw ?_ | with_reducible refine run_condT ?_ | with_reducible refine run_ret' ?_ | with_reducible refine run_end' ?_ | simp only [go_sem, ↓reduceIte, Nat.reduceAdd, Nat.reduceEqDiff, Nat.reduceBEq, reduceCtorEq, Int.reduceBEq, Int.reduceBNe, Int.reduceLT, Int.reduceLE]))
    exact ho.same o6
end Go.Proofs.Ythalhkhjacjhgaa
