/- The law SideEntries, walked. -/
import Derived.Test.YthalhkhjacjhgaaSideLK
namespace Go.Proofs.Ythalhkhjacjhgaa
set_option linter.unusedSimpArgs false
set_option linter.unusedVariables false
set_option maxRecDepth 8000

theorem set_spec (wd : Nat) (l : List Nat) (i v : Int) : ∃ l1, MT.setM (some (wd, l)) i v = some (wd, l1) ∧ l1.length = l.length ∧ (∀ k : Nat, k < l.length → ¬ l1.getD k 0 = l.getD k 0 → (k : Int) = i ∧ MT.check (some (wd, l)) i [v] = 0) ∧
    (MT.check (some (wd, l)) i [v] = 0 → MT.get (some (wd, l1)) i = v) := by
  rcases MT.check_cases (wd := wd) (l := l) (i := i) (vs := [v]) with ⟨e, q1, q2⟩ | ⟨e, q1⟩
  · obtain ⟨k0, rfl, hk⟩ := hasB_nat q1
    obtain ⟨x, rfl, hx⟩ := mayB_nat (v := v) (by simpa using q2)
    refine ⟨l.set k0 x, by simp only [MT.setM, e, if_true, Int.toNat_natCast], by simp, fun k hk2 hne => ⟨?_, e⟩, fun _ => ?_⟩
    · rw [getD_set] at hne
      by_cases h : k0 = k
      · rw [h]
      · rw [if_neg (fun h2 => h h2.1)] at hne; exact absurd rfl hne
    · simp only [MT.get, hasB_of (show k0 < (l.set k0 x).length by simpa using hk), if_true, Int.toNat_natCast]
      rw [getD_set, if_pos ⟨rfl, hk⟩]
  · refine ⟨l, by simp [MT.setM, e], rfl, fun k _ hne => absurd rfl hne, fun h => by rw [e] at h; cases h⟩
theorem fillN_get (l : List Nat) (k v q : Nat) : ∀ j, (fillN l k v j).getD q 0 = if k ≤ q ∧ q < k + j ∧ q < l.length then v else l.getD q 0
  | 0 => by rw [if_neg (by omega)]; rfl
  | j + 1 => by
    simp only [fillN]
    rw [getD_set, fillN_len, fillN_get l k v q j]
    by_cases h : k + j = q ∧ q < l.length
    · rw [if_pos h, if_pos (by omega)]
    · rw [if_neg h]
      by_cases h2 : k ≤ q ∧ q < k + j ∧ q < l.length
      · rw [if_pos h2, if_pos (by omega)]
      · rw [if_neg h2, if_neg (by omega)]
theorem fill_spec (wd : Nat) (l : List Nat) (i size v : Int) : ∃ l2, MT.fillM (some (wd, l)) i size v = some (wd, l2) ∧ l2.length = l.length ∧ (¬ MT.fillE (some (wd, l)) i size v = 0 → l2 = l) ∧
    (MT.fillE (some (wd, l)) i size v = 0 → ∃ k0 s x : Nat, i = k0 ∧ size = s ∧ v = x ∧ k0 + s ≤ l.length ∧ ∀ q : Nat, q < l.length → l2.getD q 0 = if k0 ≤ q ∧ q < k0 + s then x else l.getD q 0) := by
  by_cases h : MT.fillE (some (wd, l)) i size v = 0
  · have h' := h
    simp only [MT.fillE] at h'
    rcases MT.check_cases (wd := wd) (l := l) (i := i) (vs := [v]) with ⟨e, q1, q2⟩ | ⟨e, q1⟩
    · rw [if_pos e] at h'
      obtain ⟨k0, rfl, hk⟩ := hasB_nat q1
      obtain ⟨x, rfl, hx⟩ := mayB_nat (v := v) (by simpa using q2)
      split at h'
      · cases h'
      · rename_i hs
        obtain ⟨s, rfl⟩ : ∃ s : Nat, size = s := ⟨size.toNat, by omega⟩
        refine ⟨fillN l k0 x s, by simp only [MT.fillM, h, if_true, Int.toNat_natCast], fillN_len _ _ _ _, fun h2 => absurd h h2, fun _ => ⟨k0, s, x, rfl, rfl, rfl, by omega, fun q hq => ?_⟩⟩
        rw [fillN_get]
        by_cases h3 : k0 ≤ q ∧ q < k0 + s
        · rw [if_pos ⟨h3.1, h3.2, hq⟩, if_pos h3]
        · rw [if_neg (fun h4 => h3 ⟨h4.1, h4.2.1⟩), if_neg h3]
    · rw [if_neg (by rw [e]; decide), e] at h'; cases h'
  · exact ⟨l, by simp only [MT.fillM, if_neg h], rfl, fun _ => rfl, fun h2 => absurd h2 h⟩

theorem NS.read {w : World} {h0 : Nat} {s : Value} {l : List Nat} (h : NS w h0 s l) : ∃ (a : Option Addr) (cap : Nat), s = .slice a l.length cap ∧ ∀ w', Only [] w w' → ∀ i, i < l.length → ∃ g, a = some ⟨g, 0, none⟩ ∧ w'.cell? ⟨g, i, none⟩ = some (.int .i64 ((l.getD i 0 : Nat) : Int)) := by
  rcases h.cases with ⟨rfl, rfl⟩ | ⟨g, cap, ys, rfl, hat, _⟩
  · exact ⟨none, 0, rfl, fun w' _ i hi => absurd hi (by simp)⟩
  · exact ⟨_, cap, rfl, fun w' ho i hi => ⟨g, rfl, by rw [(hat.keep0 ho).cell]; exact nats_get ys hi⟩⟩

theorem NS.reads {w : World} {h0 n cap : Nat} {a : Option Addr} {l : List Nat} (h : NS w h0 (.slice a n cap) l) {w' : World} (ho : Only [] w w') {i : Nat} (hi : i < l.length) : ∃ g, a = some ⟨g, 0, none⟩ ∧ w'.cell? ⟨g, i, none⟩ = some (.int .i64 ((l.getD i 0 : Nat) : Int)) := by
  obtain ⟨a', cap', e, h'⟩ := h.read
  cases e
  exact h' w' ho i hi
theorem entries_walk {w : World} {v : Value} {l : List Act4} (n wd i size x : Int) (hl : ActsAt w.heap.size w v l) : Cs Try.prog 3 [.int .i64 n, .int .i64 wd, v, .int .i64 i, .int .i64 size, .int .i64 x] w fun r w' => r = .bool true ∧ Only [] w w' := by
  refine enter_law01_SideEntries rfl ?_
  unfold x_law01_SideEntries
  by_cases h80 : 80 < l.length
  · (repeat (first | with_reducible refine run_seq ?_ | with_reducible refine run_reg ?_ | with_reducible refine run_block ?_ | with_reducible refine run_blk ?_ | with_reducible refine run_skip ?_ | with_reducible refine run_exit rfl ?_ | with_reducible refine run_drw ?_ | with_reducible refine run_condT ?_ | with_reducible refine run_ret' ?_ | with_reducible refine run_end' ?_ | simp only [go_sem, ↓reduceIte, Nat.reduceAdd, Nat.reduceEqDiff, Nat.reduceBEq, reduceCtorEq, Int.reduceBEq, Int.reduceBNe, Int.reduceLT, Int.reduceLE]))
    refine callT (law_made_great hl n wd h80) ?_
    rintro r w1 ⟨rfl, o1⟩
    (repeat (first | with_reducible refine run_seq ?_ | with_reducible refine run_reg ?_ | with_reducible refine run_block ?_ | with_reducible refine run_blk ?_ | with_reducible refine run_skip ?_ | with_reducible refine run_exit rfl ?_ | with_reducible refine run_drw ?_ | with_reducible refine run_condT ?_ | with_reducible refine run_ret' ?_ | with_reducible refine run_end' ?_ | simp only [go_sem, ↓reduceIte, Nat.reduceAdd, Nat.reduceEqDiff, Nat.reduceBEq, reduceCtorEq, Int.reduceBEq, Int.reduceBNe, Int.reduceLT, Int.reduceLE]))
    refine callT0 (law_great hl) ?_
    (repeat (first | with_reducible refine run_seq ?_ | with_reducible refine run_reg ?_ | with_reducible refine run_block ?_ | with_reducible refine run_blk ?_ | with_reducible refine run_skip ?_ | with_reducible refine run_exit rfl ?_ | with_reducible refine run_drw ?_ | with_reducible refine run_condT ?_ | with_reducible refine run_ret' ?_ | with_reducible refine run_end' ?_ | simp only [go_sem, ↓reduceIte, Nat.reduceAdd, Nat.reduceEqDiff, Nat.reduceBEq, reduceCtorEq, Int.reduceBEq, Int.reduceBNe, Int.reduceLT, Int.reduceLE, decide_eq_true h80]))
    refine callT1 (law_alive w1) fun w2 o2 => ?_
    (repeat (first | with_reducible refine run_seq ?_ | with_reducible refine run_reg ?_ | with_reducible refine run_block ?_ | with_reducible refine run_blk ?_ | with_reducible refine run_skip ?_ | with_reducible refine run_exit rfl ?_ | with_reducible refine run_drw ?_ | with_reducible refine run_condT ?_ | with_reducible refine run_ret' ?_ | with_reducible refine run_end' ?_ | simp only [go_sem, ↓reduceIte, Nat.reduceAdd, Nat.reduceEqDiff, Nat.reduceBEq, reduceCtorEq, Int.reduceBEq, Int.reduceBNe, Int.reduceLT, Int.reduceLE]))
    exact o1.same o2
  (repeat (first | with_reducible refine run_seq ?_ | with_reducible refine run_reg ?_ | with_reducible refine run_block ?_ | with_reducible refine run_blk ?_ | with_reducible refine run_skip ?_ | with_reducible refine run_exit rfl ?_ | with_reducible refine run_drw ?_ | with_reducible refine run_condT ?_ | with_reducible refine run_ret' ?_ | with_reducible refine run_end' ?_ | simp only [go_sem, ↓reduceIte, Nat.reduceAdd, Nat.reduceEqDiff, Nat.reduceBEq, reduceCtorEq, Int.reduceBEq, Int.reduceBNe, Int.reduceLT, Int.reduceLE]))
  refine callT (law_made hl (Nat.le_refl _) n wd h80) ?_
  rintro r w1 ⟨a, u, S, T, rfl, hN, hR, hT, hd, o1⟩
  (repeat (first | with_reducible refine run_seq ?_ | with_reducible refine run_reg ?_ | with_reducible refine run_block ?_ | with_reducible refine run_blk ?_ | with_reducible refine run_skip ?_ | with_reducible refine run_exit rfl ?_ | with_reducible refine run_drw ?_ | with_reducible refine run_condT ?_ | with_reducible refine run_ret' ?_ | with_reducible refine run_end' ?_ | simp only [go_sem, ↓reduceIte, Nat.reduceAdd, Nat.reduceEqDiff, Nat.reduceBEq, reduceCtorEq, Int.reduceBEq, Int.reduceBNe, Int.reduceLT, Int.reduceLE]))
  refine callT0 (law_great hl) ?_
  generalize madeM n wd l = m at *
  rcases hN.elim with ⟨rfl, rfl⟩ | ⟨wd', l0, b, g, rfl, rfl, rfl⟩
  · (repeat (first | with_reducible refine run_seq ?_ | with_reducible refine run_reg ?_ | with_reducible refine run_block ?_ | with_reducible refine run_blk ?_ | with_reducible refine run_skip ?_ | with_reducible refine run_exit rfl ?_ | with_reducible refine run_drw ?_ | with_reducible refine run_condT ?_ | with_reducible refine run_ret' ?_ | with_reducible refine run_end' ?_ | simp only [go_sem, ↓reduceIte, Nat.reduceAdd, Nat.reduceEqDiff, Nat.reduceBEq, reduceCtorEq, Int.reduceBEq, Int.reduceBNe, Int.reduceLT, Int.reduceLE, decide_eq_false h80]))
    refine callT1 (law_alive w1) fun w2 o2 => ?_
    (repeat (first | with_reducible refine run_seq ?_ | with_reducible refine run_reg ?_ | with_reducible refine run_block ?_ | with_reducible refine run_blk ?_ | with_reducible refine run_skip ?_ | with_reducible refine run_exit rfl ?_ | with_reducible refine run_drw ?_ | with_reducible refine run_condT ?_ | with_reducible refine run_ret' ?_ | with_reducible refine run_end' ?_ | simp only [go_sem, ↓reduceIte, Nat.reduceAdd, Nat.reduceEqDiff, Nat.reduceBEq, reduceCtorEq, Int.reduceBEq, Int.reduceBNe, Int.reduceLT, Int.reduceLE]))
    exact o1.same o2
  have h1 := hN.tab
  have hnew : ∀ x, x ∈ [b, g] → w.heap.size ≤ x := hN.new
  have hmax : l0.length ≤ 4096 := h1.max
  have hlt := h1.lt
  (repeat (first | with_reducible refine run_seq ?_ | with_reducible refine run_reg ?_ | with_reducible refine run_block ?_ | with_reducible refine run_blk ?_ | with_reducible refine run_skip ?_ | with_reducible refine run_exit rfl ?_ | with_reducible refine run_drw ?_ | with_reducible refine run_condT ?_ | with_reducible refine run_ret' ?_ | with_reducible refine run_end' ?_ | simp only [go_sem, ↓reduceIte, Nat.reduceAdd, Nat.reduceEqDiff, Nat.reduceBEq, reduceCtorEq, Int.reduceBEq, Int.reduceBNe, Int.reduceLT, Int.reduceLE, decide_eq_false h80]))
  refine callT (law_entries h1) ?_
  rintro s0 w2 ⟨hs0, o2⟩
  have h2 := h1.keep0 o2
  have o2 := o1.same o2
  (repeat (first | with_reducible refine run_seq ?_ | with_reducible refine run_reg ?_ | with_reducible refine run_block ?_ | with_reducible refine run_blk ?_ | with_reducible refine run_skip ?_ | with_reducible refine run_exit rfl ?_ | with_reducible refine run_drw ?_ | with_reducible refine run_condT ?_ | with_reducible refine run_ret' ?_ | with_reducible refine run_end' ?_ | simp only [go_sem, ↓reduceIte, Nat.reduceAdd, Nat.reduceEqDiff, Nat.reduceBEq, reduceCtorEq, Int.reduceBEq, Int.reduceBNe, Int.reduceLT, Int.reduceLE]))
  refine callT (Set_m h2 i x) ?_
  rintro r w3 ⟨rfl, h3, o3⟩
  have hs0 := hs0.keep o3 hlt
  have o3 := o2.news o3 hnew
  obtain ⟨l1, es, hl1, hset1, hset2⟩ := set_spec wd' l0 i x
  rw [es] at h3
  generalize hee : MT.check (some (wd', l0)) i [x] = e at *
  (repeat (first | with_reducible refine run_seq ?_ | with_reducible refine run_reg ?_ | with_reducible refine run_block ?_ | with_reducible refine run_blk ?_ | with_reducible refine run_skip ?_ | with_reducible refine run_exit rfl ?_ | with_reducible refine run_drw ?_ | with_reducible refine run_condT ?_ | with_reducible refine run_ret' ?_ | with_reducible refine run_end' ?_ | simp only [go_sem, ↓reduceIte, Nat.reduceAdd, Nat.reduceEqDiff, Nat.reduceBEq, reduceCtorEq, Int.reduceBEq, Int.reduceBNe, Int.reduceLT, Int.reduceLE]))
  refine callT (law_entries h3) ?_
  rintro s1 w4 ⟨hs1, o4⟩
  have hs0 := hs0.keep0 o4
  have h4 := h3.keep0 o4
  have o4 := o3.same o4
  obtain ⟨a0, cap0, rfl, _⟩ := hs0.read
  obtain ⟨a1, cap1, rfl, _⟩ := hs1.read
  (repeat (first | with_reducible refine run_seq ?_ | with_reducible refine run_reg ?_ | with_reducible refine run_block ?_ | with_reducible refine run_blk ?_ | with_reducible refine run_skip ?_ | with_reducible refine run_exit rfl ?_ | with_reducible refine run_drw ?_ | with_reducible refine run_condT ?_ | with_reducible refine run_ret' ?_ | with_reducible refine run_end' ?_ | simp only [go_sem, ↓reduceIte, Nat.reduceAdd, Nat.reduceEqDiff, Nat.reduceBEq, reduceCtorEq, Int.reduceBEq, Int.reduceBNe, Int.reduceLT, Int.reduceLE]))
  refine run_loop (18 :: 44 :: 45 :: 46 :: 47 :: 48 :: 49 :: 50 :: 51 :: 52 :: 53 :: 54 :: 55 :: 56 :: 57 :: 58 :: 59 :: 60 :: 61 :: 62 :: 63 :: 64 :: 65 :: 66 :: 67 :: []) (fun g' w' => ∃ k : Nat, g' 18 = .int .i64 k ∧ k ≤ l0.length ∧ Only [] w4 w') (fun g' _ => upTo l0.length 18 g') ⟨0, by simp only [go_sem, ↓reduceIte, Nat.reduceAdd, Nat.reduceEqDiff, Nat.reduceBEq, reduceCtorEq, Int.reduceBEq, Int.reduceBNe, Int.reduceLT, Int.reduceLE]; rfl, by omega, Only.refl _ _⟩ fun g' w' hI hnext => ?_
  obtain ⟨k, hk, hkn, ho⟩ := hI
  (repeat (first | with_reducible refine run_seq ?_ | with_reducible refine run_reg ?_ | with_reducible refine run_block ?_ | with_reducible refine run_blk ?_ | with_reducible refine run_skip ?_ | with_reducible refine run_exit rfl ?_ | with_reducible refine run_drw ?_ | with_reducible refine run_condT ?_ | with_reducible refine run_ret' ?_ | with_reducible refine run_end' ?_ | simp only [go_sem, ↓reduceIte, Nat.reduceAdd, Nat.reduceEqDiff, Nat.reduceBEq, reduceCtorEq, Int.reduceBEq, Int.reduceBNe, Int.reduceLT, Int.reduceLE, hk]))
  refine condT (fun hlt2 => ?_) (fun hge => ?_)
  · have hlt2 : k < l0.length := by simpa using hlt2
    have c0 : (0 : Int) ≤ (k : Int) ∧ (k : Int) < (l0.length : Int) := ⟨by omega, by omega⟩
    have c1 : (0 : Int) ≤ (k : Int) ∧ (k : Int) < (l1.length : Int) := ⟨by omega, by omega⟩
    obtain ⟨g0, rfl, f0⟩ := hs0.reads ho hlt2
    obtain ⟨g1, rfl, f1⟩ := hs1.reads ho (i := k) (by omega)
    have fin : ∀ (ρ' : Env), ρ' 18 = .int .i64 ((k + 1 : Nat) : Int) → (∃ k : Nat, ρ' 18 = .int .i64 k ∧ k ≤ l0.length ∧ Only [] w4 w'.drew) ∧ upTo l0.length 18 ρ' < upTo l0.length 18 g' := fun ρ' h8 =>
      ⟨⟨k + 1, h8, hlt2, ho.nil (Only.drew _ _)⟩, by rw [upTo_int hk, upTo_int h8]; omega⟩
    by_cases he : l1.getD k 0 = l0.getD k 0
    · have t1 : (((l1.getD k 0 : Nat) : Int) != ((l0.getD k 0 : Nat) : Int)) = false := by rw [he]; simp
      (repeat (first | with_reducible refine run_seq ?_ | with_reducible refine run_reg ?_ | with_reducible refine run_block ?_ | with_reducible refine run_blk ?_ | with_reducible refine run_skip ?_ | with_reducible refine run_exit rfl ?_ | with_reducible refine run_drw ?_ | with_reducible refine run_condT ?_ | with_reducible refine run_ret' ?_ | with_reducible refine run_end' ?_ | simp only [go_sem, ↓reduceIte, Nat.reduceAdd, Nat.reduceEqDiff, Nat.reduceBEq, reduceCtorEq, Int.reduceBEq, Int.reduceBNe, Int.reduceLT, Int.reduceLE, hk, if_pos c0, if_pos c1, Int.toNat_natCast, Nat.mul_one, f0, f1, t1, i64_succ k (by omega)]))
      refine hnext _ _ ?_ ?_ ?_
      · (repeat (first | with_reducible exact Keeps.refl _ _ | with_reducible exact Keeps.ovr _ _ _ | refine Keeps.put ?_ rfl _ | exact Keeps.refl _ _ | exact Keeps.ovr _ _ _ | refine Keeps.ovr2 ?_ rfl _))
      · exact (fin _ (by simp only [go_sem, ↓reduceIte, Nat.reduceAdd, Nat.reduceEqDiff, Nat.reduceBEq, reduceCtorEq, Int.reduceBEq, Int.reduceBNe, Int.reduceLT, Int.reduceLE])).1
      · exact (fin _ (by simp only [go_sem, ↓reduceIte, Nat.reduceAdd, Nat.reduceEqDiff, Nat.reduceBEq, reduceCtorEq, Int.reduceBEq, Int.reduceBNe, Int.reduceLT, Int.reduceLE])).2
    · have t1 : (((l1.getD k 0 : Nat) : Int) != ((l0.getD k 0 : Nat) : Int)) = true := by simp only [bne_iff_ne, ne_eq]; omega
      obtain ⟨hki, hez⟩ := hset1 k hlt2 he
      have t2 : ((k : Int) != i) = false := by simp [hki]
      have t3 : (e != 0) = false := by simp [hez]
      (repeat (first | with_reducible refine run_seq ?_ | with_reducible refine run_reg ?_ | with_reducible refine run_block ?_ | with_reducible refine run_blk ?_ | with_reducible refine run_skip ?_ | with_reducible refine run_exit rfl ?_ | with_reducible refine run_drw ?_ | with_reducible refine run_condT ?_ | with_reducible refine run_ret' ?_ | with_reducible refine run_end' ?_ | simp only [go_sem, ↓reduceIte, Nat.reduceAdd, Nat.reduceEqDiff, Nat.reduceBEq, reduceCtorEq, Int.reduceBEq, Int.reduceBNe, Int.reduceLT, Int.reduceLE, hk, if_pos c0, if_pos c1, Int.toNat_natCast, Nat.mul_one, f0, f1, t1, t2, t3, i64_succ k (by omega)]))
      refine hnext _ _ ?_ ?_ ?_
      · (repeat (first | with_reducible exact Keeps.refl _ _ | with_reducible exact Keeps.ovr _ _ _ | refine Keeps.put ?_ rfl _ | exact Keeps.refl _ _ | exact Keeps.ovr _ _ _ | refine Keeps.ovr2 ?_ rfl _))
      · exact (fin _ (by simp only [go_sem, ↓reduceIte, Nat.reduceAdd, Nat.reduceEqDiff, Nat.reduceBEq, reduceCtorEq, Int.reduceBEq, Int.reduceBNe, Int.reduceLT, Int.reduceLE])).1
      · exact (fin _ (by simp only [go_sem, ↓reduceIte, Nat.reduceAdd, Nat.reduceEqDiff, Nat.reduceBEq, reduceCtorEq, Int.reduceBEq, Int.reduceBNe, Int.reduceLT, Int.reduceLE])).2
  -- behind the first loop
  have h4 := h4.keep0 ho
  have hs1 := hs1.keep0 ho
  have o4 := o4.same ho
  refine run_exit rfl ?_
  refine run_seq ?_
  refine run_cut (68 :: 69 :: 70 :: 71 :: 72 :: 73 :: 74 :: 75 :: 76 :: []) (fun _ w5 => Only [] w' w5) ?_ ?_
  · intro kx hk2
    by_cases he : e = 0
    · have t1 : (e == 0) = true := by simp [he]
      (repeat (first | with_reducible refine run_seq ?_ | with_reducible refine run_reg ?_ | with_reducible refine run_block ?_ | with_reducible refine run_blk ?_ | with_reducible refine run_skip ?_ | with_reducible refine run_exit rfl ?_ | with_reducible refine run_drw ?_ | with_reducible refine run_condT ?_ | with_reducible refine run_ret' ?_ | with_reducible refine run_end' ?_ | simp only [go_sem, ↓reduceIte, Nat.reduceAdd, Nat.reduceEqDiff, Nat.reduceBEq, reduceCtorEq, Int.reduceBEq, Int.reduceBNe, Int.reduceLT, Int.reduceLE, t1]))
      refine callT1 (Get_m h4 i) fun w5 o5 => ?_
      rw [hset2 he]
      (repeat (first | with_reducible refine run_seq ?_ | with_reducible refine run_reg ?_ | with_reducible refine run_block ?_ | with_reducible refine run_blk ?_ | with_reducible refine run_skip ?_ | with_reducible refine run_exit rfl ?_ | with_reducible refine run_drw ?_ | with_reducible refine run_condT ?_ | with_reducible refine run_ret' ?_ | with_reducible refine run_end' ?_ | simp only [go_sem, ↓reduceIte, Nat.reduceAdd, Nat.reduceEqDiff, Nat.reduceBEq, reduceCtorEq, Int.reduceBEq, Int.reduceBNe, Int.reduceLT, Int.reduceLE, bne_self_eq_false]))
      refine hk2 _ _ ?_ o5
      (repeat (first | with_reducible exact Keeps.refl _ _ | with_reducible exact Keeps.ovr _ _ _ | refine Keeps.put ?_ rfl _ | exact Keeps.refl _ _ | exact Keeps.ovr _ _ _ | refine Keeps.ovr2 ?_ rfl _))
    · have t1 : (e == 0) = false := by simp [he]
      (repeat (first | with_reducible refine run_seq ?_ | with_reducible refine run_reg ?_ | with_reducible refine run_block ?_ | with_reducible refine run_blk ?_ | with_reducible refine run_skip ?_ | with_reducible refine run_exit rfl ?_ | with_reducible refine run_drw ?_ | with_reducible refine run_condT ?_ | with_reducible refine run_ret' ?_ | with_reducible refine run_end' ?_ | simp only [go_sem, ↓reduceIte, Nat.reduceAdd, Nat.reduceEqDiff, Nat.reduceBEq, reduceCtorEq, Int.reduceBEq, Int.reduceBNe, Int.reduceLT, Int.reduceLE, t1]))
      refine hk2 _ _ ?_ (Only.refl _ _)
      (repeat (first | with_reducible exact Keeps.refl _ _ | with_reducible exact Keeps.ovr _ _ _ | refine Keeps.put ?_ rfl _ | exact Keeps.refl _ _ | exact Keeps.ovr _ _ _ | refine Keeps.ovr2 ?_ rfl _))
  intro g5 w5 o5
  have h5 := h4.keep0 o5
  have hs1 := hs1.keep0 o5
  have o5 := o4.same o5
  have hlt5 := h3.lt
  (repeat (first | with_reducible refine run_seq ?_ | with_reducible refine run_reg ?_ | with_reducible refine run_block ?_ | with_reducible refine run_blk ?_ | with_reducible refine run_skip ?_ | with_reducible refine run_exit rfl ?_ | with_reducible refine run_drw ?_ | with_reducible refine run_condT ?_ | with_reducible refine run_ret' ?_ | with_reducible refine run_end' ?_ | simp only [go_sem, ↓reduceIte, Nat.reduceAdd, Nat.reduceEqDiff, Nat.reduceBEq, reduceCtorEq, Int.reduceBEq, Int.reduceBNe, Int.reduceLT, Int.reduceLE]))
  refine callT (Fill_m h5 i size x) ?_
  rintro r w6 ⟨rfl, h6, o6⟩
  have hs1 := hs1.keep o6 hlt5
  have o6 := o5.news o6 hnew
  obtain ⟨l2, ef, hl2, hf0, hf1⟩ := fill_spec wd' l1 i size x
  rw [ef] at h6
  generalize MT.fillE (some (wd', l1)) i size x = f at *
  (repeat (first | with_reducible refine run_seq ?_ | with_reducible refine run_reg ?_ | with_reducible refine run_block ?_ | with_reducible refine run_blk ?_ | with_reducible refine run_skip ?_ | with_reducible refine run_exit rfl ?_ | with_reducible refine run_drw ?_ | with_reducible refine run_condT ?_ | with_reducible refine run_ret' ?_ | with_reducible refine run_end' ?_ | simp only [go_sem, ↓reduceIte, Nat.reduceAdd, Nat.reduceEqDiff, Nat.reduceBEq, reduceCtorEq, Int.reduceBEq, Int.reduceBNe, Int.reduceLT, Int.reduceLE]))
  refine callT (law_entries h6) ?_
  rintro s2 w7 ⟨hs2, o7⟩
  have hs1 := hs1.keep0 o7
  have o7 := o6.same o7
  obtain ⟨a2, cap2, rfl, _⟩ := hs2.read
  (repeat (first | with_reducible refine run_seq ?_ | with_reducible refine run_reg ?_ | with_reducible refine run_block ?_ | with_reducible refine run_blk ?_ | with_reducible refine run_skip ?_ | with_reducible refine run_exit rfl ?_ | with_reducible refine run_drw ?_ | with_reducible refine run_condT ?_ | with_reducible refine run_ret' ?_ | with_reducible refine run_end' ?_ | simp only [go_sem, ↓reduceIte, Nat.reduceAdd, Nat.reduceEqDiff, Nat.reduceBEq, reduceCtorEq, Int.reduceBEq, Int.reduceBNe, Int.reduceLT, Int.reduceLE]))
  refine run_loop (20 :: 21 :: 85 :: 86 :: 87 :: 88 :: 89 :: 90 :: 91 :: 92 :: 93 :: 94 :: 95 :: 96 :: 97 :: 98 :: 99 :: 100 :: 101 :: 102 :: 103 :: 104 :: 105 :: 106 :: 107 :: 108 :: 109 :: 110 :: 111 :: 112 :: 113 :: 114 :: 115 :: 116 :: 117 :: 118 :: 119 :: 120 :: 121 :: 122 :: 123 :: 124 :: 125 :: 126 :: 127 :: 128 :: 129 :: 130 :: 131 :: 132 :: []) (fun g' w' => ∃ k : Nat, g' 20 = .int .i64 k ∧ k ≤ l1.length ∧ Only [] w7 w') (fun g' _ => upTo l1.length 20 g') ⟨0, by simp only [go_sem, ↓reduceIte, Nat.reduceAdd, Nat.reduceEqDiff, Nat.reduceBEq, reduceCtorEq, Int.reduceBEq, Int.reduceBNe, Int.reduceLT, Int.reduceLE]; rfl, by omega, Only.refl _ _⟩ fun g' w' hI hnext => ?_
  obtain ⟨k, hk, hkn, ho⟩ := hI
  (repeat (first | with_reducible refine run_seq ?_ | with_reducible refine run_reg ?_ | with_reducible refine run_block ?_ | with_reducible refine run_blk ?_ | with_reducible refine run_skip ?_ | with_reducible refine run_exit rfl ?_ | with_reducible refine run_drw ?_ | with_reducible refine run_condT ?_ | with_reducible refine run_ret' ?_ | with_reducible refine run_end' ?_ | simp only [go_sem, ↓reduceIte, Nat.reduceAdd, Nat.reduceEqDiff, Nat.reduceBEq, reduceCtorEq, Int.reduceBEq, Int.reduceBNe, Int.reduceLT, Int.reduceLE, hk]))
  refine condT (fun hlt2 => ?_) (fun hge => ?_)
  · have hlt2 : k < l1.length := by simpa using hlt2
    have c1 : (0 : Int) ≤ (k : Int) ∧ (k : Int) < (l1.length : Int) := ⟨by omega, by omega⟩
    have c2 : (0 : Int) ≤ (k : Int) ∧ (k : Int) < (l2.length : Int) := ⟨by omega, by omega⟩
    obtain ⟨g1, rfl, f1⟩ := hs1.reads ho hlt2
    obtain ⟨g2, rfl, f2⟩ := hs2.reads ho (i := k) (by omega)
    have fin : ∀ (ρ' : Env) (w8 : World), Only [] w' w8 → ρ' 20 = .int .i64 ((k + 1 : Nat) : Int) → (∃ k : Nat, ρ' 20 = .int .i64 k ∧ k ≤ l1.length ∧ Only [] w7 w8) ∧ upTo l1.length 20 ρ' < upTo l1.length 20 g' := fun ρ' w8 o8 h8 =>
      ⟨⟨k + 1, h8, hlt2, ho.same o8⟩, by rw [upTo_int hk, upTo_int h8]; omega⟩
    by_cases hfz : f = 0
    · obtain ⟨i0, s0, x0, rfl, rfl, rfl, hin, hv⟩ := hf1 hfz
      have hvk := hv k hlt2
      have tf : (f == 0) = true := by simp [hfz]
      have tf2 : (f != 0) = false := by simp [hfz]
      have hsub : i0 ≤ k → IntKind.i64.wrap ((k : Int) - i0) = ((k - i0 : Nat) : Int) := fun h => by rw [IntWalk.i64_in _ (by omega)]; omega
      by_cases hi1 : i0 ≤ k
      · have d1 : decide ((i0 : Int) ≤ (k : Int)) = true := decide_eq_true (by omega)
        by_cases hi2 : k - i0 < s0
        · have d2 : decide (((k - i0 : Nat) : Int) < (s0 : Int)) = true := decide_eq_true (by omega)
          rw [if_pos ⟨hi1, by omega⟩] at hvk
          have t1 : (((l2.getD k 0 : Nat) : Int) != (x0 : Int)) = false := by rw [hvk]; simp
          by_cases hne : l2.getD k 0 = l1.getD k 0
          · have t2 : (((l2.getD k 0 : Nat) : Int) != ((l1.getD k 0 : Nat) : Int)) = false := by rw [hne]; simp
            (repeat (first | with_reducible refine run_seq ?_ | with_reducible refine run_reg ?_ | with_reducible refine run_block ?_ | with_reducible refine run_blk ?_ | with_reducible refine run_skip ?_ | with_reducible refine run_exit rfl ?_ | with_reducible refine run_drw ?_ | with_reducible refine run_condT ?_ | with_reducible refine run_ret' ?_ | with_reducible refine run_end' ?_ | simp only [go_sem, ↓reduceIte, Nat.reduceAdd, Nat.reduceEqDiff, Nat.reduceBEq, reduceCtorEq, Int.reduceBEq, Int.reduceBNe, Int.reduceLT, Int.reduceLE, hk, d1, hsub hi1, d2, tf, tf2, if_pos c1, if_pos c2, Int.toNat_natCast, Nat.mul_one, f1, f2, t1, t2, i64_succ k (by omega)]))
            refine hnext _ _ ?_ ?_ ?_
            · (repeat (first | with_reducible exact Keeps.refl _ _ | with_reducible exact Keeps.ovr _ _ _ | refine Keeps.put ?_ rfl _ | exact Keeps.refl _ _ | exact Keeps.ovr _ _ _ | refine Keeps.ovr2 ?_ rfl _))
            · exact (fin _ _ (Only.drew _ _) (by simp only [go_sem, ↓reduceIte, Nat.reduceAdd, Nat.reduceEqDiff, Nat.reduceBEq, reduceCtorEq, Int.reduceBEq, Int.reduceBNe, Int.reduceLT, Int.reduceLE])).1
            · exact (fin _ _ (Only.drew _ _) (by simp only [go_sem, ↓reduceIte, Nat.reduceAdd, Nat.reduceEqDiff, Nat.reduceBEq, reduceCtorEq, Int.reduceBEq, Int.reduceBNe, Int.reduceLT, Int.reduceLE])).2
          · have t2 : (((l2.getD k 0 : Nat) : Int) != ((l1.getD k 0 : Nat) : Int)) = true := by simp only [bne_iff_ne, ne_eq]; omega
            (repeat (first | with_reducible refine run_seq ?_ | with_reducible refine run_reg ?_ | with_reducible refine run_block ?_ | with_reducible refine run_blk ?_ | with_reducible refine run_skip ?_ | with_reducible refine run_exit rfl ?_ | with_reducible refine run_drw ?_ | with_reducible refine run_condT ?_ | with_reducible refine run_ret' ?_ | with_reducible refine run_end' ?_ | simp only [go_sem, ↓reduceIte, Nat.reduceAdd, Nat.reduceEqDiff, Nat.reduceBEq, reduceCtorEq, Int.reduceBEq, Int.reduceBNe, Int.reduceLT, Int.reduceLE, hk, d1, hsub hi1, d2, tf, tf2, if_pos c1, if_pos c2, Int.toNat_natCast, Nat.mul_one, f1, f2, t1, t2, i64_succ k (by omega)]))
            refine hnext _ _ ?_ ?_ ?_
            · (repeat (first | with_reducible exact Keeps.refl _ _ | with_reducible exact Keeps.ovr _ _ _ | refine Keeps.put ?_ rfl _ | exact Keeps.refl _ _ | exact Keeps.ovr _ _ _ | refine Keeps.ovr2 ?_ rfl _))
            · exact (fin _ _ (Only.drew _ _) (by simp only [go_sem, ↓reduceIte, Nat.reduceAdd, Nat.reduceEqDiff, Nat.reduceBEq, reduceCtorEq, Int.reduceBEq, Int.reduceBNe, Int.reduceLT, Int.reduceLE])).1
            · exact (fin _ _ (Only.drew _ _) (by simp only [go_sem, ↓reduceIte, Nat.reduceAdd, Nat.reduceEqDiff, Nat.reduceBEq, reduceCtorEq, Int.reduceBEq, Int.reduceBNe, Int.reduceLT, Int.reduceLE])).2
        · have d2 : decide (((k - i0 : Nat) : Int) < (s0 : Int)) = false := decide_eq_false (by omega)
          rw [if_neg (by omega)] at hvk
          have t2 : (((l2.getD k 0 : Nat) : Int) != ((l1.getD k 0 : Nat) : Int)) = false := by rw [hvk]; simp
          (repeat (first | with_reducible refine run_seq ?_ | with_reducible refine run_reg ?_ | with_reducible refine run_block ?_ | with_reducible refine run_blk ?_ | with_reducible refine run_skip ?_ | with_reducible refine run_exit rfl ?_ | with_reducible refine run_drw ?_ | with_reducible refine run_condT ?_ | with_reducible refine run_ret' ?_ | with_reducible refine run_end' ?_ | simp only [go_sem, ↓reduceIte, Nat.reduceAdd, Nat.reduceEqDiff, Nat.reduceBEq, reduceCtorEq, Int.reduceBEq, Int.reduceBNe, Int.reduceLT, Int.reduceLE, hk, d1, hsub hi1, d2, tf, tf2, if_pos c1, if_pos c2, Int.toNat_natCast, Nat.mul_one, f1, f2, t2, i64_succ k (by omega)]))
          refine hnext _ _ ?_ ?_ ?_
          · (repeat (first | with_reducible exact Keeps.refl _ _ | with_reducible exact Keeps.ovr _ _ _ | refine Keeps.put ?_ rfl _ | exact Keeps.refl _ _ | exact Keeps.ovr _ _ _ | refine Keeps.ovr2 ?_ rfl _))
          · exact (fin _ _ (Only.drew _ _) (by simp only [go_sem, ↓reduceIte, Nat.reduceAdd, Nat.reduceEqDiff, Nat.reduceBEq, reduceCtorEq, Int.reduceBEq, Int.reduceBNe, Int.reduceLT, Int.reduceLE])).1
          · exact (fin _ _ (Only.drew _ _) (by simp only [go_sem, ↓reduceIte, Nat.reduceAdd, Nat.reduceEqDiff, Nat.reduceBEq, reduceCtorEq, Int.reduceBEq, Int.reduceBNe, Int.reduceLT, Int.reduceLE])).2
      · have d1 : decide ((i0 : Int) ≤ (k : Int)) = false := decide_eq_false (by omega)
        rw [if_neg (by omega)] at hvk
        have t2 : (((l2.getD k 0 : Nat) : Int) != ((l1.getD k 0 : Nat) : Int)) = false := by rw [hvk]; simp
        (repeat (first | with_reducible refine run_seq ?_ | with_reducible refine run_reg ?_ | with_reducible refine run_block ?_ | with_reducible refine run_blk ?_ | with_reducible refine run_skip ?_ | with_reducible refine run_exit rfl ?_ | with_reducible refine run_drw ?_ | with_reducible refine run_condT ?_ | with_reducible refine run_ret' ?_ | with_reducible refine run_end' ?_ | simp only [go_sem, ↓reduceIte, Nat.reduceAdd, Nat.reduceEqDiff, Nat.reduceBEq, reduceCtorEq, Int.reduceBEq, Int.reduceBNe, Int.reduceLT, Int.reduceLE, hk, d1, tf, tf2, if_pos c1, if_pos c2, Int.toNat_natCast, Nat.mul_one, f1, f2, t2, i64_succ k (by omega)]))
        refine hnext _ _ ?_ ?_ ?_
        · (repeat (first | with_reducible exact Keeps.refl _ _ | with_reducible exact Keeps.ovr _ _ _ | refine Keeps.put ?_ rfl _ | exact Keeps.refl _ _ | exact Keeps.ovr _ _ _ | refine Keeps.ovr2 ?_ rfl _))
        · exact (fin _ _ (Only.drew _ _) (by simp only [go_sem, ↓reduceIte, Nat.reduceAdd, Nat.reduceEqDiff, Nat.reduceBEq, reduceCtorEq, Int.reduceBEq, Int.reduceBNe, Int.reduceLT, Int.reduceLE])).1
        · exact (fin _ _ (Only.drew _ _) (by simp only [go_sem, ↓reduceIte, Nat.reduceAdd, Nat.reduceEqDiff, Nat.reduceBEq, reduceCtorEq, Int.reduceBEq, Int.reduceBNe, Int.reduceLT, Int.reduceLE])).2
    · have e2 := hf0 hfz
      have tf : (f == 0) = false := by simp [hfz]
      have t2 : (((l2.getD k 0 : Nat) : Int) != ((l1.getD k 0 : Nat) : Int)) = false := by rw [e2]; simp
      by_cases hi1 : i ≤ (k : Int)
      · (repeat (first | with_reducible refine run_seq ?_ | with_reducible refine run_reg ?_ | with_reducible refine run_block ?_ | with_reducible refine run_blk ?_ | with_reducible refine run_skip ?_ | with_reducible refine run_exit rfl ?_ | with_reducible refine run_drw ?_ | with_reducible refine run_condT ?_ | with_reducible refine run_ret' ?_ | with_reducible refine run_end' ?_ | simp only [go_sem, ↓reduceIte, Nat.reduceAdd, Nat.reduceEqDiff, Nat.reduceBEq, reduceCtorEq, Int.reduceBEq, Int.reduceBNe, Int.reduceLT, Int.reduceLE, hk, decide_eq_true hi1, tf, if_pos c1, if_pos c2, Int.toNat_natCast, Nat.mul_one, f1, f2, t2, i64_succ k (by omega)]))
        refine hnext _ _ ?_ ?_ ?_
        · (repeat (first | with_reducible exact Keeps.refl _ _ | with_reducible exact Keeps.ovr _ _ _ | refine Keeps.put ?_ rfl _ | exact Keeps.refl _ _ | exact Keeps.ovr _ _ _ | refine Keeps.ovr2 ?_ rfl _))
        · exact (fin _ _ (Only.drew _ _) (by simp only [go_sem, ↓reduceIte, Nat.reduceAdd, Nat.reduceEqDiff, Nat.reduceBEq, reduceCtorEq, Int.reduceBEq, Int.reduceBNe, Int.reduceLT, Int.reduceLE])).1
        · exact (fin _ _ (Only.drew _ _) (by simp only [go_sem, ↓reduceIte, Nat.reduceAdd, Nat.reduceEqDiff, Nat.reduceBEq, reduceCtorEq, Int.reduceBEq, Int.reduceBNe, Int.reduceLT, Int.reduceLE])).2
      · (repeat (first | with_reducible refine run_seq ?_ | with_reducible refine run_reg ?_ | with_reducible refine run_block ?_ | with_reducible refine run_blk ?_ | with_reducible refine run_skip ?_ | with_reducible refine run_exit rfl ?_ | with_reducible refine run_drw ?_ | with_reducible refine run_condT ?_ | with_reducible refine run_ret' ?_ | with_reducible refine run_end' ?_ | simp only [go_sem, ↓reduceIte, Nat.reduceAdd, Nat.reduceEqDiff, Nat.reduceBEq, reduceCtorEq, Int.reduceBEq, Int.reduceBNe, Int.reduceLT, Int.reduceLE, hk, decide_eq_false hi1, tf, if_pos c1, if_pos c2, Int.toNat_natCast, Nat.mul_one, f1, f2, t2, i64_succ k (by omega)]))
        refine hnext _ _ ?_ ?_ ?_
        · (repeat (first | with_reducible exact Keeps.refl _ _ | with_reducible exact Keeps.ovr _ _ _ | refine Keeps.put ?_ rfl _ | exact Keeps.refl _ _ | exact Keeps.ovr _ _ _ | refine Keeps.ovr2 ?_ rfl _))
        · exact (fin _ _ (Only.drew _ _) (by simp only [go_sem, ↓reduceIte, Nat.reduceAdd, Nat.reduceEqDiff, Nat.reduceBEq, reduceCtorEq, Int.reduceBEq, Int.reduceBNe, Int.reduceLT, Int.reduceLE])).1
        · exact (fin _ _ (Only.drew _ _) (by simp only [go_sem, ↓reduceIte, Nat.reduceAdd, Nat.reduceEqDiff, Nat.reduceBEq, reduceCtorEq, Int.reduceBEq, Int.reduceBNe, Int.reduceLT, Int.reduceLE])).2
  · (repeat (first | with_reducible refine run_seq ?_ | with_reducible refine run_reg ?_ | with_reducible refine run_block ?_ | with_reducible refine run_blk ?_ | with_reducible refine run_skip ?_ | with_reducible refine run_exit rfl ?_ | with_reducible refine run_drw ?_ | with_reducible refine run_condT ?_ | with_reducible refine run_ret' ?_ | with_reducible refine run_end' ?_ | simp only [go_sem, ↓reduceIte, Nat.reduceAdd, Nat.reduceEqDiff, Nat.reduceBEq, reduceCtorEq, Int.reduceBEq, Int.reduceBNe, Int.reduceLT, Int.reduceLE]))
    refine callT1 (law_alive _) fun w8 o8 => ?_
    (repeat (first | with_reducible refine run_seq ?_ | with_reducible refine run_reg ?_ | with_reducible refine run_block ?_ | with_reducible refine run_blk ?_ | with_reducible refine run_skip ?_ | with_reducible refine run_exit rfl ?_ | with_reducible refine run_drw ?_ | with_reducible refine run_condT ?_ | with_reducible refine run_ret' ?_ | with_reducible refine run_end' ?_ | simp only [go_sem, ↓reduceIte, Nat.reduceAdd, Nat.reduceEqDiff, Nat.reduceBEq, reduceCtorEq, Int.reduceBEq, Int.reduceBNe, Int.reduceLT, Int.reduceLE]))
    exact (o7.same ho).same o8
end Go.Proofs.Ythalhkhjacjhgaa
