/- The law RootsQueue, walked: the list of what is wanted loses its first element, and is appended to. -/
import Derived.Test.YtblfmacnkacalaaRtLD
import Derived.Test.YtblfmacnkacalaaRtP
namespace Go.Proofs.Ytblfmacnkacalaa
set_option linter.unusedSimpArgs false
set_option linter.unusedVariables false
set_option maxRecDepth 8000

theorem SlW.keep {w w' : World} {sz : Nat} {v : Value} {n : Nat} {xs : List Value} {fp S : List Nat} (h : SlW w sz v n xs fp) (k : Only S w w') (hd : ∀ x, x ∈ fp → x ∉ S) : SlW w' sz v n xs fp := by
  refine ⟨h.1, h.2.elim .inl fun ⟨g, cap, pre, ys, post, T, h1, h2, h3, h4, h5⟩ => .inr ⟨g, cap, pre, ys, post, T, h1, h2, ?_, h4, h5⟩⟩
  rw [k.block g ((Array.getElem?_eq_some_iff.1 h3).1) (hd g (by simp [h2]))]
  exact h3
theorem SlW.keep0 {w w' : World} {sz : Nat} {v : Value} {n : Nat} {xs : List Value} {fp : List Nat} (h : SlW w sz v n xs fp) (k : Only [] w w') : SlW w' sz v n xs fp := h.keep k (by simp)
theorem SlW.lt {w : World} {sz : Nat} {v : Value} {n : Nat} {xs : List Value} {fp : List Nat} (h : SlW w sz v n xs fp) : ∀ x, x ∈ fp → x < w.heap.size := by
  rcases h.2 with ⟨_, _, rfl⟩ | ⟨g, cap, pre, ys, post, T, _, rfl, h3, _⟩
  · simp
  · intro x hx
    simp only [List.mem_singleton] at hx
    subst hx
    exact (Array.getElem?_eq_some_iff.1 h3).1
theorem SlW.val {w : World} {sz : Nat} {v : Value} {n : Nat} {xs : List Value} {fp : List Nat} (h : SlW w sz v n xs fp) : ∃ (a : Option Addr) (cap : Nat), v = .slice a n cap := by
  rcases h.2 with ⟨rfl, rfl, _⟩ | ⟨g, cap, pre, ys, post, T, rfl, _⟩
  · exact ⟨_, _, rfl⟩
  · exact ⟨_, _, rfl⟩
theorem SlW.rd {w : World} {v : Value} {xs : List Int} {fp : List Nat} (h : SlW w 1 v xs.length (ints xs) fp) : RdB w fp v xs := by
  rcases h.2 with ⟨rfl, h2, rfl⟩ | ⟨g, cap, pre, ys, post, T, rfl, rfl, h3, h4, h5⟩
  · exact ⟨none, 0, by rw [h2], fun i hi => by omega⟩
  · refine ⟨_, cap, rfl, fun i hi => ⟨_, rfl, by simp, ?_⟩⟩
    rw [addr_add]
    simp only [World.cell?, h3]
    have hl : (ints xs).length = xs.length := by simp [ints]
    simp [List.getElem?_append_right, List.getElem?_append_left, hl, hi, ints]
/-- the first element goes -/
theorem SlW.tail {w : World} {a : Option Addr} {cap n : Nat} {x : Int} {xs : List Int} {fp : List Nat} {k : IntKind} (h : SlW w 1 (.slice a n cap) (x :: xs).length (ints (x :: xs)) fp) (hn : n = (x :: xs).length) :
    ∃ v', slcO 1 (.slice a n cap) (some (.int k 1)) none = some v' ∧ SlW w 1 v' xs.length (ints xs) fp := by
  subst hn
  rcases h.2 with ⟨_, h2, _⟩ | ⟨g, cap', pre, ys, post, T, h1, rfl, h3, h4, h5⟩
  · simp at h2
  · injection h1 with h6 _ h7
    subst h6; subst h7
    have hx : ints (x :: xs) = .int .i64 x :: ints xs := rfl
    rw [hx] at h3 h4
    by_cases hc : 1 < cap
    · refine ⟨_, slcO_l (l := 1) (by simp) hc, by simp [ints], .inr ⟨g, cap - 1, pre ++ [.int .i64 x], ys, post, T, ?_, rfl, ?_, ?_, ?_⟩⟩
      · simp [addr_add]
      · rw [h3]; simp
      · simp only [List.length_append, List.length_cons] at h4 ⊢; omega
      · simp only [List.length_cons] at h5; omega
    · have hcap : cap = 1 := by simp only [List.length_cons] at h5; omega
      subst hcap
      have hxs : xs = [] := by
        cases xs with
        | nil => rfl
        | cons y ys => simp only [List.length_cons] at h5; omega
      subst hxs
      refine ⟨_, slcO_all (l := 1) rfl, by simp [ints], .inr ⟨g, 0, pre, [], .int .i64 x :: ys ++ post, T, rfl, rfl, ?_, ?_, by simp⟩⟩
      · rw [h3]; simp [ints]
      · simp [ints]

theorem queue_walk {w : World} {v v2 : Value} {A : List Int} {B : List Bool} (hA : RdH w.heap.size w v A) (hB : BlsAt w.heap.size w v2 B) : Cs Try.prog 6 [v, v2] w fun r w' => r = .bool true ∧ Only [] w w' := by
  refine enter_law03_RootsQueue rfl ?_
  unfold x_law03_RootsQueue
  obtain ⟨D1, hA1, hD1⟩ := hA
  obtain ⟨a1, c1, rfl⟩ := hA1.val
  obtain ⟨a2, c2, rfl, hB1⟩ := hB
  by_cases b1 : 100 < A.length
  · (repeat (first | with_reducible refine run_seq ?_ | with_reducible refine run_reg ?_ | with_reducible refine run_block ?_ | with_reducible refine run_blk ?_ | with_reducible refine run_skip ?_ | with_reducible refine run_exit rfl ?_ | with_reducible refine run_drw ?_ | with_reducible refine run_condT ?_ | with_reducible refine run_ret' ?_ | with_reducible refine run_end' ?_ | simp only [go_sem, ↓reduceIte, Nat.reduceAdd, Nat.reduceEqDiff, Nat.reduceBEq, reduceCtorEq, Int.reduceBEq, Int.reduceBNe, Int.reduceLT, Int.reduceLE, decide_eq_true (show (100 : Int) < (A.length : Int) by omega)]))
    refine callT1 (law_alive w) fun w' ho => ?_
    (repeat (first | with_reducible refine run_seq ?_ | with_reducible refine run_reg ?_ | with_reducible refine run_block ?_ | with_reducible refine run_blk ?_ | with_reducible refine run_skip ?_ | with_reducible refine run_exit rfl ?_ | with_reducible refine run_drw ?_ | with_reducible refine run_condT ?_ | with_reducible refine run_ret' ?_ | with_reducible refine run_end' ?_ | simp only [go_sem, ↓reduceIte, Nat.reduceAdd, Nat.reduceEqDiff, Nat.reduceBEq, reduceCtorEq, Int.reduceBEq, Int.reduceBNe, Int.reduceLT, Int.reduceLE]))
    exact ho
  (repeat (first | with_reducible refine run_seq ?_ | with_reducible refine run_reg ?_ | with_reducible refine run_block ?_ | with_reducible refine run_blk ?_ | with_reducible refine run_skip ?_ | with_reducible refine run_exit rfl ?_ | with_reducible refine run_drw ?_ | with_reducible refine run_condT ?_ | with_reducible refine run_ret' ?_ | with_reducible refine run_end' ?_ | simp only [go_sem, ↓reduceIte, Nat.reduceAdd, Nat.reduceEqDiff, Nat.reduceBEq, reduceCtorEq, Int.reduceBEq, Int.reduceBNe, Int.reduceLT, Int.reduceLE, decide_eq_false (show ¬ (100 : Int) < (A.length : Int) by omega)]))
  refine callT (New_m w 1) ?_
  rintro r w1 ⟨ho1, a, fp0, rfl, hp1, _, hnew⟩
  have hnewO : newO 1 = some ⟨1, List.replicate 16 0, List.replicate 16 0, []⟩ := rfl
  rw [hnewO] at hp1 ⊢
  (repeat (first | with_reducible refine run_seq ?_ | with_reducible refine run_reg ?_ | with_reducible refine run_block ?_ | with_reducible refine run_blk ?_ | with_reducible refine run_skip ?_ | with_reducible refine run_exit rfl ?_ | with_reducible refine run_drw ?_ | with_reducible refine run_condT ?_ | with_reducible refine run_ret' ?_ | with_reducible refine run_end' ?_ | simp only [go_sem, ↓reduceIte, Nat.reduceAdd, Nat.reduceEqDiff, Nat.reduceBEq, reduceCtorEq, Int.reduceBEq, Int.reduceBNe, Int.reduceLT, Int.reduceLE]))
  refine run_loop (7 :: 8 :: 9 :: 10 :: 11 :: 20 :: 21 :: 22 :: 23 :: 24 :: 25 :: 26 :: 27 :: 28 :: 29 :: 30 :: 31 :: 32 :: 33 :: 34 :: 35 :: 36 :: 37 :: 38 :: 39 :: 40 :: 41 :: 42 :: 43 :: 44 :: 45 :: 46 :: 47 :: 48 :: 49 :: 50 :: 51 :: 52 :: 53 :: 54 :: 55 :: 56 :: 57 :: 58 :: 59 :: 60 :: 61 :: 62 :: 63 :: 64 :: 65 :: 66 :: 67 :: 68 :: 69 :: 70 :: 71 :: 72 :: 73 :: 74 :: 75 :: 76 :: 77 :: 78 :: 79 :: 80 :: 81 :: 82 :: 83 :: 84 :: 85 :: 86 :: 87 :: 88 :: []) (fun g w' => ∃ (i : Nat) (s : MS) (u : Value) (f fp : List Nat), g 8 = .int .i64 i ∧ g 7 = u ∧ i ≤ A.length ∧ SlW w' 1 u s.Q.length (ints s.Q) f ∧ PR w' a fp (some s) ∧ (∀ x, x ∈ f → x ∉ fp) ∧ (∀ x, x ∈ f → w.heap.size ≤ x) ∧ (∀ x, x ∈ fp → w.heap.size ≤ x) ∧ Only [] w w') (fun g _ => upTo A.length 8 g)
    ⟨0, _, _, [], fp0, by simp only [go_sem, ↓reduceIte, Nat.reduceAdd, Nat.reduceEqDiff, Nat.reduceBEq, reduceCtorEq, Int.reduceBEq, Int.reduceBNe, Int.reduceLT, Int.reduceLE]; rfl, by simp only [go_sem, ↓reduceIte, Nat.reduceAdd, Nat.reduceEqDiff, Nat.reduceBEq, reduceCtorEq, Int.reduceBEq, Int.reduceBNe, Int.reduceLT, Int.reduceLE], by omega, (Sl.nil1 w1).toW, hp1, by simp, by simp, hnew, ho1⟩ fun g w5 hI hnext => ?_
  obtain ⟨i, s, u, f, fp, h8, h7, hi, hsu, hp, hdj, hf, hfp, ho5⟩ := hI
  obtain ⟨au, cu, rfl⟩ := hsu.val
  (repeat (first | with_reducible refine run_seq ?_ | with_reducible refine run_reg ?_ | with_reducible refine run_block ?_ | with_reducible refine run_blk ?_ | with_reducible refine run_skip ?_ | with_reducible refine run_exit rfl ?_ | with_reducible refine run_drw ?_ | with_reducible refine run_condT ?_ | with_reducible refine run_ret' ?_ | with_reducible refine run_end' ?_ | simp only [go_sem, ↓reduceIte, Nat.reduceAdd, Nat.reduceEqDiff, Nat.reduceBEq, reduceCtorEq, Int.reduceBEq, Int.reduceBNe, Int.reduceLT, Int.reduceLE, h8]))
  refine condT (fun hlt => ?_) (fun hge => ?_)
  · have hlt : i < A.length := by simpa using hlt
    obtain ⟨pA, hpA, hcA⟩ := (hA1.keep0 ho5).get hlt
    cases hpA
    have e1 : (0 : Int) ≤ (i : Int) ∧ (i : Int) < (A.length : Int) := ⟨by omega, by omega⟩
    have hok : s.Ok := by obtain ⟨_, _, _, _, _, _, _, _, _, k⟩ := hp; exact k.ok
    have hq64 := hok.lq
    generalize hy : A.getD i 0 = y at *
    (repeat (first | with_reducible refine run_seq ?_ | with_reducible refine run_reg ?_ | with_reducible refine run_block ?_ | with_reducible refine run_blk ?_ | with_reducible refine run_skip ?_ | with_reducible refine run_exit rfl ?_ | with_reducible refine run_drw ?_ | with_reducible refine run_condT ?_ | with_reducible refine run_ret' ?_ | with_reducible refine run_end' ?_ | simp only [go_sem, ↓reduceIte, Nat.reduceAdd, Nat.reduceEqDiff, Nat.reduceBEq, reduceCtorEq, Int.reduceBEq, Int.reduceBNe, Int.reduceLT, Int.reduceLE, h8, if_pos e1, Int.toNat_natCast, Nat.mul_one, hcA]))
    refine callT (Push_m hp y) ?_
    rintro r w6 ⟨rfl, ho6, hne6, fp6, hp6, hfp6⟩
    have hz5 := ho5.size
    have hz6 := ho6.size
    have hflt := hsu.lt
    have hsu6 := hsu.keep ho6 hdj
    have ho06 : Only [] w w6 := ho5.trans ho6 fun x hx => .inr (hfp x hx)
    have hdj6 : ∀ x, x ∈ f → x ∉ fp6 := fun x hx hx2 => by
      rcases hfp6 x hx2 with h | h
      · exact hdj x hx h
      · have := hflt x hx; omega
    have hfp6' : ∀ x, x ∈ fp6 → w.heap.size ≤ x := fun x hx => by
      rcases hfp6 x hx with h | h
      · exact hfp x h
      · omega
    have hcase : (∃ e : Int, pushO (some s) y = (e, some s) ∧ e ≠ 0 ∧ (0 < y → 64 ≤ s.Q.length)) ∨ (pushO (some s) y = (0, some { s with Q := s.Q ++ [y] }) ∧ 0 < y ∧ s.Q.length < 64) := by
      unfold pushO
      by_cases h1 : y ≤ 0
      · exact .inl ⟨1, by simp [h1], by omega, by omega⟩
      · by_cases h2 : s.Q.length = 64
        · exact .inl ⟨6, by simp [h1, h2], by omega, by omega⟩
        · exact .inr ⟨by simp [h1, h2], by omega, by omega⟩
    have hcA6 : w6.cell? (pA.add i) = some (.int .i64 y) := by
      obtain ⟨p, hp', hc⟩ := (hA1.keep0 ho06).get hlt
      cases hp'
      rw [hy] at hc
      exact hc
    generalize pushO (some s) y = pr at *
    obtain ⟨e, m⟩ := pr
    simp only at hp6 hne6 hcase
    simp only [go_sem, ↓reduceIte, Nat.reduceAdd, Nat.reduceEqDiff, Nat.reduceBEq, reduceCtorEq, Int.reduceBEq, Int.reduceBNe, Int.reduceLT, Int.reduceLE]
    refine run_seq ?_
    refine run_cut (32 :: 33 :: 34 :: 35 :: 36 :: 37 :: 38 :: 39 :: 40 :: 41 :: 42 :: 43 :: 44 :: []) (fun _ w' => w' = w6) (fun kk hkk => ?_) (fun g6 w6' hJ => ?_)
    · rcases hcase with ⟨e', hee, hne, h64⟩ | ⟨hee, hpos, h64⟩
      · cases hee
        by_cases hpos : 0 < y
        · have := h64 hpos
          (repeat (first | with_reducible refine run_seq ?_ | with_reducible refine run_reg ?_ | with_reducible refine run_block ?_ | with_reducible refine run_blk ?_ | with_reducible refine run_skip ?_ | with_reducible refine run_exit rfl ?_ | with_reducible refine run_drw ?_ | with_reducible refine run_condT ?_ | with_reducible refine run_ret' ?_ | with_reducible refine run_end' ?_ | simp only [go_sem, ↓reduceIte, Nat.reduceAdd, Nat.reduceEqDiff, Nat.reduceBEq, reduceCtorEq, Int.reduceBEq, Int.reduceBNe, Int.reduceLT, Int.reduceLE, h8, h7, if_pos e1, Int.toNat_natCast, Nat.mul_one, hcA6, beq_int_false hne, decide_eq_true hpos, decide_eq_false (show ¬ (s.Q.length : Int) < 64 by omega)]))
          exact hkk _ _ (by (repeat (first | with_reducible exact Keeps.refl _ _ | with_reducible exact Keeps.ovr _ _ _ | refine Keeps.put ?_ rfl _ | exact Keeps.refl _ _ | exact Keeps.ovr _ _ _ | refine Keeps.ovr2 ?_ rfl _))) rfl
        · (repeat (first | with_reducible refine run_seq ?_ | with_reducible refine run_reg ?_ | with_reducible refine run_block ?_ | with_reducible refine run_blk ?_ | with_reducible refine run_skip ?_ | with_reducible refine run_exit rfl ?_ | with_reducible refine run_drw ?_ | with_reducible refine run_condT ?_ | with_reducible refine run_ret' ?_ | with_reducible refine run_end' ?_ | simp only [go_sem, ↓reduceIte, Nat.reduceAdd, Nat.reduceEqDiff, Nat.reduceBEq, reduceCtorEq, Int.reduceBEq, Int.reduceBNe, Int.reduceLT, Int.reduceLE, h8, h7, if_pos e1, Int.toNat_natCast, Nat.mul_one, hcA6, beq_int_false hne, decide_eq_false hpos]))
          exact hkk _ _ (by (repeat (first | with_reducible exact Keeps.refl _ _ | with_reducible exact Keeps.ovr _ _ _ | refine Keeps.put ?_ rfl _ | exact Keeps.refl _ _ | exact Keeps.ovr _ _ _ | refine Keeps.ovr2 ?_ rfl _))) rfl
      · cases hee
        (repeat (first | with_reducible refine run_seq ?_ | with_reducible refine run_reg ?_ | with_reducible refine run_block ?_ | with_reducible refine run_blk ?_ | with_reducible refine run_skip ?_ | with_reducible refine run_exit rfl ?_ | with_reducible refine run_drw ?_ | with_reducible refine run_condT ?_ | with_reducible refine run_ret' ?_ | with_reducible refine run_end' ?_ | simp only [go_sem, ↓reduceIte, Nat.reduceAdd, Nat.reduceEqDiff, Nat.reduceBEq, reduceCtorEq, Int.reduceBEq, Int.reduceBNe, Int.reduceLT, Int.reduceLE, h8, h7, if_pos e1, Int.toNat_natCast, Nat.mul_one, hcA6, beq_int_true (rfl : (0 : Int) = 0), decide_eq_true hpos, decide_eq_true (show (s.Q.length : Int) < 64 by omega)]))
        exact hkk _ _ (by (repeat (first | with_reducible exact Keeps.refl _ _ | with_reducible exact Keeps.ovr _ _ _ | refine Keeps.put ?_ rfl _ | exact Keeps.refl _ _ | exact Keeps.ovr _ _ _ | refine Keeps.ovr2 ?_ rfl _))) rfl
    subst hJ
    refine run_seq ?_
    refine run_cut (7 :: 45 :: 46 :: 47 :: 48 :: 49 :: 50 :: 51 :: 52 :: 53 :: []) (fun ρ' w' => ∃ (s' : MS) (u' : Value) (f' : List Nat), ρ' 7 = u' ∧ SlW w' 1 u' s'.Q.length (ints s'.Q) f' ∧ PR w' a fp6 (some s') ∧ (∀ x, x ∈ f' → x ∉ fp6) ∧ (∀ x, x ∈ f' → w.heap.size ≤ x) ∧ Only [] w w') (fun kk hkk => ?_) (fun g7 w7 hJ => ?_)
    · rcases hcase with ⟨e', hee, hne, h64⟩ | ⟨hee, hpos, h64⟩
      · cases hee
        (repeat (first | with_reducible refine run_seq ?_ | with_reducible refine run_reg ?_ | with_reducible refine run_block ?_ | with_reducible refine run_blk ?_ | with_reducible refine run_skip ?_ | with_reducible refine run_exit rfl ?_ | with_reducible refine run_drw ?_ | with_reducible refine run_condT ?_ | with_reducible refine run_ret' ?_ | with_reducible refine run_end' ?_ | simp only [go_sem, ↓reduceIte, Nat.reduceAdd, Nat.reduceEqDiff, Nat.reduceBEq, reduceCtorEq, Int.reduceBEq, Int.reduceBNe, Int.reduceLT, Int.reduceLE, beq_int_false hne]))
        exact hkk _ _ (by (repeat (first | with_reducible exact Keeps.refl _ _ | with_reducible exact Keeps.ovr _ _ _ | refine Keeps.put ?_ rfl _ | exact Keeps.refl _ _ | exact Keeps.ovr _ _ _ | refine Keeps.ovr2 ?_ rfl _))) ⟨s, _, f, by simp only [go_sem, ↓reduceIte, Nat.reduceAdd, Nat.reduceEqDiff, Nat.reduceBEq, reduceCtorEq, Int.reduceBEq, Int.reduceBNe, Int.reduceLT, Int.reduceLE, h7], hsu6, hp6, hdj6, hf, ho06⟩
      · cases hee
        (repeat (first | with_reducible refine run_seq ?_ | with_reducible refine run_reg ?_ | with_reducible refine run_block ?_ | with_reducible refine run_blk ?_ | with_reducible refine run_skip ?_ | with_reducible refine run_exit rfl ?_ | with_reducible refine run_drw ?_ | with_reducible refine run_condT ?_ | with_reducible refine run_ret' ?_ | with_reducible refine run_end' ?_ | simp only [go_sem, ↓reduceIte, Nat.reduceAdd, Nat.reduceEqDiff, Nat.reduceBEq, reduceCtorEq, Int.reduceBEq, Int.reduceBNe, Int.reduceLT, Int.reduceLE, h8, h7, if_pos e1, Int.toNat_natCast, Nat.mul_one, hcA6, beq_int_true (rfl : (0 : Int) = 0)]))
        rw [fillL_one rfl rfl]
        (repeat (first | with_reducible refine run_seq ?_ | with_reducible refine run_reg ?_ | with_reducible refine run_block ?_ | with_reducible refine run_blk ?_ | with_reducible refine run_skip ?_ | with_reducible refine run_exit rfl ?_ | with_reducible refine run_drw ?_ | with_reducible refine run_condT ?_ | with_reducible refine run_ret' ?_ | with_reducible refine run_end' ?_ | simp only [go_sem, ↓reduceIte, Nat.reduceAdd, Nat.reduceEqDiff, Nat.reduceBEq, reduceCtorEq, Int.reduceBEq, Int.reduceBNe, Int.reduceLT, Int.reduceLE]))
        refine bslT fun q w7 hq hs7 hat7 ho7 => ?_
        (repeat (first | with_reducible refine run_seq ?_ | with_reducible refine run_reg ?_ | with_reducible refine run_block ?_ | with_reducible refine run_blk ?_ | with_reducible refine run_skip ?_ | with_reducible refine run_exit rfl ?_ | with_reducible refine run_drw ?_ | with_reducible refine run_condT ?_ | with_reducible refine run_ret' ?_ | with_reducible refine run_end' ?_ | simp only [go_sem, ↓reduceIte, Nat.reduceAdd, Nat.reduceEqDiff, Nat.reduceBEq, reduceCtorEq, Int.reduceBEq, Int.reduceBNe, Int.reduceLT, Int.reduceLE, h7]))
        refine appTW (hsu6.keep0 ho7) (SrcIs.at hat7 rfl) (by simp [oneC]) (by omega) (by omega) ?_
        intro v8 w8 f8 hs8 hf8 ho8 _
        have hz7 := ho7.size
        have hlt6 := hp6.lt
        (repeat (first | with_reducible refine run_seq ?_ | with_reducible refine run_reg ?_ | with_reducible refine run_block ?_ | with_reducible refine run_blk ?_ | with_reducible refine run_skip ?_ | with_reducible refine run_exit rfl ?_ | with_reducible refine run_drw ?_ | with_reducible refine run_condT ?_ | with_reducible refine run_ret' ?_ | with_reducible refine run_end' ?_ | simp only [go_sem, ↓reduceIte, Nat.reduceAdd, Nat.reduceEqDiff, Nat.reduceBEq, reduceCtorEq, Int.reduceBEq, Int.reduceBNe, Int.reduceLT, Int.reduceLE]))
        have hsrc : Only f w6' w8 := (ho7.of_nil (T := f)).trans ho8 fun x hx => .inl hx
        refine hkk _ _ (by (repeat (first | with_reducible exact Keeps.refl _ _ | with_reducible exact Keeps.ovr _ _ _ | refine Keeps.put ?_ rfl _ | exact Keeps.refl _ _ | exact Keeps.ovr _ _ _ | refine Keeps.ovr2 ?_ rfl _))) ⟨_, v8, f8, by simp only [go_sem, ↓reduceIte, Nat.reduceAdd, Nat.reduceEqDiff, Nat.reduceBEq, reduceCtorEq, Int.reduceBEq, Int.reduceBNe, Int.reduceLT, Int.reduceLE], by show SlW w8 1 v8 (s.Q ++ [y]).length (ints (s.Q ++ [y])) f8; rw [List.length_append, ints_append]; exact hs8, hp6.keep hsrc (fun x hx hx2 => hdj6 x hx2 hx), ?_, ?_, ho06.trans hsrc fun x hx => .inr (hf x hx)⟩
        · intro x hx
          rcases hf8 with rfl | rfl
          · exact hdj6 x hx
          · simp only [List.mem_singleton] at hx
            intro h; have := hlt6 x h; omega
        · intro x hx
          rcases hf8 with rfl | rfl
          · exact hf x hx
          · simp only [List.mem_singleton] at hx; omega
    obtain ⟨s', u', f', h7', hsu7, hp7, hdj7, hf7, ho07⟩ := hJ
    obtain ⟨a', c', rfl⟩ := hsu7.val
    have hok7 : s'.Ok := by obtain ⟨_, _, _, _, _, _, _, _, _, k⟩ := hp7; exact k.ok
    have hz7 := ho07.size
    by_cases hiB : i < B.length
    · obtain ⟨pB, hpB, hbB, hcB0⟩ := hB1 i hiB
      cases hpB
      have hcB : w7.cell? (pB.add i) = some (.bool (B.getD i false)) := by
        rw [cell_of_heap (w := w) (w' := w7) (a := pB.add i) (by rw [add_block]; exact ho07.block _ hbB (by simp))]
        exact hcB0
      have e2 : (0 : Int) ≤ (i : Int) ∧ (i : Int) < (B.length : Int) := ⟨by omega, by omega⟩
      cases hb : B.getD i false with
      | false =>
        rw [hb] at hcB
        (repeat (first | with_reducible refine run_seq ?_ | with_reducible refine run_reg ?_ | with_reducible refine run_block ?_ | with_reducible refine run_blk ?_ | with_reducible refine run_skip ?_ | with_reducible refine run_exit rfl ?_ | with_reducible refine run_drw ?_ | with_reducible refine run_condT ?_ | with_reducible refine run_ret' ?_ | with_reducible refine run_end' ?_ | simp only [go_sem, ↓reduceIte, Nat.reduceAdd, Nat.reduceEqDiff, Nat.reduceBEq, reduceCtorEq, Int.reduceBEq, Int.reduceBNe, Int.reduceLT, Int.reduceLE, h8, decide_eq_true (show (i : Int) < (B.length : Int) by omega), if_pos e2, Int.toNat_natCast, Nat.mul_one, hcB, i64_succ i (by omega)]))
        refine hnext _ _ ?_ ⟨i + 1, s', _, f', fp6, ?_, ?_, by omega, hsu7, hp7, hdj7, hf7, hfp6', ho07⟩ ?_
        · (repeat (first | with_reducible exact Keeps.refl _ _ | with_reducible exact Keeps.ovr _ _ _ | refine Keeps.put ?_ rfl _ | exact Keeps.refl _ _ | exact Keeps.ovr _ _ _ | refine Keeps.ovr2 ?_ rfl _))
        · simp only [go_sem, ↓reduceIte, Nat.reduceAdd, Nat.reduceEqDiff, Nat.reduceBEq, reduceCtorEq, Int.reduceBEq, Int.reduceBNe, Int.reduceLT, Int.reduceLE]
        · simp only [go_sem, ↓reduceIte, Nat.reduceAdd, Nat.reduceEqDiff, Nat.reduceBEq, reduceCtorEq, Int.reduceBEq, Int.reduceBNe, Int.reduceLT, Int.reduceLE, h7']
        · rw [upTo_int h8, upTo_int (k := .i64) (i := i + 1) (by simp only [go_sem, ↓reduceIte, Nat.reduceAdd, Nat.reduceEqDiff, Nat.reduceBEq, reduceCtorEq, Int.reduceBEq, Int.reduceBNe, Int.reduceLT, Int.reduceLE])]; omega
      | true =>
        rw [hb] at hcB
        (repeat (first | with_reducible refine run_seq ?_ | with_reducible refine run_reg ?_ | with_reducible refine run_block ?_ | with_reducible refine run_blk ?_ | with_reducible refine run_skip ?_ | with_reducible refine run_exit rfl ?_ | with_reducible refine run_drw ?_ | with_reducible refine run_condT ?_ | with_reducible refine run_ret' ?_ | with_reducible refine run_end' ?_ | simp only [go_sem, ↓reduceIte, Nat.reduceAdd, Nat.reduceEqDiff, Nat.reduceBEq, reduceCtorEq, Int.reduceBEq, Int.reduceBNe, Int.reduceLT, Int.reduceLE, h8, decide_eq_true (show (i : Int) < (B.length : Int) by omega), if_pos e2, Int.toNat_natCast, Nat.mul_one, hcB]))
        refine callT (Pop_m hp7) ?_
        rintro r w8 ⟨rfl, ho8, hne8, fp8, hp8, hfp8⟩
        have hlt7 := hsu7.lt
        have hsu8 := hsu7.keep ho8 hdj7
        have ho08 : Only [] w w8 := ho07.trans ho8 fun x hx => .inr (hfp6' x hx)
        have hdj8 : ∀ x, x ∈ f' → x ∉ fp8 := fun x hx hx2 => by
          rcases hfp8 x hx2 with h | h
          · exact hdj7 x hx h
          · have := hlt7 x hx; omega
        have hfp8' : ∀ x, x ∈ fp8 → w.heap.size ≤ x := fun x hx => by
          rcases hfp8 x hx with h | h
          · exact hfp6' x h
          · omega
        cases hQ : s'.Q with
        | nil =>
          have hpo : popO (some s') = ((0, 4), some s') := by unfold popO; simp only [hQ]
          rw [hpo] at hp8 ⊢
          rw [hQ] at h7'
          (repeat (first | with_reducible refine run_seq ?_ | with_reducible refine run_reg ?_ | with_reducible refine run_block ?_ | with_reducible refine run_blk ?_ | with_reducible refine run_skip ?_ | with_reducible refine run_exit rfl ?_ | with_reducible refine run_drw ?_ | with_reducible refine run_condT ?_ | with_reducible refine run_ret' ?_ | with_reducible refine run_end' ?_ | simp only [go_sem, ↓reduceIte, Nat.reduceAdd, Nat.reduceEqDiff, Nat.reduceBEq, reduceCtorEq, Int.reduceBEq, Int.reduceBNe, Int.reduceLT, Int.reduceLE, h8, h7', List.length_nil, beq_int_true (show (((0 : Nat) : Int)) = 0 from rfl), bne_int_false (rfl : (4 : Int) = 4), bne_int_false (rfl : (0 : Int) = 0), i64_succ i (by omega)]))
          refine hnext _ _ ?_ ⟨i + 1, s', _, f', fp8, ?_, ?_, by omega, hsu8, hp8, hdj8, hf7, hfp8', ho08⟩ ?_
          · (repeat (first | with_reducible exact Keeps.refl _ _ | with_reducible exact Keeps.ovr _ _ _ | refine Keeps.put ?_ rfl _ | exact Keeps.refl _ _ | exact Keeps.ovr _ _ _ | refine Keeps.ovr2 ?_ rfl _))
          · simp only [go_sem, ↓reduceIte, Nat.reduceAdd, Nat.reduceEqDiff, Nat.reduceBEq, reduceCtorEq, Int.reduceBEq, Int.reduceBNe, Int.reduceLT, Int.reduceLE]
          · rw [hQ]; simp only [go_sem, ↓reduceIte, Nat.reduceAdd, Nat.reduceEqDiff, Nat.reduceBEq, reduceCtorEq, Int.reduceBEq, Int.reduceBNe, Int.reduceLT, Int.reduceLE, h7']
          · rw [upTo_int h8, upTo_int (k := .i64) (i := i + 1) (by simp only [go_sem, ↓reduceIte, Nat.reduceAdd, Nat.reduceEqDiff, Nat.reduceBEq, reduceCtorEq, Int.reduceBEq, Int.reduceBNe, Int.reduceLT, Int.reduceLE])]; omega
        | cons x q =>
          have hpo : popO (some s') = ((x, 0), some { s' with Q := q }) := by unfold popO; simp only [hQ]
          rw [hpo] at hp8 ⊢
          rw [hQ] at h7' hsu8
          obtain ⟨pq, hpq, hcq⟩ := hsu8.rd.get (i := 0) (by simp)
          cases hpq
          obtain ⟨v9, hv9, hsu9⟩ := SlW.tail (k := .i64) hsu8 rfl
          have e3 : (0 : Int) < ((q.length + 1 : Nat) : Int) := by omega
          simp only [List.length_cons] at hv9
          have hcq0 : w8.cell? pq = some (.int .i64 x) := by
            have e0 : pq.add 0 = pq := by cases pq; simp [Addr.add]
            rw [e0] at hcq
            simpa using hcq
          (repeat (first | with_reducible refine run_seq ?_ | with_reducible refine run_reg ?_ | with_reducible refine run_block ?_ | with_reducible refine run_blk ?_ | with_reducible refine run_skip ?_ | with_reducible refine run_exit rfl ?_ | with_reducible refine run_drw ?_ | with_reducible refine run_condT ?_ | with_reducible refine run_ret' ?_ | with_reducible refine run_end' ?_ | simp only [go_sem, ↓reduceIte, Nat.reduceAdd, Nat.reduceEqDiff, Nat.reduceBEq, reduceCtorEq, Int.reduceBEq, Int.reduceBNe, Int.reduceLT, Int.reduceLE, h8, h7', beq_int_false (show ¬ ((q.length + 1 : Nat) : Int) = 0 by omega), bne_int_false (rfl : (0 : Int) = 0), if_pos e3, show Int.toNat 0 = 0 from rfl, Nat.zero_mul, hcq0, bne_int_false (rfl : x = x), hv9, i64_succ i (by omega)]))
          refine hnext _ _ ?_ ⟨i + 1, { s' with Q := q }, v9, f', fp8, ?_, ?_, by omega, hsu9, hp8, hdj8, hf7, hfp8', ho08⟩ ?_
          · (repeat (first | with_reducible exact Keeps.refl _ _ | with_reducible exact Keeps.ovr _ _ _ | refine Keeps.put ?_ rfl _ | exact Keeps.refl _ _ | exact Keeps.ovr _ _ _ | refine Keeps.ovr2 ?_ rfl _))
          · simp only [go_sem, ↓reduceIte, Nat.reduceAdd, Nat.reduceEqDiff, Nat.reduceBEq, reduceCtorEq, Int.reduceBEq, Int.reduceBNe, Int.reduceLT, Int.reduceLE]
          · simp only [go_sem, ↓reduceIte, Nat.reduceAdd, Nat.reduceEqDiff, Nat.reduceBEq, reduceCtorEq, Int.reduceBEq, Int.reduceBNe, Int.reduceLT, Int.reduceLE]
          · rw [upTo_int h8, upTo_int (k := .i64) (i := i + 1) (by simp only [go_sem, ↓reduceIte, Nat.reduceAdd, Nat.reduceEqDiff, Nat.reduceBEq, reduceCtorEq, Int.reduceBEq, Int.reduceBNe, Int.reduceLT, Int.reduceLE])]; omega
    · (repeat (first | with_reducible refine run_seq ?_ | with_reducible refine run_reg ?_ | with_reducible refine run_block ?_ | with_reducible refine run_blk ?_ | with_reducible refine run_skip ?_ | with_reducible refine run_exit rfl ?_ | with_reducible refine run_drw ?_ | with_reducible refine run_condT ?_ | with_reducible refine run_ret' ?_ | with_reducible refine run_end' ?_ | simp only [go_sem, ↓reduceIte, Nat.reduceAdd, Nat.reduceEqDiff, Nat.reduceBEq, reduceCtorEq, Int.reduceBEq, Int.reduceBNe, Int.reduceLT, Int.reduceLE, h8, decide_eq_false (show ¬ (i : Int) < (B.length : Int) by omega), i64_succ i (by omega)]))
      refine hnext _ _ ?_ ⟨i + 1, s', _, f', fp6, ?_, ?_, by omega, hsu7, hp7, hdj7, hf7, hfp6', ho07⟩ ?_
      · (repeat (first | with_reducible exact Keeps.refl _ _ | with_reducible exact Keeps.ovr _ _ _ | refine Keeps.put ?_ rfl _ | exact Keeps.refl _ _ | exact Keeps.ovr _ _ _ | refine Keeps.ovr2 ?_ rfl _))
      · simp only [go_sem, ↓reduceIte, Nat.reduceAdd, Nat.reduceEqDiff, Nat.reduceBEq, reduceCtorEq, Int.reduceBEq, Int.reduceBNe, Int.reduceLT, Int.reduceLE]
      · simp only [go_sem, ↓reduceIte, Nat.reduceAdd, Nat.reduceEqDiff, Nat.reduceBEq, reduceCtorEq, Int.reduceBEq, Int.reduceBNe, Int.reduceLT, Int.reduceLE, h7']
      · rw [upTo_int h8, upTo_int (k := .i64) (i := i + 1) (by simp only [go_sem, ↓reduceIte, Nat.reduceAdd, Nat.reduceEqDiff, Nat.reduceBEq, reduceCtorEq, Int.reduceBEq, Int.reduceBNe, Int.reduceLT, Int.reduceLE])]; omega
  · have hok : s.Ok := by obtain ⟨_, _, _, _, _, _, _, _, _, k⟩ := hp; exact k.ok
    have hq64 := hok.lq
    (repeat (first | with_reducible refine run_seq ?_ | with_reducible refine run_reg ?_ | with_reducible refine run_block ?_ | with_reducible refine run_blk ?_ | with_reducible refine run_skip ?_ | with_reducible refine run_exit rfl ?_ | with_reducible refine run_drw ?_ | with_reducible refine run_condT ?_ | with_reducible refine run_ret' ?_ | with_reducible refine run_end' ?_ | simp only [go_sem, ↓reduceIte, Nat.reduceAdd, Nat.reduceEqDiff, Nat.reduceBEq, reduceCtorEq, Int.reduceBEq, Int.reduceBNe, Int.reduceLT, Int.reduceLE, h7]))
    refine callT (Queue_m hp) ?_
    rintro v6 w6 ⟨ho6, f6, hs6, hf6⟩
    (repeat (first | with_reducible refine run_seq ?_ | with_reducible refine run_reg ?_ | with_reducible refine run_block ?_ | with_reducible refine run_blk ?_ | with_reducible refine run_skip ?_ | with_reducible refine run_exit rfl ?_ | with_reducible refine run_drw ?_ | with_reducible refine run_condT ?_ | with_reducible refine run_ret' ?_ | with_reducible refine run_end' ?_ | simp only [go_sem, ↓reduceIte, Nat.reduceAdd, Nat.reduceEqDiff, Nat.reduceBEq, reduceCtorEq, Int.reduceBEq, Int.reduceBNe, Int.reduceLT, Int.reduceLE, h7]))
    refine callT (law_ints hs6.rd (hsu.keep0 ho6).rd (by show s.Q.length ≤ 100000; omega)) ?_
    rintro r w7 ⟨rfl, ho7⟩
    (repeat (first | with_reducible refine run_seq ?_ | with_reducible refine run_reg ?_ | with_reducible refine run_block ?_ | with_reducible refine run_blk ?_ | with_reducible refine run_skip ?_ | with_reducible refine run_exit rfl ?_ | with_reducible refine run_drw ?_ | with_reducible refine run_condT ?_ | with_reducible refine run_ret' ?_ | with_reducible refine run_end' ?_ | simp only [go_sem, ↓reduceIte, Nat.reduceAdd, Nat.reduceEqDiff, Nat.reduceBEq, reduceCtorEq, Int.reduceBEq, Int.reduceBNe, Int.reduceLT, Int.reduceLE, decide_eq_true (show queueO (some s) = s.Q from rfl)]))
    refine callT1 (law_alive w7) fun w8 ho8 => ?_
    (repeat (first | with_reducible refine run_seq ?_ | with_reducible refine run_reg ?_ | with_reducible refine run_block ?_ | with_reducible refine run_blk ?_ | with_reducible refine run_skip ?_ | with_reducible refine run_exit rfl ?_ | with_reducible refine run_drw ?_ | with_reducible refine run_condT ?_ | with_reducible refine run_ret' ?_ | with_reducible refine run_end' ?_ | simp only [go_sem, ↓reduceIte, Nat.reduceAdd, Nat.reduceEqDiff, Nat.reduceBEq, reduceCtorEq, Int.reduceBEq, Int.reduceBNe, Int.reduceLT, Int.reduceLE]))
    exact ((ho5.nil ho6).nil ho7).nil ho8
end Go.Proofs.Ytblfmacnkacalaa
