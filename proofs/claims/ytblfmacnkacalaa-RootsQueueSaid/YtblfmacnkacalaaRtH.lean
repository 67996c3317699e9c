/- Roots: Replace of the program. -/
import Derived.Test.YtblfmacnkacalaaRtG
namespace Go.Proofs.Ytblfmacnkacalaa
set_option linter.unusedSimpArgs false
set_option linter.unusedVariables false
set_option maxRecDepth 8000

theorem goodL_spec {F T : List Int} (h : goodL F T = true) : F.length = T.length ∧ ∀ i, i < F.length → 0 < F.getD i 0 ∧ 0 < T.getD i 0 ∧ (0 < i → F.getD (i - 1) 0 < F.getD i 0) := by
  unfold goodL at h
  simp only [Bool.and_eq_true, decide_eq_true_eq, List.all_eq_true, List.mem_range] at h
  refine ⟨h.1, fun i hi => ?_⟩
  have := h.2 i hi
  unfold okI at this
  simp only [Bool.and_eq_true, decide_eq_true_eq, Bool.or_eq_true] at this
  exact ⟨this.1.1, this.1.2, fun h0 => this.2.resolve_left (by omega)⟩
theorem goodL_of {F T : List Int} (h1 : F.length = T.length) (h2 : ∀ i, i < F.length → okI F T i = true) : goodL F T = true := by
  unfold goodL
  simp only [Bool.and_eq_true, decide_eq_true_eq, List.all_eq_true, List.mem_range]
  exact ⟨h1, h2⟩
theorem goodL_no {F T : List Int} {i : Nat} (hi : i < F.length) (h : okI F T i = false) : goodL F T = false := by
  cases e : goodL F T with
  | false => rfl
  | true =>
    unfold goodL at e
    simp only [Bool.and_eq_true, decide_eq_true_eq, List.all_eq_true, List.mem_range] at e
    rw [e.2 i hi] at h; cases h
theorem goodL_len {F T : List Int} (h : ¬ F.length = T.length) : goodL F T = false := by unfold goodL; rw [decide_eq_false h]; rfl
theorem goodL_inc {F T : List Int} (h : goodL F T = true) : ∀ j i, i < j → j < F.length → F.getD i 0 < F.getD j 0 := by
  obtain ⟨_, h2⟩ := goodL_spec h
  intro j
  induction j with
  | zero => intro i hi; omega
  | succ j ih =>
    intro i hi hj
    have := (h2 (j + 1) hj).2.2 (by omega)
    simp only [Nat.add_sub_cancel] at this
    by_cases e : i = j
    · subst e; exact this
    · have := ih i (by omega) (by omega); omega
theorem repl_not : ∀ {F T : List Int} {x : Int}, F.contains x = false → repl F T x = x
  | [], T, x, _ => by cases T <;> rfl
  | a :: F, [], x, _ => rfl
  | a :: F, b :: T, x, h => by
    simp only [List.contains_cons, Bool.or_eq_false_iff] at h
    unfold repl
    rw [if_neg (by simpa using h.1)]
    exact repl_not h.2
theorem repl_at : ∀ {F T : List Int} {x : Int} {k : Nat}, k < F.length → k < T.length → F.getD k 0 = x → (∀ j, j < k → F.getD j 0 ≠ x) → repl F T x = T.getD k 0
  | [], T, x, k, h, _, _, _ => by simp at h
  | a :: F, [], x, k, _, h, _, _ => by simp at h
  | a :: F, b :: T, x, 0, _, _, e, _ => by
    unfold repl
    rw [if_pos (by simpa using e.symm)]; rfl
  | a :: F, b :: T, x, k + 1, h1, h2, e, hn => by
    have h0 := hn 0 (by omega)
    unfold repl
    rw [if_neg (fun e' => h0 (by simp [e']))]
    have := repl_at (F := F) (T := T) (x := x) (k := k) (by simpa using h1) (by simpa using h2) (by simpa using e) (fun j hj => by have := hn (j + 1) (by omega); simpa using this)
    rw [this]; simp
theorem repl_zero {F T : List Int} (h : goodL F T = true) : repl F T 0 = 0 := by
  refine repl_not ?_
  cases e : F.contains 0 with
  | false => rfl
  | true =>
    rw [List.contains_iff_mem] at e
    obtain ⟨j, hj, ej⟩ := List.mem_iff_getElem.1 e
    have := ((goodL_spec h).2 j hj).1
    simp [hj, ej] at this

theorem RdB.get {w : World} {D : List Nat} {a : Option Addr} {n cap i : Nat} {xs : List Int} (h : RdB w D (.slice a n cap) xs) (hi : i < xs.length) : ∃ p, a = some p ∧ w.cell? (p.add i) = some (.int .i64 (xs.getD i 0)) := by
  obtain ⟨a', cap', h1, h2⟩ := h
  cases h1
  obtain ⟨p, h3, _, h4⟩ := h2 i hi
  exact ⟨p, h3, h4⟩
theorem RdB.val {w : World} {D : List Nat} {v : Value} {xs : List Int} (h : RdB w D v xs) : ∃ (a : Option Addr) (cap : Nat), v = .slice a xs.length cap := by
  obtain ⟨a, cap, h1, _⟩ := h; exact ⟨a, cap, h1⟩

theorem Replace_m {w : World} {a : Option Addr} {fp D1 D2 : List Nat} {m : MO} {v1 v2 : Value} {F T : List Int} (h : PR w a fp m) (hF : RdB w D1 v1 F) (hT : RdB w D2 v2 T) (hd1 : ∀ x, x ∈ D1 → x ∉ fp ∧ x < w.heap.size) (hd2 : ∀ x, x ∈ D2 → x ∉ fp ∧ x < w.heap.size)
    (hl1 : F.length ≤ 1000) (hl2 : T.length ≤ 1000) :
    Cs Try.prog 19 [.pointer a, v1, v2] w fun v w' => v = .tuple #[.int .i64 (replO m F T).1.1, .int .i64 (replO m F T).1.2] ∧ PR w' a fp (replO m F T).2 ∧ Only fp w w' ∧ ((replO m F T).1.2 ≠ 0 → Only [] w w') := by
  refine enter_roots_Roots_Replace rfl ?_
  unfold x_roots_Roots_Replace
  obtain ⟨a1, c1, rfl⟩ := hF.val
  obtain ⟨a2, c2, rfl⟩ := hT.val
  (repeat (first | with_reducible refine run_seq ?_ | with_reducible refine run_reg ?_ | with_reducible refine run_block ?_ | with_reducible refine run_blk ?_ | with_reducible refine run_skip ?_ | with_reducible refine run_exit rfl ?_ | with_reducible refine run_drw ?_ | with_reducible refine run_condT ?_ | with_reducible refine run_ret' ?_ | with_reducible refine run_end' ?_ | simp only [go_sem, ↓reduceIte, Nat.reduceAdd, Nat.reduceEqDiff, Nat.reduceBEq, reduceCtorEq, Int.reduceBEq, Int.reduceBNe, Int.reduceLT, Int.reduceLE]))
  refine boxT fun q4 w1 hq4 hs1 hat4 ho1 => ?_
  (repeat (first | with_reducible refine run_seq ?_ | with_reducible refine run_reg ?_ | with_reducible refine run_block ?_ | with_reducible refine run_blk ?_ | with_reducible refine run_skip ?_ | with_reducible refine run_exit rfl ?_ | with_reducible refine run_drw ?_ | with_reducible refine run_condT ?_ | with_reducible refine run_ret' ?_ | with_reducible refine run_end' ?_ | simp only [go_sem, ↓reduceIte, Nat.reduceAdd, Nat.reduceEqDiff, Nat.reduceBEq, reduceCtorEq, Int.reduceBEq, Int.reduceBNe, Int.reduceLT, Int.reduceLE]))
  refine boxT fun q5 w2 hq5 hs2 hat5 ho2 => ?_
  have hO2 := ho1.nil ho2
  have h' := h.keep0 hO2
  have k4 := hat4.keep0 ho2
  (repeat (first | with_reducible refine run_seq ?_ | with_reducible refine run_reg ?_ | with_reducible refine run_block ?_ | with_reducible refine run_blk ?_ | with_reducible refine run_skip ?_ | with_reducible refine run_exit rfl ?_ | with_reducible refine run_drw ?_ | with_reducible refine run_condT ?_ | with_reducible refine run_ret' ?_ | with_reducible refine run_end' ?_ | simp only [go_sem, ↓reduceIte, Nat.reduceAdd, Nat.reduceEqDiff, Nat.reduceBEq, reduceCtorEq, Int.reduceBEq, Int.reduceBNe, Int.reduceLT, Int.reduceLE]))
  refine callT0 (made_m h') ?_
  match m, h, h' with
  | none, h, h' =>
    (repeat (first | with_reducible refine run_seq ?_ | with_reducible refine run_reg ?_ | with_reducible refine run_block ?_ | with_reducible refine run_blk ?_ | with_reducible refine run_skip ?_ | with_reducible refine run_exit rfl ?_ | with_reducible refine run_drw ?_ | with_reducible refine run_condT ?_ | with_reducible refine run_ret' ?_ | with_reducible refine run_end' ?_ | simp only [go_sem, ↓reduceIte, Nat.reduceAdd, Nat.reduceEqDiff, Nat.reduceBEq, reduceCtorEq, Int.reduceBEq, Int.reduceBNe, Int.reduceLT, Int.reduceLE, Option.isSome_none]))
    exact ⟨rfl, h', hO2.of_nil, fun _ => hO2⟩
  | some s, h0, hpr =>
    by_cases hlen : F.length = T.length
    rotate_left
    · (repeat (first | with_reducible refine run_seq ?_ | with_reducible refine run_reg ?_ | with_reducible refine run_block ?_ | with_reducible refine run_blk ?_ | with_reducible refine run_skip ?_ | with_reducible refine run_exit rfl ?_ | with_reducible refine run_drw ?_ | with_reducible refine run_condT ?_ | with_reducible refine run_ret' ?_ | with_reducible refine run_end' ?_ | simp only [go_sem, ↓reduceIte, Nat.reduceAdd, Nat.reduceEqDiff, Nat.reduceBEq, reduceCtorEq, Int.reduceBEq, Int.reduceBNe, Int.reduceLT, Int.reduceLE, Option.isSome_some, k4.cell, hat5.cell, bne_int_true (show ¬ ((F.length : Int) = (T.length : Int)) by omega)]))
      rw [show replO (some s) F T = ((0, 1), some s) by unfold replO; rw [goodL_len hlen]; rfl]
      exact ⟨rfl, hpr, hO2.of_nil, fun _ => hO2⟩
    (repeat (first | with_reducible refine run_seq ?_ | with_reducible refine run_reg ?_ | with_reducible refine run_blk ?_ | with_reducible refine run_skip ?_ | with_reducible refine run_exit rfl ?_ | with_reducible refine run_drw ?_ | with_reducible refine run_condT ?_ | with_reducible refine run_ret' ?_ | with_reducible refine run_end' ?_ | simp only [go_sem, ↓reduceIte, Nat.reduceAdd, Nat.reduceEqDiff, Nat.reduceBEq, reduceCtorEq, Int.reduceBEq, Int.reduceBNe, Int.reduceLT, Int.reduceLE, Option.isSome_some, k4.cell, hat5.cell, bne_int_false (show ((F.length : Int) = (T.length : Int)) by omega)]))
    refine run_block ?_
    have hF2 := hF.keep0 hO2
    have hT2 := hT.keep0 hO2
    refine run_loop (6 :: 7 :: 8 :: 24 :: 25 :: 26 :: 27 :: 28 :: 29 :: 30 :: 31 :: 32 :: 33 :: 34 :: 35 :: 36 :: 37 :: 38 :: 39 :: 40 :: 41 :: 42 :: 43 :: 44 :: 45 :: 46 :: 47 :: 48 :: 49 :: 50 :: 51 :: 52 :: 53 :: 54 :: 55 :: []) (fun g w' => ∃ i : Nat, g 24 = .int .i64 i ∧ i ≤ F.length ∧ (∀ j, j < i → okI F T j = true) ∧ Only [] w2 w') (fun g _ => upTo F.length 24 g) ⟨0, by simp only [go_sem, ↓reduceIte, Nat.reduceAdd, Nat.reduceEqDiff, Nat.reduceBEq, reduceCtorEq, Int.reduceBEq, Int.reduceBNe, Int.reduceLT, Int.reduceLE]; rfl, by omega, by omega, Only.refl _ _⟩ fun g w3 hI hnext => ?_
    obtain ⟨i, h24, hi, hall, ho3⟩ := hI
    have k43 := k4.keep0 ho3
    have k53 := hat5.keep0 ho3
    have hF3 := hF2.keep0 ho3
    have hT3 := hT2.keep0 ho3
    (repeat (first | with_reducible refine run_seq ?_ | with_reducible refine run_reg ?_ | with_reducible refine run_block ?_ | with_reducible refine run_blk ?_ | with_reducible refine run_skip ?_ | with_reducible refine run_exit rfl ?_ | with_reducible refine run_drw ?_ | with_reducible refine run_ret' ?_ | with_reducible refine run_end' ?_ | simp only [go_sem, ↓reduceIte, Nat.reduceAdd, Nat.reduceEqDiff, Nat.reduceBEq, reduceCtorEq, Int.reduceBEq, Int.reduceBNe, Int.reduceLT, Int.reduceLE, h24]))
    refine run_condT ?_
    simp only [go_sem, ↓reduceIte, Nat.reduceAdd, Nat.reduceEqDiff, Nat.reduceBEq, reduceCtorEq, Int.reduceBEq, Int.reduceBNe, Int.reduceLT, Int.reduceLE, h24]
    refine condT (fun hlt => ?_) (fun hge => ?_)
    · have hlt : i < F.length := by simpa using hlt
      obtain ⟨p1, rfl, hc1⟩ := hF3.get hlt
      obtain ⟨p2, rfl, hc2⟩ := hT3.get (i := i) (by omega)
      have e1 : (0 : Int) ≤ (i : Int) ∧ (i : Int) < (F.length : Int) := ⟨by omega, by omega⟩
      have e2 : (0 : Int) ≤ (i : Int) ∧ (i : Int) < (T.length : Int) := ⟨by omega, by omega⟩
      have bad : okI F T i = false → ∀ w', Only [] w2 w' → Value.tuple #[.int .i64 0, .int .i64 1] = .tuple #[.int .i64 (replO (some s) F T).1.1, .int .i64 (replO (some s) F T).1.2] ∧ PR w' a fp (replO (some s) F T).2 ∧ Only fp w w' ∧ ((replO (some s) F T).1.2 ≠ 0 → Only [] w w') := by
        intro hb w' ho'
        rw [show replO (some s) F T = ((0, 1), some s) by unfold replO; rw [goodL_no hlt hb]; rfl]
        exact ⟨rfl, hpr.keep0 ho', (hO2.nil ho').of_nil, fun _ => hO2.nil ho'⟩
      have good : okI F T i = true → ∀ j, j < i + 1 → okI F T j = true := fun hg j hj => by
        by_cases ej : j = i
        · subst ej; exact hg
        · exact hall j (by omega)
      have hstep : ∀ j : Nat, j = i + 1 → ∀ gg : Env, gg 24 = .int .i64 (j : Int) → upTo F.length 24 gg < upTo F.length 24 g := by
        intro j hj gg h
        rw [upTo_int h24, upTo_int h]; omega
      by_cases b1 : F.getD i 0 ≤ 0
      · (repeat (first | with_reducible refine run_seq ?_ | with_reducible refine run_reg ?_ | with_reducible refine run_block ?_ | with_reducible refine run_blk ?_ | with_reducible refine run_skip ?_ | with_reducible refine run_exit rfl ?_ | with_reducible refine run_drw ?_ | with_reducible refine run_condT ?_ | with_reducible refine run_ret' ?_ | with_reducible refine run_end' ?_ | simp only [go_sem, ↓reduceIte, Nat.reduceAdd, Nat.reduceEqDiff, Nat.reduceBEq, reduceCtorEq, Int.reduceBEq, Int.reduceBNe, Int.reduceLT, Int.reduceLE, h24, k43.cell, k53.cell, if_pos e1, if_pos e2, Int.toNat_natCast, Nat.mul_one, hc1, hc2, decide_eq_true b1]))
        exact bad (by unfold okI; rw [decide_eq_false (by omega)]; rfl) _ (ho3.nil (Only.drew [] _))
      · by_cases b2 : T.getD i 0 ≤ 0
        · (repeat (first | with_reducible refine run_seq ?_ | with_reducible refine run_reg ?_ | with_reducible refine run_block ?_ | with_reducible refine run_blk ?_ | with_reducible refine run_skip ?_ | with_reducible refine run_exit rfl ?_ | with_reducible refine run_drw ?_ | with_reducible refine run_condT ?_ | with_reducible refine run_ret' ?_ | with_reducible refine run_end' ?_ | simp only [go_sem, ↓reduceIte, Nat.reduceAdd, Nat.reduceEqDiff, Nat.reduceBEq, reduceCtorEq, Int.reduceBEq, Int.reduceBNe, Int.reduceLT, Int.reduceLE, h24, k43.cell, k53.cell, if_pos e1, if_pos e2, Int.toNat_natCast, Nat.mul_one, hc1, hc2, decide_eq_false b1, decide_eq_true b2]))
          exact bad (by unfold okI; rw [decide_eq_false (p := 0 < T.getD i 0) (by omega)]; simp) _ (ho3.nil (Only.drew [] _))
        · by_cases b3 : i = 0
          · have b4 : ¬ (0 : Int) < (i : Int) := by omega
            (repeat (first | with_reducible refine run_seq ?_ | with_reducible refine run_reg ?_ | with_reducible refine run_block ?_ | with_reducible refine run_blk ?_ | with_reducible refine run_skip ?_ | with_reducible refine run_exit rfl ?_ | with_reducible refine run_drw ?_ | with_reducible refine run_condT ?_ | with_reducible refine run_ret' ?_ | with_reducible refine run_end' ?_ | simp only [go_sem, ↓reduceIte, Nat.reduceAdd, Nat.reduceEqDiff, Nat.reduceBEq, reduceCtorEq, Int.reduceBEq, Int.reduceBNe, Int.reduceLT, Int.reduceLE, h24, k43.cell, k53.cell, if_pos e1, if_pos e2, Int.toNat_natCast, Nat.mul_one, hc1, hc2, decide_eq_false b1, decide_eq_false b2, decide_eq_false b4, i64_succ i (by omega)]))
            refine hnext _ w3.drew ?_ ⟨i + 1, ?_, by omega, good (by unfold okI; rw [decide_eq_true (by omega), decide_eq_true (p := 0 < T.getD i 0) (by omega), decide_eq_true b3]; rfl), ho3.nil (Only.drew [] _)⟩ ?_
            · (repeat (first | with_reducible exact Keeps.refl _ _ | with_reducible exact Keeps.ovr _ _ _ | refine Keeps.put ?_ rfl _ | exact Keeps.refl _ _ | exact Keeps.ovr _ _ _ | refine Keeps.ovr2 ?_ rfl _))
            · simp only [go_sem, ↓reduceIte, Nat.reduceAdd, Nat.reduceEqDiff, Nat.reduceBEq, reduceCtorEq, Int.reduceBEq, Int.reduceBNe, Int.reduceLT, Int.reduceLE]
            · rw [upTo_int h24, upTo_int (k := .i64) (i := i + 1) (by simp only [go_sem, ↓reduceIte, Nat.reduceAdd, Nat.reduceEqDiff, Nat.reduceBEq, reduceCtorEq, Int.reduceBEq, Int.reduceBNe, Int.reduceLT, Int.reduceLE])]; omega
          · have b4 : (0 : Int) < (i : Int) := by omega
            have e3 : IntKind.i64.wrap ((i : Int) - 1) = ((i - 1 : Nat) : Int) := by rw [show ((i : Int) - 1) = ((i - 1 : Nat) : Int) by omega, i64_of_nat _ (by omega)]
            have e4 : (0 : Int) ≤ ((i - 1 : Nat) : Int) ∧ ((i - 1 : Nat) : Int) < (F.length : Int) := ⟨by omega, by omega⟩
            obtain ⟨p3, hp3, hc3⟩ := hF3.get (i := i - 1) (by omega)
            cases hp3
            by_cases b5 : F.getD i 0 ≤ F.getD (i - 1) 0
            · (repeat (first | with_reducible refine run_seq ?_ | with_reducible refine run_reg ?_ | with_reducible refine run_block ?_ | with_reducible refine run_blk ?_ | with_reducible refine run_skip ?_ | with_reducible refine run_exit rfl ?_ | with_reducible refine run_drw ?_ | with_reducible refine run_condT ?_ | with_reducible refine run_ret' ?_ | with_reducible refine run_end' ?_ | simp only [go_sem, ↓reduceIte, Nat.reduceAdd, Nat.reduceEqDiff, Nat.reduceBEq, reduceCtorEq, Int.reduceBEq, Int.reduceBNe, Int.reduceLT, Int.reduceLE, h24, k43.cell, k53.cell, if_pos e1, if_pos e2, if_pos e4, e3, Int.toNat_natCast, Nat.mul_one, hc1, hc2, hc3, decide_eq_false b1, decide_eq_false b2, decide_eq_true b4, decide_eq_true b5]))
              exact bad (by unfold okI; rw [decide_eq_false b3, decide_eq_false (p := F.getD (i - 1) 0 < F.getD i 0) (by omega)]; simp) _ (ho3.nil (Only.drew [] _))
            · (repeat (first | with_reducible refine run_seq ?_ | with_reducible refine run_reg ?_ | with_reducible refine run_block ?_ | with_reducible refine run_blk ?_ | with_reducible refine run_skip ?_ | with_reducible refine run_exit rfl ?_ | with_reducible refine run_drw ?_ | with_reducible refine run_condT ?_ | with_reducible refine run_ret' ?_ | with_reducible refine run_end' ?_ | simp only [go_sem, ↓reduceIte, Nat.reduceAdd, Nat.reduceEqDiff, Nat.reduceBEq, reduceCtorEq, Int.reduceBEq, Int.reduceBNe, Int.reduceLT, Int.reduceLE, h24, k43.cell, k53.cell, if_pos e1, if_pos e2, if_pos e4, e3, Int.toNat_natCast, Nat.mul_one, hc1, hc2, hc3, decide_eq_false b1, decide_eq_false b2, decide_eq_true b4, decide_eq_false b5, i64_succ i (by omega)]))
              refine hnext _ w3.drew ?_ ⟨i + 1, ?_, by omega, good (by unfold okI; rw [decide_eq_true (by omega), decide_eq_true (p := 0 < T.getD i 0) (by omega), decide_eq_true (p := F.getD (i - 1) 0 < F.getD i 0) (by omega)]; simp), ho3.nil (Only.drew [] _)⟩ ?_
              · (repeat (first | with_reducible exact Keeps.refl _ _ | with_reducible exact Keeps.ovr _ _ _ | refine Keeps.put ?_ rfl _ | exact Keeps.refl _ _ | exact Keeps.ovr _ _ _ | refine Keeps.ovr2 ?_ rfl _))
              · simp only [go_sem, ↓reduceIte, Nat.reduceAdd, Nat.reduceEqDiff, Nat.reduceBEq, reduceCtorEq, Int.reduceBEq, Int.reduceBNe, Int.reduceLT, Int.reduceLE]
              · rw [upTo_int h24, upTo_int (k := .i64) (i := i + 1) (by simp only [go_sem, ↓reduceIte, Nat.reduceAdd, Nat.reduceEqDiff, Nat.reduceBEq, reduceCtorEq, Int.reduceBEq, Int.reduceBNe, Int.reduceLT, Int.reduceLE])]; omega
    have hge : ¬ (i < F.length) := by simpa using hge
    have hgood : goodL F T = true := goodL_of hlen fun j hj => hall j (by omega)
    have hrep : replO (some s) F T = (((((filled s).countP fun x => F.contains x.2 : Nat) : Int), 0), some (s.map (repl F T))) := by unfold replO; rw [hgood]; rfl
    obtain ⟨b, hb, vs, vg, vq, fs, fg, fq, rfl, hp⟩ := hpr
    subst hb
    (repeat (first | with_reducible refine run_seq ?_ | with_reducible refine run_reg ?_ | with_reducible refine run_block ?_ | with_reducible refine run_blk ?_ | with_reducible refine run_skip ?_ | with_reducible refine run_exit rfl ?_ | with_reducible refine run_drw ?_ | with_reducible refine run_condT ?_ | with_reducible refine run_ret' ?_ | with_reducible refine run_end' ?_ | simp only [go_sem, ↓reduceIte, Nat.reduceAdd, Nat.reduceEqDiff, Nat.reduceBEq, reduceCtorEq, Int.reduceBEq, Int.reduceBNe, Int.reduceLT, Int.reduceLE, h24]))
    refine boxT fun q9 w4 hq9 hs4 hat9 ho4 => ?_
    (repeat (first | with_reducible refine run_seq ?_ | with_reducible refine run_reg ?_ | with_reducible refine run_block ?_ | with_reducible refine run_blk ?_ | with_reducible refine run_skip ?_ | with_reducible refine run_exit rfl ?_ | with_reducible refine run_drw ?_ | with_reducible refine run_condT ?_ | with_reducible refine run_ret' ?_ | with_reducible refine run_end' ?_ | simp only [go_sem, ↓reduceIte, Nat.reduceAdd, Nat.reduceEqDiff, Nat.reduceBEq, reduceCtorEq, Int.reduceBEq, Int.reduceBNe, Int.reduceLT, Int.reduceLE]))
    refine stT hat9 (by simp) rfl fun w5 hs5 hat9' ho5 => ?_
    have hat9 : At w5 q9 [.int .i64 0] := hat9'
    have hz3 := ho3.size
    have ho5' : Only [] w2 w5 := (ho3.nil ho4).trans ho5 fun x hx => .inr (by simp only [List.mem_singleton] at hx; omega)
    (repeat (first | with_reducible refine run_seq ?_ | with_reducible refine run_reg ?_ | with_reducible refine run_block ?_ | with_reducible refine run_blk ?_ | with_reducible refine run_skip ?_ | with_reducible refine run_exit rfl ?_ | with_reducible refine run_drw ?_ | with_reducible refine run_condT ?_ | with_reducible refine run_ret' ?_ | with_reducible refine run_end' ?_ | simp only [go_sem, ↓reduceIte, Nat.reduceAdd, Nat.reduceEqDiff, Nat.reduceBEq, reduceCtorEq, Int.reduceBEq, Int.reduceBNe, Int.reduceLT, Int.reduceLE]))
    refine callT (all_m w5 _) ?_
    rintro v w6 ⟨ho6, rb, rfl, hrb, hrl⟩
    (repeat (first | with_reducible refine run_seq ?_ | with_reducible refine run_reg ?_ | with_reducible refine run_block ?_ | with_reducible refine run_blk ?_ | with_reducible refine run_skip ?_ | with_reducible refine run_exit rfl ?_ | with_reducible refine run_drw ?_ | with_reducible refine run_condT ?_ | with_reducible refine run_ret' ?_ | with_reducible refine run_end' ?_ | simp only [go_sem, ↓reduceIte, Nat.reduceAdd, Nat.reduceEqDiff, Nat.reduceBEq, reduceCtorEq, Int.reduceBEq, Int.reduceBNe, Int.reduceLT, Int.reduceLE]))
    refine run_rng (it := 50) (caps := [.pointer (some ⟨rb, 0, none⟩)]) rfl rfl (by simp only [go_sem, ↓reduceIte, Nat.reduceAdd, Nat.reduceEqDiff, Nat.reduceBEq, reduceCtorEq, Int.reduceBEq, Int.reduceBNe, Int.reduceLT, Int.reduceLE]) (by kernel_rfl) fun D l w7 hD hl hs7 ho7 hat7 hloop => ?_
    have ho27 : Only [] w2 w7 := (ho5'.nil ho6).nil ho7
    have hp7 := hp.keep0 ho27
    have hz6 := ho6.size
    have hz0 := h0
    have hrows : ∀ x, x ∈ b :: (fs ++ (fg ++ fq)) → x < w.heap.size := h0.lt
    have hnew : ∀ x, x = q4 ∨ x = q5 ∨ x = q9 ∨ x = l ∨ x = D → w.heap.size ≤ x := by
      intro x hx; rcases hx with rfl | rfl | rfl | rfl | rfl <;> omega
    have hbB : b ∉ q9 :: l :: (fs ++ (fg ++ fq)) := by
      have := hp.nd
      simp only [List.nodup_cons] at this
      simp only [List.mem_cons, not_or]
      have hb0 := hrows b (by simp)
      exact ⟨by omega, by omega, this.1⟩
    refine (all1_m hp7 (hrb.keep0 ho7) (repl F T) (repl_zero hgood)
      (fun pre FF w' => FF = [] ∧ LoopAt Try.prog fx_roots_Roots_Replace l w' _ _ _ _ .ready D ∧ w'.heap[D]? = some (.deferred (some [])) ∧ At w' q4 [.slice a1 F.length c1] ∧ At w' q5 [.slice a2 T.length c2] ∧ At w' q9 [.int .i64 ((pre.countP fun x => F.contains x.2 : Nat) : Int)] ∧
        RdB w' D1 (.slice a1 F.length c1) F ∧ RdB w' D2 (.slice a2 T.length c2) T)
      (q9 :: l :: (fs ++ (fg ++ fq))) ?_ ⟨rfl, hloop, hat7, k4.keep0 ho27, hat5.keep0 ho27, (hat9.keep0 ho6).keep0 ho7, hF2.keep0 ho27, hT2.keep0 ho27⟩ ?_ ?_).mono ?_
    · intro x hx
      have hz2 := ho27.size
      simp only [List.mem_cons] at hx
      rcases hx with rfl | rfl | hx
      · omega
      · omega
      · have := hrows x (by simp only [List.mem_cons]; exact .inr hx); omega
    · rintro pre FF wa wb ⟨rfl, k1, k2, k3, k5, k6, k7, k8⟩ ho
      exact ⟨rfl, k1.keep ho (by simp), by rw [ho.block D (Array.getElem?_eq_some_iff.1 k2).1 (by simp)]; exact k2, k3.keep0 ho, k5.keep0 ho, k6.keep0 ho, k7.keep0 ho, k8.keep0 ho⟩
    · rintro pre FF k i' gg xs wa hk hi' ⟨rfl, k1, k2, k3, k5, k6, k7, k8⟩ hFl hpl hsz hOa hg hgat hget hne
      refine ys_run ok_roots_Roots_Replace k1 rfl ?_
      (repeat (first | with_reducible refine run_seq ?_ | with_reducible refine run_reg ?_ | with_reducible refine run_block ?_ | with_reducible refine run_blk ?_ | with_reducible refine run_skip ?_ | with_reducible refine run_exit rfl ?_ | with_reducible refine run_drw ?_ | with_reducible refine run_condT ?_ | with_reducible refine run_ret' ?_ | with_reducible refine run_end' ?_ | simp only [go_sem, ↓reduceIte, Nat.reduceAdd, Nat.reduceEqDiff, Nat.reduceBEq, reduceCtorEq, Int.reduceBEq, Int.reduceBNe, Int.reduceLT, Int.reduceLE]))
      have l1 := k1.lt
      have l2 := (Array.getElem?_eq_some_iff.1 k2).1
      have hgm0 := pick3_mem hg
      have hgm : gg ∈ b :: (fs ++ (fg ++ fq)) := by simp only [List.mem_cons]; exact .inr hgm0
      have hglt := hrows gg hgm
      refine run_bgn (l := l) rfl k1 fun wc hsc hoc hlc => ?_
      have n4 : q4 ≠ l := by omega
      have n5 : q5 ≠ l := by omega
      have n9 : q9 ≠ l := by omega
      have d1 : ∀ x, x ∈ D1 → x ≠ l ∧ x ≠ gg ∧ x ≠ q9 := fun x hx => by
        have := hd1 x hx
        exact ⟨by omega, fun e => this.1 (by rw [e]; exact hgm), by omega⟩
      have d2 : ∀ x, x ∈ D2 → x ≠ l ∧ x ≠ gg ∧ x ≠ q9 := fun x hx => by
        have := hd2 x hx
        exact ⟨by omega, fun e => this.1 (by rw [e]; exact hgm), by omega⟩
      have c3 := k3.keep hoc (by simpa using n4)
      have c5 := k5.keep hoc (by simpa using n5)
      have c6 := k6.keep hoc (by simpa using n9)
      have c7 := k7.keep hoc (fun x hx => by simpa using (d1 x hx).1)
      have c8 := k8.keep hoc (fun x hx => by simpa using (d2 x hx).1)
      have cg := hgat.keep hoc (by simp; omega)
      (repeat (first | with_reducible refine run_seq ?_ | with_reducible refine run_reg ?_ | with_reducible refine run_block ?_ | with_reducible refine run_blk ?_ | with_reducible refine run_skip ?_ | with_reducible refine run_exit rfl ?_ | with_reducible refine run_drw ?_ | with_reducible refine run_condT ?_ | with_reducible refine run_ret' ?_ | with_reducible refine run_end' ?_ | simp only [go_sem, ↓reduceIte, Nat.reduceAdd, Nat.reduceEqDiff, Nat.reduceBEq, reduceCtorEq, Int.reduceBEq, Int.reduceBNe, Int.reduceLT, Int.reduceLE]))
      refine run_drt [q4, gg] ?_
      (repeat (first | with_reducible refine run_seq ?_ | with_reducible refine run_reg ?_ | with_reducible refine run_block ?_ | with_reducible refine run_blk ?_ | with_reducible refine run_skip ?_ | with_reducible refine run_exit rfl ?_ | with_reducible refine run_drw ?_ | with_reducible refine run_condT ?_ | with_reducible refine run_ret' ?_ | with_reducible refine run_end' ?_ | simp only [go_sem, ↓reduceIte, Nat.reduceAdd, Nat.reduceEqDiff, Nat.reduceBEq, reduceCtorEq, Int.reduceBEq, Int.reduceBNe, Int.reduceLT, Int.reduceLE, c3.cell, cg.cell, hget]))
      refine callS (BinarySearch_m (w := wc.drew) (c7.keep0 (Only.drew [] wc)) (by omega) (fun i j hij hj => goodL_inc hgood j i hij hj) _) ?_
      rintro r wd ⟨⟨kk, rfl, hkk⟩, rfl⟩
      refine ⟨.inl rfl, ?_⟩
      cases hcon : F.contains ((rowL s k).getD i' 0) with
      | true =>
        obtain ⟨hk1, hk2⟩ := hkk hcon
        have hrx : repl F T ((rowL s k).getD i' 0) = T.getD kk 0 := repl_at hk1 (by omega) hk2 fun j hj => by
          have := goodL_inc hgood kk j hj hk1; omega
        have e2 : (0 : Int) ≤ (kk : Int) ∧ (kk : Int) < (T.length : Int) := ⟨by omega, by omega⟩
        obtain ⟨p2, hp2, hc2⟩ := (c8.keep0 (Only.drew [] wc)).get (i := kk) (by omega)
        cases hp2
        (repeat (first | with_reducible refine run_seq ?_ | with_reducible refine run_reg ?_ | with_reducible refine run_block ?_ | with_reducible refine run_blk ?_ | with_reducible refine run_skip ?_ | with_reducible refine run_exit rfl ?_ | with_reducible refine run_drw ?_ | with_reducible refine run_condT ?_ | with_reducible refine run_ret' ?_ | with_reducible refine run_end' ?_ | simp only [go_sem, ↓reduceIte, Nat.reduceAdd, Nat.reduceEqDiff, Nat.reduceBEq, reduceCtorEq, Int.reduceBEq, Int.reduceBNe, Int.reduceLT, Int.reduceLE, c5.cell, if_pos e2, Int.toNat_natCast, Nat.mul_one, hc2]))
        refine stT (w := wc.drew) (cg.keep0 (Only.drew [] wc)) (lt_of_get hget) rfl fun we hse hate hoe => ?_
        have g9 : q9 ≠ gg := by omega
        have e9 : At we q9 _ := (c6.keep0 (Only.drew [] wc)).keep hoe (by simpa using g9)
        have hw : IntKind.i64.wrap (((pre.countP fun x => F.contains x.2 : Nat) : Int) + 1) = (((pre.countP fun x => F.contains x.2) + 1 : Nat) : Int) := i64_succ _ (by have := List.countP_le_length (p := fun x : PT × Int => F.contains x.2) (l := pre); omega)
        (repeat (first | with_reducible refine run_seq ?_ | with_reducible refine run_reg ?_ | with_reducible refine run_block ?_ | with_reducible refine run_blk ?_ | with_reducible refine run_skip ?_ | with_reducible refine run_exit rfl ?_ | with_reducible refine run_drw ?_ | with_reducible refine run_condT ?_ | with_reducible refine run_ret' ?_ | with_reducible refine run_end' ?_ | simp only [go_sem, ↓reduceIte, Nat.reduceAdd, Nat.reduceEqDiff, Nat.reduceBEq, reduceCtorEq, Int.reduceBEq, Int.reduceBNe, Int.reduceLT, Int.reduceLE, e9.cell, hw]))
        refine stT e9 (by simp) rfl fun wf hsf hatf hof => ?_
        (repeat (first | with_reducible refine run_seq ?_ | with_reducible refine run_reg ?_ | with_reducible refine run_block ?_ | with_reducible refine run_blk ?_ | with_reducible refine run_skip ?_ | with_reducible refine run_exit rfl ?_ | with_reducible refine run_drw ?_ | with_reducible refine run_condT ?_ | with_reducible refine run_ret' ?_ | with_reducible refine run_end' ?_ | simp only [go_sem, ↓reduceIte, Nat.reduceAdd, Nat.reduceEqDiff, Nat.reduceBEq, reduceCtorEq, Int.reduceBEq, Int.reduceBNe, Int.reduceLT, Int.reduceLE]))
        have hlf := (((hlc.heap (w' := wc.drew) rfl).keep hoe (by simp; omega)).keep hof (by simpa using fun e : l = q9 => n9 e.symm))
        refine run_endR (l := l) rfl hlf fun wg hsg hog hlg => ?_
        have hOag : Only (q9 :: l :: (fs ++ (fg ++ fq))) wa wg := by
          refine ((((hoc.mono (T := q9 :: l :: (fs ++ (fg ++ fq))) ?_).same (Only.drew _ wc)).same (hoe.mono ?_)).same (hof.mono ?_)).same (hog.mono ?_)
          · intro x hx; simp only [List.mem_singleton] at hx; subst hx; exact .inl (by simp)
          · intro x hx; simp only [List.mem_singleton] at hx; subst hx; exact .inl (by simp only [List.mem_cons]; exact .inr (.inr hgm0))
          · intro x hx; simp only [List.mem_singleton] at hx; subst hx; exact .inl (by simp)
          · intro x hx; simp only [List.mem_singleton] at hx; subst hx; exact .inl (by simp)
        have hbig : ∀ x, w.heap.size ≤ x → x ≠ q9 → x ≠ l → x ∉ q9 :: l :: (fs ++ (fg ++ fq)) := fun x hx h1 h2 hx2 => by
          simp only [List.mem_cons] at hx2
          rcases hx2 with h3 | h3 | h3
          · exact h1 h3
          · exact h2 h3
          · have := hrows x (by simp only [List.mem_cons]; exact .inr h3); omega
        have hdis : ∀ x, x ∉ b :: (fs ++ (fg ++ fq)) → x ≠ q9 → x ≠ l → x ∉ q9 :: l :: (fs ++ (fg ++ fq)) := fun x hx h1 h2 hx2 => by
          simp only [List.mem_cons] at hx2
          rcases hx2 with h3 | h3 | h3
          · exact h1 h3
          · exact h2 h3
          · exact hx (by simp only [List.mem_cons]; exact .inr h3)
        refine ⟨rfl, ⟨[], ⟨rfl, hlg, ?_, k3.keep hOag (hbig q4 (by omega) (by omega) n4), k5.keep hOag (hbig q5 (by omega) (by omega) n5), ?_, k7.keep hOag (fun x hx => hdis x (hd1 x hx).1 (d1 x hx).2.2 (d1 x hx).1), k8.keep hOag (fun x hx => hdis x (hd2 x hx).1 (d2 x hx).2.2 (d2 x hx).1)⟩, by simp⟩, by simpa using hOag, ?_, fun g' hg' hne' => ?_⟩
        · rw [hOag.block D l2 (hbig D (by omega) (by omega) (by omega))]; exact k2
        · have := hatf.keep hog (by simpa using n9)
          rw [List.countP_append]
          simp only [List.countP_cons, List.countP_nil, hcon, if_true]
          exact this
        · rw [hrx]
          exact (hate.keep hof (by simp; omega)).keep hog (by simp; omega)
        · have hg'lt := hrows g' (by simp only [List.mem_cons]; exact .inr hg')
          have hz := hOa.size
          have hz2 := ho27.size
          rw [hog.block g' (by have := hof.size; have := hoe.size; have := hoc.size; show g' < wf.heap.size; have e : wc.drew.heap.size = wc.heap.size := rfl; omega) (by simp; omega), hof.block g' (by have := hoe.size; have := hoc.size; have e : wc.drew.heap.size = wc.heap.size := rfl; omega) (by simp; omega), hoe.block g' (by have := hoc.size; have e : wc.drew.heap.size = wc.heap.size := rfl; omega) (by simpa using hne')]
          exact hoc.block g' (by omega) (by simp; omega)
      | false =>
        have hrx : repl F T ((rowL s k).getD i' 0) = (rowL s k).getD i' 0 := repl_not hcon
        (repeat (first | with_reducible refine run_seq ?_ | with_reducible refine run_reg ?_ | with_reducible refine run_block ?_ | with_reducible refine run_blk ?_ | with_reducible refine run_skip ?_ | with_reducible refine run_exit rfl ?_ | with_reducible refine run_drw ?_ | with_reducible refine run_condT ?_ | with_reducible refine run_ret' ?_ | with_reducible refine run_end' ?_ | simp only [go_sem, ↓reduceIte, Nat.reduceAdd, Nat.reduceEqDiff, Nat.reduceBEq, reduceCtorEq, Int.reduceBEq, Int.reduceBNe, Int.reduceLT, Int.reduceLE]))
        have hlf := (hlc.heap (w' := wc.drew) rfl)
        refine run_endR (l := l) rfl hlf fun wg hsg hog hlg => ?_
        have hO : Only [l] wa wg := (hoc.same (Only.drew _ wc)).same hog
        refine ⟨rfl, ⟨[], ⟨rfl, hlg, ?_, k3.keep hO (by simpa using n4), k5.keep hO (by simpa using n5), ?_, k7.keep hO (fun x hx => by simpa using (d1 x hx).1), k8.keep hO (fun x hx => by simpa using (d2 x hx).1)⟩, by simp⟩, hO.mono fun x hx => by simp only [List.mem_singleton] at hx; subst hx; exact .inl (by simp), ?_, fun g' hg' hne' => ?_⟩
        · rw [hO.block D l2 (by simp; omega)]; exact k2
        · have := k6.keep hO (by simpa using n9)
          rw [List.countP_append]
          simp only [List.countP_cons, List.countP_nil, hcon, Bool.false_eq_true, if_false]
          exact this
        · rw [hrx, set_self hget]; exact hgat.keep hO (by simp; omega)
        · have hg'lt := hrows g' (by simp only [List.mem_cons]; exact .inr hg')
          have hz := hOa.size
          have hz2 := ho27.size
          exact hO.block g' (by omega) (by simp; omega)
    · rintro _ wa ⟨⟨FF, ⟨rfl, k1, k2, k3, k5, k6, k7, k8⟩, hFl⟩, hOa, hR⟩
      refine ⟨k1, fun wb hsb hob => ?_⟩
      have l1 := k1.lt
      have n9 : q9 ≠ l := by omega
      have k6b := k6.keep hob (by simpa using n9)
      have hDb : wb.heap[D]? = some (.deferred (some [])) := by rw [hob.block D (Array.getElem?_eq_some_iff.1 k2).1 (by simp; omega)]; exact k2
      (repeat (first | with_reducible refine run_seq ?_ | with_reducible refine run_reg ?_ | with_reducible refine run_block ?_ | with_reducible refine run_blk ?_ | with_reducible refine run_skip ?_ | with_reducible refine run_exit rfl ?_ | with_reducible refine run_drw ?_ | with_reducible refine run_condT ?_ | with_reducible refine run_ret' ?_ | with_reducible refine run_end' ?_ | simp only [go_sem, ↓reduceIte, Nat.reduceAdd, Nat.reduceEqDiff, Nat.reduceBEq, reduceCtorEq, Int.reduceBEq, Int.reduceBNe, Int.reduceLT, Int.reduceLE, k6b.cell]))
      refine run_retM' hDb fun wc hsc hoc => ?_
      (repeat (first | with_reducible refine run_seq ?_ | with_reducible refine run_reg ?_ | with_reducible refine run_block ?_ | with_reducible refine run_blk ?_ | with_reducible refine run_skip ?_ | with_reducible refine run_exit rfl ?_ | with_reducible refine run_drw ?_ | with_reducible refine run_condT ?_ | with_reducible refine run_ret' ?_ | with_reducible refine run_end' ?_ | simp only [go_sem, ↓reduceIte, Nat.reduceAdd, Nat.reduceEqDiff, Nat.reduceBEq, reduceCtorEq, Int.reduceBEq, Int.reduceBNe, Int.reduceLT, Int.reduceLE]))
      rw [hrep]
      have hall2 : Only [l, D] wa wc := (hob.mono (T := [l, D]) fun x hx => .inl (by simp only [List.mem_singleton] at hx; simp [hx])).same (hoc.mono fun x hx => .inl (by simp only [List.mem_singleton] at hx; simp [hx]))
      have hRc : Rows wc s (repl F T) vs vg vq fs fg fq 3 0 := fun t ht => (hR t ht).keep hall2 fun x hx => by
        have := hrows x (by simp only [List.mem_cons]; exact .inr (pick3_mem hx))
        simp; omega
      have hbc : At wc b [.int .i64 s.M, vs, vg, vq] := (hp7.hb.keep hOa hbB).keep hall2 (by have := hrows b (by simp); simp; omega)
      refine ⟨rfl, ⟨b, rfl, vs, vg, vq, fs, fg, fq, rfl, hp7.ofRows hbc hRc⟩, ?_, fun hne => absurd rfl hne⟩
      have h1 : Only (b :: (fs ++ (fg ++ fq))) w wa := (hO2.nil ho27).of_nil.trans hOa fun x hx => by
        simp only [List.mem_cons] at hx ⊢
        rcases hx with rfl | rfl | hx
        · right; omega
        · right; omega
        · exact .inl (.inr hx)
      exact h1.trans hall2 fun x hx => by
        simp only [List.mem_cons, List.not_mem_nil, or_false] at hx
        rcases hx with rfl | rfl
        · right; omega
        · right; omega
end Go.Proofs.Ytblfmacnkacalaa
