/- Roots: the reference's Replace. -/
import Derived.Test.YtblfmacnkacalaaRtX
namespace Go.Proofs.Ytblfmacnkacalaa
set_option linter.unusedSimpArgs false
set_option linter.unusedVariables false
set_option maxRecDepth 8000

/-- s with the cells of the first i places that are not empty turned -/
structure Stage (s u : MS) (f : Int → Int) (i : Nat) : Prop where
  ok : u.Ok
  M : u.M = s.M
  Q : u.Q.length = s.Q.length
  V : ∀ j, j < 16 * s.M + 16 + s.Q.length → u.V.getD j 0 = if j ∈ (idx s).take i then f (s.V.getD j 0) else s.V.getD j 0
theorem Stage.zero {s : MS} (h : s.Ok) (f : Int → Int) : Stage s s f 0 := ⟨h, rfl, rfl, fun j _ => by simp⟩
theorem not_mem_take {l : List Nat} (h : l.Nodup) {i : Nat} (hi : i < l.length) : l.getD i 0 ∉ l.take i := by
  intro hm
  obtain ⟨k, hk, e⟩ := List.mem_iff_getElem.1 hm
  have hk' : k < i := by rw [List.length_take] at hk; omega
  have hp := List.pairwise_iff_getElem.1 h k i (by omega) hi hk'
  simp only [List.getElem_take] at e
  rw [List.getD_eq_getElem?_getD, List.getElem?_eq_getElem hi, Option.getD_some] at e
  exact hp e
theorem Stage.same {s u : MS} {f : Int → Int} {i : Nat} (h : Stage s u f i) (hi : i < (idx s).length) : u.V.getD ((idx s).getD i 0) 0 = s.V.getD ((idx s).getD i 0) 0 := by
  rw [h.V _ (idx_at hi).1, if_neg (not_mem_take (idx_nodup s) hi)]
theorem Stage.step {s u : MS} {f : Int → Int} {i : Nat} (h : Stage s u f i) (hi : i < (idx s).length) : Stage s (u.wr (segJ u ((idx s).getD i 0)) (f (s.V.getD ((idx s).getD i 0) 0))) f (i + 1) := by
  have hj := (idx_at hi).1
  have hju : (idx s).getD i 0 < 16 * u.M + 16 + u.Q.length := by rw [h.M, h.Q]; exact hj
  refine ⟨h.ok.wr _ _, by rw [wr_M]; exact h.M, by rw [wr_Q]; exact h.Q, fun k hk => ?_⟩
  have hku : k < u.V.length := by rw [V_length h.ok, h.M, h.Q]; exact hk
  have ht : (idx s).take (i + 1) = (idx s).take i ++ [(idx s).getD i 0] := by rw [List.take_succ_eq_append_getElem hi]; simp [hi]
  rw [wr_segJ h.ok hju, ht]
  simp only [List.mem_append, List.mem_singleton]
  by_cases e : k = (idx s).getD i 0
  · rw [if_pos (.inr e)]
    simp only [List.getD_eq_getElem?_getD] at e ⊢
    rw [e, List.getElem?_set_self (by rw [← e]; exact hku)]
    rfl
  · have h1 := h.V k hk
    have e2 : (u.V.set ((idx s).getD i 0) (f (s.V.getD ((idx s).getD i 0) 0))).getD k 0 = u.V.getD k 0 := by
      simp only [List.getD_eq_getElem?_getD] at e ⊢
      rw [List.getElem?_set_ne (fun h => e h.symm)]
    rw [e2, h1]
    by_cases hm : k ∈ (idx s).take i
    · rw [if_pos hm, if_pos (.inl hm)]
    · rw [if_neg hm, if_neg (fun h => h.elim hm e)]
theorem Stage.skip {s u : MS} {f : Int → Int} {i : Nat} (h : Stage s u f i) (hi : i < (idx s).length) (he : f (s.V.getD ((idx s).getD i 0) 0) = s.V.getD ((idx s).getD i 0) 0) : Stage s u f (i + 1) := by
  have ht : (idx s).take (i + 1) = (idx s).take i ++ [(idx s).getD i 0] := by rw [List.take_succ_eq_append_getElem hi]; simp [hi]
  refine ⟨h.ok, h.M, h.Q, fun k hk => ?_⟩
  rw [h.V k hk, ht]
  simp only [List.mem_append, List.mem_singleton]
  by_cases e : k = (idx s).getD i 0
  · rw [if_pos (Or.inr e : k ∈ (idx s).take i ∨ k = (idx s).getD i 0), e, if_neg (not_mem_take (idx_nodup s) hi), he]
  · by_cases hm : k ∈ (idx s).take i
    · rw [if_pos hm, if_pos (.inl hm)]
    · rw [if_neg hm, if_neg (fun h => h.elim hm e)]
theorem Stage.end {s u : MS} {f : Int → Int} (h0 : s.Ok) (h : Stage s u f (idx s).length) (hf : f 0 = 0) : u = s.map f := by
  refine MS.ext_V h.ok (h0.map f) h.M ?_
  rw [map_V]
  apply List.ext_getElem
  · rw [V_length h.ok, List.length_map, V_length h0, h.M, h.Q]
  · intro j h1 h2
    have hj : j < s.V.length := by simpa using h2
    have hj' : j < 16 * s.M + 16 + s.Q.length := by rw [← V_length h0]; exact hj
    have := h.V j hj'
    rw [List.take_length] at this
    simp only [List.getD_eq_getElem?_getD, List.getElem?_eq_getElem h1, List.getElem?_eq_getElem hj, Option.getD_some] at this
    rw [this, List.getElem_map]
    by_cases hm : j ∈ idx s
    · rw [if_pos hm]
    · rw [if_neg hm]
      have : s.V.getD j 0 = 0 := by
        rcases Classical.em (s.V.getD j 0 = 0) with e | e
        · exact e
        · exact absurd (idx_mem hj' e) hm
      simp only [List.getD_eq_getElem?_getD, List.getElem?_eq_getElem hj, Option.getD_some] at this
      rw [this, hf]
theorem countP_idx {s : MS} (h : s.Ok) (F : List Int) : ((filled s).countP fun x => F.contains x.2) = (idx s).countP fun j => F.contains (s.V.getD j 0) := by
  rw [filled_idx h, List.countP_map]; rfl
theorem countP_take_succ {l : List Nat} {p : Nat → Bool} {i : Nat} (hi : i < l.length) : (l.take (i + 1)).countP p = (l.take i).countP p + (if p (l.getD i 0) = true then 1 else 0) := by
  rw [List.take_succ_eq_append_getElem hi, List.countP_append]
  simp [hi, List.countP_cons]

theorem rReplace {w : World} {a : Option Addr} {fp D1 D2 : List Nat} {m : MO} {v1 v2 : Value} {F T : List Int} (h : RR w a fp m) (hF : RdB w D1 v1 F) (hT : RdB w D2 v2 T) (hd1 : ∀ x, x ∈ D1 → x ∉ fp ∧ x < w.heap.size) (hd2 : ∀ x, x ∈ D2 → x ∉ fp ∧ x < w.heap.size)
    (hl1 : F.length ≤ 1000) (hl2 : T.length ≤ 1000) :
    Cs Try.prog 43 [.pointer a, v1, v2] w fun v w' => v = .tuple #[.int .i64 (replO m F T).1.1, .int .i64 (replO m F T).1.2] ∧ RR w' a fp (replO m F T).2 ∧ Only fp w w' := by
  refine enter_ref03_Roots_Replace rfl ?_
  unfold x_ref03_Roots_Replace
  obtain ⟨a1, c1, rfl⟩ := hF.val
  obtain ⟨a2, c2, rfl⟩ := hT.val
  (repeat (first | with_reducible refine run_seq ?_ | with_reducible refine run_reg ?_ | with_reducible refine run_block ?_ | with_reducible refine run_blk ?_ | with_reducible refine run_skip ?_ | with_reducible refine run_exit rfl ?_ | with_reducible refine run_drw ?_ | with_reducible refine run_condT ?_ | with_reducible refine run_ret' ?_ | with_reducible refine run_end' ?_ | simp only [go_sem, ↓reduceIte, Nat.reduceAdd, Nat.reduceEqDiff, Nat.reduceBEq, reduceCtorEq, Int.reduceBEq, Int.reduceBNe, Int.reduceLT, Int.reduceLE]))
  refine callT0 (rmade h) ?_
  match m, h with
  | none, h =>
    (repeat (first | with_reducible refine run_seq ?_ | with_reducible refine run_reg ?_ | with_reducible refine run_block ?_ | with_reducible refine run_blk ?_ | with_reducible refine run_skip ?_ | with_reducible refine run_exit rfl ?_ | with_reducible refine run_drw ?_ | with_reducible refine run_condT ?_ | with_reducible refine run_ret' ?_ | with_reducible refine run_end' ?_ | simp only [go_sem, ↓reduceIte, Nat.reduceAdd, Nat.reduceEqDiff, Nat.reduceBEq, reduceCtorEq, Int.reduceBEq, Int.reduceBNe, Int.reduceLT, Int.reduceLE, Option.isSome_none]))
    exact ⟨rfl, h, Only.refl _ _⟩
  | some s, hpr =>
    by_cases hlen : F.length = T.length
    rotate_left
    · (repeat (first | with_reducible refine run_seq ?_ | with_reducible refine run_reg ?_ | with_reducible refine run_block ?_ | with_reducible refine run_blk ?_ | with_reducible refine run_skip ?_ | with_reducible refine run_exit rfl ?_ | with_reducible refine run_drw ?_ | with_reducible refine run_condT ?_ | with_reducible refine run_ret' ?_ | with_reducible refine run_end' ?_ | simp only [go_sem, ↓reduceIte, Nat.reduceAdd, Nat.reduceEqDiff, Nat.reduceBEq, reduceCtorEq, Int.reduceBEq, Int.reduceBNe, Int.reduceLT, Int.reduceLE, Option.isSome_some, bne_int_true (show ¬ ((F.length : Int) = (T.length : Int)) by omega)]))
      rw [show replO (some s) F T = ((0, 1), some s) by unfold replO; rw [goodL_len hlen]; rfl]
      exact ⟨rfl, hpr, Only.refl _ _⟩
    (repeat (first | with_reducible refine run_seq ?_ | with_reducible refine run_reg ?_ | with_reducible refine run_block ?_ | with_reducible refine run_blk ?_ | with_reducible refine run_skip ?_ | with_reducible refine run_exit rfl ?_ | with_reducible refine run_drw ?_ | with_reducible refine run_condT ?_ | with_reducible refine run_ret' ?_ | with_reducible refine run_end' ?_ | simp only [go_sem, ↓reduceIte, Nat.reduceAdd, Nat.reduceEqDiff, Nat.reduceBEq, reduceCtorEq, Int.reduceBEq, Int.reduceBNe, Int.reduceLT, Int.reduceLE, Option.isSome_some, bne_int_false (show ((F.length : Int) = (T.length : Int)) by omega)]))
    refine run_loop (6 :: 7 :: 8 :: 22 :: 23 :: 24 :: 25 :: 26 :: 27 :: 28 :: 29 :: 30 :: 31 :: 32 :: 33 :: 34 :: 35 :: 36 :: 37 :: 38 :: 39 :: 40 :: 41 :: 42 :: 43 :: 44 :: 45 :: 46 :: 47 :: 48 :: 49 :: 50 :: 51 :: 52 :: 53 :: 54 :: 55 :: []) (fun g w' => ∃ i : Nat, g 8 = .int .i64 i ∧ i ≤ F.length ∧ (∀ j, j < i → okI F T j = true) ∧ Only [] w w') (fun g _ => upTo F.length 8 g) ⟨0, by simp only [go_sem, ↓reduceIte, Nat.reduceAdd, Nat.reduceEqDiff, Nat.reduceBEq, reduceCtorEq, Int.reduceBEq, Int.reduceBNe, Int.reduceLT, Int.reduceLE]; rfl, by omega, by omega, Only.refl _ _⟩ fun g w3 hI hnext => ?_
    obtain ⟨i, h8, hi, hall, ho3⟩ := hI
    have hF3 := hF.keep0 ho3
    have hT3 := hT.keep0 ho3
    (repeat (first | with_reducible refine run_seq ?_ | with_reducible refine run_reg ?_ | with_reducible refine run_block ?_ | with_reducible refine run_blk ?_ | with_reducible refine run_skip ?_ | with_reducible refine run_exit rfl ?_ | with_reducible refine run_drw ?_ | with_reducible refine run_condT ?_ | with_reducible refine run_ret' ?_ | with_reducible refine run_end' ?_ | simp only [go_sem, ↓reduceIte, Nat.reduceAdd, Nat.reduceEqDiff, Nat.reduceBEq, reduceCtorEq, Int.reduceBEq, Int.reduceBNe, Int.reduceLT, Int.reduceLE, h8]))
    refine condT (fun hlt => ?_) (fun hge => ?_)
    · have hlt : i < F.length := by simpa using hlt
      obtain ⟨p1, rfl, hc1⟩ := hF3.get hlt
      obtain ⟨p2, rfl, hc2⟩ := hT3.get (i := i) (by omega)
      have e1 : (0 : Int) ≤ (i : Int) ∧ (i : Int) < (F.length : Int) := ⟨by omega, by omega⟩
      have e2 : (0 : Int) ≤ (i : Int) ∧ (i : Int) < (T.length : Int) := ⟨by omega, by omega⟩
      have bad : okI F T i = false → ∀ w', Only [] w w' → Value.tuple #[.int .i64 0, .int .i64 1] = .tuple #[.int .i64 (replO (some s) F T).1.1, .int .i64 (replO (some s) F T).1.2] ∧ RR w' a fp (replO (some s) F T).2 ∧ Only fp w w' := by
        intro hb w' ho'
        rw [show replO (some s) F T = ((0, 1), some s) by unfold replO; rw [goodL_no hlt hb]; rfl]
        exact ⟨rfl, hpr.keep0 ho', ho'.of_nil⟩
      have good : okI F T i = true → ∀ j, j < i + 1 → okI F T j = true := fun hg j hj => by
        by_cases ej : j = i
        · subst ej; exact hg
        · exact hall j (by omega)
      by_cases b1 : F.getD i 0 ≤ 0
      · (repeat (first | with_reducible refine run_seq ?_ | with_reducible refine run_reg ?_ | with_reducible refine run_block ?_ | with_reducible refine run_blk ?_ | with_reducible refine run_skip ?_ | with_reducible refine run_exit rfl ?_ | with_reducible refine run_drw ?_ | with_reducible refine run_condT ?_ | with_reducible refine run_ret' ?_ | with_reducible refine run_end' ?_ | simp only [go_sem, ↓reduceIte, Nat.reduceAdd, Nat.reduceEqDiff, Nat.reduceBEq, reduceCtorEq, Int.reduceBEq, Int.reduceBNe, Int.reduceLT, Int.reduceLE, h8, if_pos e1, if_pos e2, Int.toNat_natCast, Nat.mul_one, hc1, hc2, decide_eq_true b1]))
        exact bad (by unfold okI; rw [decide_eq_false (by omega)]; rfl) _ (ho3.nil (Only.drew [] _))
      · by_cases b2 : T.getD i 0 ≤ 0
        · (repeat (first | with_reducible refine run_seq ?_ | with_reducible refine run_reg ?_ | with_reducible refine run_block ?_ | with_reducible refine run_blk ?_ | with_reducible refine run_skip ?_ | with_reducible refine run_exit rfl ?_ | with_reducible refine run_drw ?_ | with_reducible refine run_condT ?_ | with_reducible refine run_ret' ?_ | with_reducible refine run_end' ?_ | simp only [go_sem, ↓reduceIte, Nat.reduceAdd, Nat.reduceEqDiff, Nat.reduceBEq, reduceCtorEq, Int.reduceBEq, Int.reduceBNe, Int.reduceLT, Int.reduceLE, h8, if_pos e1, if_pos e2, Int.toNat_natCast, Nat.mul_one, hc1, hc2, decide_eq_false b1, decide_eq_true b2]))
          exact bad (by unfold okI; rw [decide_eq_false (p := 0 < T.getD i 0) (by omega)]; simp) _ (ho3.nil (Only.drew [] _))
        · by_cases b3 : i = 0
          · have b4 : ¬ (0 : Int) < (i : Int) := by omega
            (repeat (first | with_reducible refine run_seq ?_ | with_reducible refine run_reg ?_ | with_reducible refine run_block ?_ | with_reducible refine run_blk ?_ | with_reducible refine run_skip ?_ | with_reducible refine run_exit rfl ?_ | with_reducible refine run_drw ?_ | with_reducible refine run_condT ?_ | with_reducible refine run_ret' ?_ | with_reducible refine run_end' ?_ | simp only [go_sem, ↓reduceIte, Nat.reduceAdd, Nat.reduceEqDiff, Nat.reduceBEq, reduceCtorEq, Int.reduceBEq, Int.reduceBNe, Int.reduceLT, Int.reduceLE, h8, if_pos e1, if_pos e2, Int.toNat_natCast, Nat.mul_one, hc1, hc2, decide_eq_false b1, decide_eq_false b2, decide_eq_false b4, i64_succ i (by omega)]))
            refine hnext _ w3.drew ?_ ⟨i + 1, ?_, by omega, good (by unfold okI; rw [decide_eq_true (by omega), decide_eq_true (p := 0 < T.getD i 0) (by omega), decide_eq_true b3]; rfl), ho3.nil (Only.drew [] _)⟩ ?_
            · (repeat (first | with_reducible exact Keeps.refl _ _ | with_reducible exact Keeps.ovr _ _ _ | refine Keeps.put ?_ rfl _ | exact Keeps.refl _ _ | exact Keeps.ovr _ _ _ | refine Keeps.ovr2 ?_ rfl _))
            · simp only [go_sem, ↓reduceIte, Nat.reduceAdd, Nat.reduceEqDiff, Nat.reduceBEq, reduceCtorEq, Int.reduceBEq, Int.reduceBNe, Int.reduceLT, Int.reduceLE]
            · rw [upTo_int h8, upTo_int (k := .i64) (i := i + 1) (by simp only [go_sem, ↓reduceIte, Nat.reduceAdd, Nat.reduceEqDiff, Nat.reduceBEq, reduceCtorEq, Int.reduceBEq, Int.reduceBNe, Int.reduceLT, Int.reduceLE])]; omega
          · have b4 : (0 : Int) < (i : Int) := by omega
            have e3 : IntKind.i64.wrap ((i : Int) - 1) = ((i - 1 : Nat) : Int) := by rw [show ((i : Int) - 1) = ((i - 1 : Nat) : Int) by omega, i64_of_nat _ (by omega)]
            have e4 : (0 : Int) ≤ ((i - 1 : Nat) : Int) ∧ ((i - 1 : Nat) : Int) < (F.length : Int) := ⟨by omega, by omega⟩
            obtain ⟨p3, hp3, hc3⟩ := hF3.get (i := i - 1) (by omega)
            cases hp3
            by_cases b5 : F.getD i 0 ≤ F.getD (i - 1) 0
            · (repeat (first | with_reducible refine run_seq ?_ | with_reducible refine run_reg ?_ | with_reducible refine run_block ?_ | with_reducible refine run_blk ?_ | with_reducible refine run_skip ?_ | with_reducible refine run_exit rfl ?_ | with_reducible refine run_drw ?_ | with_reducible refine run_condT ?_ | with_reducible refine run_ret' ?_ | with_reducible refine run_end' ?_ | simp only [go_sem, ↓reduceIte, Nat.reduceAdd, Nat.reduceEqDiff, Nat.reduceBEq, reduceCtorEq, Int.reduceBEq, Int.reduceBNe, Int.reduceLT, Int.reduceLE, h8, if_pos e1, if_pos e2, if_pos e4, e3, Int.toNat_natCast, Nat.mul_one, hc1, hc2, hc3, decide_eq_false b1, decide_eq_false b2, decide_eq_true b4, decide_eq_true b5]))
              exact bad (by unfold okI; rw [decide_eq_false b3, decide_eq_false (p := F.getD (i - 1) 0 < F.getD i 0) (by omega)]; simp) _ (ho3.nil (Only.drew [] _))
            · (repeat (first | with_reducible refine run_seq ?_ | with_reducible refine run_reg ?_ | with_reducible refine run_block ?_ | with_reducible refine run_blk ?_ | with_reducible refine run_skip ?_ | with_reducible refine run_exit rfl ?_ | with_reducible refine run_drw ?_ | with_reducible refine run_condT ?_ | with_reducible refine run_ret' ?_ | with_reducible refine run_end' ?_ | simp only [go_sem, ↓reduceIte, Nat.reduceAdd, Nat.reduceEqDiff, Nat.reduceBEq, reduceCtorEq, Int.reduceBEq, Int.reduceBNe, Int.reduceLT, Int.reduceLE, h8, if_pos e1, if_pos e2, if_pos e4, e3, Int.toNat_natCast, Nat.mul_one, hc1, hc2, hc3, decide_eq_false b1, decide_eq_false b2, decide_eq_true b4, decide_eq_false b5, i64_succ i (by omega)]))
              refine hnext _ w3.drew ?_ ⟨i + 1, ?_, by omega, good (by unfold okI; rw [decide_eq_true (by omega), decide_eq_true (p := 0 < T.getD i 0) (by omega), decide_eq_true (p := F.getD (i - 1) 0 < F.getD i 0) (by omega)]; simp), ho3.nil (Only.drew [] _)⟩ ?_
              · (repeat (first | with_reducible exact Keeps.refl _ _ | with_reducible exact Keeps.ovr _ _ _ | refine Keeps.put ?_ rfl _ | exact Keeps.refl _ _ | exact Keeps.ovr _ _ _ | refine Keeps.ovr2 ?_ rfl _))
              · simp only [go_sem, ↓reduceIte, Nat.reduceAdd, Nat.reduceEqDiff, Nat.reduceBEq, reduceCtorEq, Int.reduceBEq, Int.reduceBNe, Int.reduceLT, Int.reduceLE]
              · rw [upTo_int h8, upTo_int (k := .i64) (i := i + 1) (by simp only [go_sem, ↓reduceIte, Nat.reduceAdd, Nat.reduceEqDiff, Nat.reduceBEq, reduceCtorEq, Int.reduceBEq, Int.reduceBNe, Int.reduceLT, Int.reduceLE])]; omega
    have hge : ¬ (i < F.length) := by simpa using hge
    have hgood : goodL F T = true := goodL_of hlen fun j hj => hall j (by omega)
    obtain ⟨b, hb, hp⟩ := hpr
    subst hb
    have hok : s.Ok := by obtain ⟨_, _, _, _, _, _, _, _, k⟩ := hp; exact k.ok
    have hlt := hp.lt
    have hrep : replO (some s) F T = (((((idx s).countP fun j => F.contains (s.V.getD j 0) : Nat) : Int), 0), some (s.map (repl F T))) := by rw [← countP_idx hok]; unfold replO; rw [hgood]; rfl
    have hV := V_le hok
    rw [V_length hok] at hV
    have hil := idx_length (s := s)
    have hpl := placesO_length hok
    (repeat (first | with_reducible refine run_seq ?_ | with_reducible refine run_reg ?_ | with_reducible refine run_block ?_ | with_reducible refine run_blk ?_ | with_reducible refine run_skip ?_ | with_reducible refine run_exit rfl ?_ | with_reducible refine run_drw ?_ | with_reducible refine run_condT ?_ | with_reducible refine run_ret' ?_ | with_reducible refine run_end' ?_ | simp only [go_sem, ↓reduceIte, Nat.reduceAdd, Nat.reduceEqDiff, Nat.reduceBEq, reduceCtorEq, Int.reduceBEq, Int.reduceBNe, Int.reduceLT, Int.reduceLE, h8]))
    refine callT (rPlaces (m := some s) ⟨b, rfl, hp.keep0 ho3⟩) ?_
    rintro v4 w4 ⟨ho4, fE, hsE, hfE⟩
    obtain ⟨a4, c4, e4⟩ := hsE.val
    subst e4
    have ho04 := ho3.nil ho4
    have hEl := hsE.lt
    (repeat (first | with_reducible refine run_seq ?_ | with_reducible refine run_reg ?_ | with_reducible refine run_block ?_ | with_reducible refine run_blk ?_ | with_reducible refine run_skip ?_ | with_reducible refine run_exit rfl ?_ | with_reducible refine run_drw ?_ | with_reducible refine run_condT ?_ | with_reducible refine run_ret' ?_ | with_reducible refine run_end' ?_ | simp only [go_sem, ↓reduceIte, Nat.reduceAdd, Nat.reduceEqDiff, Nat.reduceBEq, reduceCtorEq, Int.reduceBEq, Int.reduceBNe, Int.reduceLT, Int.reduceLE]))
    have hz3 := ho3.size
    have hdE : ∀ x, x ∈ fE → x ∉ fp := fun x hx hx2 => by have := hlt x hx2; have := hfE x hx; omega
    refine run_loop (9 :: 11 :: 12 :: 13 :: 58 :: 59 :: 60 :: 61 :: 62 :: 63 :: 64 :: 65 :: 66 :: 67 :: 68 :: 69 :: 70 :: 71 :: 72 :: 73 :: 74 :: 75 :: 76 :: 77 :: 78 :: 79 :: 80 :: 81 :: 82 :: 83 :: 84 :: 85 :: 86 :: 87 :: 88 :: 89 :: 90 :: 91 :: 92 :: 93 :: []) (fun g w' => ∃ (i : Nat) (u : MS), g 11 = .int .i64 i ∧ g 9 = .int .i64 ((((idx s).take i).countP fun j => F.contains (s.V.getD j 0) : Nat) : Int) ∧ i ≤ (idx s).length ∧ Stage s u (repl F T) i ∧ RM w' b u fp ∧ Only fp w4 w') (fun g _ => upTo (idx s).length 11 g)
      ⟨0, s, by simp only [go_sem, ↓reduceIte, Nat.reduceAdd, Nat.reduceEqDiff, Nat.reduceBEq, reduceCtorEq, Int.reduceBEq, Int.reduceBNe, Int.reduceLT, Int.reduceLE]; rfl, by simp only [go_sem, ↓reduceIte, Nat.reduceAdd, Nat.reduceEqDiff, Nat.reduceBEq, reduceCtorEq, Int.reduceBEq, Int.reduceBNe, Int.reduceLT, Int.reduceLE]; rfl, by omega, Stage.zero hok _, hp.keep0 ho04, Only.refl _ _⟩ fun g w5 hI hnext => ?_
    obtain ⟨i, u, h11, h9, hi, hst, hu, ho⟩ := hI
    (repeat (first | with_reducible refine run_seq ?_ | with_reducible refine run_reg ?_ | with_reducible refine run_block ?_ | with_reducible refine run_blk ?_ | with_reducible refine run_skip ?_ | with_reducible refine run_exit rfl ?_ | with_reducible refine run_drw ?_ | with_reducible refine run_condT ?_ | with_reducible refine run_ret' ?_ | with_reducible refine run_end' ?_ | simp only [go_sem, ↓reduceIte, Nat.reduceAdd, Nat.reduceEqDiff, Nat.reduceBEq, reduceCtorEq, Int.reduceBEq, Int.reduceBNe, Int.reduceLT, Int.reduceLE, h11]))
    refine condT (fun hlt5 => ?_) (fun hge5 => ?_)
    · have hlt5 : i < (idx s).length := by have : (i : Int) < (((placesO (some s)).length : Nat) : Int) := by simpa using hlt5
                                           omega
      obtain ⟨hj, hne⟩ := idx_at hlt5
      obtain ⟨gE, cE, hvE, hcE, hgE⟩ := (hsE.keep ho hdE).place (i := i) (by rw [hpl]; exact hlt5)
      cases hvE
      rw [places_getD hok hlt5] at hcE
      have c1' : (0 : Int) ≤ (i : Int) ∧ (i : Int) < (((placesO (some s)).length : Nat) : Int) := ⟨by omega, by omega⟩
      (repeat (first | with_reducible refine run_seq ?_ | with_reducible refine run_reg ?_ | with_reducible refine run_block ?_ | with_reducible refine run_blk ?_ | with_reducible refine run_skip ?_ | with_reducible refine run_exit rfl ?_ | with_reducible refine run_drw ?_ | with_reducible refine run_condT ?_ | with_reducible refine run_ret' ?_ | with_reducible refine run_end' ?_ | simp only [go_sem, ↓reduceIte, Nat.reduceAdd, Nat.reduceEqDiff, Nat.reduceBEq, reduceCtorEq, Int.reduceBEq, Int.reduceBNe, Int.reduceLT, Int.reduceLE, h11, if_pos c1', Int.toNat_natCast, hcE]))
      have hju : (idx s).getD i 0 < 16 * u.M + 16 + u.Q.length := by rw [hst.M, hst.Q]; exact hj
      have hpj : pj s ((idx s).getD i 0) = pj u ((idx s).getD i 0) := by unfold pj; rw [hst.M]
      have hseg : seg u (pj s ((idx s).getD i 0)) = some (segJ u ((idx s).getD i 0)) := by rw [hpj]; exact seg_pj hju
      refine callT (rget hu hseg) ?_
      rintro v5 w6 ⟨rfl, ho6⟩
      have hrd : u.rd (segJ u ((idx s).getD i 0)) = s.V.getD ((idx s).getD i 0) 0 := (rd_segJ hst.ok hju).trans (hst.same hlt5)
      have hcount := countP_take_succ (p := fun j => F.contains (s.V.getD j 0)) hlt5
      have hstep := hst.step hlt5
      have hskip := hst.skip hlt5
      have hcl := List.countP_le_length (p := fun j => F.contains (s.V.getD j 0)) (l := (idx s).take i)
      rw [List.length_take] at hcl
      have hu6 := hu.keep0 ho6
      have ho46 : Only fp w4 w6 := ho.nil ho6
      clear hgE
      generalize hx : s.V.getD ((idx s).getD i 0) 0 = x at *
      generalize hn : ((idx s).take i).countP (fun j => F.contains (s.V.getD j 0)) = n0 at *
      (repeat (first | with_reducible refine run_seq ?_ | with_reducible refine run_reg ?_ | with_reducible refine run_block ?_ | with_reducible refine run_blk ?_ | with_reducible refine run_skip ?_ | with_reducible refine run_exit rfl ?_ | with_reducible refine run_drw ?_ | with_reducible refine run_condT ?_ | with_reducible refine run_ret' ?_ | with_reducible refine run_end' ?_ | simp only [go_sem, ↓reduceIte, Nat.reduceAdd, Nat.reduceEqDiff, Nat.reduceBEq, reduceCtorEq, Int.reduceBEq, Int.reduceBNe, Int.reduceLT, Int.reduceLE, hrd]))
      have hd1' : ∀ x, x ∈ D1 → x ∉ fp := fun x hx => (hd1 x hx).1
      have hd2' : ∀ x, x ∈ D2 → x ∉ fp := fun x hx => (hd2 x hx).1
      refine run_loop (9 :: 13 :: 70 :: 71 :: 72 :: 73 :: 74 :: 75 :: 76 :: 77 :: 78 :: 79 :: 80 :: 81 :: 82 :: 83 :: 84 :: 85 :: 86 :: 87 :: 88 :: 89 :: 90 :: 91 :: 92 :: 93 :: []) (fun g2 w' => ∃ (k : Nat) (u' : MS) (n : Nat), g2 13 = .int .i64 k ∧ g2 9 = .int .i64 n ∧ k ≤ F.length ∧ RM w' b u' fp ∧ Only fp w4 w' ∧ ((F.take k).contains x = false ∧ u' = u ∧ n = n0 ∨ (F.take k).contains x = true ∧ u' = u.wr (segJ u ((idx s).getD i 0)) (repl F T x) ∧ n = n0 + 1)) (fun g2 _ => upTo F.length 13 g2)
        ⟨0, u, n0, by simp only [go_sem, ↓reduceIte, Nat.reduceAdd, Nat.reduceEqDiff, Nat.reduceBEq, reduceCtorEq, Int.reduceBEq, Int.reduceBNe, Int.reduceLT, Int.reduceLE]; rfl, by simp only [go_sem, ↓reduceIte, Nat.reduceAdd, Nat.reduceEqDiff, Nat.reduceBEq, reduceCtorEq, Int.reduceBEq, Int.reduceBNe, Int.reduceLT, Int.reduceLE, h9], by omega, hu6, ho46, .inl ⟨by simp, rfl, rfl⟩⟩ fun g2 w7 hI hnext2 => ?_
      obtain ⟨k, u', n, h13, h9', hk, hu', ho7, hcase⟩ := hI
      have hF7 := (hF.keep0 ho04).keep ho7 hd1'
      have hT7 := (hT.keep0 ho04).keep ho7 hd2'
      (repeat (first | with_reducible refine run_seq ?_ | with_reducible refine run_reg ?_ | with_reducible refine run_block ?_ | with_reducible refine run_blk ?_ | with_reducible refine run_skip ?_ | with_reducible refine run_exit rfl ?_ | with_reducible refine run_drw ?_ | with_reducible refine run_condT ?_ | with_reducible refine run_ret' ?_ | with_reducible refine run_end' ?_ | simp only [go_sem, ↓reduceIte, Nat.reduceAdd, Nat.reduceEqDiff, Nat.reduceBEq, reduceCtorEq, Int.reduceBEq, Int.reduceBNe, Int.reduceLT, Int.reduceLE, h13]))
      refine condT (fun hlt7 => ?_) (fun hge7 => ?_)
      · have hlt7 : k < F.length := by simpa using hlt7
        obtain ⟨p1, rfl, hc1⟩ := hF7.get hlt7
        obtain ⟨p2, rfl, hc2⟩ := hT7.get (i := k) (by omega)
        have e1 : (0 : Int) ≤ (k : Int) ∧ (k : Int) < (F.length : Int) := ⟨by omega, by omega⟩
        have e2 : (0 : Int) ≤ (k : Int) ∧ (k : Int) < (T.length : Int) := ⟨by omega, by omega⟩
        by_cases hxe : x = F.getD k 0
        · -- the one that is found
          have hno : (F.take k).contains x = false := by
            cases e : (F.take k).contains x with
            | false => rfl
            | true =>
              rw [List.contains_iff_mem] at e
              obtain ⟨j, hj, ej⟩ := List.mem_iff_getElem.1 e
              have hjk : j < k := by rw [List.length_take] at hj; omega
              have := goodL_inc hgood k j hjk hlt7
              simp only [List.getElem_take] at ej
              have ej' : F.getD j 0 = x := by simp [show j < F.length by omega, ej]
              omega
          obtain ⟨rfl, rfl⟩ : u' = u ∧ n = n0 := by
            rcases hcase with ⟨_, h1, h2⟩ | ⟨h1, _⟩
            · exact ⟨h1, h2⟩
            · rw [hno] at h1; cases h1
          have hrx : repl F T x = T.getD k 0 := repl_at hlt7 (by omega) hxe.symm fun j hj => by have := goodL_inc hgood k j hj hlt7; omega
          have hcE7 := ((hsE.keep (ho7) hdE).place (i := i) (by rw [hpl]; exact hlt5))
          obtain ⟨gE', cE', hvE', hcE', _⟩ := hcE7
          cases hvE'
          rw [places_getD hok hlt5] at hcE'
          (repeat (first | with_reducible refine run_seq ?_ | with_reducible refine run_reg ?_ | with_reducible refine run_block ?_ | with_reducible refine run_blk ?_ | with_reducible refine run_skip ?_ | with_reducible refine run_exit rfl ?_ | with_reducible refine run_drw ?_ | with_reducible refine run_condT ?_ | with_reducible refine run_ret' ?_ | with_reducible refine run_end' ?_ | simp only [go_sem, ↓reduceIte, Nat.reduceAdd, Nat.reduceEqDiff, Nat.reduceBEq, reduceCtorEq, Int.reduceBEq, Int.reduceBNe, Int.reduceLT, Int.reduceLE, h13, if_pos e1, if_pos e2, if_pos c1', h11, Int.toNat_natCast, Nat.mul_one, hc1, hc2, beq_int_true hxe, hcE']))
          refine callT (rset (w := w7.drew) (hu'.keep0 (Only.drew [] w7)) hseg (T.getD k 0)) ?_
          rintro v8 w8 ⟨hu8, ho8⟩
          have hw : IntKind.i64.wrap ((n : Int) + 1) = ((n + 1 : Nat) : Int) := i64_succ n (by omega)
          (repeat (first | with_reducible refine run_seq ?_ | with_reducible refine run_reg ?_ | with_reducible refine run_block ?_ | with_reducible refine run_blk ?_ | with_reducible refine run_skip ?_ | with_reducible refine run_exit rfl ?_ | with_reducible refine run_drw ?_ | with_reducible refine run_condT ?_ | with_reducible refine run_ret' ?_ | with_reducible refine run_end' ?_ | simp only [go_sem, ↓reduceIte, Nat.reduceAdd, Nat.reduceEqDiff, Nat.reduceBEq, reduceCtorEq, Int.reduceBEq, Int.reduceBNe, Int.reduceLT, Int.reduceLE, h13, h9', hw, i64_succ k (by omega)]))
          refine hnext2 _ w8 ?_ ⟨k + 1, _, n + 1, ?_, ?_, by omega, hu8, (ho7.nil (Only.drew [] _)).same ho8, .inr ⟨by rw [take_contains_succ hlt7]; simp [hxe], by rw [hrx], rfl⟩⟩ ?_
          · (repeat (first | with_reducible exact Keeps.refl _ _ | with_reducible exact Keeps.ovr _ _ _ | refine Keeps.put ?_ rfl _ | exact Keeps.refl _ _ | exact Keeps.ovr _ _ _ | refine Keeps.ovr2 ?_ rfl _))
          · simp only [go_sem, ↓reduceIte, Nat.reduceAdd, Nat.reduceEqDiff, Nat.reduceBEq, reduceCtorEq, Int.reduceBEq, Int.reduceBNe, Int.reduceLT, Int.reduceLE]
          · simp only [go_sem, ↓reduceIte, Nat.reduceAdd, Nat.reduceEqDiff, Nat.reduceBEq, reduceCtorEq, Int.reduceBEq, Int.reduceBNe, Int.reduceLT, Int.reduceLE]
          · rw [upTo_int h13, upTo_int (k := .i64) (i := k + 1) (by simp only [go_sem, ↓reduceIte, Nat.reduceAdd, Nat.reduceEqDiff, Nat.reduceBEq, reduceCtorEq, Int.reduceBEq, Int.reduceBNe, Int.reduceLT, Int.reduceLE])]; omega
        · (repeat (first | with_reducible refine run_seq ?_ | with_reducible refine run_reg ?_ | with_reducible refine run_block ?_ | with_reducible refine run_blk ?_ | with_reducible refine run_skip ?_ | with_reducible refine run_exit rfl ?_ | with_reducible refine run_drw ?_ | with_reducible refine run_condT ?_ | with_reducible refine run_ret' ?_ | with_reducible refine run_end' ?_ | simp only [go_sem, ↓reduceIte, Nat.reduceAdd, Nat.reduceEqDiff, Nat.reduceBEq, reduceCtorEq, Int.reduceBEq, Int.reduceBNe, Int.reduceLT, Int.reduceLE, h13, if_pos e1, Int.toNat_natCast, Nat.mul_one, hc1, beq_int_false hxe, i64_succ k (by omega)]))
          have htc : (F.take (k + 1)).contains x = (F.take k).contains x := by rw [take_contains_succ hlt7, decide_eq_false hxe, Bool.or_false]
          refine hnext2 _ w7 ?_ ⟨k + 1, u', n, ?_, ?_, by omega, hu', ho7, by rw [htc]; exact hcase⟩ ?_
          · (repeat (first | with_reducible exact Keeps.refl _ _ | with_reducible exact Keeps.ovr _ _ _ | refine Keeps.put ?_ rfl _ | exact Keeps.refl _ _ | exact Keeps.ovr _ _ _ | refine Keeps.ovr2 ?_ rfl _))
          · simp only [go_sem, ↓reduceIte, Nat.reduceAdd, Nat.reduceEqDiff, Nat.reduceBEq, reduceCtorEq, Int.reduceBEq, Int.reduceBNe, Int.reduceLT, Int.reduceLE]
          · simp only [go_sem, ↓reduceIte, Nat.reduceAdd, Nat.reduceEqDiff, Nat.reduceBEq, reduceCtorEq, Int.reduceBEq, Int.reduceBNe, Int.reduceLT, Int.reduceLE, h9']
          · rw [upTo_int h13, upTo_int (k := .i64) (i := k + 1) (by simp only [go_sem, ↓reduceIte, Nat.reduceAdd, Nat.reduceEqDiff, Nat.reduceBEq, reduceCtorEq, Int.reduceBEq, Int.reduceBNe, Int.reduceLT, Int.reduceLE])]; omega
      · have : k = F.length := by have : ¬ (k < F.length) := by simpa using hge7
                                  omega
        subst this
        rw [List.take_length] at hcase
        (repeat (first | with_reducible refine run_seq ?_ | with_reducible refine run_reg ?_ | with_reducible refine run_block ?_ | with_reducible refine run_blk ?_ | with_reducible refine run_skip ?_ | with_reducible refine run_exit rfl ?_ | with_reducible refine run_drw ?_ | with_reducible refine run_condT ?_ | with_reducible refine run_ret' ?_ | with_reducible refine run_end' ?_ | simp only [go_sem, ↓reduceIte, Nat.reduceAdd, Nat.reduceEqDiff, Nat.reduceBEq, reduceCtorEq, Int.reduceBEq, Int.reduceBNe, Int.reduceLT, Int.reduceLE, h11, i64_succ i (by omega)]))
        have hS : Stage s u' (repl F T) (i + 1) ∧ n = n0 + (if F.contains x = true then 1 else 0) := by
          rcases hcase with ⟨h1, rfl, rfl⟩ | ⟨h1, rfl, rfl⟩
          · exact ⟨hskip (repl_not h1), by rw [h1]; simp⟩
          · exact ⟨hstep, by rw [h1]; simp⟩
        refine hnext _ w7 ?_ ⟨i + 1, u', ?_, ?_, by omega, hS.1, hu', ho7⟩ ?_
        · (repeat (first | with_reducible exact Keeps.refl _ _ | with_reducible exact Keeps.ovr _ _ _ | refine Keeps.put ?_ rfl _ | exact Keeps.refl _ _ | exact Keeps.ovr _ _ _ | refine Keeps.ovr2 ?_ rfl _))
        · simp only [go_sem, ↓reduceIte, Nat.reduceAdd, Nat.reduceEqDiff, Nat.reduceBEq, reduceCtorEq, Int.reduceBEq, Int.reduceBNe, Int.reduceLT, Int.reduceLE]
        · rw [hcount, ← hS.2]; simp only [go_sem, ↓reduceIte, Nat.reduceAdd, Nat.reduceEqDiff, Nat.reduceBEq, reduceCtorEq, Int.reduceBEq, Int.reduceBNe, Int.reduceLT, Int.reduceLE, h9']
        · rw [upTo_int h11, upTo_int (k := .i64) (i := i + 1) (by simp only [go_sem, ↓reduceIte, Nat.reduceAdd, Nat.reduceEqDiff, Nat.reduceBEq, reduceCtorEq, Int.reduceBEq, Int.reduceBNe, Int.reduceLT, Int.reduceLE])]; omega
    · have hge5 : ¬ (i : Int) < (((placesO (some s)).length : Nat) : Int) := by simpa using hge5
      have : i = (idx s).length := by omega
      subst this
      rw [List.take_length] at h9
      have := hst.end hok (repl_zero hgood)
      subst this
      (repeat (first | with_reducible refine run_seq ?_ | with_reducible refine run_reg ?_ | with_reducible refine run_block ?_ | with_reducible refine run_blk ?_ | with_reducible refine run_skip ?_ | with_reducible refine run_exit rfl ?_ | with_reducible refine run_drw ?_ | with_reducible refine run_condT ?_ | with_reducible refine run_ret' ?_ | with_reducible refine run_end' ?_ | simp only [go_sem, ↓reduceIte, Nat.reduceAdd, Nat.reduceEqDiff, Nat.reduceBEq, reduceCtorEq, Int.reduceBEq, Int.reduceBNe, Int.reduceLT, Int.reduceLE, h9]))
      rw [hrep]
      exact ⟨rfl, ⟨b, rfl, hu⟩, ho04.of_nil.same ho⟩
end Go.Proofs.Ytblfmacnkacalaa
