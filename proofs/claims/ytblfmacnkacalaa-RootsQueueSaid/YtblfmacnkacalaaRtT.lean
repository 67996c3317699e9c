/- Roots: the reference's Push, Pop, New, Clone. -/
import Derived.Test.YtblfmacnkacalaaRtS
namespace Go.Proofs.Ytblfmacnkacalaa
set_option linter.unusedSimpArgs false
set_option linter.unusedVariables false
set_option maxRecDepth 8000

theorem rPush {w : World} {a : Option Addr} {fp : List Nat} {m : MO} (h : RR w a fp m) (y : Int) : Cs Try.prog 41 [.pointer a, .int .i64 y] w fun v w' => v = .int .i64 (pushO m y).1 ∧ Only fp w w' ∧ ∃ fp', RR w' a fp' (pushO m y).2 ∧ ∀ x, x ∈ fp' → x ∈ fp ∨ w.heap.size ≤ x := by
  refine enter_ref03_Roots_Push rfl ?_
  unfold x_ref03_Roots_Push
  (repeat (first | with_reducible refine run_seq ?_ | with_reducible refine run_reg ?_ | with_reducible refine run_block ?_ | with_reducible refine run_blk ?_ | with_reducible refine run_skip ?_ | with_reducible refine run_exit rfl ?_ | with_reducible refine run_drw ?_ | with_reducible refine run_condT ?_ | with_reducible refine run_ret' ?_ | with_reducible refine run_end' ?_ | simp only [go_sem, ↓reduceIte, Nat.reduceAdd, Nat.reduceEqDiff, Nat.reduceBEq, reduceCtorEq, Int.reduceBEq, Int.reduceBNe, Int.reduceLT, Int.reduceLE]))
  refine callT0 (rmade h) ?_
  match m, h with
  | none, h =>
    (repeat (first | with_reducible refine run_seq ?_ | with_reducible refine run_reg ?_ | with_reducible refine run_block ?_ | with_reducible refine run_blk ?_ | with_reducible refine run_skip ?_ | with_reducible refine run_exit rfl ?_ | with_reducible refine run_drw ?_ | with_reducible refine run_condT ?_ | with_reducible refine run_ret' ?_ | with_reducible refine run_end' ?_ | simp only [go_sem, ↓reduceIte, Nat.reduceAdd, Nat.reduceEqDiff, Nat.reduceBEq, reduceCtorEq, Int.reduceBEq, Int.reduceBNe, Int.reduceLT, Int.reduceLE, Option.isSome_none]))
    exact ⟨rfl, Only.refl _ _, fp, h, fun x hx => .inl hx⟩
  | some s, ⟨b, hb, vs, vg, vq, fs, rows, fg, fq, hfp, hp⟩ =>
    subst hb
    subst hfp
    have h0 : RR w (some ⟨b, 0, none⟩) (b :: (fs ++ (rows.map (·.1) ++ (fg ++ fq)))) (some s) := ⟨b, rfl, vs, vg, vq, fs, rows, fg, fq, rfl, hp⟩
    obtain ⟨aq, cq, hvq⟩ := hp.h2.val
    subst hvq
    have hl64 := hp.ok.lq
    by_cases c1 : y ≤ 0
    · (repeat (first | with_reducible refine run_seq ?_ | with_reducible refine run_reg ?_ | with_reducible refine run_block ?_ | with_reducible refine run_blk ?_ | with_reducible refine run_skip ?_ | with_reducible refine run_exit rfl ?_ | with_reducible refine run_drw ?_ | with_reducible refine run_condT ?_ | with_reducible refine run_ret' ?_ | with_reducible refine run_end' ?_ | simp only [go_sem, ↓reduceIte, Nat.reduceAdd, Nat.reduceEqDiff, Nat.reduceBEq, reduceCtorEq, Int.reduceBEq, Int.reduceBNe, Int.reduceLT, Int.reduceLE, Option.isSome_some, decide_eq_true c1]))
      rw [show pushO (some s) y = (1, some s) by simp [pushO, c1]]
      exact ⟨rfl, Only.refl _ _, _, h0, fun x hx => .inl (by simpa using hx)⟩
    · by_cases c2 : s.Q.length = 64
      · (repeat (first | with_reducible refine run_seq ?_ | with_reducible refine run_reg ?_ | with_reducible refine run_block ?_ | with_reducible refine run_blk ?_ | with_reducible refine run_skip ?_ | with_reducible refine run_exit rfl ?_ | with_reducible refine run_drw ?_ | with_reducible refine run_condT ?_ | with_reducible refine run_ret' ?_ | with_reducible refine run_end' ?_ | simp only [go_sem, ↓reduceIte, Nat.reduceAdd, Nat.reduceEqDiff, Nat.reduceBEq, reduceCtorEq, Int.reduceBEq, Int.reduceBNe, Int.reduceLT, Int.reduceLE, Option.isSome_some, decide_eq_false c1, hp.hb.cell, decide_eq_true (show (64 : Int) ≤ (s.Q.length : Int) by omega)]))
        rw [show pushO (some s) y = (6, some s) by simp [pushO, c1, c2]]
        exact ⟨rfl, Only.refl _ _, _, h0, fun x hx => .inl (by simpa using hx)⟩
      · (repeat (first | with_reducible refine run_seq ?_ | with_reducible refine run_reg ?_ | with_reducible refine run_block ?_ | with_reducible refine run_blk ?_ | with_reducible refine run_skip ?_ | with_reducible refine run_exit rfl ?_ | with_reducible refine run_drw ?_ | with_reducible refine run_condT ?_ | with_reducible refine run_ret' ?_ | with_reducible refine run_end' ?_ | simp only [go_sem, ↓reduceIte, Nat.reduceAdd, Nat.reduceEqDiff, Nat.reduceBEq, reduceCtorEq, Int.reduceBEq, Int.reduceBNe, Int.reduceLT, Int.reduceLE, Option.isSome_some, decide_eq_false c1, hp.hb.cell, decide_eq_false (show ¬ (64 : Int) ≤ (s.Q.length : Int) by omega)]))
        rw [fillL_one rfl rfl]
        (repeat (first | with_reducible refine run_seq ?_ | with_reducible refine run_reg ?_ | with_reducible refine run_block ?_ | with_reducible refine run_blk ?_ | with_reducible refine run_skip ?_ | with_reducible refine run_exit rfl ?_ | with_reducible refine run_drw ?_ | with_reducible refine run_condT ?_ | with_reducible refine run_ret' ?_ | with_reducible refine run_end' ?_ | simp only [go_sem, ↓reduceIte, Nat.reduceAdd, Nat.reduceEqDiff, Nat.reduceBEq, reduceCtorEq, Int.reduceBEq, Int.reduceBNe, Int.reduceLT, Int.reduceLE]))
        refine bslT fun q w1 hq hs1 hat1 ho1 => ?_
        (repeat (first | with_reducible refine run_seq ?_ | with_reducible refine run_reg ?_ | with_reducible refine run_block ?_ | with_reducible refine run_blk ?_ | with_reducible refine run_skip ?_ | with_reducible refine run_exit rfl ?_ | with_reducible refine run_drw ?_ | with_reducible refine run_condT ?_ | with_reducible refine run_ret' ?_ | with_reducible refine run_end' ?_ | simp only [go_sem, ↓reduceIte, Nat.reduceAdd, Nat.reduceEqDiff, Nat.reduceBEq, reduceCtorEq, Int.reduceBEq, Int.reduceBNe, Int.reduceLT, Int.reduceLE]))
        refine appT (hp.h2.keep0 ho1) (SrcIs.at hat1 rfl) (by simp [oneC]) (by omega) (by omega) ?_
        intro v' w2 fp' hs2 hfp ho2 _
        obtain ⟨n1, n2, n3, n4, n5, n6, n7, n8, n9, n10, n11⟩ := rnd hp.nd
        have hb2 := (hp.hb.keep0 ho1).keep ho2 n4
        (repeat (first | with_reducible refine run_seq ?_ | with_reducible refine run_reg ?_ | with_reducible refine run_block ?_ | with_reducible refine run_blk ?_ | with_reducible refine run_skip ?_ | with_reducible refine run_exit rfl ?_ | with_reducible refine run_drw ?_ | with_reducible refine run_condT ?_ | with_reducible refine run_ret' ?_ | with_reducible refine run_end' ?_ | simp only [go_sem, ↓reduceIte, Nat.reduceAdd, Nat.reduceEqDiff, Nat.reduceBEq, reduceCtorEq, Int.reduceBEq, Int.reduceBNe, Int.reduceLT, Int.reduceLE]))
        refine stT hb2 (by simp) hs2.oneC fun w3 hs3 hat3 ho3 => ?_
        (repeat (first | with_reducible refine run_seq ?_ | with_reducible refine run_reg ?_ | with_reducible refine run_block ?_ | with_reducible refine run_blk ?_ | with_reducible refine run_skip ?_ | with_reducible refine run_exit rfl ?_ | with_reducible refine run_drw ?_ | with_reducible refine run_condT ?_ | with_reducible refine run_ret' ?_ | with_reducible refine run_end' ?_ | simp only [go_sem, ↓reduceIte, Nat.reduceAdd, Nat.reduceEqDiff, Nat.reduceBEq, reduceCtorEq, Int.reduceBEq, Int.reduceBNe, Int.reduceLT, Int.reduceLE]))
        have hlt := hp.hb.lt
        have hmem : ∀ x, x ∈ fp' → x ∈ fq ∨ w.heap.size ≤ x := by
          intro x hx
          rcases hfp with rfl | rfl
          · exact .inl hx
          · simp only [List.mem_singleton] at hx; right; omega
        have hbf : b ∉ fp' := fun hx => (hmem b hx).elim n4 (fun h => by omega)
        have hO : Only (b :: fq) w w3 := (ho1.of_nil.same (ho2.mono fun x hx => .inl (by simp [hx]))).same (ho3.mono fun x hx => .inl (by simp only [List.mem_singleton] at hx; simp [hx]))
        have hq3 : Sl w3 1 v' (s.Q ++ [y]).length (ints (s.Q ++ [y])) fp' := by
          rw [ints_append, List.length_append]
          exact hs2.keep ho3 fun x hx hx2 => by simp only [List.mem_singleton] at hx2; subst hx2; exact hbf hx
        have hp3 := hp.turn (q := s.Q ++ [y]) (by simp; omega) hq3 hat3 hO hmem
        rw [show pushO (some s) y = (0, some { s with Q := s.Q ++ [y] }) by simp [pushO, c1, c2]]
        refine ⟨rfl, hO.mono fun x hx => .inl ?_, _, ⟨b, rfl, hp3⟩, fun x hx => ?_⟩
        · simp only [List.mem_cons] at hx
          rcases hx with rfl | hx <;> simp_all
        · simp only [List.mem_cons, List.mem_append] at hx ⊢
          rcases hx with rfl | hx | hx | hx | hx
          · exact .inl (.inl rfl)
          · exact .inl (.inr (.inl hx))
          · exact .inl (.inr (.inr (.inl hx)))
          · exact .inl (.inr (.inr (.inr (.inl hx))))
          · exact (hmem x hx).imp (fun h => .inr (.inr (.inr (.inr h)))) id

theorem rPop {w : World} {a : Option Addr} {fp : List Nat} {m : MO} (h : RR w a fp m) : Cs Try.prog 42 [.pointer a] w fun v w' => v = .tuple #[.int .i64 (popO m).1.1, .int .i64 (popO m).1.2] ∧ Only fp w w' ∧ ∃ fp', RR w' a fp' (popO m).2 ∧ ∀ x, x ∈ fp' → x ∈ fp ∨ w.heap.size ≤ x := by
  refine enter_ref03_Roots_Pop rfl ?_
  unfold x_ref03_Roots_Pop
  (repeat (first | with_reducible refine run_seq ?_ | with_reducible refine run_reg ?_ | with_reducible refine run_block ?_ | with_reducible refine run_blk ?_ | with_reducible refine run_skip ?_ | with_reducible refine run_exit rfl ?_ | with_reducible refine run_drw ?_ | with_reducible refine run_condT ?_ | with_reducible refine run_ret' ?_ | with_reducible refine run_end' ?_ | simp only [go_sem, ↓reduceIte, Nat.reduceAdd, Nat.reduceEqDiff, Nat.reduceBEq, reduceCtorEq, Int.reduceBEq, Int.reduceBNe, Int.reduceLT, Int.reduceLE]))
  refine callT0 (rmade h) ?_
  match m, h with
  | none, h =>
    (repeat (first | with_reducible refine run_seq ?_ | with_reducible refine run_reg ?_ | with_reducible refine run_block ?_ | with_reducible refine run_blk ?_ | with_reducible refine run_skip ?_ | with_reducible refine run_exit rfl ?_ | with_reducible refine run_drw ?_ | with_reducible refine run_condT ?_ | with_reducible refine run_ret' ?_ | with_reducible refine run_end' ?_ | simp only [go_sem, ↓reduceIte, Nat.reduceAdd, Nat.reduceEqDiff, Nat.reduceBEq, reduceCtorEq, Int.reduceBEq, Int.reduceBNe, Int.reduceLT, Int.reduceLE, Option.isSome_none]))
    exact ⟨rfl, Only.refl _ _, fp, h, fun x hx => .inl hx⟩
  | some s, ⟨b, hb, vs, vg, vq, fs, rows, fg, fq, hfp, hp⟩ =>
    subst hb
    subst hfp
    have h0 : RR w (some ⟨b, 0, none⟩) (b :: (fs ++ (rows.map (·.1) ++ (fg ++ fq)))) (some s) := ⟨b, rfl, vs, vg, vq, fs, rows, fg, fq, rfl, hp⟩
    obtain ⟨M, S, G, Q⟩ := s
    cases Q with
    | nil =>
      obtain ⟨aq, cq, hvq⟩ := hp.h2.val
      subst hvq
      (repeat (first | with_reducible refine run_seq ?_ | with_reducible refine run_reg ?_ | with_reducible refine run_block ?_ | with_reducible refine run_blk ?_ | with_reducible refine run_skip ?_ | with_reducible refine run_exit rfl ?_ | with_reducible refine run_drw ?_ | with_reducible refine run_condT ?_ | with_reducible refine run_ret' ?_ | with_reducible refine run_end' ?_ | simp only [go_sem, ↓reduceIte, Nat.reduceAdd, Nat.reduceEqDiff, Nat.reduceBEq, reduceCtorEq, Int.reduceBEq, Int.reduceBNe, Int.reduceLT, Int.reduceLE, Option.isSome_some, hp.hb.cell, beq_int_true (show ((0 : Nat) : Int) = 0 by rfl)]))
      rw [show popO (some ⟨M, S, G, []⟩) = ((0, 4), some ⟨M, S, G, []⟩) from rfl]
      exact ⟨rfl, Only.refl _ _, _, h0, fun x hx => .inl (by simpa using hx)⟩
    | cons x q =>
      obtain ⟨g, cap, ys, hv, hg, hfq, hcap⟩ := hp.h2.pos (by simp)
      subst hv
      subst hfq
      have hlen : (x :: q).length = q.length + 1 := rfl
      have c1 : ¬ ((((x :: q).length : Nat) : Int) = 0) := by rw [hlen]; omega
      have c2 : (0 : Int) < (((x :: q).length : Nat) : Int) := by rw [hlen]; omega
      have hget : (ints (x :: q) ++ ys)[0]? = some (.int .i64 x) := rfl
      have hlq := hp.ok.lq
      simp only at hlq hcap
      have hz : (0 : Int).toNat * 1 = 0 := rfl
      have hpb := hp.hb
      simp only at hpb
      generalize hL : (x :: q).length = L at *
      (repeat (first | with_reducible refine run_seq ?_ | with_reducible refine run_reg ?_ | with_reducible refine run_block ?_ | with_reducible refine run_blk ?_ | with_reducible refine run_skip ?_ | with_reducible refine run_exit rfl ?_ | with_reducible refine run_drw ?_ | with_reducible refine run_condT ?_ | with_reducible refine run_ret' ?_ | with_reducible refine run_end' ?_ | simp only [go_sem, ↓reduceIte, Nat.reduceAdd, Nat.reduceEqDiff, Nat.reduceBEq, reduceCtorEq, Int.reduceBEq, Int.reduceBNe, Int.reduceLT, Int.reduceLE, Option.isSome_some, hpb.cell, beq_int_false c1, if_pos c2, hz, hg.cell, hget]))
      refine bslT fun q1 w1 hq1 hs1 hat1 ho1 => ?_
      have hb1 := hpb.keep0 ho1
      (repeat (first | with_reducible refine run_seq ?_ | with_reducible refine run_reg ?_ | with_reducible refine run_block ?_ | with_reducible refine run_blk ?_ | with_reducible refine run_skip ?_ | with_reducible refine run_exit rfl ?_ | with_reducible refine run_drw ?_ | with_reducible refine run_condT ?_ | with_reducible refine run_ret' ?_ | with_reducible refine run_end' ?_ | simp only [go_sem, ↓reduceIte, Nat.reduceAdd, Nat.reduceEqDiff, Nat.reduceBEq, reduceCtorEq, Int.reduceBEq, Int.reduceBNe, Int.reduceLT, Int.reduceLE, hb1.cell, slcO_1 (show 1 ≤ L by omega) hcap]))
      refine appT (Sl.empty1 hat1) (m := q.length) (us := ints q) ?_ ints_one (by omega) (by omega) ?_
      · have := (src_tail hg hlen hcap).keep0 ho1
        rw [show L - 1 = q.length by omega] at this ⊢
        exact this
      intro v' w2 fp' hs2 hf2 ho2 _
      obtain ⟨n1, n2, n3, n4, n5, n6, n7, n8, n9, n10, n11⟩ := rnd hp.nd
      have hltb := hpb.lt
      have hb2 := hb1.keep ho2 (by simp only [List.mem_singleton]; omega)
      (repeat (first | with_reducible refine run_seq ?_ | with_reducible refine run_reg ?_ | with_reducible refine run_block ?_ | with_reducible refine run_blk ?_ | with_reducible refine run_skip ?_ | with_reducible refine run_exit rfl ?_ | with_reducible refine run_drw ?_ | with_reducible refine run_condT ?_ | with_reducible refine run_ret' ?_ | with_reducible refine run_end' ?_ | simp only [go_sem, ↓reduceIte, Nat.reduceAdd, Nat.reduceEqDiff, Nat.reduceBEq, reduceCtorEq, Int.reduceBEq, Int.reduceBNe, Int.reduceLT, Int.reduceLE]))
      refine stT hb2 (by simp) hs2.oneC fun w3 hs3 hat3 ho3 => ?_
      (repeat (first | with_reducible refine run_seq ?_ | with_reducible refine run_reg ?_ | with_reducible refine run_block ?_ | with_reducible refine run_blk ?_ | with_reducible refine run_skip ?_ | with_reducible refine run_exit rfl ?_ | with_reducible refine run_drw ?_ | with_reducible refine run_condT ?_ | with_reducible refine run_ret' ?_ | with_reducible refine run_end' ?_ | simp only [go_sem, ↓reduceIte, Nat.reduceAdd, Nat.reduceEqDiff, Nat.reduceBEq, reduceCtorEq, Int.reduceBEq, Int.reduceBNe, Int.reduceLT, Int.reduceLE]))
      have hnew : ∀ x, x ∈ fp' → w.heap.size ≤ x := fun x hx => by rcases hf2 with rfl | rfl <;> simp only [List.mem_singleton] at hx <;> omega
      have hbf : b ∉ fp' := fun hx => by have := hnew b hx; omega
      have hO : Only (b :: [g]) w w3 := ((ho1.of_nil (T := b :: [g])).trans ho2 fun x hx => .inr (by simp only [List.mem_singleton] at hx; omega)).same (ho3.mono fun x hx => .inl (by simp only [List.mem_singleton] at hx; simp [hx]))
      have hq3 : Sl w3 1 v' q.length (ints q) fp' := by
        have := hs2.keep ho3 fun x hx hx2 => by simp only [List.mem_singleton] at hx2; subst hx2; exact hbf hx
        simpa using this
      subst hL
      have hp3 := hp.turn (q := q) (by simp at hlq; omega) hq3 hat3 hO (fun x hx => .inr (hnew x hx))
      rw [show popO (some ⟨M, S, G, x :: q⟩) = ((x, 0), some ⟨M, S, G, q⟩) from rfl]
      refine ⟨rfl, hO.mono fun x hx => .inl ?_, _, ⟨b, rfl, hp3⟩, fun x hx => ?_⟩
      · simp only [List.mem_cons, List.not_mem_nil, or_false] at hx
        rcases hx with rfl | rfl <;> simp
      · simp only [List.mem_cons, List.mem_append] at hx ⊢
        rcases hx with rfl | hx | hx | hx | hx
        · exact .inl (.inl rfl)
        · exact .inl (.inr (.inl hx))
        · exact .inl (.inr (.inr (.inl hx)))
        · exact .inl (.inr (.inr (.inr (.inl hx))))
        · exact .inr (hnew x hx)

/-- rows on the way: t rows are there -/
structure RowsAt (w : World) (n0 : Nat) (S : List Int) (t : Nat) (v : Value) (rows : List (Nat × Nat)) (fs : List Nat) : Prop where
  len : rows.length = t
  nd : (fs ++ rows.map (·.1)).Nodup
  sl : Sl w 1 v t (rowsV rows) fs
  hr : ∀ u, u < t → ∃ ys, At w (rows.getD u (0, 0)).1 (ints (rowS S u) ++ ys)
  new : ∀ x, x ∈ fs ++ rows.map (·.1) → n0 ≤ x
theorem RowsAt.keep {w w' : World} {n0 t : Nat} {S : List Int} {v : Value} {rows : List (Nat × Nat)} {fs T : List Nat} (h : RowsAt w n0 S t v rows fs) (k : Only T w w') (hd : ∀ x, x ∈ fs ++ rows.map (·.1) → x ∉ T) : RowsAt w' n0 S t v rows fs :=
  ⟨h.len, h.nd, h.sl.keep k fun x hx => hd x (by simp [hx]), fun u hu => let ⟨ys, hy⟩ := h.hr u hu; ⟨ys, hy.keep k (hd _ (by rw [List.mem_append]; exact .inr (getD_mem (by rw [h.len]; exact hu))))⟩, h.new⟩
theorem RowsAt.keep0 {w w' : World} {n0 t : Nat} {S : List Int} {v : Value} {rows : List (Nat × Nat)} {fs : List Nat} (h : RowsAt w n0 S t v rows fs) (k : Only [] w w') : RowsAt w' n0 S t v rows fs := h.keep k fun _ _ => by simp
theorem RowsAt.zero (w : World) (n0 : Nat) (S : List Int) : RowsAt w n0 S 0 (.slice none 0 0) [] [] := ⟨rfl, by simp, Sl.nil1 w, fun u hu => absurd hu (by omega), by simp⟩
theorem RowsAt.lt {w : World} {n0 t : Nat} {S : List Int} {v : Value} {rows : List (Nat × Nat)} {fs : List Nat} (h : RowsAt w n0 S t v rows fs) : ∀ x, x ∈ fs ++ rows.map (·.1) → x < w.heap.size := by
  intro x hx
  rcases List.mem_append.1 hx with hx | hx
  · exact h.sl.lt x hx
  · rw [List.mem_map] at hx
    obtain ⟨r, hr, rfl⟩ := hx
    obtain ⟨u, hu, rfl⟩ := List.mem_iff_getElem.1 hr
    obtain ⟨ys, hy⟩ := h.hr u (by rw [← h.len]; exact hu)
    have := hy.lt
    simpa [hu] using this
/-- one row more -/
theorem RowsAt.snoc {w w' : World} {n0 t g c : Nat} {S : List Int} {v v' : Value} {rows : List (Nat × Nat)} {fs fs' : List Nat} {ys : List Value} (h : RowsAt w n0 S t v rows fs) (hs : Sl w' 1 v' (t + 1) (rowsV rows ++ [.slice (some ⟨g, 0, none⟩) 16 c]) fs') (hf : fs' = fs ∨ fs' = [w.heap.size])
    (ho : Only fs w w') (hg : At w g (ints (rowS S t) ++ ys)) (hgn : g ∉ fs ++ rows.map (·.1)) (hg0 : n0 ≤ g) (h0 : n0 ≤ w.heap.size) : RowsAt w' n0 S (t + 1) v' (rows ++ [(g, c)]) fs' := by
  have hlt := h.lt
  have hglt := hg.lt
  simp only [List.mem_append, not_or] at hgn
  have hnd := h.nd
  rw [List.nodup_append] at hnd
  obtain ⟨nd1, nd2, nd3⟩ := hnd
  have hf' : ∀ x, x ∈ fs' → x ∈ fs ∨ x = w.heap.size := by
    intro x hx
    rcases hf with rfl | rfl
    · exact .inl hx
    · simp only [List.mem_singleton] at hx; exact .inr hx
  refine ⟨by simp [h.len], ?_, by simpa [rowsV] using hs, fun u hu => ?_, fun x hx => ?_⟩
  · rw [List.nodup_append]
    refine ⟨hs.nodup, ?_, fun x hx y hy e => ?_⟩
    · rw [List.map_append, List.nodup_append]
      refine ⟨nd2, by simp, fun x hx y hy e => ?_⟩
      simp only [List.map_cons, List.map_nil, List.mem_singleton] at hy
      subst hy; subst e; exact hgn.2 hx
    · subst e
      rw [List.map_append, List.mem_append] at hy
      rcases hf' x hx with h1 | h1
      · rcases hy with hy | hy
        · exact nd3 x h1 x hy rfl
        · simp only [List.map_cons, List.map_nil, List.mem_singleton] at hy; subst hy; exact hgn.1 h1
      · rcases hy with hy | hy
        · have := hlt x (by simp only [List.mem_append]; exact .inr hy); omega
        · simp only [List.map_cons, List.map_nil, List.mem_singleton] at hy; omega
  · by_cases e : u < t
    · obtain ⟨zs, hz⟩ := h.hr u e
      have e1 : (rows ++ [(g, c)]).getD u (0, 0) = rows.getD u (0, 0) := by simp [List.getElem?_append_left (show u < rows.length by rw [h.len]; exact e)]
      rw [e1]
      refine ⟨zs, hz.keep ho fun hx => ?_⟩
      exact nd3 _ hx _ (getD_mem (by rw [h.len]; exact e)) rfl
    · have : u = t := by omega
      subst this
      have e1 : (rows ++ [(g, c)]).getD u (0, 0) = (g, c) := by simp [← h.len]
      rw [e1]
      exact ⟨ys, hg.keep ho hgn.1⟩
  · rw [List.map_append, ← List.append_assoc] at hx
    simp only [List.mem_append, List.map_cons, List.map_nil, List.mem_singleton] at hx
    rcases hx with (hx | hx) | hx
    · rcases hf' x hx with h1 | h1
      · exact h.new x (by simp [h1])
      · omega
    · exact h.new x (by simp only [List.mem_append]; exact .inr hx)
    · omega
end Go.Proofs.Ytblfmacnkacalaa
