/- Roots: the program's functions but those that go over all places. -/
import Derived.Test.YtblfmacnkacalaaRtA
namespace Go.Proofs.Ytblfmacnkacalaa
set_option linter.unusedSimpArgs false
set_option linter.unusedVariables false
set_option maxRecDepth 8000

theorem cell_lt {w : World} {a : Addr} {v : Value} (h : w.cell? a = some v) : a.block < w.heap.size := World.block_lt_of_cell? w a h
theorem lt_of_get {xs : List Value} {i : Nat} {v : Value} (h : xs[i]? = some v) : i < xs.length := (List.getElem?_eq_some_iff.1 h).1
theorem SrcIs.keep0 {w w' : World} {sz m : Nat} {v : Value} {us : List Value} (h : SrcIs w sz v m us) (k : Only [] w w') : SrcIs w' sz v m us := by
  refine ⟨h.1, ?_⟩
  rcases h.2 with h1 | ⟨p, c, h1, h2⟩
  · exact .inl h1
  · refine .inr ⟨p, c, h1, ?_⟩
    rcases Nat.eq_zero_or_pos (m * sz) with h0 | h0
    · rw [h0] at h2 ⊢; exact h2
    · have := (cellsAt_spec h2).2 0 h0
      obtain ⟨u, hu⟩ : ∃ u, us[0]? = some u := ⟨us[0]'(by have := h.1; omega), List.getElem?_eq_getElem _⟩
      rw [hu] at this
      have hlt := cell_lt this
      rw [add_block] at hlt
      rw [cellsAt_heap (k.block p.block hlt (by simp))]
      exact h2
theorem SrcIs.val {w : World} {sz m : Nat} {v : Value} {us : List Value} (h : SrcIs w sz v m us) : ∃ (a : Option Addr) (c : Nat), v = .slice a m c ∧ (a = none → m = 0) := by
  rcases h.2 with ⟨c, h1, h2⟩ | ⟨p, c, h1, h2⟩
  · subst h2; exact ⟨none, c, h1, fun _ => rfl⟩
  · exact ⟨some p, c, h1, fun h => by cases h⟩

theorem sclone {w : World} {v : Value} {m : Nat} {us : List Value} (h : SrcIs w 1 v m us) (h1 : ∀ u, u ∈ us → oneC u = true) (hm : m ≤ 100000) : Cs Try.prog 39 [v] w fun r w' => Only [] w w' ∧ ∃ fp, Sl w' 1 r m us fp ∧ ∀ x, x ∈ fp → w.heap.size ≤ x := by
  refine enter_slices_Clone___int_int_ rfl ?_
  unfold x_slices_Clone___int_int_
  obtain ⟨a, c, rfl, h0⟩ := h.val
  cases a with
  | none =>
    have : m = 0 := h0 rfl
    subst this
    have : us = [] := List.eq_nil_of_length_eq_zero (by simpa using h.1)
    subst this
    (repeat (first | with_reducible refine run_seq ?_ | with_reducible refine run_reg ?_ | with_reducible refine run_block ?_ | with_reducible refine run_blk ?_ | with_reducible refine run_skip ?_ | with_reducible refine run_exit rfl ?_ | with_reducible refine run_drw ?_ | with_reducible refine run_condT ?_ | with_reducible refine run_ret' ?_ | with_reducible refine run_end' ?_ | simp only [go_sem, ↓reduceIte, Nat.reduceAdd, Nat.reduceEqDiff, Nat.reduceBEq, reduceCtorEq, Int.reduceBEq, Int.reduceBNe, Int.reduceLT, Int.reduceLE]))
    exact ⟨Only.refl _ _, [], Sl.nil1 w, by simp⟩
  | some p =>
    (repeat (first | with_reducible refine run_seq ?_ | with_reducible refine run_reg ?_ | with_reducible refine run_block ?_ | with_reducible refine run_blk ?_ | with_reducible refine run_skip ?_ | with_reducible refine run_exit rfl ?_ | with_reducible refine run_drw ?_ | with_reducible refine run_condT ?_ | with_reducible refine run_ret' ?_ | with_reducible refine run_end' ?_ | simp only [go_sem, ↓reduceIte, Nat.reduceAdd, Nat.reduceEqDiff, Nat.reduceBEq, reduceCtorEq, Int.reduceBEq, Int.reduceBNe, Int.reduceLT, Int.reduceLE]))
    refine bslT fun q w1 hq hs1 hat1 ho1 => ?_
    (repeat (first | with_reducible refine run_seq ?_ | with_reducible refine run_reg ?_ | with_reducible refine run_block ?_ | with_reducible refine run_blk ?_ | with_reducible refine run_skip ?_ | with_reducible refine run_exit rfl ?_ | with_reducible refine run_drw ?_ | with_reducible refine run_condT ?_ | with_reducible refine run_ret' ?_ | with_reducible refine run_end' ?_ | simp only [go_sem, ↓reduceIte, Nat.reduceAdd, Nat.reduceEqDiff, Nat.reduceBEq, reduceCtorEq, Int.reduceBEq, Int.reduceBNe, Int.reduceLT, Int.reduceLE]))
    refine appT (n := 0) (xs := []) (fp := [q]) (m := m) (us := us) ?_ (h.keep0 ho1) h1 (by omega) (by omega) ?_
    · have : ([] : List Value) ++ [] = [] := rfl
      exact Sl.mk1 (ys := []) hat1 rfl rfl
    intro v' w2 fp' hs2 hfp ho2 _
    (repeat (first | with_reducible refine run_seq ?_ | with_reducible refine run_reg ?_ | with_reducible refine run_block ?_ | with_reducible refine run_blk ?_ | with_reducible refine run_skip ?_ | with_reducible refine run_exit rfl ?_ | with_reducible refine run_drw ?_ | with_reducible refine run_condT ?_ | with_reducible refine run_ret' ?_ | with_reducible refine run_end' ?_ | simp only [go_sem, ↓reduceIte, Nat.reduceAdd, Nat.reduceEqDiff, Nat.reduceBEq, reduceCtorEq, Int.reduceBEq, Int.reduceBNe, Int.reduceLT, Int.reduceLE]))
    refine ⟨ho1.trans ho2 fun x hx => .inr ?_, fp', by simpa using hs2, ?_⟩
    · simp only [List.mem_singleton] at hx; omega
    · intro x hx
      rcases hfp with rfl | rfl
      · simp only [List.mem_singleton] at hx; omega
      · simp only [List.mem_singleton] at hx; omega

theorem place_m {w : World} {a : Option Addr} {fp : List Nat} {m : MO} (h : PR w a fp m) (p : PT) : Cs Try.prog 33 [.pointer a, .agg ⟨plV p⟩] w fun v w' => Only [] w w' ∧
    ((m = none ∧ v = .tuple #[.pointer none, .int .i64 5]) ∨ ∃ s, m = some s ∧ ((seg s p = none ∧ v = .tuple #[.pointer none, .int .i64 1]) ∨
      ∃ x b d, seg s p = some x ∧ a = some ⟨b, 0, none⟩ ∧ v = .tuple #[.pointer (some d), .int .i64 0] ∧ PlaceAt w' b s fp x d)) := by
  refine enter_roots_Roots_place rfl ?_
  unfold x_roots_Roots_place
  (repeat (first | with_reducible refine run_seq ?_ | with_reducible refine run_reg ?_ | with_reducible refine run_block ?_ | with_reducible refine run_blk ?_ | with_reducible refine run_skip ?_ | with_reducible refine run_exit rfl ?_ | with_reducible refine run_drw ?_ | with_reducible refine run_condT ?_ | with_reducible refine run_ret' ?_ | with_reducible refine run_end' ?_ | simp only [go_sem, ↓reduceIte, Nat.reduceAdd, Nat.reduceEqDiff, Nat.reduceBEq, reduceCtorEq, Int.reduceBEq, Int.reduceBNe, Int.reduceLT, Int.reduceLE]))
  refine boxT fun q w1 hq hs1 hat1 ho1 => ?_
  have h' := h.keep0 ho1
  (repeat (first | with_reducible refine run_seq ?_ | with_reducible refine run_reg ?_ | with_reducible refine run_block ?_ | with_reducible refine run_blk ?_ | with_reducible refine run_skip ?_ | with_reducible refine run_exit rfl ?_ | with_reducible refine run_drw ?_ | with_reducible refine run_condT ?_ | with_reducible refine run_ret' ?_ | with_reducible refine run_end' ?_ | simp only [go_sem, ↓reduceIte, Nat.reduceAdd, Nat.reduceEqDiff, Nat.reduceBEq, reduceCtorEq, Int.reduceBEq, Int.reduceBNe, Int.reduceLT, Int.reduceLE]))
  refine callT0 (made_m h') ?_
  match m, h, h' with
  | none, _, _ =>
    (repeat (first | with_reducible refine run_seq ?_ | with_reducible refine run_reg ?_ | with_reducible refine run_block ?_ | with_reducible refine run_blk ?_ | with_reducible refine run_skip ?_ | with_reducible refine run_exit rfl ?_ | with_reducible refine run_drw ?_ | with_reducible refine run_condT ?_ | with_reducible refine run_ret' ?_ | with_reducible refine run_end' ?_ | simp only [go_sem, ↓reduceIte, Nat.reduceAdd, Nat.reduceEqDiff, Nat.reduceBEq, reduceCtorEq, Int.reduceBEq, Int.reduceBNe, Int.reduceLT, Int.reduceLE, Option.isSome_none]))
    exact ho1
  | some s, _, ⟨b, hb, hp⟩ =>
    subst hb
    have hc : At w1 q [.int .i64 p.1, .int .i64 p.2.1, .int .i64 p.2.2] := hat1
    have hcs : cellsAt w1 ⟨q, 0, none⟩ 3 = some (plV p) := cellsAt_at hat1 0 3 (by simp [plV])
    (repeat (first | with_reducible refine run_seq ?_ | with_reducible refine run_reg ?_ | with_reducible refine run_block ?_ | with_reducible refine run_blk ?_ | with_reducible refine run_skip ?_ | with_reducible refine run_exit rfl ?_ | with_reducible refine run_drw ?_ | with_reducible refine run_condT ?_ | with_reducible refine run_ret' ?_ | with_reducible refine run_end' ?_ | simp only [go_sem, ↓reduceIte, Nat.reduceAdd, Nat.reduceEqDiff, Nat.reduceBEq, reduceCtorEq, Int.reduceBEq, Int.reduceBNe, Int.reduceLT, Int.reduceLE, Option.isSome_some, hcs]))
    refine callT (at_m hp p) ?_
    rintro v w2 ⟨ho2, ad, rfl, hsome, hx⟩
    cases e : seg s p with
    | none =>
      rw [e] at hsome
      cases ad with
      | some d => cases hsome
      | none =>
        (repeat (first | with_reducible refine run_seq ?_ | with_reducible refine run_reg ?_ | with_reducible refine run_block ?_ | with_reducible refine run_blk ?_ | with_reducible refine run_skip ?_ | with_reducible refine run_exit rfl ?_ | with_reducible refine run_drw ?_ | with_reducible refine run_condT ?_ | with_reducible refine run_ret' ?_ | with_reducible refine run_end' ?_ | simp only [go_sem, ↓reduceIte, Nat.reduceAdd, Nat.reduceEqDiff, Nat.reduceBEq, reduceCtorEq, Int.reduceBEq, Int.reduceBNe, Int.reduceLT, Int.reduceLE]))
        exact ⟨ho1.nil ho2, .inr ⟨s, rfl, .inl (by first | exact e | exact ⟨e, rfl⟩)⟩⟩
    | some x =>
      obtain ⟨d, rfl, hd⟩ := hx x e
      (repeat (first | with_reducible refine run_seq ?_ | with_reducible refine run_reg ?_ | with_reducible refine run_block ?_ | with_reducible refine run_blk ?_ | with_reducible refine run_skip ?_ | with_reducible refine run_exit rfl ?_ | with_reducible refine run_drw ?_ | with_reducible refine run_condT ?_ | with_reducible refine run_ret' ?_ | with_reducible refine run_end' ?_ | simp only [go_sem, ↓reduceIte, Nat.reduceAdd, Nat.reduceEqDiff, Nat.reduceBEq, reduceCtorEq, Int.reduceBEq, Int.reduceBNe, Int.reduceLT, Int.reduceLE]))
      exact ⟨ho1.nil ho2, .inr ⟨s, rfl, .inr ⟨x, b, d, e, rfl, rfl, hd⟩⟩⟩

theorem Get_m {w : World} {a : Option Addr} {fp : List Nat} {m : MO} (h : PR w a fp m) (p : PT) : Cs Try.prog 32 [.pointer a, .agg ⟨plV p⟩] w fun v w' => v = .tuple #[.int .i64 (getO m p).1, .int .i64 (getO m p).2] ∧ Only [] w w' := by
  refine enter_roots_Roots_Get rfl ?_
  unfold x_roots_Roots_Get
  (repeat (first | with_reducible refine run_seq ?_ | with_reducible refine run_reg ?_ | with_reducible refine run_block ?_ | with_reducible refine run_blk ?_ | with_reducible refine run_skip ?_ | with_reducible refine run_exit rfl ?_ | with_reducible refine run_drw ?_ | with_reducible refine run_condT ?_ | with_reducible refine run_ret' ?_ | with_reducible refine run_end' ?_ | simp only [go_sem, ↓reduceIte, Nat.reduceAdd, Nat.reduceEqDiff, Nat.reduceBEq, reduceCtorEq, Int.reduceBEq, Int.reduceBNe, Int.reduceLT, Int.reduceLE]))
  refine boxT fun q w1 hq hs1 hat1 ho1 => ?_
  have h' := h.keep0 ho1
  have hcs : cellsAt w1 ⟨q, 0, none⟩ 3 = some (plV p) := cellsAt_at hat1 0 3 (by simp [plV])
  (repeat (first | with_reducible refine run_seq ?_ | with_reducible refine run_reg ?_ | with_reducible refine run_block ?_ | with_reducible refine run_blk ?_ | with_reducible refine run_skip ?_ | with_reducible refine run_exit rfl ?_ | with_reducible refine run_drw ?_ | with_reducible refine run_condT ?_ | with_reducible refine run_ret' ?_ | with_reducible refine run_end' ?_ | simp only [go_sem, ↓reduceIte, Nat.reduceAdd, Nat.reduceEqDiff, Nat.reduceBEq, reduceCtorEq, Int.reduceBEq, Int.reduceBNe, Int.reduceLT, Int.reduceLE, hcs]))
  refine callT (place_m h' p) ?_
  rintro v w2 ⟨ho2, ⟨rfl, rfl⟩ | ⟨s, rfl, ⟨e, rfl⟩ | ⟨x, b, d, e, rfl, rfl, hd⟩⟩⟩
  · (repeat (first | with_reducible refine run_seq ?_ | with_reducible refine run_reg ?_ | with_reducible refine run_block ?_ | with_reducible refine run_blk ?_ | with_reducible refine run_skip ?_ | with_reducible refine run_exit rfl ?_ | with_reducible refine run_drw ?_ | with_reducible refine run_condT ?_ | with_reducible refine run_ret' ?_ | with_reducible refine run_end' ?_ | simp only [go_sem, ↓reduceIte, Nat.reduceAdd, Nat.reduceEqDiff, Nat.reduceBEq, reduceCtorEq, Int.reduceBEq, Int.reduceBNe, Int.reduceLT, Int.reduceLE, bne_int_true (show ¬ (5 : Int) = 0 by omega)]))
    exact ⟨rfl, ho1.nil ho2⟩
  · (repeat (first | with_reducible refine run_seq ?_ | with_reducible refine run_reg ?_ | with_reducible refine run_block ?_ | with_reducible refine run_blk ?_ | with_reducible refine run_skip ?_ | with_reducible refine run_exit rfl ?_ | with_reducible refine run_drw ?_ | with_reducible refine run_condT ?_ | with_reducible refine run_ret' ?_ | with_reducible refine run_end' ?_ | simp only [go_sem, ↓reduceIte, Nat.reduceAdd, Nat.reduceEqDiff, Nat.reduceBEq, reduceCtorEq, Int.reduceBEq, Int.reduceBNe, Int.reduceLT, Int.reduceLE, bne_int_true (show ¬ (1 : Int) = 0 by omega)]))
    exact ⟨by simp only [getO, e], ho1.nil ho2⟩
  · obtain ⟨g, i, xs, rfl, hat, hget, hg, hset⟩ := hd
    (repeat (first | with_reducible refine run_seq ?_ | with_reducible refine run_reg ?_ | with_reducible refine run_block ?_ | with_reducible refine run_blk ?_ | with_reducible refine run_skip ?_ | with_reducible refine run_exit rfl ?_ | with_reducible refine run_drw ?_ | with_reducible refine run_condT ?_ | with_reducible refine run_ret' ?_ | with_reducible refine run_end' ?_ | simp only [go_sem, ↓reduceIte, Nat.reduceAdd, Nat.reduceEqDiff, Nat.reduceBEq, reduceCtorEq, Int.reduceBEq, Int.reduceBNe, Int.reduceLT, Int.reduceLE, bne_int_false (rfl : (0 : Int) = 0), hat.cell, hget]))
    exact ⟨by simp only [getO, e], ho1.nil ho2⟩

theorem Set_m {w : World} {a : Option Addr} {fp : List Nat} {m : MO} (h : PR w a fp m) (p : PT) (y : Int) : Cs Try.prog 14 [.pointer a, .agg ⟨plV p⟩, .int .i64 y] w fun v w' => v = .int .i64 (setO m p y).1 ∧ PR w' a fp (setO m p y).2 ∧ Only fp w w' ∧ ((setO m p y).1 ≠ 0 → Only [] w w') := by
  refine enter_roots_Roots_Set rfl ?_
  unfold x_roots_Roots_Set
  (repeat (first | with_reducible refine run_seq ?_ | with_reducible refine run_reg ?_ | with_reducible refine run_block ?_ | with_reducible refine run_blk ?_ | with_reducible refine run_skip ?_ | with_reducible refine run_exit rfl ?_ | with_reducible refine run_drw ?_ | with_reducible refine run_condT ?_ | with_reducible refine run_ret' ?_ | with_reducible refine run_end' ?_ | simp only [go_sem, ↓reduceIte, Nat.reduceAdd, Nat.reduceEqDiff, Nat.reduceBEq, reduceCtorEq, Int.reduceBEq, Int.reduceBNe, Int.reduceLT, Int.reduceLE]))
  refine boxT fun q w1 hq hs1 hat1 ho1 => ?_
  have h' := h.keep0 ho1
  have hcs : cellsAt w1 ⟨q, 0, none⟩ 3 = some (plV p) := cellsAt_at hat1 0 3 (by simp [plV])
  have hc : At w1 q [.int .i64 p.1, .int .i64 p.2.1, .int .i64 p.2.2] := hat1
  (repeat (first | with_reducible refine run_seq ?_ | with_reducible refine run_reg ?_ | with_reducible refine run_block ?_ | with_reducible refine run_blk ?_ | with_reducible refine run_skip ?_ | with_reducible refine run_exit rfl ?_ | with_reducible refine run_drw ?_ | with_reducible refine run_condT ?_ | with_reducible refine run_ret' ?_ | with_reducible refine run_end' ?_ | simp only [go_sem, ↓reduceIte, Nat.reduceAdd, Nat.reduceEqDiff, Nat.reduceBEq, reduceCtorEq, Int.reduceBEq, Int.reduceBNe, Int.reduceLT, Int.reduceLE, hcs]))
  refine callT (place_m h' p) ?_
  rintro v w2 ⟨ho2, ⟨rfl, rfl⟩ | ⟨s, rfl, ⟨e, rfl⟩ | ⟨x, b, d, e, rfl, rfl, hd⟩⟩⟩
  · (repeat (first | with_reducible refine run_seq ?_ | with_reducible refine run_reg ?_ | with_reducible refine run_block ?_ | with_reducible refine run_blk ?_ | with_reducible refine run_skip ?_ | with_reducible refine run_exit rfl ?_ | with_reducible refine run_drw ?_ | with_reducible refine run_condT ?_ | with_reducible refine run_ret' ?_ | with_reducible refine run_end' ?_ | simp only [go_sem, ↓reduceIte, Nat.reduceAdd, Nat.reduceEqDiff, Nat.reduceBEq, reduceCtorEq, Int.reduceBEq, Int.reduceBNe, Int.reduceLT, Int.reduceLE, bne_int_true (show ¬ (5 : Int) = 0 by omega)]))
    exact ⟨rfl, h'.keep0 ho2, (ho1.nil ho2).of_nil, fun _ => ho1.nil ho2⟩
  · (repeat (first | with_reducible refine run_seq ?_ | with_reducible refine run_reg ?_ | with_reducible refine run_block ?_ | with_reducible refine run_blk ?_ | with_reducible refine run_skip ?_ | with_reducible refine run_exit rfl ?_ | with_reducible refine run_drw ?_ | with_reducible refine run_condT ?_ | with_reducible refine run_ret' ?_ | with_reducible refine run_end' ?_ | simp only [go_sem, ↓reduceIte, Nat.reduceAdd, Nat.reduceEqDiff, Nat.reduceBEq, reduceCtorEq, Int.reduceBEq, Int.reduceBNe, Int.reduceLT, Int.reduceLE, bne_int_true (show ¬ (1 : Int) = 0 by omega)]))
    exact ⟨by simp only [setO, e], by simp only [setO, e]; exact h'.keep0 ho2, (ho1.nil ho2).of_nil, fun _ => ho1.nil ho2⟩
  · obtain ⟨g, i, xs, rfl, hat, hget, hg, hset⟩ := hd
    have hc2 := hc.keep0 ho2
    have bad : badA p y = true → (setO (some s) p y) = (1, some s) := fun hb => by simp only [setO, e, hb, if_true]
    have good : badA p y = false → (setO (some s) p y) = (0, some (s.wr x y)) := fun hb => by simp only [setO, e, hb, Bool.false_eq_true, if_false]
    have fin : badA p y = false → ∀ w', At w' g (xs.set i (.int .i64 y)) → Only [g] w2 w' → (Value.int .i64 0) = .int .i64 (setO (some s) p y).1 ∧ PR w' (some ⟨b, 0, none⟩) fp (setO (some s) p y).2 ∧ Only fp w w' ∧ ((setO (some s) p y).1 ≠ 0 → Only [] w w') := by
      intro hb w' hat' ho'
      rw [good hb]
      exact ⟨rfl, ⟨b, rfl, hset y w' hat' ho'⟩, (ho1.nil ho2).of_nil.same (ho'.mono fun x hx => by simp only [List.mem_singleton] at hx; subst hx; exact .inl hg), fun hne => absurd rfl hne⟩
    by_cases c1 : y < 0
    · (repeat (first | with_reducible refine run_seq ?_ | with_reducible refine run_reg ?_ | with_reducible refine run_block ?_ | with_reducible refine run_blk ?_ | with_reducible refine run_skip ?_ | with_reducible refine run_exit rfl ?_ | with_reducible refine run_drw ?_ | with_reducible refine run_condT ?_ | with_reducible refine run_ret' ?_ | with_reducible refine run_end' ?_ | simp only [go_sem, ↓reduceIte, Nat.reduceAdd, Nat.reduceEqDiff, Nat.reduceBEq, reduceCtorEq, Int.reduceBEq, Int.reduceBNe, Int.reduceLT, Int.reduceLE, bne_int_false (rfl : (0 : Int) = 0), decide_eq_true c1]))
      rw [bad (by simp [badA, c1])]
      exact ⟨rfl, h'.keep0 ho2, (ho1.nil ho2).of_nil, fun _ => ho1.nil ho2⟩
    · by_cases c2 : y = 0
      · by_cases c3 : p.1 = 2
        · (repeat (first | with_reducible refine run_seq ?_ | with_reducible refine run_reg ?_ | with_reducible refine run_block ?_ | with_reducible refine run_blk ?_ | with_reducible refine run_skip ?_ | with_reducible refine run_exit rfl ?_ | with_reducible refine run_drw ?_ | with_reducible refine run_condT ?_ | with_reducible refine run_ret' ?_ | with_reducible refine run_end' ?_ | simp only [go_sem, ↓reduceIte, Nat.reduceAdd, Nat.reduceEqDiff, Nat.reduceBEq, reduceCtorEq, Int.reduceBEq, Int.reduceBNe, Int.reduceLT, Int.reduceLE, bne_int_false (rfl : (0 : Int) = 0), decide_eq_false c1, beq_int_true c2, beq_int_true c3, hc2.cell]))
          rw [bad (by simp [badA, c2, c3])]
          exact ⟨rfl, h'.keep0 ho2, (ho1.nil ho2).of_nil, fun _ => ho1.nil ho2⟩
        · (repeat (first | with_reducible refine run_seq ?_ | with_reducible refine run_reg ?_ | with_reducible refine run_block ?_ | with_reducible refine run_blk ?_ | with_reducible refine run_skip ?_ | with_reducible refine run_exit rfl ?_ | with_reducible refine run_drw ?_ | with_reducible refine run_condT ?_ | with_reducible refine run_ret' ?_ | with_reducible refine run_end' ?_ | simp only [go_sem, ↓reduceIte, Nat.reduceAdd, Nat.reduceEqDiff, Nat.reduceBEq, reduceCtorEq, Int.reduceBEq, Int.reduceBNe, Int.reduceLT, Int.reduceLE, bne_int_false (rfl : (0 : Int) = 0), decide_eq_false c1, beq_int_true c2, beq_int_false c3, hc2.cell]))
          refine stT hat (lt_of_get hget) rfl fun w3 hs3 hat3 ho3 => ?_
          (repeat (first | with_reducible refine run_seq ?_ | with_reducible refine run_reg ?_ | with_reducible refine run_block ?_ | with_reducible refine run_blk ?_ | with_reducible refine run_skip ?_ | with_reducible refine run_exit rfl ?_ | with_reducible refine run_drw ?_ | with_reducible refine run_condT ?_ | with_reducible refine run_ret' ?_ | with_reducible refine run_end' ?_ | simp only [go_sem, ↓reduceIte, Nat.reduceAdd, Nat.reduceEqDiff, Nat.reduceBEq, reduceCtorEq, Int.reduceBEq, Int.reduceBNe, Int.reduceLT, Int.reduceLE]))
          exact fin (by simp [badA, c1, c3]) w3 hat3 ho3
      · (repeat (first | with_reducible refine run_seq ?_ | with_reducible refine run_reg ?_ | with_reducible refine run_block ?_ | with_reducible refine run_blk ?_ | with_reducible refine run_skip ?_ | with_reducible refine run_exit rfl ?_ | with_reducible refine run_drw ?_ | with_reducible refine run_condT ?_ | with_reducible refine run_ret' ?_ | with_reducible refine run_end' ?_ | simp only [go_sem, ↓reduceIte, Nat.reduceAdd, Nat.reduceEqDiff, Nat.reduceBEq, reduceCtorEq, Int.reduceBEq, Int.reduceBNe, Int.reduceLT, Int.reduceLE, bne_int_false (rfl : (0 : Int) = 0), decide_eq_false c1, beq_int_false c2, hc2.cell]))
        refine stT hat (lt_of_get hget) rfl fun w3 hs3 hat3 ho3 => ?_
        (repeat (first | with_reducible refine run_seq ?_ | with_reducible refine run_reg ?_ | with_reducible refine run_block ?_ | with_reducible refine run_blk ?_ | with_reducible refine run_skip ?_ | with_reducible refine run_exit rfl ?_ | with_reducible refine run_drw ?_ | with_reducible refine run_condT ?_ | with_reducible refine run_ret' ?_ | with_reducible refine run_end' ?_ | simp only [go_sem, ↓reduceIte, Nat.reduceAdd, Nat.reduceEqDiff, Nat.reduceBEq, reduceCtorEq, Int.reduceBEq, Int.reduceBNe, Int.reduceLT, Int.reduceLE]))
        exact fin (by simp [badA, c1, c2]) w3 hat3 ho3

theorem Mutators_m {w : World} {a : Option Addr} {fp : List Nat} {m : MO} (h : PR w a fp m) : Cs Try.prog 30 [.pointer a] w fun v w' => v = .int .i64 (mutO m) ∧ w' = w := by
  refine enter_roots_Roots_Mutators rfl ?_
  unfold x_roots_Roots_Mutators
  (repeat (first | with_reducible refine run_seq ?_ | with_reducible refine run_reg ?_ | with_reducible refine run_block ?_ | with_reducible refine run_blk ?_ | with_reducible refine run_skip ?_ | with_reducible refine run_exit rfl ?_ | with_reducible refine run_drw ?_ | with_reducible refine run_condT ?_ | with_reducible refine run_ret' ?_ | with_reducible refine run_end' ?_ | simp only [go_sem, ↓reduceIte, Nat.reduceAdd, Nat.reduceEqDiff, Nat.reduceBEq, reduceCtorEq, Int.reduceBEq, Int.reduceBNe, Int.reduceLT, Int.reduceLE]))
  refine callT0 (made_m h) ?_
  match m, h with
  | none, _ =>
    (repeat (first | with_reducible refine run_seq ?_ | with_reducible refine run_reg ?_ | with_reducible refine run_block ?_ | with_reducible refine run_blk ?_ | with_reducible refine run_skip ?_ | with_reducible refine run_exit rfl ?_ | with_reducible refine run_drw ?_ | with_reducible refine run_condT ?_ | with_reducible refine run_ret' ?_ | with_reducible refine run_end' ?_ | simp only [go_sem, ↓reduceIte, Nat.reduceAdd, Nat.reduceEqDiff, Nat.reduceBEq, reduceCtorEq, Int.reduceBEq, Int.reduceBNe, Int.reduceLT, Int.reduceLE, Option.isSome_none]))
    rfl
  | some s, ⟨b, hb, vs, vg, vq, fs, fg, fq, _, hp⟩ =>
    subst hb
    (repeat (first | with_reducible refine run_seq ?_ | with_reducible refine run_reg ?_ | with_reducible refine run_block ?_ | with_reducible refine run_blk ?_ | with_reducible refine run_skip ?_ | with_reducible refine run_exit rfl ?_ | with_reducible refine run_drw ?_ | with_reducible refine run_condT ?_ | with_reducible refine run_ret' ?_ | with_reducible refine run_end' ?_ | simp only [go_sem, ↓reduceIte, Nat.reduceAdd, Nat.reduceEqDiff, Nat.reduceBEq, reduceCtorEq, Int.reduceBEq, Int.reduceBNe, Int.reduceLT, Int.reduceLE, Option.isSome_some, hp.hb.cell]))
    rfl

theorem Queue_m {w : World} {a : Option Addr} {fp : List Nat} {m : MO} (h : PR w a fp m) : Cs Try.prog 23 [.pointer a] w fun v w' => Only [] w w' ∧ ∃ fp', Sl w' 1 v (queueO m).length (ints (queueO m)) fp' ∧ ∀ x, x ∈ fp' → w.heap.size ≤ x := by
  refine enter_roots_Roots_Queue rfl ?_
  unfold x_roots_Roots_Queue
  (repeat (first | with_reducible refine run_seq ?_ | with_reducible refine run_reg ?_ | with_reducible refine run_block ?_ | with_reducible refine run_blk ?_ | with_reducible refine run_skip ?_ | with_reducible refine run_exit rfl ?_ | with_reducible refine run_drw ?_ | with_reducible refine run_condT ?_ | with_reducible refine run_ret' ?_ | with_reducible refine run_end' ?_ | simp only [go_sem, ↓reduceIte, Nat.reduceAdd, Nat.reduceEqDiff, Nat.reduceBEq, reduceCtorEq, Int.reduceBEq, Int.reduceBNe, Int.reduceLT, Int.reduceLE]))
  refine callT0 (made_m h) ?_
  match m, h with
  | none, _ =>
    (repeat (first | with_reducible refine run_seq ?_ | with_reducible refine run_reg ?_ | with_reducible refine run_block ?_ | with_reducible refine run_blk ?_ | with_reducible refine run_skip ?_ | with_reducible refine run_exit rfl ?_ | with_reducible refine run_drw ?_ | with_reducible refine run_condT ?_ | with_reducible refine run_ret' ?_ | with_reducible refine run_end' ?_ | simp only [go_sem, ↓reduceIte, Nat.reduceAdd, Nat.reduceEqDiff, Nat.reduceBEq, reduceCtorEq, Int.reduceBEq, Int.reduceBNe, Int.reduceLT, Int.reduceLE, Option.isSome_none]))
    exact ⟨Only.refl _ _, [], Sl.nil1 w, by simp⟩
  | some s, ⟨b, hb, vs, vg, vq, fs, fg, fq, _, hp⟩ =>
    subst hb
    (repeat (first | with_reducible refine run_seq ?_ | with_reducible refine run_reg ?_ | with_reducible refine run_block ?_ | with_reducible refine run_blk ?_ | with_reducible refine run_skip ?_ | with_reducible refine run_exit rfl ?_ | with_reducible refine run_drw ?_ | with_reducible refine run_condT ?_ | with_reducible refine run_ret' ?_ | with_reducible refine run_end' ?_ | simp only [go_sem, ↓reduceIte, Nat.reduceAdd, Nat.reduceEqDiff, Nat.reduceBEq, reduceCtorEq, Int.reduceBEq, Int.reduceBNe, Int.reduceLT, Int.reduceLE, Option.isSome_some, hp.hb.cell]))
    refine callT (sclone hp.h2.src ints_one (by have := hp.ok.lq; omega)) ?_
    rintro v w' ⟨ho, fp', hs, hf⟩
    (repeat (first | with_reducible refine run_seq ?_ | with_reducible refine run_reg ?_ | with_reducible refine run_block ?_ | with_reducible refine run_blk ?_ | with_reducible refine run_skip ?_ | with_reducible refine run_exit rfl ?_ | with_reducible refine run_drw ?_ | with_reducible refine run_condT ?_ | with_reducible refine run_ret' ?_ | with_reducible refine run_end' ?_ | simp only [go_sem, ↓reduceIte, Nat.reduceAdd, Nat.reduceEqDiff, Nat.reduceBEq, reduceCtorEq, Int.reduceBEq, Int.reduceBNe, Int.reduceLT, Int.reduceLE]))
    exact ⟨ho, fp', hs, hf⟩

/-- a queue turned -/
theorem PMs.turn {w w' : World} {b : Nat} {s : MS} {vs vg vq vq' : Value} {fs fg fq fq' : List Nat} {q : List Int} (h : PMs w b s vs vg vq fs fg fq) (hl : q.length ≤ 64) (hq : Sl w' 1 vq' q.length (ints q) fq') (hb : At w' b [.int .i64 s.M, vs, vg, vq'])
    (ho : Only (b :: fq) w w') (hf : ∀ x, x ∈ fq' → x ∈ fq ∨ w.heap.size ≤ x) : PM w' b { s with Q := q } (b :: (fs ++ (fg ++ fq'))) := by
  have hnd := h.nd
  simp only [List.nodup_cons, List.mem_append, not_or, List.nodup_append] at hnd
  obtain ⟨⟨n1, n2, n3⟩, n4, ⟨n5, n6, n7⟩, n8⟩ := hnd
  have l0 := h.hb.lt
  refine ⟨vs, vg, vq', fs, fg, fq', rfl, ⟨⟨h.ok.m1, h.ok.m4, h.ok.ls, h.ok.lg, hl⟩, ?_, hb, h.h0.keep ho ?_, h.h1.keep ho ?_, hq⟩⟩
  · simp only [List.nodup_cons, List.mem_append, not_or, List.nodup_append]
    refine ⟨⟨n1, n2, fun hx => ?_⟩, n4, ⟨n5, hq.nodup, fun x hx y hy e => ?_⟩, fun x hx y hy e => ?_⟩
    · rcases hf b hx with hx | hx
      · exact n3 hx
      · omega
    · subst e
      rcases hf x hy with hy | hy
      · exact n7 x hx x hy rfl
      · have := h.h1.lt x hx; omega
    · subst e
      rcases hy with hy | hy
      · exact n8 x hx x (.inl hy) rfl
      · rcases hf x hy with hy | hy
        · exact n8 x hx x (.inr hy) rfl
        · have := h.h0.lt x hx; omega
  · intro x hx hx2
    simp only [List.mem_cons] at hx2
    rcases hx2 with rfl | hx2
    · exact n1 hx
    · exact n8 x hx x (.inr hx2) rfl
  · intro x hx hx2
    simp only [List.mem_cons] at hx2
    rcases hx2 with rfl | hx2
    · exact n2 hx
    · exact n7 x hx x hx2 rfl

theorem Push_m {w : World} {a : Option Addr} {fp : List Nat} {m : MO} (h : PR w a fp m) (y : Int) : Cs Try.prog 21 [.pointer a, .int .i64 y] w fun v w' => v = .int .i64 (pushO m y).1 ∧ Only fp w w' ∧ ((pushO m y).1 ≠ 0 → Only [] w w') ∧ ∃ fp', PR w' a fp' (pushO m y).2 ∧ ∀ x, x ∈ fp' → x ∈ fp ∨ w.heap.size ≤ x := by
  refine enter_roots_Roots_Push rfl ?_
  unfold x_roots_Roots_Push
  (repeat (first | with_reducible refine run_seq ?_ | with_reducible refine run_reg ?_ | with_reducible refine run_block ?_ | with_reducible refine run_blk ?_ | with_reducible refine run_skip ?_ | with_reducible refine run_exit rfl ?_ | with_reducible refine run_drw ?_ | with_reducible refine run_condT ?_ | with_reducible refine run_ret' ?_ | with_reducible refine run_end' ?_ | simp only [go_sem, ↓reduceIte, Nat.reduceAdd, Nat.reduceEqDiff, Nat.reduceBEq, reduceCtorEq, Int.reduceBEq, Int.reduceBNe, Int.reduceLT, Int.reduceLE]))
  refine callT0 (made_m h) ?_
  match m, h with
  | none, h =>
    (repeat (first | with_reducible refine run_seq ?_ | with_reducible refine run_reg ?_ | with_reducible refine run_block ?_ | with_reducible refine run_blk ?_ | with_reducible refine run_skip ?_ | with_reducible refine run_exit rfl ?_ | with_reducible refine run_drw ?_ | with_reducible refine run_condT ?_ | with_reducible refine run_ret' ?_ | with_reducible refine run_end' ?_ | simp only [go_sem, ↓reduceIte, Nat.reduceAdd, Nat.reduceEqDiff, Nat.reduceBEq, reduceCtorEq, Int.reduceBEq, Int.reduceBNe, Int.reduceLT, Int.reduceLE, Option.isSome_none]))
    exact ⟨rfl, Only.refl _ _, fun _ => Only.refl _ _, fp, h, fun x hx => .inl hx⟩
  | some s, ⟨b, hb, vs, vg, vq, fs, fg, fq, hfp, hp⟩ =>
    subst hb
    subst hfp
    have h0 : PR w (some ⟨b, 0, none⟩) (b :: (fs ++ (fg ++ fq))) (some s) := ⟨b, rfl, vs, vg, vq, fs, fg, fq, rfl, hp⟩
    obtain ⟨aq, cq, hvq⟩ := hp.h2.val
    subst hvq
    by_cases c1 : y ≤ 0
    · (repeat (first | with_reducible refine run_seq ?_ | with_reducible refine run_reg ?_ | with_reducible refine run_block ?_ | with_reducible refine run_blk ?_ | with_reducible refine run_skip ?_ | with_reducible refine run_exit rfl ?_ | with_reducible refine run_drw ?_ | with_reducible refine run_condT ?_ | with_reducible refine run_ret' ?_ | with_reducible refine run_end' ?_ | simp only [go_sem, ↓reduceIte, Nat.reduceAdd, Nat.reduceEqDiff, Nat.reduceBEq, reduceCtorEq, Int.reduceBEq, Int.reduceBNe, Int.reduceLT, Int.reduceLE, Option.isSome_some, decide_eq_true c1]))
      rw [show pushO (some s) y = (1, some s) by simp [pushO, c1]]
      exact ⟨rfl, Only.refl _ _, fun _ => Only.refl _ _, _, h0, fun x hx => .inl (by simpa using hx)⟩
    · by_cases c2 : s.Q.length = 64
      · (repeat (first | with_reducible refine run_seq ?_ | with_reducible refine run_reg ?_ | with_reducible refine run_block ?_ | with_reducible refine run_blk ?_ | with_reducible refine run_skip ?_ | with_reducible refine run_exit rfl ?_ | with_reducible refine run_drw ?_ | with_reducible refine run_condT ?_ | with_reducible refine run_ret' ?_ | with_reducible refine run_end' ?_ | simp only [go_sem, ↓reduceIte, Nat.reduceAdd, Nat.reduceEqDiff, Nat.reduceBEq, reduceCtorEq, Int.reduceBEq, Int.reduceBNe, Int.reduceLT, Int.reduceLE, Option.isSome_some, decide_eq_false c1, hp.hb.cell, beq_int_true (show (s.Q.length : Int) = 64 by omega)]))
        rw [show pushO (some s) y = (6, some s) by simp [pushO, c1, c2]]
        exact ⟨rfl, Only.refl _ _, fun _ => Only.refl _ _, _, h0, fun x hx => .inl (by simpa using hx)⟩
      · (repeat (first | with_reducible refine run_seq ?_ | with_reducible refine run_reg ?_ | with_reducible refine run_block ?_ | with_reducible refine run_blk ?_ | with_reducible refine run_skip ?_ | with_reducible refine run_exit rfl ?_ | with_reducible refine run_drw ?_ | with_reducible refine run_condT ?_ | with_reducible refine run_ret' ?_ | with_reducible refine run_end' ?_ | simp only [go_sem, ↓reduceIte, Nat.reduceAdd, Nat.reduceEqDiff, Nat.reduceBEq, reduceCtorEq, Int.reduceBEq, Int.reduceBNe, Int.reduceLT, Int.reduceLE, Option.isSome_some, decide_eq_false c1, hp.hb.cell, beq_int_false (show ¬ (s.Q.length : Int) = 64 by omega)]))
        rw [fillL_one rfl rfl]
        (repeat (first | with_reducible refine run_seq ?_ | with_reducible refine run_reg ?_ | with_reducible refine run_block ?_ | with_reducible refine run_blk ?_ | with_reducible refine run_skip ?_ | with_reducible refine run_exit rfl ?_ | with_reducible refine run_drw ?_ | with_reducible refine run_condT ?_ | with_reducible refine run_ret' ?_ | with_reducible refine run_end' ?_ | simp only [go_sem, ↓reduceIte, Nat.reduceAdd, Nat.reduceEqDiff, Nat.reduceBEq, reduceCtorEq, Int.reduceBEq, Int.reduceBNe, Int.reduceLT, Int.reduceLE]))
        refine bslT fun q w1 hq hs1 hat1 ho1 => ?_
        (repeat (first | with_reducible refine run_seq ?_ | with_reducible refine run_reg ?_ | with_reducible refine run_block ?_ | with_reducible refine run_blk ?_ | with_reducible refine run_skip ?_ | with_reducible refine run_exit rfl ?_ | with_reducible refine run_drw ?_ | with_reducible refine run_condT ?_ | with_reducible refine run_ret' ?_ | with_reducible refine run_end' ?_ | simp only [go_sem, ↓reduceIte, Nat.reduceAdd, Nat.reduceEqDiff, Nat.reduceBEq, reduceCtorEq, Int.reduceBEq, Int.reduceBNe, Int.reduceLT, Int.reduceLE]))
        refine appT (hp.h2.keep0 ho1) (SrcIs.at hat1 rfl) (by simp [oneC]) (by have := hp.ok.lq; omega) (by have := hp.ok.lq; omega) ?_
        intro v' w2 fp' hs2 hfp ho2 _
        have hbn : b ∉ fq := by have := hp.nd; simp only [List.nodup_cons, List.mem_append, not_or] at this; exact this.1.2.2
        have hb2 := (hp.hb.keep0 ho1).keep ho2 hbn
        obtain ⟨av, cv, hv'⟩ := hs2.val
        have hone : oneC v' = true := by rw [hv']; rfl
        (repeat (first | with_reducible refine run_seq ?_ | with_reducible refine run_reg ?_ | with_reducible refine run_block ?_ | with_reducible refine run_blk ?_ | with_reducible refine run_skip ?_ | with_reducible refine run_exit rfl ?_ | with_reducible refine run_drw ?_ | with_reducible refine run_condT ?_ | with_reducible refine run_ret' ?_ | with_reducible refine run_end' ?_ | simp only [go_sem, ↓reduceIte, Nat.reduceAdd, Nat.reduceEqDiff, Nat.reduceBEq, reduceCtorEq, Int.reduceBEq, Int.reduceBNe, Int.reduceLT, Int.reduceLE]))
        refine stT hb2 (by simp) hone fun w3 hs3 hat3 ho3 => ?_
        (repeat (first | with_reducible refine run_seq ?_ | with_reducible refine run_reg ?_ | with_reducible refine run_block ?_ | with_reducible refine run_blk ?_ | with_reducible refine run_skip ?_ | with_reducible refine run_exit rfl ?_ | with_reducible refine run_drw ?_ | with_reducible refine run_condT ?_ | with_reducible refine run_ret' ?_ | with_reducible refine run_end' ?_ | simp only [go_sem, ↓reduceIte, Nat.reduceAdd, Nat.reduceEqDiff, Nat.reduceBEq, reduceCtorEq, Int.reduceBEq, Int.reduceBNe, Int.reduceLT, Int.reduceLE]))
        have hlt := hp.hb.lt
        have hmem : ∀ x, x ∈ fp' → x ∈ fq ∨ w.heap.size ≤ x := by
          intro x hx
          rcases hfp with rfl | rfl
          · exact .inl hx
          · simp only [List.mem_singleton] at hx; right; omega
        have hbf : b ∉ fp' := by
          intro hx
          rcases hmem b hx with hx | hx
          · exact hbn hx
          · omega
        have hO : Only (b :: fq) w w3 := (ho1.of_nil.same (ho2.mono fun x hx => .inl (by simp [hx]))).same (ho3.mono fun x hx => .inl (by simp only [List.mem_singleton] at hx; simp [hx]))
        have hq3 : Sl w3 1 v' (s.Q ++ [y]).length (ints (s.Q ++ [y])) fp' := by
          rw [ints_append, List.length_append]
          exact hs2.keep ho3 fun x hx hx2 => by simp only [List.mem_singleton] at hx2; subst hx2; exact hbf hx
        have hp3 := hp.turn (q := s.Q ++ [y]) (by simp; have := hp.ok.lq; omega) hq3 hat3 hO hmem
        rw [show pushO (some s) y = (0, some { s with Q := s.Q ++ [y] }) by simp [pushO, c1, c2]]
        refine ⟨rfl, hO.mono fun x hx => .inl ?_, fun hne => absurd rfl hne, _, ⟨b, rfl, hp3⟩, fun x hx => ?_⟩
        · simp only [List.mem_cons] at hx
          rcases hx with rfl | hx <;> simp_all
        · simp only [List.mem_cons, List.mem_append] at hx ⊢
          rcases hx with rfl | hx | hx | hx
          · exact .inl (.inl rfl)
          · exact .inl (.inr (.inl hx))
          · exact .inl (.inr (.inr (.inl hx)))
          · exact (hmem x hx).imp (fun h => .inr (.inr (.inr h))) id
end Go.Proofs.Ytblfmacnkacalaa
