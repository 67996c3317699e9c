/- Roots: the reference's roots in memory; its places. -/
import Derived.Test.YtblfmacnkacalaaRtH
namespace Go.Proofs.Ytblfmacnkacalaa
set_option linter.unusedSimpArgs false
set_option linter.unusedVariables false
set_option maxRecDepth 8000

def rowS (S : List Int) (t : Nat) : List Int := (S.drop (16 * t)).take 16
theorem rowS_length {S : List Int} {t : Nat} (h : 16 * t + 16 ≤ S.length) : (rowS S t).length = 16 := by simp only [rowS, List.length_take, List.length_drop]; omega
theorem rowS_get? {S : List Int} {t i : Nat} (hi : i < 16) : (rowS S t)[i]? = S[16 * t + i]? := by
  unfold rowS; rw [List.getElem?_take, if_pos hi, List.getElem?_drop]
theorem rowS_getD {S : List Int} {t i : Nat} (hi : i < 16) : (rowS S t).getD i 0 = S.getD (16 * t + i) 0 := by
  simp only [List.getD_eq_getElem?_getD, rowS_get? hi]
theorem rowS_set_same {S : List Int} {t i : Nat} {a : Int} (hi : i < 16) : rowS (S.set (16 * t + i) a) t = (rowS S t).set i a := by
  apply List.ext_getElem?
  intro k
  by_cases hk : k < 16
  · rw [rowS_get? hk, List.getElem?_set, List.getElem?_set, rowS_get? hk]
    by_cases e : i = k
    · subst e; rw [if_pos rfl, if_pos rfl]
      by_cases h1 : 16 * t + i < S.length
      · rw [if_pos h1, if_pos (by simp only [rowS, List.length_take, List.length_drop]; omega)]
      · rw [if_neg h1, if_neg (by simp only [rowS, List.length_take, List.length_drop]; omega)]
    · rw [if_neg (by omega), if_neg e]
  · rw [List.getElem?_eq_none (by simp only [rowS, List.length_take, List.length_drop, List.length_set]; omega), List.getElem?_eq_none (by simp only [rowS, List.length_take, List.length_drop, List.length_set]; omega)]
theorem rowS_set_other {S : List Int} {t u i : Nat} {a : Int} (hi : i < 16) (h : u ≠ t) : rowS (S.set (16 * t + i) a) u = rowS S u := by
  apply List.ext_getElem?
  intro k
  by_cases hk : k < 16
  · rw [rowS_get? hk, rowS_get? hk, List.getElem?_set, if_neg (by omega)]
  · rw [List.getElem?_eq_none (by simp only [rowS, List.length_take, List.length_drop, List.length_set]; omega), List.getElem?_eq_none (by simp only [rowS, List.length_take, List.length_drop]; omega)]

def rowsV (rows : List (Nat × Nat)) : List Value := rows.map fun r => .slice (some ⟨r.1, 0, none⟩) 16 r.2
theorem rowsV_get {rows : List (Nat × Nat)} {t : Nat} (ys : List Value) (h : t < rows.length) : (rowsV rows ++ ys)[t]? = some (.slice (some ⟨(rows.getD t (0, 0)).1, 0, none⟩) 16 (rows.getD t (0, 0)).2) := by
  rw [List.getElem?_append_left (by simpa [rowsV] using h)]
  simp [rowsV, h]
theorem rowsV_one {rows : List (Nat × Nat)} : ∀ u, u ∈ rowsV rows → oneC u = true := by
  intro u hu
  simp only [rowsV, List.mem_map] at hu
  obtain ⟨r, _, rfl⟩ := hu
  rfl

/-- the reference's roots in memory, piece by piece -/
structure RMs (w : World) (b : Nat) (s : MS) (vs vg vq : Value) (fs : List Nat) (rows : List (Nat × Nat)) (fg fq : List Nat) : Prop where
  ok : s.Ok
  len : rows.length = s.M
  nd : (b :: (fs ++ (rows.map (·.1) ++ (fg ++ fq)))).Nodup
  hb : At w b [vs, vg, vq]
  h0 : Sl w 1 vs s.M (rowsV rows) fs
  hr : ∀ t, t < s.M → ∃ ys, At w (rows.getD t (0, 0)).1 (ints (rowS s.S t) ++ ys)
  h1 : Sl w 1 vg 16 (ints s.G) fg
  h2 : Sl w 1 vq s.Q.length (ints s.Q) fq
def RM (w : World) (b : Nat) (s : MS) (fp : List Nat) : Prop := ∃ vs vg vq fs rows fg fq, fp = b :: (fs ++ (rows.map (·.1) ++ (fg ++ fq))) ∧ RMs w b s vs vg vq fs rows fg fq
def RR (w : World) (a : Option Addr) (fp : List Nat) (m : MO) : Prop := match m with
  | some s => ∃ b, a = some ⟨b, 0, none⟩ ∧ RM w b s fp
  | none => a = none ∧ fp = []
theorem getD_mem {rows : List (Nat × Nat)} {t : Nat} (h : t < rows.length) : (rows.getD t (0, 0)).1 ∈ rows.map (·.1) := by
  rw [List.mem_map]
  exact ⟨rows[t], List.getElem_mem h, by simp [h]⟩
theorem RMs.keep {w w' : World} {b : Nat} {s : MS} {vs vg vq : Value} {fs fg fq S : List Nat} {rows : List (Nat × Nat)} (h : RMs w b s vs vg vq fs rows fg fq) (k : Only S w w') (hd : ∀ x, x ∈ b :: (fs ++ (rows.map (·.1) ++ (fg ++ fq))) → x ∉ S) : RMs w' b s vs vg vq fs rows fg fq :=
  ⟨h.ok, h.len, h.nd, h.hb.keep k (hd b (by simp)), h.h0.keep k fun x hx => hd x (by simp only [List.mem_cons, List.mem_append]; exact .inr (.inl hx)), fun t ht => let ⟨ys, hy⟩ := h.hr t ht; ⟨ys, hy.keep k (hd _ (by simp only [List.mem_cons, List.mem_append]; exact .inr (.inr (.inl (getD_mem (by rw [h.len]; exact ht))))))⟩,
    h.h1.keep k fun x hx => hd x (by simp only [List.mem_cons, List.mem_append]; exact .inr (.inr (.inr (.inl hx)))), h.h2.keep k fun x hx => hd x (by simp only [List.mem_cons, List.mem_append]; exact .inr (.inr (.inr (.inr hx))))⟩
theorem RMs.keep0 {w w' : World} {b : Nat} {s : MS} {vs vg vq : Value} {fs fg fq : List Nat} {rows : List (Nat × Nat)} (h : RMs w b s vs vg vq fs rows fg fq) (k : Only [] w w') : RMs w' b s vs vg vq fs rows fg fq := h.keep k fun _ _ => by simp
theorem RM.keep {w w' : World} {b : Nat} {s : MS} {fp S : List Nat} (h : RM w b s fp) (k : Only S w w') (hd : ∀ x, x ∈ fp → x ∉ S) : RM w' b s fp := by
  obtain ⟨vs, vg, vq, fs, rows, fg, fq, rfl, h⟩ := h
  exact ⟨vs, vg, vq, fs, rows, fg, fq, rfl, h.keep k hd⟩
theorem RM.keep0 {w w' : World} {b : Nat} {s : MS} {fp : List Nat} (h : RM w b s fp) (k : Only [] w w') : RM w' b s fp := h.keep k fun _ _ => by simp
theorem RM.lt {w : World} {b : Nat} {s : MS} {fp : List Nat} (h : RM w b s fp) : ∀ x, x ∈ fp → x < w.heap.size := by
  obtain ⟨vs, vg, vq, fs, rows, fg, fq, rfl, h⟩ := h
  intro x hx
  simp only [List.mem_cons, List.mem_append] at hx
  rcases hx with rfl | hx | hx | hx | hx
  · exact h.hb.lt
  · exact h.h0.lt x hx
  · rw [List.mem_map] at hx
    obtain ⟨r, hr, rfl⟩ := hx
    obtain ⟨t, ht, rfl⟩ := List.mem_iff_getElem.1 hr
    obtain ⟨ys, hy⟩ := h.hr t (by rw [← h.len]; exact ht)
    have := hy.lt
    simpa [ht] using this
  · exact h.h1.lt x hx
  · exact h.h2.lt x hx
theorem RR.keep {w w' : World} {a : Option Addr} {fp S : List Nat} {m : MO} (h : RR w a fp m) (k : Only S w w') (hd : ∀ x, x ∈ fp → x ∉ S) : RR w' a fp m := by
  match m, h with
  | some s, ⟨b, h1, h2⟩ => exact ⟨b, h1, h2.keep k hd⟩
  | none, h => exact h
theorem RR.keep0 {w w' : World} {a : Option Addr} {fp : List Nat} {m : MO} (h : RR w a fp m) (k : Only [] w w') : RR w' a fp m := h.keep k fun _ _ => by simp
theorem RR.lt {w : World} {a : Option Addr} {fp : List Nat} {m : MO} (h : RR w a fp m) : ∀ x, x ∈ fp → x < w.heap.size := by
  match m, h with
  | some s, ⟨b, h1, h2⟩ => exact h2.lt
  | none, h => rw [h.2]; intro x hx; cases hx

theorem rmade {w : World} {a : Option Addr} {fp : List Nat} {m : MO} (h : RR w a fp m) : Cs Try.prog 34 [.pointer a] w fun v w' => v = .bool m.isSome ∧ w' = w := by
  refine enter_ref03_Roots_Made rfl ?_
  unfold x_ref03_Roots_Made
  match m, h with
  | none, ⟨h1, _⟩ =>
    subst h1
    (repeat (first | with_reducible refine run_seq ?_ | with_reducible refine run_reg ?_ | with_reducible refine run_block ?_ | with_reducible refine run_blk ?_ | with_reducible refine run_skip ?_ | with_reducible refine run_exit rfl ?_ | with_reducible refine run_drw ?_ | with_reducible refine run_condT ?_ | with_reducible refine run_ret' ?_ | with_reducible refine run_end' ?_ | simp only [go_sem, ↓reduceIte, Nat.reduceAdd, Nat.reduceEqDiff, Nat.reduceBEq, reduceCtorEq, Int.reduceBEq, Int.reduceBNe, Int.reduceLT, Int.reduceLE, Option.isSome_none]))
  | some s, ⟨b, h1, vs, vg, vq, fs, rows, fg, fq, _, k⟩ =>
    subst h1
    obtain ⟨a, c, e⟩ := k.h0.val
    subst e
    have hp : (0 : Int) < (s.M : Int) := by have := k.ok.m1; omega
    (repeat (first | with_reducible refine run_seq ?_ | with_reducible refine run_reg ?_ | with_reducible refine run_block ?_ | with_reducible refine run_blk ?_ | with_reducible refine run_skip ?_ | with_reducible refine run_exit rfl ?_ | with_reducible refine run_drw ?_ | with_reducible refine run_condT ?_ | with_reducible refine run_ret' ?_ | with_reducible refine run_end' ?_ | simp only [go_sem, ↓reduceIte, Nat.reduceAdd, Nat.reduceEqDiff, Nat.reduceBEq, reduceCtorEq, Int.reduceBEq, Int.reduceBNe, Int.reduceLT, Int.reduceLE, k.hb.cell, decide_eq_true hp, Option.isSome_some]))

theorem rhas {w : World} {b : Nat} {s : MS} {fp : List Nat} (h : RM w b s fp) (p : PT) : Cs Try.prog 54 [.pointer (some ⟨b, 0, none⟩), .agg ⟨plV p⟩] w fun v w' => v = .bool (seg s p).isSome ∧ Only [] w w' := by
  refine enter_ref03_Roots_has rfl ?_
  unfold x_ref03_Roots_has
  (repeat (first | with_reducible refine run_seq ?_ | with_reducible refine run_reg ?_ | with_reducible refine run_block ?_ | with_reducible refine run_blk ?_ | with_reducible refine run_skip ?_ | with_reducible refine run_exit rfl ?_ | with_reducible refine run_drw ?_ | with_reducible refine run_condT ?_ | with_reducible refine run_ret' ?_ | with_reducible refine run_end' ?_ | simp only [go_sem, ↓reduceIte, Nat.reduceAdd, Nat.reduceEqDiff, Nat.reduceBEq, reduceCtorEq, Int.reduceBEq, Int.reduceBNe, Int.reduceLT, Int.reduceLE]))
  refine boxT fun q w1 hq hs1 hat1 ho1 => ?_
  obtain ⟨vs, vg, vq, fs, rows, fg, fq, rfl, hm⟩ := h
  have hb := (hm.keep0 ho1).hb
  obtain ⟨k, m, i⟩ := p
  have hc : At w1 q [.int .i64 k, .int .i64 m, .int .i64 i] := hat1
  obtain ⟨a1, c1, e1⟩ := hm.h0.val
  obtain ⟨a2, c2, e2⟩ := hm.h2.val
  subst e1 e2
  by_cases k0 : k = 0
  · by_cases k1 : 0 ≤ m
    · by_cases k2 : m < (s.M : Int)
      · by_cases k3 : 0 ≤ i
        · by_cases k4 : i < 16
          · (repeat (first | with_reducible refine run_seq ?_ | with_reducible refine run_reg ?_ | with_reducible refine run_block ?_ | with_reducible refine run_blk ?_ | with_reducible refine run_skip ?_ | with_reducible refine run_exit rfl ?_ | with_reducible refine run_drw ?_ | with_reducible refine run_condT ?_ | with_reducible refine run_ret' ?_ | with_reducible refine run_end' ?_ | simp only [go_sem, ↓reduceIte, Nat.reduceAdd, Nat.reduceEqDiff, Nat.reduceBEq, reduceCtorEq, Int.reduceBEq, Int.reduceBNe, Int.reduceLT, Int.reduceLE, hc.cell, hb.cell, beq_int_true k0, decide_eq_true k1, decide_eq_true k2, decide_eq_true k3, decide_eq_true k4]))
            exact ⟨by simp [seg, k0, k1, k2, k3, k4], ho1.nil (Only.drew [] _)⟩
          · (repeat (first | with_reducible refine run_seq ?_ | with_reducible refine run_reg ?_ | with_reducible refine run_block ?_ | with_reducible refine run_blk ?_ | with_reducible refine run_skip ?_ | with_reducible refine run_exit rfl ?_ | with_reducible refine run_drw ?_ | with_reducible refine run_condT ?_ | with_reducible refine run_ret' ?_ | with_reducible refine run_end' ?_ | simp only [go_sem, ↓reduceIte, Nat.reduceAdd, Nat.reduceEqDiff, Nat.reduceBEq, reduceCtorEq, Int.reduceBEq, Int.reduceBNe, Int.reduceLT, Int.reduceLE, hc.cell, hb.cell, beq_int_true k0, decide_eq_true k1, decide_eq_true k2, decide_eq_true k3, decide_eq_false k4]))
            exact ⟨by simp [seg, k0, k1, k2, k4], ho1.nil (Only.drew [] _)⟩
        · (repeat (first | with_reducible refine run_seq ?_ | with_reducible refine run_reg ?_ | with_reducible refine run_block ?_ | with_reducible refine run_blk ?_ | with_reducible refine run_skip ?_ | with_reducible refine run_exit rfl ?_ | with_reducible refine run_drw ?_ | with_reducible refine run_condT ?_ | with_reducible refine run_ret' ?_ | with_reducible refine run_end' ?_ | simp only [go_sem, ↓reduceIte, Nat.reduceAdd, Nat.reduceEqDiff, Nat.reduceBEq, reduceCtorEq, Int.reduceBEq, Int.reduceBNe, Int.reduceLT, Int.reduceLE, hc.cell, hb.cell, beq_int_true k0, decide_eq_true k1, decide_eq_true k2, decide_eq_false k3]))
          exact ⟨by simp [seg, k0, k1, k2, k3], ho1.nil (Only.drew [] _)⟩
      · (repeat (first | with_reducible refine run_seq ?_ | with_reducible refine run_reg ?_ | with_reducible refine run_block ?_ | with_reducible refine run_blk ?_ | with_reducible refine run_skip ?_ | with_reducible refine run_exit rfl ?_ | with_reducible refine run_drw ?_ | with_reducible refine run_condT ?_ | with_reducible refine run_ret' ?_ | with_reducible refine run_end' ?_ | simp only [go_sem, ↓reduceIte, Nat.reduceAdd, Nat.reduceEqDiff, Nat.reduceBEq, reduceCtorEq, Int.reduceBEq, Int.reduceBNe, Int.reduceLT, Int.reduceLE, hc.cell, hb.cell, beq_int_true k0, decide_eq_true k1, decide_eq_false k2]))
        exact ⟨by simp [seg, k0, k2], ho1.nil (Only.drew [] _)⟩
    · (repeat (first | with_reducible refine run_seq ?_ | with_reducible refine run_reg ?_ | with_reducible refine run_block ?_ | with_reducible refine run_blk ?_ | with_reducible refine run_skip ?_ | with_reducible refine run_exit rfl ?_ | with_reducible refine run_drw ?_ | with_reducible refine run_condT ?_ | with_reducible refine run_ret' ?_ | with_reducible refine run_end' ?_ | simp only [go_sem, ↓reduceIte, Nat.reduceAdd, Nat.reduceEqDiff, Nat.reduceBEq, reduceCtorEq, Int.reduceBEq, Int.reduceBNe, Int.reduceLT, Int.reduceLE, hc.cell, hb.cell, beq_int_true k0, decide_eq_false k1]))
      exact ⟨by simp [seg, k0, k1], ho1.nil (Only.drew [] _)⟩
  · by_cases k1 : k = 1
    · have n0 : ¬ k = 0 := k0
      by_cases k2 : m = 0
      · by_cases k3 : 0 ≤ i
        · by_cases k4 : i < 16
          · (repeat (first | with_reducible refine run_seq ?_ | with_reducible refine run_reg ?_ | with_reducible refine run_block ?_ | with_reducible refine run_blk ?_ | with_reducible refine run_skip ?_ | with_reducible refine run_exit rfl ?_ | with_reducible refine run_drw ?_ | with_reducible refine run_condT ?_ | with_reducible refine run_ret' ?_ | with_reducible refine run_end' ?_ | simp only [go_sem, ↓reduceIte, Nat.reduceAdd, Nat.reduceEqDiff, Nat.reduceBEq, reduceCtorEq, Int.reduceBEq, Int.reduceBNe, Int.reduceLT, Int.reduceLE, hc.cell, hb.cell, beq_int_false n0, beq_int_true k1, beq_int_true k2, decide_eq_true k3, decide_eq_true k4]))
            exact ⟨by simp [seg, k1, k2, k3, k4], ho1⟩
          · (repeat (first | with_reducible refine run_seq ?_ | with_reducible refine run_reg ?_ | with_reducible refine run_block ?_ | with_reducible refine run_blk ?_ | with_reducible refine run_skip ?_ | with_reducible refine run_exit rfl ?_ | with_reducible refine run_drw ?_ | with_reducible refine run_condT ?_ | with_reducible refine run_ret' ?_ | with_reducible refine run_end' ?_ | simp only [go_sem, ↓reduceIte, Nat.reduceAdd, Nat.reduceEqDiff, Nat.reduceBEq, reduceCtorEq, Int.reduceBEq, Int.reduceBNe, Int.reduceLT, Int.reduceLE, hc.cell, hb.cell, beq_int_false n0, beq_int_true k1, beq_int_true k2, decide_eq_true k3, decide_eq_false k4]))
            exact ⟨by simp [seg, k1, k2, k4], ho1⟩
        · (repeat (first | with_reducible refine run_seq ?_ | with_reducible refine run_reg ?_ | with_reducible refine run_block ?_ | with_reducible refine run_blk ?_ | with_reducible refine run_skip ?_ | with_reducible refine run_exit rfl ?_ | with_reducible refine run_drw ?_ | with_reducible refine run_condT ?_ | with_reducible refine run_ret' ?_ | with_reducible refine run_end' ?_ | simp only [go_sem, ↓reduceIte, Nat.reduceAdd, Nat.reduceEqDiff, Nat.reduceBEq, reduceCtorEq, Int.reduceBEq, Int.reduceBNe, Int.reduceLT, Int.reduceLE, hc.cell, hb.cell, beq_int_false n0, beq_int_true k1, beq_int_true k2, decide_eq_false k3]))
          exact ⟨by simp [seg, k1, k2, k3], ho1⟩
      · (repeat (first | with_reducible refine run_seq ?_ | with_reducible refine run_reg ?_ | with_reducible refine run_block ?_ | with_reducible refine run_blk ?_ | with_reducible refine run_skip ?_ | with_reducible refine run_exit rfl ?_ | with_reducible refine run_drw ?_ | with_reducible refine run_condT ?_ | with_reducible refine run_ret' ?_ | with_reducible refine run_end' ?_ | simp only [go_sem, ↓reduceIte, Nat.reduceAdd, Nat.reduceEqDiff, Nat.reduceBEq, reduceCtorEq, Int.reduceBEq, Int.reduceBNe, Int.reduceLT, Int.reduceLE, hc.cell, hb.cell, beq_int_false n0, beq_int_true k1, beq_int_false k2]))
        exact ⟨by simp [seg, k1, k2], ho1⟩
    · by_cases k1' : k = 2
      · by_cases k2 : m = 0
        · by_cases k3 : 0 ≤ i
          · by_cases k4 : i < (s.Q.length : Int)
            · (repeat (first | with_reducible refine run_seq ?_ | with_reducible refine run_reg ?_ | with_reducible refine run_block ?_ | with_reducible refine run_blk ?_ | with_reducible refine run_skip ?_ | with_reducible refine run_exit rfl ?_ | with_reducible refine run_drw ?_ | with_reducible refine run_condT ?_ | with_reducible refine run_ret' ?_ | with_reducible refine run_end' ?_ | simp only [go_sem, ↓reduceIte, Nat.reduceAdd, Nat.reduceEqDiff, Nat.reduceBEq, reduceCtorEq, Int.reduceBEq, Int.reduceBNe, Int.reduceLT, Int.reduceLE, hc.cell, hb.cell, beq_int_false k0, beq_int_false k1, beq_int_true k1', beq_int_true k2, decide_eq_true k3, decide_eq_true k4]))
              exact ⟨by simp [seg, k1', k2, k3, k4], ho1.nil (Only.drew [] _)⟩
            · (repeat (first | with_reducible refine run_seq ?_ | with_reducible refine run_reg ?_ | with_reducible refine run_block ?_ | with_reducible refine run_blk ?_ | with_reducible refine run_skip ?_ | with_reducible refine run_exit rfl ?_ | with_reducible refine run_drw ?_ | with_reducible refine run_condT ?_ | with_reducible refine run_ret' ?_ | with_reducible refine run_end' ?_ | simp only [go_sem, ↓reduceIte, Nat.reduceAdd, Nat.reduceEqDiff, Nat.reduceBEq, reduceCtorEq, Int.reduceBEq, Int.reduceBNe, Int.reduceLT, Int.reduceLE, hc.cell, hb.cell, beq_int_false k0, beq_int_false k1, beq_int_true k1', beq_int_true k2, decide_eq_true k3, decide_eq_false k4]))
              exact ⟨by simp [seg, k1', k2, k4], ho1.nil (Only.drew [] _)⟩
          · (repeat (first | with_reducible refine run_seq ?_ | with_reducible refine run_reg ?_ | with_reducible refine run_block ?_ | with_reducible refine run_blk ?_ | with_reducible refine run_skip ?_ | with_reducible refine run_exit rfl ?_ | with_reducible refine run_drw ?_ | with_reducible refine run_condT ?_ | with_reducible refine run_ret' ?_ | with_reducible refine run_end' ?_ | simp only [go_sem, ↓reduceIte, Nat.reduceAdd, Nat.reduceEqDiff, Nat.reduceBEq, reduceCtorEq, Int.reduceBEq, Int.reduceBNe, Int.reduceLT, Int.reduceLE, hc.cell, hb.cell, beq_int_false k0, beq_int_false k1, beq_int_true k1', beq_int_true k2, decide_eq_false k3]))
            exact ⟨by simp [seg, k1', k2, k3], ho1.nil (Only.drew [] _)⟩
        · (repeat (first | with_reducible refine run_seq ?_ | with_reducible refine run_reg ?_ | with_reducible refine run_block ?_ | with_reducible refine run_blk ?_ | with_reducible refine run_skip ?_ | with_reducible refine run_exit rfl ?_ | with_reducible refine run_drw ?_ | with_reducible refine run_condT ?_ | with_reducible refine run_ret' ?_ | with_reducible refine run_end' ?_ | simp only [go_sem, ↓reduceIte, Nat.reduceAdd, Nat.reduceEqDiff, Nat.reduceBEq, reduceCtorEq, Int.reduceBEq, Int.reduceBNe, Int.reduceLT, Int.reduceLE, hc.cell, hb.cell, beq_int_false k0, beq_int_false k1, beq_int_true k1', beq_int_false k2]))
          exact ⟨by simp [seg, k1', k2], ho1.nil (Only.drew [] _)⟩
      · (repeat (first | with_reducible refine run_seq ?_ | with_reducible refine run_reg ?_ | with_reducible refine run_block ?_ | with_reducible refine run_blk ?_ | with_reducible refine run_skip ?_ | with_reducible refine run_exit rfl ?_ | with_reducible refine run_drw ?_ | with_reducible refine run_condT ?_ | with_reducible refine run_ret' ?_ | with_reducible refine run_end' ?_ | simp only [go_sem, ↓reduceIte, Nat.reduceAdd, Nat.reduceEqDiff, Nat.reduceBEq, reduceCtorEq, Int.reduceBEq, Int.reduceBNe, Int.reduceLT, Int.reduceLE, hc.cell, hb.cell, beq_int_false k0, beq_int_false k1, beq_int_false k1']))
        exact ⟨by simp [seg, k0, k1, k1'], ho1⟩

/-- a row of the slots -/
theorem RMs.row {w : World} {b : Nat} {s : MS} {vs vg vq : Value} {fs fg fq : List Nat} {rows : List (Nat × Nat)} (h : RMs w b s vs vg vq fs rows fg fq) {t : Nat} (ht : t < s.M) :
    ∃ g cap ys g' c' zs, vs = .slice (some ⟨g, 0, none⟩) s.M cap ∧ At w g (rowsV rows ++ ys) ∧ (rowsV rows ++ ys)[t]? = some (.slice (some ⟨g', 0, none⟩) 16 c') ∧ g' = (rows.getD t (0, 0)).1 ∧ At w g' (ints (rowS s.S t) ++ zs) := by
  obtain ⟨g, cap, ys, h1, h2, _⟩ := h.h0.pos (by omega)
  obtain ⟨zs, hz⟩ := h.hr t ht
  exact ⟨g, cap, ys, _, _, zs, h1, h2, rowsV_get ys (by rw [h.len]; exact ht), rfl, hz⟩

theorem rget {w : World} {b : Nat} {s : MS} {fp : List Nat} (h : RM w b s fp) {p : PT} {x : Nat × Nat} (hx : seg s p = some x) : Cs Try.prog 56 [.pointer (some ⟨b, 0, none⟩), .agg ⟨plV p⟩] w fun v w' => v = .int .i64 (s.rd x) ∧ Only [] w w' := by
  refine enter_ref03_Roots_get rfl ?_
  unfold x_ref03_Roots_get
  (repeat (first | with_reducible refine run_seq ?_ | with_reducible refine run_reg ?_ | with_reducible refine run_block ?_ | with_reducible refine run_blk ?_ | with_reducible refine run_skip ?_ | with_reducible refine run_exit rfl ?_ | with_reducible refine run_drw ?_ | with_reducible refine run_condT ?_ | with_reducible refine run_ret' ?_ | with_reducible refine run_end' ?_ | simp only [go_sem, ↓reduceIte, Nat.reduceAdd, Nat.reduceEqDiff, Nat.reduceBEq, reduceCtorEq, Int.reduceBEq, Int.reduceBNe, Int.reduceLT, Int.reduceLE]))
  refine boxT fun q w1 hq hs1 hat1 ho1 => ?_
  obtain ⟨vs, vg, vq, fs, rows, fg, fq, rfl, hm0⟩ := h
  have hm := hm0.keep0 ho1
  have hb := hm.hb
  obtain ⟨k, m, i⟩ := p
  have hc : At w1 q [.int .i64 k, .int .i64 m, .int .i64 i] := hat1
  rcases seg_cases hm.ok hx with ⟨e1, e2, e3, e4, e5, j, rfl, ej, hj⟩ | ⟨e1, e2, e4, e5, j, rfl, ej, hj⟩ | ⟨e1, e2, e4, e5, j, rfl, ej, hj⟩
  · simp only at e1 e2 e3 e4 e5 ej
    subst e1
    obtain ⟨m, rfl⟩ : ∃ n : Nat, m = n := ⟨m.toNat, by omega⟩
    obtain ⟨i, rfl⟩ : ∃ n : Nat, i = n := ⟨i.toNat, by omega⟩
    obtain ⟨g, cap, ys, g', c', zs, rfl, hg, hgt, _, hg'⟩ := hm.row (t := m) (by omega)
    have c1 : (0 : Int) ≤ (m : Int) ∧ (m : Int) < (s.M : Int) := ⟨by omega, by omega⟩
    have c2 : (0 : Int) ≤ (i : Int) ∧ (i : Int) < ((16 : Nat) : Int) := ⟨by omega, by omega⟩
    have hgi : (ints (rowS s.S m) ++ zs)[i]? = some (.int .i64 (s.S.getD j 0)) := by
      rw [ints_get zs (by rw [rowS_length (by have := hm.ok.ls; omega)]; omega), rowS_getD (by omega)]
      congr 3; omega
    (repeat (first | with_reducible refine run_seq ?_ | with_reducible refine run_reg ?_ | with_reducible refine run_block ?_ | with_reducible refine run_blk ?_ | with_reducible refine run_skip ?_ | with_reducible refine run_exit rfl ?_ | with_reducible refine run_drw ?_ | with_reducible refine run_condT ?_ | with_reducible refine run_ret' ?_ | with_reducible refine run_end' ?_ | simp only [go_sem, ↓reduceIte, Nat.reduceAdd, Nat.reduceEqDiff, Nat.reduceBEq, reduceCtorEq, Int.reduceBEq, Int.reduceBNe, Int.reduceLT, Int.reduceLE, hc.cell, hb.cell, beq_int_true (rfl : (0 : Int) = 0), if_pos c1, if_pos c2, Int.toNat_natCast, Nat.mul_one, hg.cell, hgt, hg'.cell, hgi]))
    exact ⟨rfl, ho1.nil (Only.drew [] _)⟩
  · simp only at e1 e2 e4 e5 ej
    subst e1
    obtain ⟨g, cap, ys, rfl, hg, _, _⟩ := hm.h1.pos (by omega)
    have c2 : (0 : Int) ≤ i ∧ i < ((16 : Nat) : Int) := ⟨by omega, by omega⟩
    subst ej
    (repeat (first | with_reducible refine run_seq ?_ | with_reducible refine run_reg ?_ | with_reducible refine run_block ?_ | with_reducible refine run_blk ?_ | with_reducible refine run_skip ?_ | with_reducible refine run_exit rfl ?_ | with_reducible refine run_drw ?_ | with_reducible refine run_condT ?_ | with_reducible refine run_ret' ?_ | with_reducible refine run_end' ?_ | simp only [go_sem, ↓reduceIte, Nat.reduceAdd, Nat.reduceEqDiff, Nat.reduceBEq, reduceCtorEq, Int.reduceBEq, Int.reduceBNe, Int.reduceLT, Int.reduceLE, hc.cell, hb.cell, beq_int_true (rfl : (1 : Int) = 1), beq_int_false (show ¬ (1 : Int) = 0 by omega), if_pos c2, Int.toNat_natCast, Nat.mul_one, hg.cell, ints_get ys hj]))
    exact ⟨rfl, ho1.nil (Only.drew [] _)⟩
  · simp only at e1 e2 e4 e5 ej
    subst e1
    obtain ⟨g, cap, ys, rfl, hg, _, _⟩ := hm.h2.pos (by omega)
    have c2 : (0 : Int) ≤ i ∧ i < (s.Q.length : Int) := ⟨by omega, by omega⟩
    subst ej
    (repeat (first | with_reducible refine run_seq ?_ | with_reducible refine run_reg ?_ | with_reducible refine run_block ?_ | with_reducible refine run_blk ?_ | with_reducible refine run_skip ?_ | with_reducible refine run_exit rfl ?_ | with_reducible refine run_drw ?_ | with_reducible refine run_condT ?_ | with_reducible refine run_ret' ?_ | with_reducible refine run_end' ?_ | simp only [go_sem, ↓reduceIte, Nat.reduceAdd, Nat.reduceEqDiff, Nat.reduceBEq, reduceCtorEq, Int.reduceBEq, Int.reduceBNe, Int.reduceLT, Int.reduceLE, hc.cell, hb.cell, beq_int_false (show ¬ (2 : Int) = 1 by omega), beq_int_false (show ¬ (2 : Int) = 0 by omega), if_pos c2, Int.toNat_natCast, Nat.mul_one, hg.cell, ints_get ys hj]))
    exact ⟨rfl, ho1.nil (Only.drew [] _)⟩
end Go.Proofs.Ytblfmacnkacalaa
