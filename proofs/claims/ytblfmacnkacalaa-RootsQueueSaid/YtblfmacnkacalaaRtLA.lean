/- Roots: the laws' ground: comparing lists, acts, play. -/
import Derived.Test.YtblfmacnkacalaaRtY
namespace Go.Proofs.Ytblfmacnkacalaa
set_option linter.unusedSimpArgs false
set_option linter.unusedVariables false
set_option maxRecDepth 8000

theorem i64_succ' (i : Nat) (h : i < 9223372036854775807) : IntKind.i64.wrap ((i : Int) + 1) = ((i + 1 : Nat) : Int) := by
  rw [show ((i : Int) + 1) = ((i + 1 : Nat) : Int) by omega]; exact IntWalk.i64_in _ (by omega)
theorem take_eq_succ {α : Type} [DecidableEq α] {xs ys : List α} {i : Nat} {d : α} (hl : xs.length = ys.length) (hi : i < xs.length) (h : xs.take i = ys.take i) (he : xs.getD i d = ys.getD i d) : xs.take (i + 1) = ys.take (i + 1) := by
  rw [List.take_succ_eq_append_getElem hi, List.take_succ_eq_append_getElem (by omega), h]
  simp only [List.getD_eq_getElem?_getD, List.getElem?_eq_getElem hi, List.getElem?_eq_getElem (show i < ys.length by omega), Option.getD_some] at he
  rw [he]
theorem law_ints {w : World} {D1 D2 : List Nat} {v1 v2 : Value} {xs ys : List Int} (h1 : RdB w D1 v1 xs) (h2 : RdB w D2 v2 ys) (hl : xs.length ≤ 100000) : Cs Try.prog 17 [v1, v2] w fun r w' => r = .bool (decide (xs = ys)) ∧ Only [] w w' := by
  refine enter_ref01_Ints rfl ?_
  unfold x_ref01_Ints
  obtain ⟨a1, c1, rfl⟩ := h1.val
  obtain ⟨a2, c2, rfl⟩ := h2.val
  by_cases hlen : xs.length = ys.length
  rotate_left
  · (repeat (first | with_reducible refine run_seq ?_ | with_reducible refine run_reg ?_ | with_reducible refine run_block ?_ | with_reducible refine run_blk ?_ | with_reducible refine run_skip ?_ | with_reducible refine run_exit rfl ?_ | with_reducible refine run_drw ?_ | with_reducible refine run_condT ?_ | with_reducible refine run_ret' ?_ | with_reducible refine run_end' ?_ | simp only [go_sem, ↓reduceIte, Nat.reduceAdd, Nat.reduceEqDiff, Nat.reduceBEq, reduceCtorEq, Int.reduceBEq, Int.reduceBNe, Int.reduceLT, Int.reduceLE, bne_int_true (show ¬ ((xs.length : Int) = (ys.length : Int)) by omega)]))
    exact ⟨by rw [decide_eq_false (fun e => hlen (by rw [e]))], Only.refl _ _⟩
  (repeat (first | with_reducible refine run_seq ?_ | with_reducible refine run_reg ?_ | with_reducible refine run_block ?_ | with_reducible refine run_blk ?_ | with_reducible refine run_skip ?_ | with_reducible refine run_exit rfl ?_ | with_reducible refine run_drw ?_ | with_reducible refine run_condT ?_ | with_reducible refine run_ret' ?_ | with_reducible refine run_end' ?_ | simp only [go_sem, ↓reduceIte, Nat.reduceAdd, Nat.reduceEqDiff, Nat.reduceBEq, reduceCtorEq, Int.reduceBEq, Int.reduceBNe, Int.reduceLT, Int.reduceLE, bne_int_false (show ((xs.length : Int) = (ys.length : Int)) by omega)]))
  refine run_loop (4 :: 5 :: 11 :: 12 :: 13 :: 14 :: 15 :: 16 :: 17 :: 18 :: 19 :: 20 :: 21 :: 22 :: 23 :: 24 :: 25 :: []) (fun g w' => ∃ i : Nat, g 5 = .int .i64 i ∧ i ≤ xs.length ∧ xs.take i = ys.take i ∧ Only [] w w') (fun g _ => upTo xs.length 5 g) ⟨0, by simp only [go_sem, ↓reduceIte, Nat.reduceAdd, Nat.reduceEqDiff, Nat.reduceBEq, reduceCtorEq, Int.reduceBEq, Int.reduceBNe, Int.reduceLT, Int.reduceLE]; rfl, by omega, by simp, Only.refl _ _⟩ fun g w3 hI hnext => ?_
  obtain ⟨i, h5, hi, he, ho⟩ := hI
  (repeat (first | with_reducible refine run_seq ?_ | with_reducible refine run_reg ?_ | with_reducible refine run_block ?_ | with_reducible refine run_blk ?_ | with_reducible refine run_skip ?_ | with_reducible refine run_exit rfl ?_ | with_reducible refine run_drw ?_ | with_reducible refine run_condT ?_ | with_reducible refine run_ret' ?_ | with_reducible refine run_end' ?_ | simp only [go_sem, ↓reduceIte, Nat.reduceAdd, Nat.reduceEqDiff, Nat.reduceBEq, reduceCtorEq, Int.reduceBEq, Int.reduceBNe, Int.reduceLT, Int.reduceLE, h5]))
  refine condT (fun hlt => ?_) (fun hge => ?_)
  · have hlt : i < xs.length := by simpa using hlt
    obtain ⟨p1, rfl, hc1⟩ := (h1.keep0 ho).get hlt
    obtain ⟨p2, rfl, hc2⟩ := (h2.keep0 ho).get (i := i) (by omega)
    have e1 : (0 : Int) ≤ (i : Int) ∧ (i : Int) < (xs.length : Int) := ⟨by omega, by omega⟩
    have e2 : (0 : Int) ≤ (i : Int) ∧ (i : Int) < (ys.length : Int) := ⟨by omega, by omega⟩
    by_cases hx : xs.getD i 0 = ys.getD i 0
    · (repeat (first | with_reducible refine run_seq ?_ | with_reducible refine run_reg ?_ | with_reducible refine run_block ?_ | with_reducible refine run_blk ?_ | with_reducible refine run_skip ?_ | with_reducible refine run_exit rfl ?_ | with_reducible refine run_drw ?_ | with_reducible refine run_condT ?_ | with_reducible refine run_ret' ?_ | with_reducible refine run_end' ?_ | simp only [go_sem, ↓reduceIte, Nat.reduceAdd, Nat.reduceEqDiff, Nat.reduceBEq, reduceCtorEq, Int.reduceBEq, Int.reduceBNe, Int.reduceLT, Int.reduceLE, h5, if_pos e1, if_pos e2, Int.toNat_natCast, Nat.mul_one, hc1, hc2, bne_int_false hx, i64_succ i (by omega)]))
      refine hnext _ w3.drew ?_ ⟨i + 1, ?_, by omega, take_eq_succ hlen hlt he hx, ho.nil (Only.drew [] _)⟩ ?_
      · (repeat (first | with_reducible exact Keeps.refl _ _ | with_reducible exact Keeps.ovr _ _ _ | refine Keeps.put ?_ rfl _ | exact Keeps.refl _ _ | exact Keeps.ovr _ _ _ | refine Keeps.ovr2 ?_ rfl _))
      · simp only [go_sem, ↓reduceIte, Nat.reduceAdd, Nat.reduceEqDiff, Nat.reduceBEq, reduceCtorEq, Int.reduceBEq, Int.reduceBNe, Int.reduceLT, Int.reduceLE]
      · rw [upTo_int h5, upTo_int (k := .i64) (i := i + 1) (by simp only [go_sem, ↓reduceIte, Nat.reduceAdd, Nat.reduceEqDiff, Nat.reduceBEq, reduceCtorEq, Int.reduceBEq, Int.reduceBNe, Int.reduceLT, Int.reduceLE])]; omega
    · (repeat (first | with_reducible refine run_seq ?_ | with_reducible refine run_reg ?_ | with_reducible refine run_block ?_ | with_reducible refine run_blk ?_ | with_reducible refine run_skip ?_ | with_reducible refine run_exit rfl ?_ | with_reducible refine run_drw ?_ | with_reducible refine run_condT ?_ | with_reducible refine run_ret' ?_ | with_reducible refine run_end' ?_ | simp only [go_sem, ↓reduceIte, Nat.reduceAdd, Nat.reduceEqDiff, Nat.reduceBEq, reduceCtorEq, Int.reduceBEq, Int.reduceBNe, Int.reduceLT, Int.reduceLE, h5, if_pos e1, if_pos e2, Int.toNat_natCast, Nat.mul_one, hc1, hc2, bne_int_true hx]))
      exact ⟨by rw [decide_eq_false (fun e => hx (by rw [e]))], ho.nil (Only.drew [] _)⟩
  · have : i = xs.length := by have : ¬ (i < xs.length) := by simpa using hge
                               omega
    subst this
    (repeat (first | with_reducible refine run_seq ?_ | with_reducible refine run_reg ?_ | with_reducible refine run_block ?_ | with_reducible refine run_blk ?_ | with_reducible refine run_skip ?_ | with_reducible refine run_exit rfl ?_ | with_reducible refine run_drw ?_ | with_reducible refine run_condT ?_ | with_reducible refine run_ret' ?_ | with_reducible refine run_end' ?_ | simp only [go_sem, ↓reduceIte, Nat.reduceAdd, Nat.reduceEqDiff, Nat.reduceBEq, reduceCtorEq, Int.reduceBEq, Int.reduceBNe, Int.reduceLT, Int.reduceLE]))
    rw [List.take_length, hlen, List.take_length] at he
    exact ⟨by rw [decide_eq_true he], ho⟩

theorem eqAO_pl (neg : Bool) (p q : PT) : eqAO neg 3 (.agg ⟨plV p⟩) (.agg ⟨plV q⟩) = some (.bool (decide (p = q) != neg)) := by
  obtain ⟨a, b, c⟩ := p
  obtain ⟨a', b', c'⟩ := q
  rw [plV_eq, plV_eq, eqAO_a neg 3 _ _ rfl rfl]
  simp only [eqCells_cons, eqCells_nil]
  by_cases h1 : a = a'
  · by_cases h2 : b = b'
    · by_cases h3 : c = c'
      · simp [h1, h2, h3, notO]
      · simp [h1, h2, h3, notO]
    · simp [h1, h2, notO]
  · simp [h1, notO]
theorem Sl.val3 {w : World} {v : Value} {n : Nat} {L : List PT} {fp : List Nat} (h : Sl w 3 v n (plsV L) fp) : ∃ (a : Option Addr) (cap : Nat), v = .slice a L.length cap := by
  have hn : n = L.length := by have := h.1; rw [plsV_length] at this; omega
  subst hn
  exact h.val
theorem law_samePlaces {w : World} {v1 v2 : Value} {n1 n2 : Nat} {L1 L2 : List PT} {f1 f2 : List Nat} (h1 : Sl w 3 v1 n1 (plsV L1) f1) (h2 : Sl w 3 v2 n2 (plsV L2) f2) (hl : L1.length ≤ 100000) : Cs Try.prog 31 [v1, v2] w fun r w' => r = .bool (decide (L1 = L2)) ∧ Only [] w w' := by
  refine enter_law03_SamePlaces rfl ?_
  unfold x_law03_SamePlaces
  obtain ⟨a1, c1, rfl⟩ := h1.val3
  obtain ⟨a2, c2, rfl⟩ := h2.val3
  by_cases hlen : L1.length = L2.length
  rotate_left
  · (repeat (first | with_reducible refine run_seq ?_ | with_reducible refine run_reg ?_ | with_reducible refine run_block ?_ | with_reducible refine run_blk ?_ | with_reducible refine run_skip ?_ | with_reducible refine run_exit rfl ?_ | with_reducible refine run_drw ?_ | with_reducible refine run_condT ?_ | with_reducible refine run_ret' ?_ | with_reducible refine run_end' ?_ | simp only [go_sem, ↓reduceIte, Nat.reduceAdd, Nat.reduceEqDiff, Nat.reduceBEq, reduceCtorEq, Int.reduceBEq, Int.reduceBNe, Int.reduceLT, Int.reduceLE, bne_int_true (show ¬ ((L1.length : Int) = (L2.length : Int)) by omega)]))
    exact ⟨by rw [decide_eq_false (fun e => hlen (by rw [e]))], Only.refl _ _⟩
  (repeat (first | with_reducible refine run_seq ?_ | with_reducible refine run_reg ?_ | with_reducible refine run_block ?_ | with_reducible refine run_blk ?_ | with_reducible refine run_skip ?_ | with_reducible refine run_exit rfl ?_ | with_reducible refine run_drw ?_ | with_reducible refine run_condT ?_ | with_reducible refine run_ret' ?_ | with_reducible refine run_end' ?_ | simp only [go_sem, ↓reduceIte, Nat.reduceAdd, Nat.reduceEqDiff, Nat.reduceBEq, reduceCtorEq, Int.reduceBEq, Int.reduceBNe, Int.reduceLT, Int.reduceLE, bne_int_false (show ((L1.length : Int) = (L2.length : Int)) by omega)]))
  refine run_loop (4 :: 5 :: 11 :: 12 :: 13 :: 14 :: 15 :: 16 :: 17 :: 18 :: 19 :: 20 :: 21 :: 22 :: 23 :: 24 :: 25 :: []) (fun g w' => ∃ i : Nat, g 5 = .int .i64 i ∧ i ≤ L1.length ∧ L1.take i = L2.take i ∧ Only [] w w') (fun g _ => upTo L1.length 5 g) ⟨0, by simp only [go_sem, ↓reduceIte, Nat.reduceAdd, Nat.reduceEqDiff, Nat.reduceBEq, reduceCtorEq, Int.reduceBEq, Int.reduceBNe, Int.reduceLT, Int.reduceLE]; rfl, by omega, by simp, Only.refl _ _⟩ fun g w3 hI hnext => ?_
  obtain ⟨i, h5, hi, he, ho⟩ := hI
  (repeat (first | with_reducible refine run_seq ?_ | with_reducible refine run_reg ?_ | with_reducible refine run_block ?_ | with_reducible refine run_blk ?_ | with_reducible refine run_skip ?_ | with_reducible refine run_exit rfl ?_ | with_reducible refine run_drw ?_ | with_reducible refine run_condT ?_ | with_reducible refine run_ret' ?_ | with_reducible refine run_end' ?_ | simp only [go_sem, ↓reduceIte, Nat.reduceAdd, Nat.reduceEqDiff, Nat.reduceBEq, reduceCtorEq, Int.reduceBEq, Int.reduceBNe, Int.reduceLT, Int.reduceLE, h5]))
  refine condT (fun hlt => ?_) (fun hge => ?_)
  · have hlt : i < L1.length := by simpa using hlt
    obtain ⟨g1, d1, hv1, hc1, _⟩ := (h1.keep0 ho).place hlt
    obtain ⟨g2, d2, hv2, hc2, _⟩ := (h2.keep0 ho).place (i := i) (by omega)
    cases hv1; cases hv2
    have e1 : (0 : Int) ≤ (i : Int) ∧ (i : Int) < (L1.length : Int) := ⟨by omega, by omega⟩
    have e2 : (0 : Int) ≤ (i : Int) ∧ (i : Int) < (L2.length : Int) := ⟨by omega, by omega⟩
    by_cases hx : L1.getD i (0, 0, 0) = L2.getD i (0, 0, 0)
    · (repeat (first | with_reducible refine run_seq ?_ | with_reducible refine run_reg ?_ | with_reducible refine run_block ?_ | with_reducible refine run_blk ?_ | with_reducible refine run_skip ?_ | with_reducible refine run_exit rfl ?_ | with_reducible refine run_drw ?_ | with_reducible refine run_condT ?_ | with_reducible refine run_ret' ?_ | with_reducible refine run_end' ?_ | simp only [go_sem, ↓reduceIte, Nat.reduceAdd, Nat.reduceEqDiff, Nat.reduceBEq, reduceCtorEq, Int.reduceBEq, Int.reduceBNe, Int.reduceLT, Int.reduceLE, h5, if_pos e1, if_pos e2, Int.toNat_natCast, hc1, hc2, eqAO_pl, decide_eq_true hx, i64_succ i (by omega)]))
      refine hnext _ w3.drew ?_ ⟨i + 1, ?_, by omega, take_eq_succ hlen hlt he hx, ho.nil (Only.drew [] _)⟩ ?_
      · (repeat (first | with_reducible exact Keeps.refl _ _ | with_reducible exact Keeps.ovr _ _ _ | refine Keeps.put ?_ rfl _ | exact Keeps.refl _ _ | exact Keeps.ovr _ _ _ | refine Keeps.ovr2 ?_ rfl _))
      · simp only [go_sem, ↓reduceIte, Nat.reduceAdd, Nat.reduceEqDiff, Nat.reduceBEq, reduceCtorEq, Int.reduceBEq, Int.reduceBNe, Int.reduceLT, Int.reduceLE]
      · rw [upTo_int h5, upTo_int (k := .i64) (i := i + 1) (by simp only [go_sem, ↓reduceIte, Nat.reduceAdd, Nat.reduceEqDiff, Nat.reduceBEq, reduceCtorEq, Int.reduceBEq, Int.reduceBNe, Int.reduceLT, Int.reduceLE])]; omega
    · (repeat (first | with_reducible refine run_seq ?_ | with_reducible refine run_reg ?_ | with_reducible refine run_block ?_ | with_reducible refine run_blk ?_ | with_reducible refine run_skip ?_ | with_reducible refine run_exit rfl ?_ | with_reducible refine run_drw ?_ | with_reducible refine run_condT ?_ | with_reducible refine run_ret' ?_ | with_reducible refine run_end' ?_ | simp only [go_sem, ↓reduceIte, Nat.reduceAdd, Nat.reduceEqDiff, Nat.reduceBEq, reduceCtorEq, Int.reduceBEq, Int.reduceBNe, Int.reduceLT, Int.reduceLE, h5, if_pos e1, if_pos e2, Int.toNat_natCast, hc1, hc2, eqAO_pl, decide_eq_false hx]))
      exact ⟨by rw [decide_eq_false (fun e => hx (by rw [e]))], ho.nil (Only.drew [] _)⟩
  · have : i = L1.length := by have : ¬ (i < L1.length) := by simpa using hge
                               omega
    subst this
    (repeat (first | with_reducible refine run_seq ?_ | with_reducible refine run_reg ?_ | with_reducible refine run_block ?_ | with_reducible refine run_blk ?_ | with_reducible refine run_skip ?_ | with_reducible refine run_exit rfl ?_ | with_reducible refine run_drw ?_ | with_reducible refine run_condT ?_ | with_reducible refine run_ret' ?_ | with_reducible refine run_end' ?_ | simp only [go_sem, ↓reduceIte, Nat.reduceAdd, Nat.reduceEqDiff, Nat.reduceBEq, reduceCtorEq, Int.reduceBEq, Int.reduceBNe, Int.reduceLT, Int.reduceLE]))
    rw [List.take_length, hlen, List.take_length] at he
    exact ⟨by rw [decide_eq_true he], ho⟩

/-! ### Acts -/
structure A7 where
  k : Int
  p : PT
  a : Int
  F : List Int
  T : List Int
  deriving Inhabited
def actV (x : A7) (vF vT : Value) : List Value := [.int .i64 x.k, .int .i64 x.p.1, .int .i64 x.p.2.1, .int .i64 x.p.2.2, .int .i64 x.a, vF, vT]
/-- integers below h0 -/
def RdH (h0 : Nat) (w : World) (v : Value) (xs : List Int) : Prop := ∃ D, RdB w D v xs ∧ ∀ x, x ∈ D → x < h0
theorem RdH.keep {h0 : Nat} {w w' : World} {v : Value} {xs : List Int} {S : List Nat} (h : RdH h0 w v xs) (k : Only S w w') (hs : ∀ x, x ∈ S → h0 ≤ x) : RdH h0 w' v xs := by
  obtain ⟨D, h1, h2⟩ := h
  exact ⟨D, h1.keep k fun x hx hx2 => by have := h2 x hx; have := hs x hx2; omega, h2⟩
theorem RdH.keep0 {h0 : Nat} {w w' : World} {v : Value} {xs : List Int} (h : RdH h0 w v xs) (k : Only [] w w') : RdH h0 w' v xs := h.keep k (by simp)
def ActIs (h0 : Nat) (w : World) (cs : List Value) (x : A7) : Prop := ∃ vF vT, cs = actV x vF vT ∧ RdH h0 w vF x.F ∧ RdH h0 w vT x.T
theorem ActIs.keep {h0 : Nat} {w w' : World} {cs : List Value} {x : A7} {S : List Nat} (h : ActIs h0 w cs x) (k : Only S w w') (hs : ∀ x, x ∈ S → h0 ≤ x) : ActIs h0 w' cs x := by
  obtain ⟨vF, vT, h1, h2, h3⟩ := h; exact ⟨vF, vT, h1, h2.keep k hs, h3.keep k hs⟩
def ActsAt (h0 : Nat) (w : World) (v : Value) (l : List A7) : Prop := ∃ (a : Option Addr) (cap : Nat), v = .slice a l.length cap ∧ l.length ≤ 9223372036854775807 ∧ ∀ i, i < l.length → ∃ p cs, a = some p ∧ p.block < h0 ∧ cellsAt w (p.add (i * 7)) 7 = some cs ∧ ActIs h0 w cs (l.getD i default)
theorem ActsAt.keep {h0 : Nat} {w w' : World} {v : Value} {l : List A7} {S : List Nat} (h : ActsAt h0 w v l) (hw : h0 ≤ w.heap.size) (k : Only S w w') (hs : ∀ x, x ∈ S → h0 ≤ x) : ActsAt h0 w' v l := by
  obtain ⟨a, cap, h1, hl, h2⟩ := h
  refine ⟨a, cap, h1, hl, fun i hi => ?_⟩
  obtain ⟨p, cs, h3, h4, h5, h6⟩ := h2 i hi
  refine ⟨p, cs, h3, h4, ?_, h6.keep k hs⟩
  rw [cellsAt_heap (k.block _ (by rw [add_block]; omega) (by rw [add_block]; intro hx; have := hs _ hx; omega))]
  exact h5
def bigA (x : A7) : Bool := decide (60 < x.F.length) || decide (60 < x.T.length)
def gr (l : List A7) : Bool := l.any bigA || decide (100 < l.length)
theorem any_take_succA {l : List A7} {i : Nat} (h : i < l.length) : (l.take (i + 1)).any bigA = ((l.take i).any bigA || bigA (l.getD i default)) := by
  rw [List.take_succ_eq_append_getElem h, List.any_append]
  simp [h]
theorem ActIs.cells {h0 : Nat} {w : World} {x : A7} {cs : List Value} {p : Addr} (h : ActIs h0 w cs x) (hc : cellsAt w p 7 = some cs) : ∃ a1 c1 a2 c2, w.cell? ⟨p.block, p.off + 5, none⟩ = some (.slice a1 x.F.length c1) ∧ w.cell? ⟨p.block, p.off + 6, none⟩ = some (.slice a2 x.T.length c2) := by
  obtain ⟨vF, vT, rfl, ⟨D1, h1, _⟩, ⟨D2, h2, _⟩⟩ := h
  obtain ⟨a1, c1, rfl⟩ := h1.val
  obtain ⟨a2, c2, rfl⟩ := h2.val
  have hs := (cellsAt_spec hc).2
  refine ⟨a1, c1, a2, c2, ?_, ?_⟩
  · have := hs 5 (by omega); rw [show p.add 5 = ⟨p.block, p.off + 5, none⟩ from rfl] at this; exact this
  · have := hs 6 (by omega); rw [show p.add 6 = ⟨p.block, p.off + 6, none⟩ from rfl] at this; exact this

theorem law_great {h0 : Nat} {w : World} {v : Value} {l : List A7} (h : ActsAt h0 w v l) : Cs Try.prog 24 [v] w fun r w' => r = .bool (gr l) ∧ w' = w := by
  refine enter_law03_great rfl ?_
  unfold x_law03_great
  obtain ⟨a, cap, rfl, hl, hrd⟩ := h
  (repeat (first | with_reducible refine run_seq ?_ | with_reducible refine run_reg ?_ | with_reducible refine run_block ?_ | with_reducible refine run_blk ?_ | with_reducible refine run_skip ?_ | with_reducible refine run_exit rfl ?_ | with_reducible refine run_drw ?_ | with_reducible refine run_condT ?_ | with_reducible refine run_ret' ?_ | with_reducible refine run_end' ?_ | simp only [go_sem, ↓reduceIte, Nat.reduceAdd, Nat.reduceEqDiff, Nat.reduceBEq, reduceCtorEq, Int.reduceBEq, Int.reduceBNe, Int.reduceLT, Int.reduceLE]))
  refine run_loop (2 :: 3 :: 4 :: 5 :: 6 :: 7 :: 8 :: 9 :: 10 :: 11 :: 12 :: 13 :: 14 :: 15 :: 16 :: 17 :: 18 :: 19 :: 20 :: 21 :: 22 :: 23 :: 24 :: 25 :: []) (fun g w' => ∃ i : Nat, g 3 = .int .i64 i ∧ i ≤ l.length ∧ (l.take i).any bigA = false ∧ w' = w) (fun g _ => upTo l.length 3 g) ⟨0, by simp only [go_sem, ↓reduceIte, Nat.reduceAdd, Nat.reduceEqDiff, Nat.reduceBEq, reduceCtorEq, Int.reduceBEq, Int.reduceBNe, Int.reduceLT, Int.reduceLE]; rfl, by omega, by simp, rfl⟩ fun g w' hI hnext => ?_
  obtain ⟨i, h3, hi, hno, rfl⟩ := hI
  (repeat (first | with_reducible refine run_seq ?_ | with_reducible refine run_reg ?_ | with_reducible refine run_block ?_ | with_reducible refine run_blk ?_ | with_reducible refine run_skip ?_ | with_reducible refine run_exit rfl ?_ | with_reducible refine run_drw ?_ | with_reducible refine run_condT ?_ | with_reducible refine run_ret' ?_ | with_reducible refine run_end' ?_ | simp only [go_sem, ↓reduceIte, Nat.reduceAdd, Nat.reduceEqDiff, Nat.reduceBEq, reduceCtorEq, Int.reduceBEq, Int.reduceBNe, Int.reduceLT, Int.reduceLE, h3]))
  refine condT (fun hlt => ?_) (fun hge => ?_)
  · have hlt : i < l.length := by simpa using hlt
    obtain ⟨p, cs, rfl, _, hc, hx⟩ := hrd i hlt
    obtain ⟨a1, c1, a2, c2, hc5, hc6⟩ := hx.cells hc
    have e1 : (0 : Int) ≤ (i : Int) ∧ (i : Int) < (l.length : Int) := ⟨by omega, by omega⟩
    have stop : bigA (l.getD i default) = true → gr l = true := fun hb => by
      unfold gr
      have : l.any bigA = true := List.any_eq_true.2 ⟨l.getD i default, by simp [hlt], hb⟩
      rw [this]; rfl
    by_cases b1 : 60 < (l.getD i default).F.length
    · (repeat (first | with_reducible refine run_seq ?_ | with_reducible refine run_reg ?_ | with_reducible refine run_block ?_ | with_reducible refine run_blk ?_ | with_reducible refine run_skip ?_ | with_reducible refine run_exit rfl ?_ | with_reducible refine run_drw ?_ | with_reducible refine run_condT ?_ | with_reducible refine run_ret' ?_ | with_reducible refine run_end' ?_ | simp only [go_sem, ↓reduceIte, Nat.reduceAdd, Nat.reduceEqDiff, Nat.reduceBEq, reduceCtorEq, Int.reduceBEq, Int.reduceBNe, Int.reduceLT, Int.reduceLE, h3, if_pos e1, Int.toNat_natCast, hc5, hc6, decide_eq_true (show (60 : Int) < ((l.getD i default).F.length : Int) by omega)]))
      rw [stop (by unfold bigA; rw [decide_eq_true b1]; rfl)]
      try exact ⟨rfl, rfl⟩
    · by_cases b2 : 60 < (l.getD i default).T.length
      · (repeat (first | with_reducible refine run_seq ?_ | with_reducible refine run_reg ?_ | with_reducible refine run_block ?_ | with_reducible refine run_blk ?_ | with_reducible refine run_skip ?_ | with_reducible refine run_exit rfl ?_ | with_reducible refine run_drw ?_ | with_reducible refine run_condT ?_ | with_reducible refine run_ret' ?_ | with_reducible refine run_end' ?_ | simp only [go_sem, ↓reduceIte, Nat.reduceAdd, Nat.reduceEqDiff, Nat.reduceBEq, reduceCtorEq, Int.reduceBEq, Int.reduceBNe, Int.reduceLT, Int.reduceLE, h3, if_pos e1, Int.toNat_natCast, hc5, hc6, decide_eq_false (show ¬ (60 : Int) < ((l.getD i default).F.length : Int) by omega), decide_eq_true (show (60 : Int) < ((l.getD i default).T.length : Int) by omega)]))
        rw [stop (by unfold bigA; rw [decide_eq_true b2]; simp)]
        try exact ⟨rfl, rfl⟩
      · (repeat (first | with_reducible refine run_seq ?_ | with_reducible refine run_reg ?_ | with_reducible refine run_block ?_ | with_reducible refine run_blk ?_ | with_reducible refine run_skip ?_ | with_reducible refine run_exit rfl ?_ | with_reducible refine run_drw ?_ | with_reducible refine run_condT ?_ | with_reducible refine run_ret' ?_ | with_reducible refine run_end' ?_ | simp only [go_sem, ↓reduceIte, Nat.reduceAdd, Nat.reduceEqDiff, Nat.reduceBEq, reduceCtorEq, Int.reduceBEq, Int.reduceBNe, Int.reduceLT, Int.reduceLE, h3, if_pos e1, Int.toNat_natCast, hc5, hc6, decide_eq_false (show ¬ (60 : Int) < ((l.getD i default).F.length : Int) by omega), decide_eq_false (show ¬ (60 : Int) < ((l.getD i default).T.length : Int) by omega), i64_succ' i (by omega)]))
        refine hnext _ w' ?_ ⟨i + 1, ?_, by omega, by rw [any_take_succA hlt, hno]; unfold bigA; rw [decide_eq_false b1, decide_eq_false b2]; rfl, rfl⟩ ?_
        · (repeat (first | with_reducible exact Keeps.refl _ _ | with_reducible exact Keeps.ovr _ _ _ | refine Keeps.put ?_ rfl _ | exact Keeps.refl _ _ | exact Keeps.ovr _ _ _ | refine Keeps.ovr2 ?_ rfl _))
        · simp only [go_sem, ↓reduceIte, Nat.reduceAdd, Nat.reduceEqDiff, Nat.reduceBEq, reduceCtorEq, Int.reduceBEq, Int.reduceBNe, Int.reduceLT, Int.reduceLE]
        · rw [upTo_int h3, upTo_int (k := .i64) (i := i + 1) (by simp only [go_sem, ↓reduceIte, Nat.reduceAdd, Nat.reduceEqDiff, Nat.reduceBEq, reduceCtorEq, Int.reduceBEq, Int.reduceBNe, Int.reduceLT, Int.reduceLE])]; omega
  · have : i = l.length := by have : ¬ (i < l.length) := by simpa using hge
                              omega
    subst this
    rw [List.take_length] at hno
    (repeat (first | with_reducible refine run_seq ?_ | with_reducible refine run_reg ?_ | with_reducible refine run_block ?_ | with_reducible refine run_blk ?_ | with_reducible refine run_skip ?_ | with_reducible refine run_exit rfl ?_ | with_reducible refine run_drw ?_ | with_reducible refine run_condT ?_ | with_reducible refine run_ret' ?_ | with_reducible refine run_end' ?_ | simp only [go_sem, ↓reduceIte, Nat.reduceAdd, Nat.reduceEqDiff, Nat.reduceBEq, reduceCtorEq, Int.reduceBEq, Int.reduceBNe, Int.reduceLT, Int.reduceLE]))
    unfold gr
    rw [hno, Bool.false_or]
    by_cases b : 100 < l.length
    · rw [decide_eq_true b, decide_eq_true (show (100 : Int) < (l.length : Int) by omega)]
    · rw [decide_eq_false b, decide_eq_false (show ¬ (100 : Int) < (l.length : Int) by omega)]
end Go.Proofs.Ytblfmacnkacalaa
