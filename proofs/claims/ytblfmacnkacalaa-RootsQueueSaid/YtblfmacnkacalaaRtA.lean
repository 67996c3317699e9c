/- Roots: the program's places. -/
import Derived.Test.YtblfmacnkacalaaRtM
namespace Go.Proofs.Ytblfmacnkacalaa
set_option linter.unusedSimpArgs false
set_option linter.unusedVariables false
set_option maxRecDepth 8000

/-- the program's roots in memory, piece by piece -/
structure PMs (w : World) (b : Nat) (s : MS) (vs vg vq : Value) (fs fg fq : List Nat) : Prop where
  ok : s.Ok
  nd : (b :: (fs ++ (fg ++ fq))).Nodup
  hb : At w b [.int .i64 s.M, vs, vg, vq]
  h0 : Sl w 1 vs (16 * s.M) (ints s.S) fs
  h1 : Sl w 1 vg 16 (ints s.G) fg
  h2 : Sl w 1 vq s.Q.length (ints s.Q) fq
def PM (w : World) (b : Nat) (s : MS) (fp : List Nat) : Prop := ∃ vs vg vq fs fg fq, fp = b :: (fs ++ (fg ++ fq)) ∧ PMs w b s vs vg vq fs fg fq
def PR (w : World) (a : Option Addr) (fp : List Nat) (m : MO) : Prop := match m with
  | some s => ∃ b, a = some ⟨b, 0, none⟩ ∧ PM w b s fp
  | none => (a = none ∧ fp = []) ∨ ∃ b, a = some ⟨b, 0, none⟩ ∧ fp = [b] ∧ At w b [.int .i64 0, .slice none 0 0, .slice none 0 0, .slice none 0 0]
theorem PMs.keep {w w' : World} {b : Nat} {s : MS} {vs vg vq : Value} {fs fg fq S : List Nat} (h : PMs w b s vs vg vq fs fg fq) (k : Only S w w') (hd : ∀ x, x ∈ b :: (fs ++ (fg ++ fq)) → x ∉ S) : PMs w' b s vs vg vq fs fg fq :=
  ⟨h.ok, h.nd, h.hb.keep k (hd b (by simp)), h.h0.keep k fun x hx => hd x (by simp [hx]), h.h1.keep k fun x hx => hd x (by simp [hx]), h.h2.keep k fun x hx => hd x (by simp [hx])⟩
theorem PMs.keep0 {w w' : World} {b : Nat} {s : MS} {vs vg vq : Value} {fs fg fq : List Nat} (h : PMs w b s vs vg vq fs fg fq) (k : Only [] w w') : PMs w' b s vs vg vq fs fg fq := h.keep k fun _ _ => by simp
theorem PM.keep {w w' : World} {b : Nat} {s : MS} {fp S : List Nat} (h : PM w b s fp) (k : Only S w w') (hd : ∀ x, x ∈ fp → x ∉ S) : PM w' b s fp := by
  obtain ⟨vs, vg, vq, fs, fg, fq, rfl, h⟩ := h
  exact ⟨vs, vg, vq, fs, fg, fq, rfl, h.keep k hd⟩
theorem PM.lt {w : World} {b : Nat} {s : MS} {fp : List Nat} (h : PM w b s fp) : ∀ x, x ∈ fp → x < w.heap.size := by
  obtain ⟨vs, vg, vq, fs, fg, fq, rfl, h⟩ := h
  intro x hx
  simp only [List.mem_cons, List.mem_append] at hx
  rcases hx with rfl | hx | hx | hx
  · exact h.hb.lt
  · exact h.h0.lt x hx
  · exact h.h1.lt x hx
  · exact h.h2.lt x hx
theorem PR.keep {w w' : World} {a : Option Addr} {fp S : List Nat} {m : MO} (h : PR w a fp m) (k : Only S w w') (hd : ∀ x, x ∈ fp → x ∉ S) : PR w' a fp m := by
  match m, h with
  | some s, ⟨b, h1, h2⟩ => exact ⟨b, h1, h2.keep k hd⟩
  | none, .inl h => exact .inl h
  | none, .inr ⟨b, h1, h2, h3⟩ => subst h2; exact .inr ⟨b, h1, rfl, h3.keep k (hd b (by simp))⟩
theorem PR.keep0 {w w' : World} {a : Option Addr} {fp : List Nat} {m : MO} (h : PR w a fp m) (k : Only [] w w') : PR w' a fp m := h.keep k fun _ _ => by simp
theorem PR.lt {w : World} {a : Option Addr} {fp : List Nat} {m : MO} (h : PR w a fp m) : ∀ x, x ∈ fp → x < w.heap.size := by
  match m, h with
  | some s, ⟨b, h1, h2⟩ => exact h2.lt
  | none, .inl h => rw [h.2]; intro x hx; cases hx
  | none, .inr ⟨b, h1, h2, h3⟩ => subst h2; intro x hx; simp only [List.mem_singleton] at hx; subst hx; exact h3.lt

/-- where a place is: it may be read and written -/
def PlaceAt (w : World) (b : Nat) (s : MS) (fp : List Nat) (x : Nat × Nat) (ad : Addr) : Prop :=
  ∃ g i xs, ad = ⟨g, i, none⟩ ∧ At w g xs ∧ xs[i]? = some (.int .i64 (s.rd x)) ∧ g ∈ fp ∧
    ∀ a w', At w' g (xs.set i (.int .i64 a)) → Only [g] w w' → PM w' b (s.wr x a) fp
theorem nd_ne {b : Nat} {fs fg fq : List Nat} {x y : Nat} (h : (b :: (fs ++ (fg ++ fq))).Nodup) (hx : x = b ∨ x ∈ fs) (hy : y ∈ fg ∨ y ∈ fq) : x ≠ y := by
  rintro rfl
  simp only [List.nodup_cons, List.mem_append, List.nodup_append, not_or] at h
  rcases hx with rfl | hx
  · rcases hy with hy | hy <;> simp_all
  · have := h.2.2.2 x hx x (hy.imp id id)
    exact this rfl
theorem PMs.place0 {w : World} {b : Nat} {s : MS} {vs vg vq : Value} {fg fq : List Nat} {g cap i : Nat} {ys : List Value} (h : PMs w b s vs vg vq [g] fg fq) (hv : vs = .slice (some ⟨g, 0, none⟩) (16 * s.M) cap) (hat : At w g (ints s.S ++ ys)) (hc : (ints s.S ++ ys).length = cap) (hi : i < s.S.length) :
    PlaceAt w b s (b :: ([g] ++ (fg ++ fq))) (0, i) ⟨g, i, none⟩ := by
  have hnd := h.nd
  simp only [List.cons_append, List.nil_append, List.nodup_cons, List.mem_cons, List.mem_append, not_or, List.nodup_append] at hnd
  obtain ⟨⟨n1, n2, n3⟩, ⟨n4, n5⟩, n6⟩ := hnd
  refine ⟨g, i, _, rfl, hat, ints_get ys hi, by simp, fun a w' hat' ho => ?_⟩
  refine ⟨vs, vg, vq, [g], fg, fq, rfl, h.ok.wr (0, i) a, h.nd, h.hb.keep ho (by simpa using n1), ?_, h.h1.keep ho ?_, h.h2.keep ho ?_⟩
  · rw [ints_set ys hi] at hat'
    rw [hv]
    exact Sl.mk1 hat' (by rw [ints_length]; have := h.ok.ls; simp only [MS.wr, List.length_set]; omega) (by rw [← hc]; simp [ints_length, MS.wr])
  · intro x hx; simp only [List.mem_singleton]; rintro rfl; exact n4 hx
  · intro x hx; simp only [List.mem_singleton]; rintro rfl; exact n5 hx
theorem PMs.place1 {w : World} {b : Nat} {s : MS} {vs vg vq : Value} {fs fq : List Nat} {g cap i : Nat} {ys : List Value} (h : PMs w b s vs vg vq fs [g] fq) (hv : vg = .slice (some ⟨g, 0, none⟩) 16 cap) (hat : At w g (ints s.G ++ ys)) (hc : (ints s.G ++ ys).length = cap) (hi : i < s.G.length) :
    PlaceAt w b s (b :: (fs ++ ([g] ++ fq))) (1, i) ⟨g, i, none⟩ := by
  have hnd := h.nd
  simp only [List.nodup_cons, List.mem_append, not_or, List.nodup_append, List.mem_singleton, List.cons_append, List.nil_append, List.mem_cons] at hnd
  obtain ⟨⟨n1, n2, n3⟩, n4, ⟨n5, n5'⟩, n6⟩ := hnd
  refine ⟨g, i, _, rfl, hat, ints_get ys hi, by simp, fun a w' hat' ho => ?_⟩
  refine ⟨vs, vg, vq, fs, [g], fq, rfl, h.ok.wr (1, i) a, h.nd, h.hb.keep ho (by simpa using n2), h.h0.keep ho ?_, ?_, h.h2.keep ho ?_⟩
  · intro x hx; simp only [List.mem_singleton]; rintro rfl; exact n6 x hx x (.inl rfl) rfl
  · rw [ints_set ys hi] at hat'
    rw [hv]
    exact Sl.mk1 hat' (by rw [ints_length]; have := h.ok.lg; simp only [MS.wr, List.length_set]; omega) (by rw [← hc]; simp [ints_length, MS.wr])
  · intro x hx; simp only [List.mem_singleton]; rintro rfl; exact n5 hx
theorem PMs.place2 {w : World} {b : Nat} {s : MS} {vs vg vq : Value} {fs fg : List Nat} {g cap i : Nat} {ys : List Value} (h : PMs w b s vs vg vq fs fg [g]) (hv : vq = .slice (some ⟨g, 0, none⟩) s.Q.length cap) (hat : At w g (ints s.Q ++ ys)) (hc : (ints s.Q ++ ys).length = cap) (hi : i < s.Q.length) :
    PlaceAt w b s (b :: (fs ++ (fg ++ [g]))) (2, i) ⟨g, i, none⟩ := by
  have hnd := h.nd
  simp only [List.nodup_cons, List.mem_append, not_or, List.nodup_append, List.mem_singleton] at hnd
  obtain ⟨⟨n1, n2, n3⟩, n4, ⟨n5, n5', n6⟩, n7⟩ := hnd
  refine ⟨g, i, _, rfl, hat, ints_get ys hi, by simp, fun a w' hat' ho => ?_⟩
  refine ⟨vs, vg, vq, fs, fg, [g], rfl, h.ok.wr (2, i) a, h.nd, h.hb.keep ho (by simpa using n3), h.h0.keep ho ?_, h.h1.keep ho ?_, ?_⟩
  · intro x hx; simp only [List.mem_singleton]; rintro rfl; exact n7 x hx x (.inr rfl) rfl
  · intro x hx; simp only [List.mem_singleton]; rintro rfl; exact n6 x hx x rfl rfl
  · rw [ints_set ys hi] at hat'
    rw [hv]
    show Sl w' 1 _ (s.Q.set i a).length (ints (s.Q.set i a)) [g]
    rw [List.length_set]
    exact Sl.mk1 hat' (by rw [ints_length]; simp) (by rw [← hc]; simp [ints_length])

theorem made_nil (w : World) : Cs Try.prog 35 [.pointer none] w fun v w' => v = .bool false ∧ w' = w := by
  refine enter_roots_Roots_made rfl ?_
  unfold x_roots_Roots_made
  (repeat (first | with_reducible refine run_seq ?_ | with_reducible refine run_reg ?_ | with_reducible refine run_block ?_ | with_reducible refine run_blk ?_ | with_reducible refine run_skip ?_ | with_reducible refine run_exit rfl ?_ | with_reducible refine run_drw ?_ | with_reducible refine run_condT ?_ | with_reducible refine run_ret' ?_ | with_reducible refine run_end' ?_ | simp only [go_sem, ↓reduceIte, Nat.reduceAdd, Nat.reduceEqDiff, Nat.reduceBEq, reduceCtorEq, Int.reduceBEq, Int.reduceBNe, Int.reduceLT, Int.reduceLE]))
theorem made_at (b : Nat) (n : Int) (c : List Value) (w : World) (h : At w b (.int .i64 n :: c)) : Cs Try.prog 35 [.pointer (some ⟨b, 0, none⟩)] w fun v w' => v = .bool (decide (0 < n)) ∧ w' = w := by
  refine enter_roots_Roots_made rfl ?_
  unfold x_roots_Roots_made
  (repeat (first | with_reducible refine run_seq ?_ | with_reducible refine run_reg ?_ | with_reducible refine run_block ?_ | with_reducible refine run_blk ?_ | with_reducible refine run_skip ?_ | with_reducible refine run_exit rfl ?_ | with_reducible refine run_drw ?_ | with_reducible refine run_condT ?_ | with_reducible refine run_ret' ?_ | with_reducible refine run_end' ?_ | simp only [go_sem, ↓reduceIte, Nat.reduceAdd, Nat.reduceEqDiff, Nat.reduceBEq, reduceCtorEq, Int.reduceBEq, Int.reduceBNe, Int.reduceLT, Int.reduceLE, h.cell]))
theorem made_m {w : World} {a : Option Addr} {fp : List Nat} {m : MO} (h : PR w a fp m) : Cs Try.prog 35 [.pointer a] w fun v w' => v = .bool m.isSome ∧ w' = w := by
  match m, h with
  | some s, ⟨b, h1, vs, vg, vq, fs, fg, fq, _, k⟩ =>
    subst h1
    refine (made_at b _ _ w k.hb).mono ?_
    rintro v w' ⟨rfl, rfl⟩
    have := k.ok.m1
    exact ⟨by simp; omega, rfl⟩
  | none, .inl ⟨h1, _⟩ => subst h1; exact made_nil w
  | none, .inr ⟨b, h1, _, h3⟩ => subst h1; exact made_at b 0 _ w h3

theorem at1_in {w : World} {q g o n c i : Nat} {p : PT} (hq : At w q (plV p)) (hp : p.2.2 = (i : Int)) (hi : i < n) : Cs Try.prog 57 [.slice (some ⟨g, o, none⟩) n c, .pointer (some ⟨q, 0, none⟩)] w fun v w' => v = .pointer (some ⟨g, o + i, none⟩) ∧ w' = w := by
  refine enter_roots_Roots_at_1 rfl ?_
  unfold x_roots_Roots_at_1
  rw [plV_eq] at hq
  have c1 : ¬ (i : Int) < 0 := by omega
  have c2 : ¬ (n : Int) ≤ (i : Int) := by omega
  have c3 : (0 : Int) ≤ (i : Int) ∧ (i : Int) < (n : Int) := ⟨by omega, by omega⟩
  (repeat (first | with_reducible refine run_seq ?_ | with_reducible refine run_reg ?_ | with_reducible refine run_block ?_ | with_reducible refine run_blk ?_ | with_reducible refine run_skip ?_ | with_reducible refine run_exit rfl ?_ | with_reducible refine run_drw ?_ | with_reducible refine run_condT ?_ | with_reducible refine run_ret' ?_ | with_reducible refine run_end' ?_ | simp only [go_sem, ↓reduceIte, Nat.reduceAdd, Nat.reduceEqDiff, Nat.reduceBEq, reduceCtorEq, Int.reduceBEq, Int.reduceBNe, Int.reduceLT, Int.reduceLE, hq.cell, hp, decide_eq_false c1, decide_eq_false c2, if_pos c3, Int.toNat_natCast, Nat.mul_one]))
theorem at1_out {w : World} {q n c : Nat} {a : Option Addr} {p : PT} (hq : At w q (plV p)) (hp : ¬ (0 ≤ p.2.2 ∧ p.2.2 < n)) : Cs Try.prog 57 [.slice a n c, .pointer (some ⟨q, 0, none⟩)] w fun v w' => v = .pointer none ∧ w' = w := by
  refine enter_roots_Roots_at_1 rfl ?_
  unfold x_roots_Roots_at_1
  rw [plV_eq] at hq
  by_cases c1 : p.2.2 < 0
  · (repeat (first | with_reducible refine run_seq ?_ | with_reducible refine run_reg ?_ | with_reducible refine run_block ?_ | with_reducible refine run_blk ?_ | with_reducible refine run_skip ?_ | with_reducible refine run_exit rfl ?_ | with_reducible refine run_drw ?_ | with_reducible refine run_condT ?_ | with_reducible refine run_ret' ?_ | with_reducible refine run_end' ?_ | simp only [go_sem, ↓reduceIte, Nat.reduceAdd, Nat.reduceEqDiff, Nat.reduceBEq, reduceCtorEq, Int.reduceBEq, Int.reduceBNe, Int.reduceLT, Int.reduceLE, hq.cell, decide_eq_true c1]))
  · have c2 : (n : Int) ≤ p.2.2 := by omega
    (repeat (first | with_reducible refine run_seq ?_ | with_reducible refine run_reg ?_ | with_reducible refine run_block ?_ | with_reducible refine run_blk ?_ | with_reducible refine run_skip ?_ | with_reducible refine run_exit rfl ?_ | with_reducible refine run_drw ?_ | with_reducible refine run_condT ?_ | with_reducible refine run_ret' ?_ | with_reducible refine run_end' ?_ | simp only [go_sem, ↓reduceIte, Nat.reduceAdd, Nat.reduceEqDiff, Nat.reduceBEq, reduceCtorEq, Int.reduceBEq, Int.reduceBNe, Int.reduceLT, Int.reduceLE, hq.cell, decide_eq_false c1, decide_eq_true c2]))

theorem at_m {w : World} {b : Nat} {s : MS} {fp : List Nat} (h : PM w b s fp) (p : PT) : Cs Try.prog 49 [.pointer (some ⟨b, 0, none⟩), .agg ⟨plV p⟩] w fun v w' => Only [] w w' ∧
    ∃ ad, v = .pointer ad ∧ ad.isSome = (seg s p).isSome ∧ ∀ x, seg s p = some x → ∃ d, ad = some d ∧ PlaceAt w' b s fp x d := by
  refine enter_roots_Roots_at rfl ?_
  unfold x_roots_Roots_at
  (repeat (first | with_reducible refine run_seq ?_ | with_reducible refine run_reg ?_ | with_reducible refine run_block ?_ | with_reducible refine run_blk ?_ | with_reducible refine run_skip ?_ | with_reducible refine run_exit rfl ?_ | with_reducible refine run_drw ?_ | with_reducible refine run_condT ?_ | with_reducible refine run_ret' ?_ | with_reducible refine run_end' ?_ | simp only [go_sem, ↓reduceIte, Nat.reduceAdd, Nat.reduceEqDiff, Nat.reduceBEq, reduceCtorEq, Int.reduceBEq, Int.reduceBNe, Int.reduceLT, Int.reduceLE]))
  refine boxT fun q w1 hq hs1 hat1 ho1 => ?_
  obtain ⟨vs, vg, vq, fs, fg, fq, rfl, hm⟩ := h
  have m1 := hm.keep0 ho1
  have hb := m1.hb
  have hok := hm.ok
  have hM1 := hok.m1; have hM4 := hok.m4; have hls := hok.ls; have hlg := hok.lg
  obtain ⟨k, m, i⟩ := p
  have hat1 : At w1 q (plV (k, m, i)) := hat1
  have hc : At w1 q [.int .i64 k, .int .i64 m, .int .i64 i] := hat1
  have out : ∀ w', Only [] w1 w' → seg s (k, m, i) = none → Only [] w w' ∧ ∃ ad, (Value.pointer none) = .pointer ad ∧ ad.isSome = (seg s (k, m, i)).isSome ∧ ∀ x, seg s (k, m, i) = some x → ∃ d, ad = some d ∧ PlaceAt w' b s (b :: (fs ++ (fg ++ fq))) x d :=
    fun w' ho' e => ⟨ho1.nil ho', none, rfl, by rw [e]; rfl, fun x hx => by rw [e] at hx; cases hx⟩
  have hin : ∀ w', Only [] w1 w' → ∀ x d, seg s (k, m, i) = some x → PlaceAt w' b s (b :: (fs ++ (fg ++ fq))) x d → Only [] w w' ∧ ∃ ad, (Value.pointer (some d)) = .pointer ad ∧ ad.isSome = (seg s (k, m, i)).isSome ∧ ∀ x, seg s (k, m, i) = some x → ∃ d, ad = some d ∧ PlaceAt w' b s (b :: (fs ++ (fg ++ fq))) x d :=
    fun w' ho' x d e hp => ⟨ho1.nil ho', some d, rfl, by rw [e]; rfl, fun y hy => by rw [e] at hy; cases hy; exact ⟨d, rfl, hp⟩⟩
  by_cases c0 : k = 0
  · subst c0
    by_cases c1 : 0 ≤ m
    · by_cases c2 : m < (s.M : Int)
      · obtain ⟨mn, rfl⟩ : ∃ mn : Nat, m = mn := ⟨m.toNat, by omega⟩
        have e1 : IntKind.i64.wrap ((mn : Int) * 16) = ((mn * 16 : Nat) : Int) := by rw [show ((mn : Int) * 16) = ((mn * 16 : Nat) : Int) by omega, i64_of_nat _ (by omega)]
        have e2 : IntKind.i64.wrap ((mn : Int) + 1) = ((mn + 1 : Nat) : Int) := i64_succ mn (by omega)
        have e3 : IntKind.i64.wrap (((mn + 1 : Nat) : Int) * 16) = (((mn + 1) * 16 : Nat) : Int) := by rw [show (((mn + 1 : Nat) : Int) * 16) = (((mn + 1) * 16 : Nat) : Int) by omega, i64_of_nat _ (by omega)]
        (repeat (first | with_reducible refine run_seq ?_ | with_reducible refine run_reg ?_ | with_reducible refine run_block ?_ | with_reducible refine run_blk ?_ | with_reducible refine run_skip ?_ | with_reducible refine run_exit rfl ?_ | with_reducible refine run_drw ?_ | with_reducible refine run_condT ?_ | with_reducible refine run_ret' ?_ | with_reducible refine run_end' ?_ | simp only [go_sem, ↓reduceIte, Nat.reduceAdd, Nat.reduceEqDiff, Nat.reduceBEq, reduceCtorEq, Int.reduceBEq, Int.reduceBNe, Int.reduceLT, Int.reduceLE, hc.cell, hb.cell, beq_int_true (rfl : (0 : Int) = 0), decide_eq_true c1, decide_eq_true c2]))
        refine run_drt [q, b] ?_
        obtain ⟨g, cap, ys, hv, hg, hfs, hcap⟩ := m1.h0.pos (by omega)
        subst hfs
        have hcap2 : (ints s.S ++ ys).length = cap := by
          rcases m1.h0.2 with ⟨_, h0, _⟩ | ⟨g', cap', ys', T, h1, h2, h3, h4, h5⟩
          · omega
          · rw [hv] at h1; cases h1; cases h2
            obtain ⟨T', hg⟩ := hg
            rw [hg] at h3; simp at h3
            obtain ⟨h3, _⟩ := h3
            rw [h3]; simpa using h4
        subst hv
        (repeat (first | with_reducible refine run_seq ?_ | with_reducible refine run_reg ?_ | with_reducible refine run_block ?_ | with_reducible refine run_blk ?_ | with_reducible refine run_skip ?_ | with_reducible refine run_exit rfl ?_ | with_reducible refine run_drw ?_ | with_reducible refine run_condT ?_ | with_reducible refine run_ret' ?_ | with_reducible refine run_end' ?_ | simp only [go_sem, ↓reduceIte, Nat.reduceAdd, Nat.reduceEqDiff, Nat.reduceBEq, reduceCtorEq, Int.reduceBEq, Int.reduceBNe, Int.reduceLT, Int.reduceLE, hc.cell, hb.cell, e1, e2, e3, Nat.mul_one, slcO_lh (show mn * 16 ≤ (mn + 1) * 16 by omega) (show (mn + 1) * 16 ≤ cap by omega) (show mn * 16 < cap by omega)]))
        by_cases c3 : 0 ≤ i ∧ i < 16
        · obtain ⟨j, rfl⟩ : ∃ j : Nat, i = j := ⟨i.toNat, by omega⟩
          refine callVS (vs := [.slice (some ⟨g, mn * 16, none⟩) ((mn + 1) * 16 - mn * 16) (cap - mn * 16), .pointer (some ⟨q, 0, none⟩)]) ?_ (by kernel_rfl) (at1_in (w := w1.drew.drew) (n := (mn + 1) * 16 - mn * 16) (i := j) (p := (0, (mn : Int), (j : Int))) hat1 rfl (by omega)) ?_
          · rfl
          rintro v w' ⟨rfl, rfl⟩
          refine ⟨.inr (SB.refl _ _), ?_⟩
          (repeat (first | with_reducible refine run_seq ?_ | with_reducible refine run_reg ?_ | with_reducible refine run_block ?_ | with_reducible refine run_blk ?_ | with_reducible refine run_skip ?_ | with_reducible refine run_exit rfl ?_ | with_reducible refine run_drw ?_ | with_reducible refine run_condT ?_ | with_reducible refine run_ret' ?_ | with_reducible refine run_end' ?_ | simp only [go_sem, ↓reduceIte, Nat.reduceAdd, Nat.reduceEqDiff, Nat.reduceBEq, reduceCtorEq, Int.reduceBEq, Int.reduceBNe, Int.reduceLT, Int.reduceLE]))
          refine hin _ (((Only.drew [] _).nil (Only.drew [] _))) (0, mn * 16 + j) _ ?_ ?_
          · simp only [seg, c1, c2, and_self, if_true, c3]; congr 2; omega
          · exact (m1.keep0 ((Only.drew [] _).nil (Only.drew [] _))).place0 rfl hg hcap2 (by omega)
        · refine callVS (vs := [.slice (some ⟨g, mn * 16, none⟩) ((mn + 1) * 16 - mn * 16) (cap - mn * 16), .pointer (some ⟨q, 0, none⟩)]) ?_ (by kernel_rfl) (at1_out (w := w1.drew.drew) (n := (mn + 1) * 16 - mn * 16) (p := (0, (mn : Int), i)) hat1 (by simp only; omega)) ?_
          · rfl
          rintro v w' ⟨rfl, rfl⟩
          refine ⟨.inr (SB.refl _ _), ?_⟩
          (repeat (first | with_reducible refine run_seq ?_ | with_reducible refine run_reg ?_ | with_reducible refine run_block ?_ | with_reducible refine run_blk ?_ | with_reducible refine run_skip ?_ | with_reducible refine run_exit rfl ?_ | with_reducible refine run_drw ?_ | with_reducible refine run_condT ?_ | with_reducible refine run_ret' ?_ | with_reducible refine run_end' ?_ | simp only [go_sem, ↓reduceIte, Nat.reduceAdd, Nat.reduceEqDiff, Nat.reduceBEq, reduceCtorEq, Int.reduceBEq, Int.reduceBNe, Int.reduceLT, Int.reduceLE]))
          exact out _ (((Only.drew [] _).nil (Only.drew [] _))) (by simp only [seg, c1, c2, and_self, if_true]; rw [if_neg c3])
      · (repeat (first | with_reducible refine run_seq ?_ | with_reducible refine run_reg ?_ | with_reducible refine run_block ?_ | with_reducible refine run_blk ?_ | with_reducible refine run_skip ?_ | with_reducible refine run_exit rfl ?_ | with_reducible refine run_drw ?_ | with_reducible refine run_condT ?_ | with_reducible refine run_ret' ?_ | with_reducible refine run_end' ?_ | simp only [go_sem, ↓reduceIte, Nat.reduceAdd, Nat.reduceEqDiff, Nat.reduceBEq, reduceCtorEq, Int.reduceBEq, Int.reduceBNe, Int.reduceLT, Int.reduceLE, hc.cell, hb.cell, beq_int_true (rfl : (0 : Int) = 0), decide_eq_true c1, decide_eq_false c2]))
        exact out _ (Only.drew [] _) (by simp [seg, c2])
    · (repeat (first | with_reducible refine run_seq ?_ | with_reducible refine run_reg ?_ | with_reducible refine run_block ?_ | with_reducible refine run_blk ?_ | with_reducible refine run_skip ?_ | with_reducible refine run_exit rfl ?_ | with_reducible refine run_drw ?_ | with_reducible refine run_condT ?_ | with_reducible refine run_ret' ?_ | with_reducible refine run_end' ?_ | simp only [go_sem, ↓reduceIte, Nat.reduceAdd, Nat.reduceEqDiff, Nat.reduceBEq, reduceCtorEq, Int.reduceBEq, Int.reduceBNe, Int.reduceLT, Int.reduceLE, hc.cell, hb.cell, beq_int_true (rfl : (0 : Int) = 0), decide_eq_false c1]))
      exact out _ (Only.drew [] _) (by simp [seg, c1])
  · by_cases c1 : k = 1
    · subst c1
      by_cases c2 : m = 0
      · subst c2
        obtain ⟨g, cap, ys, hv, hg, hfs, hcap⟩ := m1.h1.pos (by omega)
        subst hfs
        have hcap2 : (ints s.G ++ ys).length = cap := by
          rcases m1.h1.2 with ⟨_, h0, _⟩ | ⟨g', cap', ys', T, h1, h2, h3, h4, h5⟩
          · omega
          · rw [hv] at h1; cases h1; cases h2
            obtain ⟨T', hg⟩ := hg
            rw [hg] at h3; simp at h3
            obtain ⟨h3, _⟩ := h3
            rw [h3]; simpa using h4
        subst hv
        (repeat (first | with_reducible refine run_seq ?_ | with_reducible refine run_reg ?_ | with_reducible refine run_block ?_ | with_reducible refine run_blk ?_ | with_reducible refine run_skip ?_ | with_reducible refine run_exit rfl ?_ | with_reducible refine run_drw ?_ | with_reducible refine run_condT ?_ | with_reducible refine run_ret' ?_ | with_reducible refine run_end' ?_ | simp only [go_sem, ↓reduceIte, Nat.reduceAdd, Nat.reduceEqDiff, Nat.reduceBEq, reduceCtorEq, Int.reduceBEq, Int.reduceBNe, Int.reduceLT, Int.reduceLE, hc.cell, hb.cell, beq_int_true (rfl : (1 : Int) = 1), beq_int_true (rfl : (0 : Int) = 0), beq_int_false (show ¬ (1 : Int) = 0 by omega)]))
        by_cases c3 : 0 ≤ i ∧ i < 16
        · obtain ⟨j, rfl⟩ : ∃ j : Nat, i = j := ⟨i.toNat, by omega⟩
          refine callVT (vs := [.slice (some ⟨g, 0, none⟩) 16 cap, .pointer (some ⟨q, 0, none⟩)]) rfl (by kernel_rfl) (at1_in (w := w1.drew) (o := 0) (n := 16) (i := j) (p := (1, 0, (j : Int))) hat1 rfl (by omega)) ?_
          rintro v w' ⟨rfl, rfl⟩
          (repeat (first | with_reducible refine run_seq ?_ | with_reducible refine run_reg ?_ | with_reducible refine run_block ?_ | with_reducible refine run_blk ?_ | with_reducible refine run_skip ?_ | with_reducible refine run_exit rfl ?_ | with_reducible refine run_drw ?_ | with_reducible refine run_condT ?_ | with_reducible refine run_ret' ?_ | with_reducible refine run_end' ?_ | simp only [go_sem, ↓reduceIte, Nat.reduceAdd, Nat.reduceEqDiff, Nat.reduceBEq, reduceCtorEq, Int.reduceBEq, Int.reduceBNe, Int.reduceLT, Int.reduceLE]))
          refine hin _ (Only.drew [] _) (1, j) _ ?_ ?_
          · simp [seg, c3]
          · exact (m1.keep0 (Only.drew [] _)).place1 rfl hg hcap2 (by omega)
        · refine callVT (vs := [.slice (some ⟨g, 0, none⟩) 16 cap, .pointer (some ⟨q, 0, none⟩)]) rfl (by kernel_rfl) (at1_out (w := w1.drew) (n := 16) (p := (1, 0, i)) hat1 (by simp only; omega)) ?_
          rintro v w' ⟨rfl, rfl⟩
          (repeat (first | with_reducible refine run_seq ?_ | with_reducible refine run_reg ?_ | with_reducible refine run_block ?_ | with_reducible refine run_blk ?_ | with_reducible refine run_skip ?_ | with_reducible refine run_exit rfl ?_ | with_reducible refine run_drw ?_ | with_reducible refine run_condT ?_ | with_reducible refine run_ret' ?_ | with_reducible refine run_end' ?_ | simp only [go_sem, ↓reduceIte, Nat.reduceAdd, Nat.reduceEqDiff, Nat.reduceBEq, reduceCtorEq, Int.reduceBEq, Int.reduceBNe, Int.reduceLT, Int.reduceLE]))
          exact out _ (Only.drew [] _) (by simp [seg]; omega)
      · (repeat (first | with_reducible refine run_seq ?_ | with_reducible refine run_reg ?_ | with_reducible refine run_block ?_ | with_reducible refine run_blk ?_ | with_reducible refine run_skip ?_ | with_reducible refine run_exit rfl ?_ | with_reducible refine run_drw ?_ | with_reducible refine run_condT ?_ | with_reducible refine run_ret' ?_ | with_reducible refine run_end' ?_ | simp only [go_sem, ↓reduceIte, Nat.reduceAdd, Nat.reduceEqDiff, Nat.reduceBEq, reduceCtorEq, Int.reduceBEq, Int.reduceBNe, Int.reduceLT, Int.reduceLE, hc.cell, hb.cell, beq_int_true (rfl : (1 : Int) = 1), beq_int_false c2, beq_int_false (show ¬ (1 : Int) = 0 by omega), beq_int_false (show ¬ (1 : Int) = 2 by omega)]))
        exact out _ (Only.drew [] _) (by simp [seg, c2])
    · by_cases c1' : k = 2
      · subst c1'
        by_cases c2 : m = 0
        · subst c2
          obtain ⟨a', cap, hv⟩ := m1.h2.val
          subst hv
          (repeat (first | with_reducible refine run_seq ?_ | with_reducible refine run_reg ?_ | with_reducible refine run_block ?_ | with_reducible refine run_blk ?_ | with_reducible refine run_skip ?_ | with_reducible refine run_exit rfl ?_ | with_reducible refine run_drw ?_ | with_reducible refine run_condT ?_ | with_reducible refine run_ret' ?_ | with_reducible refine run_end' ?_ | simp only [go_sem, ↓reduceIte, Nat.reduceAdd, Nat.reduceEqDiff, Nat.reduceBEq, reduceCtorEq, Int.reduceBEq, Int.reduceBNe, Int.reduceLT, Int.reduceLE, hc.cell, hb.cell, beq_int_true (rfl : (2 : Int) = 2), beq_int_true (rfl : (0 : Int) = 0), beq_int_false (show ¬ (2 : Int) = 0 by omega), beq_int_false (show ¬ (2 : Int) = 1 by omega)]))
          by_cases c3 : 0 ≤ i ∧ i < s.Q.length
          · obtain ⟨j, rfl⟩ : ∃ j : Nat, i = j := ⟨i.toNat, by omega⟩
            obtain ⟨g, cap, ys, hv, hg, hfs, hcap⟩ := m1.h2.pos (by omega)
            subst hfs
            cases hv
            have hcap2 : (ints s.Q ++ ys).length = cap := by
              rcases m1.h2.2 with ⟨_, h0, _⟩ | ⟨g', cap', ys', T, h1, h2, h3, h4, h5⟩
              · omega
              · cases h1; cases h2
                obtain ⟨T', hg⟩ := hg
                rw [hg] at h3; simp at h3
                obtain ⟨h3, _⟩ := h3
                rw [h3]; simpa using h4
            refine callVT (vs := [.slice (some ⟨g, 0, none⟩) s.Q.length cap, .pointer (some ⟨q, 0, none⟩)]) rfl (by kernel_rfl) (at1_in (w := w1.drew) (o := 0) (n := s.Q.length) (i := j) (p := (2, 0, (j : Int))) hat1 rfl (by omega)) ?_
            rintro v w' ⟨rfl, rfl⟩
            (repeat (first | with_reducible refine run_seq ?_ | with_reducible refine run_reg ?_ | with_reducible refine run_block ?_ | with_reducible refine run_blk ?_ | with_reducible refine run_skip ?_ | with_reducible refine run_exit rfl ?_ | with_reducible refine run_drw ?_ | with_reducible refine run_condT ?_ | with_reducible refine run_ret' ?_ | with_reducible refine run_end' ?_ | simp only [go_sem, ↓reduceIte, Nat.reduceAdd, Nat.reduceEqDiff, Nat.reduceBEq, reduceCtorEq, Int.reduceBEq, Int.reduceBNe, Int.reduceLT, Int.reduceLE]))
            refine hin _ (Only.drew [] _) (2, j) _ ?_ ?_
            · simp [seg]; omega
            · exact (m1.keep0 (Only.drew [] _)).place2 rfl hg hcap2 (by omega)
          · refine callVT (vs := [.slice a' s.Q.length cap, .pointer (some ⟨q, 0, none⟩)]) rfl (by kernel_rfl) (at1_out (w := w1.drew) (n := s.Q.length) (p := (2, 0, i)) hat1 (by simp only; omega)) ?_
            rintro v w' ⟨rfl, rfl⟩
            (repeat (first | with_reducible refine run_seq ?_ | with_reducible refine run_reg ?_ | with_reducible refine run_block ?_ | with_reducible refine run_blk ?_ | with_reducible refine run_skip ?_ | with_reducible refine run_exit rfl ?_ | with_reducible refine run_drw ?_ | with_reducible refine run_condT ?_ | with_reducible refine run_ret' ?_ | with_reducible refine run_end' ?_ | simp only [go_sem, ↓reduceIte, Nat.reduceAdd, Nat.reduceEqDiff, Nat.reduceBEq, reduceCtorEq, Int.reduceBEq, Int.reduceBNe, Int.reduceLT, Int.reduceLE]))
            exact out _ (Only.drew [] _) (by simp [seg]; omega)
        · (repeat (first | with_reducible refine run_seq ?_ | with_reducible refine run_reg ?_ | with_reducible refine run_block ?_ | with_reducible refine run_blk ?_ | with_reducible refine run_skip ?_ | with_reducible refine run_exit rfl ?_ | with_reducible refine run_drw ?_ | with_reducible refine run_condT ?_ | with_reducible refine run_ret' ?_ | with_reducible refine run_end' ?_ | simp only [go_sem, ↓reduceIte, Nat.reduceAdd, Nat.reduceEqDiff, Nat.reduceBEq, reduceCtorEq, Int.reduceBEq, Int.reduceBNe, Int.reduceLT, Int.reduceLE, hc.cell, hb.cell, beq_int_true (rfl : (2 : Int) = 2), beq_int_false c2, beq_int_false (show ¬ (2 : Int) = 0 by omega), beq_int_false (show ¬ (2 : Int) = 1 by omega)]))
          exact out _ (Only.drew [] _) (by simp [seg, c2])
      · (repeat (first | with_reducible refine run_seq ?_ | with_reducible refine run_reg ?_ | with_reducible refine run_block ?_ | with_reducible refine run_blk ?_ | with_reducible refine run_skip ?_ | with_reducible refine run_exit rfl ?_ | with_reducible refine run_drw ?_ | with_reducible refine run_condT ?_ | with_reducible refine run_ret' ?_ | with_reducible refine run_end' ?_ | simp only [go_sem, ↓reduceIte, Nat.reduceAdd, Nat.reduceEqDiff, Nat.reduceBEq, reduceCtorEq, Int.reduceBEq, Int.reduceBNe, Int.reduceLT, Int.reduceLE, hc.cell, hb.cell, beq_int_false c0, beq_int_false c1, beq_int_false c1']))
        exact out _ (Only.drew [] _) (by simp [seg, c0, c1, c1'])
end Go.Proofs.Ytblfmacnkacalaa
