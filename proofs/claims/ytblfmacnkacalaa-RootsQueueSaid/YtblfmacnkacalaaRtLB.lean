/- Roots: play, made, all, Same. -/
import Derived.Test.YtblfmacnkacalaaRtLA
namespace Go.Proofs.Ytblfmacnkacalaa
set_option linter.unusedSimpArgs false
set_option linter.unusedVariables false
set_option maxRecDepth 8000

/-- both sides in the same state, with memory of their own at or beyond h0 -/
structure Two (w : World) (h0 : Nat) (a b : Option Addr) (fp rp : List Nat) (m : MO) : Prop where
  p : PR w a fp m
  r : RR w b rp m
  d : ∀ x, x ∈ fp → x ∉ rp
  lo : ∀ x, x ∈ fp ++ rp → h0 ≤ x
theorem Two.keep {w w' : World} {h0 : Nat} {a b : Option Addr} {fp rp S : List Nat} {m : MO} (h : Two w h0 a b fp rp m) (k : Only S w w') (hd : ∀ x, x ∈ fp ++ rp → x ∉ S) : Two w' h0 a b fp rp m :=
  ⟨h.p.keep k fun x hx => hd x (by simp [hx]), h.r.keep k fun x hx => hd x (by simp [hx]), h.d, h.lo⟩
theorem Two.keep0 {w w' : World} {h0 : Nat} {a b : Option Addr} {fp rp : List Nat} {m : MO} (h : Two w h0 a b fp rp m) (k : Only [] w w') : Two w' h0 a b fp rp m := h.keep k fun _ _ => by simp
theorem Two.lt {w : World} {h0 : Nat} {a b : Option Addr} {fp rp : List Nat} {m : MO} (h : Two w h0 a b fp rp m) : ∀ x, x ∈ fp ++ rp → x < w.heap.size := fun x hx => (List.mem_append.1 hx).elim (h.p.lt x) (h.r.lt x)

def playO (m : MO) (x : A7) : MO := if x.k = 0 then (setO m x.p x.a).2 else if x.k = 1 then (pushO m x.a).2 else if x.k = 2 then (popO m).2 else if x.k = 3 then (replO m x.F x.T).2 else m

/-- after a step on the one side and one on the other -/
theorem Two.both {w w1 w2 : World} {h0 : Nat} {a b : Option Addr} {fp rp fp' rp' : List Nat} {m m' : MO} (h : Two w h0 a b fp rp m) (hh : h0 ≤ w.heap.size) (h1 : PR w1 a fp' m') (o1 : Only fp w w1) (n1 : ∀ x, x ∈ fp' → x ∈ fp ∨ w.heap.size ≤ x)
    (h2 : RR w2 b rp' m') (o2 : Only rp w1 w2) (n2 : ∀ x, x ∈ rp' → x ∈ rp ∨ w1.heap.size ≤ x) : Two w2 h0 a b fp' rp' m' ∧ Only (fp ++ rp) w w2 ∧ ∀ x, x ∈ fp' ++ rp' → x ∈ fp ++ rp ∨ w.heap.size ≤ x := by
  have l1 := h1.lt
  have hz := o1.size
  have hlr := h.r.lt
  have d1 : ∀ x, x ∈ fp' → x ∉ rp := fun x hx hx2 => (n1 x hx).elim (fun h3 => h.d x h3 hx2) (fun h3 => by have := hlr x hx2; omega)
  refine ⟨⟨h1.keep o2 d1, h2, fun x hx hx2 => (n2 x hx2).elim (d1 x hx) (fun h3 => by have := l1 x hx; omega), fun x hx => ?_⟩, (o1.mono fun x hx => .inl (by simp [hx])).same (o2.mono fun x hx => .inl (by simp [hx])), fun x hx => ?_⟩
  · rcases List.mem_append.1 hx with hx | hx
    · exact (n1 x hx).elim (fun h3 => h.lo x (by simp [h3])) (fun h3 => by omega)
    · exact (n2 x hx).elim (fun h3 => h.lo x (by simp [h3])) (fun h3 => by omega)
  · rcases List.mem_append.1 hx with hx | hx
    · exact (n1 x hx).imp (fun h3 => by simp [h3]) id
    · exact (n2 x hx).imp (fun h3 => by simp [h3]) (fun h3 => by omega)

theorem law_play {w : World} {h0 : Nat} {a b : Option Addr} {fp rp : List Nat} {m : MO} {x : A7} {vF vT : Value} (h : Two w h0 a b fp rp m) (hh : h0 ≤ w.heap.size) (hF : RdH h0 w vF x.F) (hT : RdH h0 w vT x.T) (hb : bigA x = false) :
    Cs Try.prog 28 [.pointer a, .pointer b, .agg ⟨actV x vF vT⟩] w fun v w' => v = .bool true ∧ ∃ fp' rp', Two w' h0 a b fp' rp' (playO m x) ∧ Only (fp ++ rp) w w' ∧ ∀ y, y ∈ fp' ++ rp' → y ∈ fp ++ rp ∨ w.heap.size ≤ y := by
  refine enter_law03_play rfl ?_
  unfold x_law03_play
  (repeat (first | with_reducible refine run_seq ?_ | with_reducible refine run_reg ?_ | with_reducible refine run_block ?_ | with_reducible refine run_blk ?_ | with_reducible refine run_skip ?_ | with_reducible refine run_exit rfl ?_ | with_reducible refine run_drw ?_ | with_reducible refine run_condT ?_ | with_reducible refine run_ret' ?_ | with_reducible refine run_end' ?_ | simp only [go_sem, ↓reduceIte, Nat.reduceAdd, Nat.reduceEqDiff, Nat.reduceBEq, reduceCtorEq, Int.reduceBEq, Int.reduceBNe, Int.reduceLT, Int.reduceLE]))
  refine boxT fun q w1 hq hs1 hat1 ho1 => ?_
  have hc : At w1 q [.int .i64 x.k, .int .i64 x.p.1, .int .i64 x.p.2.1, .int .i64 x.p.2.2, .int .i64 x.a, vF, vT] := hat1
  have hpl : cellsAt w1 ⟨q, 1, none⟩ 3 = some (plV x.p) := cellsAt_at hc 1 3 (by simp)
  have h1 := h.keep0 ho1
  have hlt := h.lt
  have hqn : ∀ S : List Nat, (∀ y, y ∈ S → y ∈ fp ++ rp) → q ∉ S := fun S hS hx => by have := hlt q (hS q hx); omega
  have hqf : q ∉ fp := hqn fp fun y hy => by simp [hy]
  have hqr : q ∉ rp := hqn rp fun y hy => by simp [hy]
  have hh1 : h0 ≤ w1.heap.size := by omega
  have fin : ∀ w' fp' rp' m', Two w' h0 a b fp' rp' m' → Only (fp ++ rp) w1 w' → (∀ y, y ∈ fp' ++ rp' → y ∈ fp ++ rp ∨ w1.heap.size ≤ y) → playO m x = m' → ∃ fp' rp', Two w' h0 a b fp' rp' (playO m x) ∧ Only (fp ++ rp) w w' ∧ ∀ y, y ∈ fp' ++ rp' → y ∈ fp ++ rp ∨ w.heap.size ≤ y := by
    intro w' fp' rp' m' ht ho hn he
    rw [he]
    exact ⟨fp', rp', ht, ho1.of_nil.same ho, fun y hy => (hn y hy).imp id fun h => by omega⟩
  by_cases k0 : x.k = 0
  · (repeat (first | with_reducible refine run_seq ?_ | with_reducible refine run_reg ?_ | with_reducible refine run_block ?_ | with_reducible refine run_blk ?_ | with_reducible refine run_skip ?_ | with_reducible refine run_exit rfl ?_ | with_reducible refine run_drw ?_ | with_reducible refine run_condT ?_ | with_reducible refine run_ret' ?_ | with_reducible refine run_end' ?_ | simp only [go_sem, ↓reduceIte, Nat.reduceAdd, Nat.reduceEqDiff, Nat.reduceBEq, reduceCtorEq, Int.reduceBEq, Int.reduceBNe, Int.reduceLT, Int.reduceLE, hc.cell, beq_int_true k0]))
    refine run_drt [q] ?_
    have h2 := h1.keep0 (Only.drew [] w1)
    (repeat (first | with_reducible refine run_seq ?_ | with_reducible refine run_reg ?_ | with_reducible refine run_block ?_ | with_reducible refine run_blk ?_ | with_reducible refine run_skip ?_ | with_reducible refine run_exit rfl ?_ | with_reducible refine run_drw ?_ | with_reducible refine run_condT ?_ | with_reducible refine run_ret' ?_ | with_reducible refine run_end' ?_ | simp only [go_sem, ↓reduceIte, Nat.reduceAdd, Nat.reduceEqDiff, Nat.reduceBEq, reduceCtorEq, Int.reduceBEq, Int.reduceBNe, Int.reduceLT, Int.reduceLE, hc.cell, hpl]))
    refine callS (Set_m h2.p x.p x.a) ?_
    rintro v w2 ⟨rfl, hp2, ho2, _⟩
    refine ⟨.inr ((SB.refl _ _).only ho2 fun y hy => by simp only [List.mem_singleton] at hy; subst hy; exact ⟨hc.lt, hqf⟩), ?_⟩
    (repeat (first | with_reducible refine run_seq ?_ | with_reducible refine run_reg ?_ | with_reducible refine run_block ?_ | with_reducible refine run_blk ?_ | with_reducible refine run_skip ?_ | with_reducible refine run_exit rfl ?_ | with_reducible refine run_drw ?_ | with_reducible refine run_condT ?_ | with_reducible refine run_ret' ?_ | with_reducible refine run_end' ?_ | simp only [go_sem, ↓reduceIte, Nat.reduceAdd, Nat.reduceEqDiff, Nat.reduceBEq, reduceCtorEq, Int.reduceBEq, Int.reduceBNe, Int.reduceLT, Int.reduceLE, hc.cell, hpl]))
    refine callS (rSet (h2.r.keep ho2 fun y hy hy2 => h.d y hy2 hy) x.p x.a) ?_
    rintro v w3 ⟨rfl, hr3, ho3⟩
    refine ⟨.inr ((SB.refl _ _).only ((ho2.mono (T := fp ++ rp) fun y hy => .inl (by simp [hy])).same (ho3.mono fun y hy => .inl (by simp [hy]))) fun y hy => by simp only [List.mem_singleton] at hy; subst hy; exact ⟨hc.lt, by simp [hqf, hqr]⟩), ?_⟩
    (repeat (first | with_reducible refine run_seq ?_ | with_reducible refine run_reg ?_ | with_reducible refine run_block ?_ | with_reducible refine run_blk ?_ | with_reducible refine run_skip ?_ | with_reducible refine run_exit rfl ?_ | with_reducible refine run_drw ?_ | with_reducible refine run_condT ?_ | with_reducible refine run_ret' ?_ | with_reducible refine run_end' ?_ | simp only [go_sem, ↓reduceIte, Nat.reduceAdd, Nat.reduceEqDiff, Nat.reduceBEq, reduceCtorEq, Int.reduceBEq, Int.reduceBNe, Int.reduceLT, Int.reduceLE, beq_int_true (rfl : (setO m x.p x.a).1 = (setO m x.p x.a).1)]))
    obtain ⟨t, o, n⟩ := h2.both hh1 hp2 ho2 (fun y hy => .inl hy) hr3 ho3 (fun y hy => .inl hy)
    exact fin w3 fp rp _ t (Only.drew_left o) n (by unfold playO; rw [if_pos k0])
  · by_cases k1 : x.k = 1
    · (repeat (first | with_reducible refine run_seq ?_ | with_reducible refine run_reg ?_ | with_reducible refine run_block ?_ | with_reducible refine run_blk ?_ | with_reducible refine run_skip ?_ | with_reducible refine run_exit rfl ?_ | with_reducible refine run_drw ?_ | with_reducible refine run_condT ?_ | with_reducible refine run_ret' ?_ | with_reducible refine run_end' ?_ | simp only [go_sem, ↓reduceIte, Nat.reduceAdd, Nat.reduceEqDiff, Nat.reduceBEq, reduceCtorEq, Int.reduceBEq, Int.reduceBNe, Int.reduceLT, Int.reduceLE, hc.cell, beq_int_false k0, beq_int_true k1]))
      refine run_drt [q] ?_
      have h2 := h1.keep0 (Only.drew [] w1)
      (repeat (first | with_reducible refine run_seq ?_ | with_reducible refine run_reg ?_ | with_reducible refine run_block ?_ | with_reducible refine run_blk ?_ | with_reducible refine run_skip ?_ | with_reducible refine run_exit rfl ?_ | with_reducible refine run_drw ?_ | with_reducible refine run_condT ?_ | with_reducible refine run_ret' ?_ | with_reducible refine run_end' ?_ | simp only [go_sem, ↓reduceIte, Nat.reduceAdd, Nat.reduceEqDiff, Nat.reduceBEq, reduceCtorEq, Int.reduceBEq, Int.reduceBNe, Int.reduceLT, Int.reduceLE, hc.cell]))
      refine callS (Push_m h2.p x.a) ?_
      rintro v w2 ⟨rfl, ho2, _, fp', hp2, hf2⟩
      refine ⟨.inr ((SB.refl _ _).only ho2 fun y hy => by simp only [List.mem_singleton] at hy; subst hy; exact ⟨hc.lt, hqf⟩), ?_⟩
      (repeat (first | with_reducible refine run_seq ?_ | with_reducible refine run_reg ?_ | with_reducible refine run_block ?_ | with_reducible refine run_blk ?_ | with_reducible refine run_skip ?_ | with_reducible refine run_exit rfl ?_ | with_reducible refine run_drw ?_ | with_reducible refine run_condT ?_ | with_reducible refine run_ret' ?_ | with_reducible refine run_end' ?_ | simp only [go_sem, ↓reduceIte, Nat.reduceAdd, Nat.reduceEqDiff, Nat.reduceBEq, reduceCtorEq, Int.reduceBEq, Int.reduceBNe, Int.reduceLT, Int.reduceLE, hc.cell]))
      refine callS (rPush (h2.r.keep ho2 fun y hy hy2 => h.d y hy2 hy) x.a) ?_
      rintro v w3 ⟨rfl, ho3, rp', hr3, hf3⟩
      refine ⟨.inr ((SB.refl _ _).only ((ho2.mono (T := fp ++ rp) fun y hy => .inl (by simp [hy])).same (ho3.mono fun y hy => .inl (by simp [hy]))) fun y hy => by simp only [List.mem_singleton] at hy; subst hy; exact ⟨hc.lt, by simp [hqf, hqr]⟩), ?_⟩
      (repeat (first | with_reducible refine run_seq ?_ | with_reducible refine run_reg ?_ | with_reducible refine run_block ?_ | with_reducible refine run_blk ?_ | with_reducible refine run_skip ?_ | with_reducible refine run_exit rfl ?_ | with_reducible refine run_drw ?_ | with_reducible refine run_condT ?_ | with_reducible refine run_ret' ?_ | with_reducible refine run_end' ?_ | simp only [go_sem, ↓reduceIte, Nat.reduceAdd, Nat.reduceEqDiff, Nat.reduceBEq, reduceCtorEq, Int.reduceBEq, Int.reduceBNe, Int.reduceLT, Int.reduceLE, beq_int_true (rfl : (pushO m x.a).1 = (pushO m x.a).1)]))
      obtain ⟨t, o, n⟩ := h2.both hh1 hp2 ho2 hf2 hr3 ho3 hf3
      exact fin w3 fp' rp' _ t (Only.drew_left o) n (by unfold playO; rw [if_neg k0, if_pos k1])
    · by_cases k2 : x.k = 2
      · (repeat (first | with_reducible refine run_seq ?_ | with_reducible refine run_reg ?_ | with_reducible refine run_block ?_ | with_reducible refine run_blk ?_ | with_reducible refine run_skip ?_ | with_reducible refine run_exit rfl ?_ | with_reducible refine run_drw ?_ | with_reducible refine run_condT ?_ | with_reducible refine run_ret' ?_ | with_reducible refine run_end' ?_ | simp only [go_sem, ↓reduceIte, Nat.reduceAdd, Nat.reduceEqDiff, Nat.reduceBEq, reduceCtorEq, Int.reduceBEq, Int.reduceBNe, Int.reduceLT, Int.reduceLE, hc.cell, beq_int_false k0, beq_int_false k1, beq_int_true k2]))
        refine callT (Pop_m h1.p) ?_
        rintro v w2 ⟨rfl, ho2, _, fp', hp2, hf2⟩
        (repeat (first | with_reducible refine run_seq ?_ | with_reducible refine run_reg ?_ | with_reducible refine run_block ?_ | with_reducible refine run_blk ?_ | with_reducible refine run_skip ?_ | with_reducible refine run_exit rfl ?_ | with_reducible refine run_drw ?_ | with_reducible refine run_condT ?_ | with_reducible refine run_ret' ?_ | with_reducible refine run_end' ?_ | simp only [go_sem, ↓reduceIte, Nat.reduceAdd, Nat.reduceEqDiff, Nat.reduceBEq, reduceCtorEq, Int.reduceBEq, Int.reduceBNe, Int.reduceLT, Int.reduceLE]))
        refine callT (rPop (h1.r.keep ho2 fun y hy hy2 => h.d y hy2 hy)) ?_
        rintro v w3 ⟨rfl, ho3, rp', hr3, hf3⟩
        (repeat (first | with_reducible refine run_seq ?_ | with_reducible refine run_reg ?_ | with_reducible refine run_block ?_ | with_reducible refine run_blk ?_ | with_reducible refine run_skip ?_ | with_reducible refine run_exit rfl ?_ | with_reducible refine run_drw ?_ | with_reducible refine run_condT ?_ | with_reducible refine run_ret' ?_ | with_reducible refine run_end' ?_ | simp only [go_sem, ↓reduceIte, Nat.reduceAdd, Nat.reduceEqDiff, Nat.reduceBEq, reduceCtorEq, Int.reduceBEq, Int.reduceBNe, Int.reduceLT, Int.reduceLE, beq_int_true (rfl : (popO m).1.1 = (popO m).1.1), beq_int_true (rfl : (popO m).1.2 = (popO m).1.2)]))
        obtain ⟨t, o, n⟩ := h1.both hh1 hp2 ho2 hf2 hr3 ho3 hf3
        exact fin w3 fp' rp' _ t o n (by unfold playO; rw [if_neg k0, if_neg k1, if_pos k2])
      · by_cases k3 : x.k = 3
        · (repeat (first | with_reducible refine run_seq ?_ | with_reducible refine run_reg ?_ | with_reducible refine run_block ?_ | with_reducible refine run_blk ?_ | with_reducible refine run_skip ?_ | with_reducible refine run_exit rfl ?_ | with_reducible refine run_drw ?_ | with_reducible refine run_condT ?_ | with_reducible refine run_ret' ?_ | with_reducible refine run_end' ?_ | simp only [go_sem, ↓reduceIte, Nat.reduceAdd, Nat.reduceEqDiff, Nat.reduceBEq, reduceCtorEq, Int.reduceBEq, Int.reduceBNe, Int.reduceLT, Int.reduceLE, hc.cell, beq_int_false k0, beq_int_false k1, beq_int_false k2, beq_int_true k3]))
          obtain ⟨D1, hF1, hD1⟩ := hF.keep0 ho1
          obtain ⟨D2, hT1, hD2⟩ := hT.keep0 ho1
          have hlen : x.F.length ≤ 60 ∧ x.T.length ≤ 60 := by
            unfold bigA at hb
            simp only [Bool.or_eq_false_iff, decide_eq_false_iff_not] at hb
            omega
          have e1 : ∀ y, y ∈ D1 → y ∉ fp ++ rp := fun y hy hy2 => by have := hD1 y hy; have := h.lo y hy2; omega
          have e2 : ∀ y, y ∈ D2 → y ∉ fp ++ rp := fun y hy hy2 => by have := hD2 y hy; have := h.lo y hy2; omega
          refine callT (Replace_m h1.p hF1 hT1 (fun y hy => ⟨fun h => e1 y hy (by simp [h]), by have := hD1 y hy; omega⟩) (fun y hy => ⟨fun h => e2 y hy (by simp [h]), by have := hD2 y hy; omega⟩) (by omega) (by omega)) ?_
          rintro v w2 ⟨rfl, hp2, ho2, _⟩
          have hc2 := hc.keep ho2 hqf
          have hz2 := ho2.size
          (repeat (first | with_reducible refine run_seq ?_ | with_reducible refine run_reg ?_ | with_reducible refine run_block ?_ | with_reducible refine run_blk ?_ | with_reducible refine run_skip ?_ | with_reducible refine run_exit rfl ?_ | with_reducible refine run_drw ?_ | with_reducible refine run_condT ?_ | with_reducible refine run_ret' ?_ | with_reducible refine run_end' ?_ | simp only [go_sem, ↓reduceIte, Nat.reduceAdd, Nat.reduceEqDiff, Nat.reduceBEq, reduceCtorEq, Int.reduceBEq, Int.reduceBNe, Int.reduceLT, Int.reduceLE, hc2.cell]))
          refine callT (rReplace (h1.r.keep ho2 fun y hy hy2 => h.d y hy2 hy) (hF1.keep ho2 fun y hy h => e1 y hy (by simp [h])) (hT1.keep ho2 fun y hy h => e2 y hy (by simp [h])) (fun y hy => ⟨fun h => e1 y hy (by simp [h]), by have := hD1 y hy; omega⟩) (fun y hy => ⟨fun h => e2 y hy (by simp [h]), by have := hD2 y hy; omega⟩) (by omega) (by omega)) ?_
          rintro v w3 ⟨rfl, hr3, ho3⟩
          (repeat (first | with_reducible refine run_seq ?_ | with_reducible refine run_reg ?_ | with_reducible refine run_block ?_ | with_reducible refine run_blk ?_ | with_reducible refine run_skip ?_ | with_reducible refine run_exit rfl ?_ | with_reducible refine run_drw ?_ | with_reducible refine run_condT ?_ | with_reducible refine run_ret' ?_ | with_reducible refine run_end' ?_ | simp only [go_sem, ↓reduceIte, Nat.reduceAdd, Nat.reduceEqDiff, Nat.reduceBEq, reduceCtorEq, Int.reduceBEq, Int.reduceBNe, Int.reduceLT, Int.reduceLE, beq_int_true (rfl : (replO m x.F x.T).1.1 = (replO m x.F x.T).1.1), beq_int_true (rfl : (replO m x.F x.T).1.2 = (replO m x.F x.T).1.2)]))
          obtain ⟨t, o, n⟩ := h1.both hh1 hp2 ho2 (fun y hy => .inl hy) hr3 ho3 (fun y hy => .inl hy)
          exact fin w3 fp rp _ t o n (by unfold playO; rw [if_neg k0, if_neg k1, if_neg k2, if_pos k3])
        · by_cases k4 : x.k = 4
          · (repeat (first | with_reducible refine run_seq ?_ | with_reducible refine run_reg ?_ | with_reducible refine run_block ?_ | with_reducible refine run_blk ?_ | with_reducible refine run_skip ?_ | with_reducible refine run_exit rfl ?_ | with_reducible refine run_drw ?_ | with_reducible refine run_condT ?_ | with_reducible refine run_ret' ?_ | with_reducible refine run_end' ?_ | simp only [go_sem, ↓reduceIte, Nat.reduceAdd, Nat.reduceEqDiff, Nat.reduceBEq, reduceCtorEq, Int.reduceBEq, Int.reduceBNe, Int.reduceLT, Int.reduceLE, hc.cell, beq_int_false k0, beq_int_false k1, beq_int_false k2, beq_int_false k3, beq_int_true k4, hpl]))
            refine callT (Get_m h1.p x.p) ?_
            rintro v w2 ⟨rfl, ho2⟩
            have hpl2 : cellsAt w2 ⟨q, 1, none⟩ 3 = some (plV x.p) := cellsAt_at (hc.keep0 ho2) 1 3 (by simp)
            (repeat (first | with_reducible refine run_seq ?_ | with_reducible refine run_reg ?_ | with_reducible refine run_block ?_ | with_reducible refine run_blk ?_ | with_reducible refine run_skip ?_ | with_reducible refine run_exit rfl ?_ | with_reducible refine run_drw ?_ | with_reducible refine run_condT ?_ | with_reducible refine run_ret' ?_ | with_reducible refine run_end' ?_ | simp only [go_sem, ↓reduceIte, Nat.reduceAdd, Nat.reduceEqDiff, Nat.reduceBEq, reduceCtorEq, Int.reduceBEq, Int.reduceBNe, Int.reduceLT, Int.reduceLE, hpl2]))
            refine callT (rGet (h1.r.keep0 ho2) x.p) ?_
            rintro v w3 ⟨rfl, ho3⟩
            (repeat (first | with_reducible refine run_seq ?_ | with_reducible refine run_reg ?_ | with_reducible refine run_block ?_ | with_reducible refine run_blk ?_ | with_reducible refine run_skip ?_ | with_reducible refine run_exit rfl ?_ | with_reducible refine run_drw ?_ | with_reducible refine run_condT ?_ | with_reducible refine run_ret' ?_ | with_reducible refine run_end' ?_ | simp only [go_sem, ↓reduceIte, Nat.reduceAdd, Nat.reduceEqDiff, Nat.reduceBEq, reduceCtorEq, Int.reduceBEq, Int.reduceBNe, Int.reduceLT, Int.reduceLE, beq_int_true (rfl : (getO m x.p).1 = (getO m x.p).1), beq_int_true (rfl : (getO m x.p).2 = (getO m x.p).2)]))
            have o := ho2.nil ho3
            exact fin w3 fp rp m (h1.keep0 o) o.of_nil (fun y hy => .inl hy) (by unfold playO; rw [if_neg k0, if_neg k1, if_neg k2, if_neg k3])
          · (repeat (first | with_reducible refine run_seq ?_ | with_reducible refine run_reg ?_ | with_reducible refine run_block ?_ | with_reducible refine run_blk ?_ | with_reducible refine run_skip ?_ | with_reducible refine run_exit rfl ?_ | with_reducible refine run_drw ?_ | with_reducible refine run_condT ?_ | with_reducible refine run_ret' ?_ | with_reducible refine run_end' ?_ | simp only [go_sem, ↓reduceIte, Nat.reduceAdd, Nat.reduceEqDiff, Nat.reduceBEq, reduceCtorEq, Int.reduceBEq, Int.reduceBNe, Int.reduceLT, Int.reduceLE, hc.cell, beq_int_false k0, beq_int_false k1, beq_int_false k2, beq_int_false k3, beq_int_false k4]))
            exact fin w1 fp rp m h1 (Only.refl _ _) (fun y hy => .inl hy) (by unfold playO; rw [if_neg k0, if_neg k1, if_neg k2, if_neg k3])
end Go.Proofs.Ytblfmacnkacalaa
