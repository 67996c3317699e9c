/- Heaps in memory; what asks and changes nothing. -/
import Derived.Test.YtgcofabdialaaaaGreatHpS
import Derived.Test.YtgcofabdialaaaaGreatHpM
namespace Go.Proofs.YtgcofabdialaaaaGreat
set_option linter.unusedSimpArgs false
set_option linter.unusedVariables false
set_option maxRecDepth 8000
attribute [go_sem] Option.isSome_some Option.isSome_none
theorem dv2 (v : Value) : divO 2 v = some v := Eq.trans rfl rfl
theorem dv8 (v : Value) : divO 8 v = some v := Eq.trans rfl rfl
theorem dv16 (v : Value) : divO 16 v = some v := Eq.trans rfl rfl
theorem dv4096 (v : Value) : divO 4096 v = some v := Eq.trans rfl rfl
attribute [go_sem] dv2 dv8 dv16 dv4096

def blkV (B : List (Int × Int)) : List Value := B.flatMap fun x => [.int .i64 x.1, .int .i64 x.2]
theorem blkV_len (B : List (Int × Int)) : (blkV B).length = 2 * B.length := by
  induction B with
  | nil => rfl
  | cons x B ih => simp only [blkV, List.flatMap_cons, List.length_append, List.length_cons, List.length_nil] at ih ⊢; omega
theorem blkV_get {B : List (Int × Int)} {i : Nat} (h : i < B.length) : (blkV B)[2 * i]? = some (.int .i64 (B.getD i (0, 0)).1) ∧ (blkV B)[2 * i + 1]? = some (.int .i64 (B.getD i (0, 0)).2) := by
  induction B generalizing i with
  | nil => simp at h
  | cons x B ih =>
    cases i with
    | zero => simp [blkV]
    | succ i =>
      have h' : i < B.length := by simpa using h
      obtain ⟨h1, h2⟩ := ih h'
      have e : blkV (x :: B) = .int .i64 x.1 :: .int .i64 x.2 :: blkV B := rfl
      rw [e, show 2 * (i + 1) = 2 * i + 1 + 1 by omega, show 2 * i + 1 + 1 + 1 = (2 * i + 1) + 1 + 1 by omega]
      simpa using ⟨h1, h2⟩
structure HMs (w : World) (b : Nat) (s : HL) (gB gW cB cW : Nat) (yB yW : List Value) (sb sg pb pg bl bf : Nat) : Prop where
  ok : s.Ok
  hb : At w b [.slice (some ⟨gB, 0, none⟩) s.B.length cB, .slice (some ⟨gW, 0, none⟩) s.W.length cW, .pointer (some ⟨sb, 0, none⟩), .pointer (some ⟨pb, 0, none⟩), .map (some bl), .map (some bf), .int .i64 s.born]
  hB : At w gB (blkV s.B ++ yB)
  hW : At w gW (ints s.W ++ yW)
  cB : s.B.length ≤ cB
  cW : s.W.length ≤ cW
  hs : STab w sb sg s.st.length 1 s.st
  hp : STab w pb pg s.pn.length 1 s.pn
  hl : MpAt w bl s.pl
  hf : MpAt w bf s.fw
  nd : [b, gB, gW, sb, sg, pb, pg, bl, bf].Nodup
def HM (w : World) (b : Nat) (s : HL) (fp : List Nat) : Prop := ∃ gB gW cB cW yB yW sb sg pb pg bl bf, fp = [b, gB, gW, sb, sg, pb, pg, bl, bf] ∧ HMs w b s gB gW cB cW yB yW sb sg pb pg bl bf
def HR (w : World) (a : Option Addr) (fp : List Nat) (m : HO) : Prop := match m with
  | some s => ∃ b, a = some ⟨b, 0, none⟩ ∧ HM w b s fp
  | none => (a = none ∧ fp = []) ∨ ∃ b, a = some ⟨b, 0, none⟩ ∧ fp = [b] ∧ At w b [.slice none 0 0, .slice none 0 0, .pointer none, .pointer none, .map none, .map none, .int .i64 0]
theorem HMs.keep {w w' : World} {b : Nat} {s : HL} {gB gW cB cW : Nat} {yB yW : List Value} {sb sg pb pg bl bf : Nat} {S : List Nat} (h : HMs w b s gB gW cB cW yB yW sb sg pb pg bl bf) (k : Only S w w') (hd : ∀ x, x ∈ [b, gB, gW, sb, sg, pb, pg, bl, bf] → x ∉ S) : HMs w' b s gB gW cB cW yB yW sb sg pb pg bl bf :=
  ⟨h.ok, h.hb.keep k (hd _ (by simp)), h.hB.keep k (hd _ (by simp)), h.hW.keep k (hd _ (by simp)), h.cB, h.cW, h.hs.keep k (hd _ (by simp)) (hd _ (by simp)), h.hp.keep k (hd _ (by simp)) (hd _ (by simp)), h.hl.keep k (hd _ (by simp)), h.hf.keep k (hd _ (by simp)), h.nd⟩
theorem HMs.keep0 {w w' : World} {b : Nat} {s : HL} {gB gW cB cW : Nat} {yB yW : List Value} {sb sg pb pg bl bf : Nat} (h : HMs w b s gB gW cB cW yB yW sb sg pb pg bl bf) (k : Only [] w w') : HMs w' b s gB gW cB cW yB yW sb sg pb pg bl bf := h.keep k (by simp)
theorem HR.keep {w w' : World} {a : Option Addr} {fp S : List Nat} {m : HO} (h : HR w a fp m) (k : Only S w w') (hd : ∀ x, x ∈ fp → x ∉ S) : HR w' a fp m := by
  match m, h with
  | some s, ⟨b, h1, gB, gW, cB, cW, yB, yW, sb, sg, pb, pg, bl, bf, h2, h3⟩ => exact ⟨b, h1, gB, gW, cB, cW, yB, yW, sb, sg, pb, pg, bl, bf, h2, h3.keep k (by rw [← h2]; exact hd)⟩
  | none, .inl h => exact .inl h
  | none, .inr ⟨b, h1, h2, h3⟩ => exact .inr ⟨b, h1, h2, h3.keep k (hd b (by simp [h2]))⟩
theorem HR.keep0 {w w' : World} {a : Option Addr} {fp : List Nat} {m : HO} (h : HR w a fp m) (k : Only [] w w') : HR w' a fp m := h.keep k (by simp)
theorem HMs.lt {w : World} {b : Nat} {s : HL} {gB gW cB cW : Nat} {yB yW : List Value} {sb sg pb pg bl bf : Nat} (h : HMs w b s gB gW cB cW yB yW sb sg pb pg bl bf) : ∀ x, x ∈ [b, gB, gW, sb, sg, pb, pg, bl, bf] → x < w.heap.size := by
  have h1 := (Tab.mk h.hs).lt
  have h2 := (Tab.mk h.hp).lt
  simp only [List.mem_cons, List.not_mem_nil, or_false] at h1 h2 ⊢
  intro x hx
  rcases hx with rfl | rfl | rfl | rfl | rfl | rfl | rfl | rfl | rfl
  · exact h.hb.lt
  · exact h.hB.lt
  · exact h.hW.lt
  · exact h1 _ (.inl rfl)
  · exact h1 _ (.inr rfl)
  · exact h2 _ (.inl rfl)
  · exact h2 _ (.inr rfl)
  · exact h.hl.lt
  · exact h.hf.lt
theorem HR.lt {w : World} {a : Option Addr} {fp : List Nat} {m : HO} (h : HR w a fp m) : ∀ x, x ∈ fp → x < w.heap.size := by
  match m, h with
  | some s, ⟨b, h1, gB, gW, cB, cW, yB, yW, sb, sg, pb, pg, bl, bf, h2, h3⟩ => rw [h2]; exact h3.lt
  | none, .inl h => rw [h.2]; simp
  | none, .inr ⟨b, h1, h2, h3⟩ => rw [h2]; intro x hx; simp only [List.mem_singleton] at hx; rw [hx]; exact h3.lt

theorem hMade {w : World} {a : Option Addr} {fp : List Nat} {m : HO} (h : HR w a fp m) : Cs Tryz.prog 122 [.pointer a] w fun v w' => v = .bool m.isSome ∧ w' = w := by
  refine enter_heap_Heap_made rfl ?_
  unfold x_heap_Heap_made
  match m, h with
  | some s, ⟨b, h1, gB, gW, cB, cW, yB, yW, sb, sg, pb, pg, bl, bf, h2, h3⟩ =>
    subst h1
    have := h3.ok.b2
    (repeat (first | with_reducible refine run_seq ?_ | with_reducible refine run_reg ?_ | with_reducible refine run_block ?_ | with_reducible refine run_blk ?_ | with_reducible refine run_skip ?_ | with_reducible refine run_exit rfl ?_ | with_reducible refine run_drw ?_ | with_reducible refine run_condT ?_ | with_reducible refine run_ret' ?_ | with_reducible refine run_end' ?_ | simp only [go_sem, ↓reduceIte, Nat.reduceAdd, Nat.reduceEqDiff, Nat.reduceBEq, reduceCtorEq, Int.reduceBEq, Int.reduceBNe, Int.reduceLT, Int.reduceLE, h3.hb.cell, decide_eq_true (show (0 : Int) < (s.B.length : Int) by omega)]))
  | none, .inl h => obtain ⟨rfl, _⟩ := h; (repeat (first | with_reducible refine run_seq ?_ | with_reducible refine run_reg ?_ | with_reducible refine run_block ?_ | with_reducible refine run_blk ?_ | with_reducible refine run_skip ?_ | with_reducible refine run_exit rfl ?_ | with_reducible refine run_drw ?_ | with_reducible refine run_condT ?_ | with_reducible refine run_ret' ?_ | with_reducible refine run_end' ?_ | simp only [go_sem, ↓reduceIte, Nat.reduceAdd, Nat.reduceEqDiff, Nat.reduceBEq, reduceCtorEq, Int.reduceBEq, Int.reduceBNe, Int.reduceLT, Int.reduceLE]))
  | none, .inr ⟨b, h1, h2, h3⟩ => subst h1; (repeat (first | with_reducible refine run_seq ?_ | with_reducible refine run_reg ?_ | with_reducible refine run_block ?_ | with_reducible refine run_blk ?_ | with_reducible refine run_skip ?_ | with_reducible refine run_exit rfl ?_ | with_reducible refine run_drw ?_ | with_reducible refine run_condT ?_ | with_reducible refine run_ret' ?_ | with_reducible refine run_end' ?_ | simp only [go_sem, ↓reduceIte, Nat.reduceAdd, Nat.reduceEqDiff, Nat.reduceBEq, reduceCtorEq, Int.reduceBEq, Int.reduceBNe, Int.reduceLT, Int.reduceLE, h3.cell])); rfl
theorem hThere {w : World} {a : Option Addr} {fp : List Nat} {m : HO} (h : HR w a fp m) (i : Int) : Cs Tryz.prog 189 [.pointer a, .int .i64 i] w fun v w' => v = .bool (thereO m i) ∧ w' = w := by
  refine enter_heap_Heap_there rfl ?_
  unfold x_heap_Heap_there
  (repeat (first | with_reducible refine run_seq ?_ | with_reducible refine run_reg ?_ | with_reducible refine run_block ?_ | with_reducible refine run_blk ?_ | with_reducible refine run_skip ?_ | with_reducible refine run_exit rfl ?_ | with_reducible refine run_drw ?_ | with_reducible refine run_condT ?_ | with_reducible refine run_ret' ?_ | with_reducible refine run_end' ?_ | simp only [go_sem, ↓reduceIte, Nat.reduceAdd, Nat.reduceEqDiff, Nat.reduceBEq, reduceCtorEq, Int.reduceBEq, Int.reduceBNe, Int.reduceLT, Int.reduceLE]))
  refine callT0 (hMade h) ?_
  match m, h with
  | some s, ⟨b, h1, gB, gW, cB, cW, yB, yW, sb, sg, pb, pg, bl, bf, h2, h3⟩ =>
    subst h1
    by_cases c1 : (1 : Int) ≤ i
    · (repeat (first | with_reducible refine run_seq ?_ | with_reducible refine run_reg ?_ | with_reducible refine run_block ?_ | with_reducible refine run_blk ?_ | with_reducible refine run_skip ?_ | with_reducible refine run_exit rfl ?_ | with_reducible refine run_drw ?_ | with_reducible refine run_condT ?_ | with_reducible refine run_ret' ?_ | with_reducible refine run_end' ?_ | simp only [go_sem, ↓reduceIte, Nat.reduceAdd, Nat.reduceEqDiff, Nat.reduceBEq, reduceCtorEq, Int.reduceBEq, Int.reduceBNe, Int.reduceLT, Int.reduceLE, h3.hb.cell, decide_eq_true c1]))
      simp [thereO, c1]
    · (repeat (first | with_reducible refine run_seq ?_ | with_reducible refine run_reg ?_ | with_reducible refine run_block ?_ | with_reducible refine run_blk ?_ | with_reducible refine run_skip ?_ | with_reducible refine run_exit rfl ?_ | with_reducible refine run_drw ?_ | with_reducible refine run_condT ?_ | with_reducible refine run_ret' ?_ | with_reducible refine run_end' ?_ | simp only [go_sem, ↓reduceIte, Nat.reduceAdd, Nat.reduceEqDiff, Nat.reduceBEq, reduceCtorEq, Int.reduceBEq, Int.reduceBNe, Int.reduceLT, Int.reduceLE, h3.hb.cell, decide_eq_false c1]))
      simp [thereO, c1]
  | none, _ =>
    (repeat (first | with_reducible refine run_seq ?_ | with_reducible refine run_reg ?_ | with_reducible refine run_block ?_ | with_reducible refine run_blk ?_ | with_reducible refine run_skip ?_ | with_reducible refine run_exit rfl ?_ | with_reducible refine run_drw ?_ | with_reducible refine run_condT ?_ | with_reducible refine run_ret' ?_ | with_reducible refine run_end' ?_ | simp only [go_sem, ↓reduceIte, Nat.reduceAdd, Nat.reduceEqDiff, Nat.reduceBEq, reduceCtorEq, Int.reduceBEq, Int.reduceBNe, Int.reduceLT, Int.reduceLE]))
    rfl
theorem hBlocks {w : World} {a : Option Addr} {fp : List Nat} {m : HO} (h : HR w a fp m) : Cs Tryz.prog 63 [.pointer a] w fun v w' => v = .int .i64 (blocksO m : Nat) ∧ w' = w := by
  refine enter_heap_Heap_Blocks rfl ?_
  unfold x_heap_Heap_Blocks
  (repeat (first | with_reducible refine run_seq ?_ | with_reducible refine run_reg ?_ | with_reducible refine run_block ?_ | with_reducible refine run_blk ?_ | with_reducible refine run_skip ?_ | with_reducible refine run_exit rfl ?_ | with_reducible refine run_drw ?_ | with_reducible refine run_condT ?_ | with_reducible refine run_ret' ?_ | with_reducible refine run_end' ?_ | simp only [go_sem, ↓reduceIte, Nat.reduceAdd, Nat.reduceEqDiff, Nat.reduceBEq, reduceCtorEq, Int.reduceBEq, Int.reduceBNe, Int.reduceLT, Int.reduceLE]))
  refine callT0 (hMade h) ?_
  match m, h with
  | some s, ⟨b, h1, gB, gW, cB, cW, yB, yW, sb, sg, pb, pg, bl, bf, h2, h3⟩ => subst h1; (repeat (first | with_reducible refine run_seq ?_ | with_reducible refine run_reg ?_ | with_reducible refine run_block ?_ | with_reducible refine run_blk ?_ | with_reducible refine run_skip ?_ | with_reducible refine run_exit rfl ?_ | with_reducible refine run_drw ?_ | with_reducible refine run_condT ?_ | with_reducible refine run_ret' ?_ | with_reducible refine run_end' ?_ | simp only [go_sem, ↓reduceIte, Nat.reduceAdd, Nat.reduceEqDiff, Nat.reduceBEq, reduceCtorEq, Int.reduceBEq, Int.reduceBNe, Int.reduceLT, Int.reduceLE, h3.hb.cell])); rfl
  | none, _ => (repeat (first | with_reducible refine run_seq ?_ | with_reducible refine run_reg ?_ | with_reducible refine run_block ?_ | with_reducible refine run_blk ?_ | with_reducible refine run_skip ?_ | with_reducible refine run_exit rfl ?_ | with_reducible refine run_drw ?_ | with_reducible refine run_condT ?_ | with_reducible refine run_ret' ?_ | with_reducible refine run_end' ?_ | simp only [go_sem, ↓reduceIte, Nat.reduceAdd, Nat.reduceEqDiff, Nat.reduceBEq, reduceCtorEq, Int.reduceBEq, Int.reduceBNe, Int.reduceLT, Int.reduceLE])); rfl
theorem hState {w : World} {a : Option Addr} {fp : List Nat} {m : HO} (h : HR w a fp m) (i : Int) : Cs Tryz.prog 64 [.pointer a, .int .i64 i] w fun v w' => v = .int .i64 (stateO m i) ∧ w' = w := by
  refine enter_heap_Heap_State rfl ?_
  unfold x_heap_Heap_State
  by_cases c1 : i < 0
  · (repeat (first | with_reducible refine run_seq ?_ | with_reducible refine run_reg ?_ | with_reducible refine run_block ?_ | with_reducible refine run_blk ?_ | with_reducible refine run_skip ?_ | with_reducible refine run_exit rfl ?_ | with_reducible refine run_drw ?_ | with_reducible refine run_condT ?_ | with_reducible refine run_ret' ?_ | with_reducible refine run_end' ?_ | simp only [go_sem, ↓reduceIte, Nat.reduceAdd, Nat.reduceEqDiff, Nat.reduceBEq, reduceCtorEq, Int.reduceBEq, Int.reduceBNe, Int.reduceLT, Int.reduceLE, decide_eq_true c1]))
    cases m with
    | none => rfl
    | some s => simp [stateO]; omega
  (repeat (first | with_reducible refine run_seq ?_ | with_reducible refine run_reg ?_ | with_reducible refine run_block ?_ | with_reducible refine run_blk ?_ | with_reducible refine run_skip ?_ | with_reducible refine run_exit rfl ?_ | with_reducible refine run_drw ?_ | with_reducible refine run_condT ?_ | with_reducible refine run_ret' ?_ | with_reducible refine run_end' ?_ | simp only [go_sem, ↓reduceIte, Nat.reduceAdd, Nat.reduceEqDiff, Nat.reduceBEq, reduceCtorEq, Int.reduceBEq, Int.reduceBNe, Int.reduceLT, Int.reduceLE, decide_eq_false c1]))
  refine callT0 (hBlocks h) ?_
  by_cases c2 : (blocksO m : Int) ≤ i
  · (repeat (first | with_reducible refine run_seq ?_ | with_reducible refine run_reg ?_ | with_reducible refine run_block ?_ | with_reducible refine run_blk ?_ | with_reducible refine run_skip ?_ | with_reducible refine run_exit rfl ?_ | with_reducible refine run_drw ?_ | with_reducible refine run_condT ?_ | with_reducible refine run_ret' ?_ | with_reducible refine run_end' ?_ | simp only [go_sem, ↓reduceIte, Nat.reduceAdd, Nat.reduceEqDiff, Nat.reduceBEq, reduceCtorEq, Int.reduceBEq, Int.reduceBNe, Int.reduceLT, Int.reduceLE, decide_eq_true c2]))
    cases m with
    | none => rfl
    | some s => simp [stateO, blocksO] at c2 ⊢; omega
  match m, h with
  | some s, ⟨b, h1, gB, gW, cB, cW, yB, yW, sb, sg, pb, pg, bl, bf, h2, h3⟩ =>
    subst h1
    simp only [blocksO] at c2
    obtain ⟨k, rfl⟩ : ∃ k : Nat, i = k := ⟨i.toNat, by omega⟩
    have hk : k < s.B.length := by omega
    have e1 : (0 : Int) ≤ (k : Int) ∧ (k : Int) < (s.B.length : Int) := ⟨by omega, by omega⟩
    have e2 : (blkV s.B ++ yB)[k * 2]? = some (.int .i64 (s.B.getD k (0, 0)).1) := by
      rw [List.getElem?_append_left (by rw [blkV_len]; omega), Nat.mul_comm]; exact (blkV_get hk).1
    (repeat (first | with_reducible refine run_seq ?_ | with_reducible refine run_reg ?_ | with_reducible refine run_block ?_ | with_reducible refine run_blk ?_ | with_reducible refine run_skip ?_ | with_reducible refine run_exit rfl ?_ | with_reducible refine run_drw ?_ | with_reducible refine run_condT ?_ | with_reducible refine run_ret' ?_ | with_reducible refine run_end' ?_ | simp only [go_sem, ↓reduceIte, Nat.reduceAdd, Nat.reduceEqDiff, Nat.reduceBEq, reduceCtorEq, Int.reduceBEq, Int.reduceBNe, Int.reduceLT, Int.reduceLE, decide_eq_false c2, blocksO, h3.hb.cell, h3.hB.cell, if_pos e1, Int.toNat_natCast, e2]))
    simp [stateO, HL.b, hk]
  | none, _ => exact absurd (show ((0 : Nat) : Int) ≤ i by omega) c2
theorem hSpace {w : World} {a : Option Addr} {fp : List Nat} {m : HO} (h : HR w a fp m) (i : Int) : Cs Tryz.prog 65 [.pointer a, .int .i64 i] w fun v w' => v = .int .i64 (bspaceO m i) ∧ w' = w := by
  refine enter_heap_Heap_Space rfl ?_
  unfold x_heap_Heap_Space
  by_cases c1 : i < 0
  · (repeat (first | with_reducible refine run_seq ?_ | with_reducible refine run_reg ?_ | with_reducible refine run_block ?_ | with_reducible refine run_blk ?_ | with_reducible refine run_skip ?_ | with_reducible refine run_exit rfl ?_ | with_reducible refine run_drw ?_ | with_reducible refine run_condT ?_ | with_reducible refine run_ret' ?_ | with_reducible refine run_end' ?_ | simp only [go_sem, ↓reduceIte, Nat.reduceAdd, Nat.reduceEqDiff, Nat.reduceBEq, reduceCtorEq, Int.reduceBEq, Int.reduceBNe, Int.reduceLT, Int.reduceLE, decide_eq_true c1]))
    cases m with
    | none => rfl
    | some s => simp [bspaceO]; omega
  (repeat (first | with_reducible refine run_seq ?_ | with_reducible refine run_reg ?_ | with_reducible refine run_block ?_ | with_reducible refine run_blk ?_ | with_reducible refine run_skip ?_ | with_reducible refine run_exit rfl ?_ | with_reducible refine run_drw ?_ | with_reducible refine run_condT ?_ | with_reducible refine run_ret' ?_ | with_reducible refine run_end' ?_ | simp only [go_sem, ↓reduceIte, Nat.reduceAdd, Nat.reduceEqDiff, Nat.reduceBEq, reduceCtorEq, Int.reduceBEq, Int.reduceBNe, Int.reduceLT, Int.reduceLE, decide_eq_false c1]))
  refine callT0 (hBlocks h) ?_
  by_cases c2 : (blocksO m : Int) ≤ i
  · (repeat (first | with_reducible refine run_seq ?_ | with_reducible refine run_reg ?_ | with_reducible refine run_block ?_ | with_reducible refine run_blk ?_ | with_reducible refine run_skip ?_ | with_reducible refine run_exit rfl ?_ | with_reducible refine run_drw ?_ | with_reducible refine run_condT ?_ | with_reducible refine run_ret' ?_ | with_reducible refine run_end' ?_ | simp only [go_sem, ↓reduceIte, Nat.reduceAdd, Nat.reduceEqDiff, Nat.reduceBEq, reduceCtorEq, Int.reduceBEq, Int.reduceBNe, Int.reduceLT, Int.reduceLE, decide_eq_true c2]))
    cases m with
    | none => rfl
    | some s => simp [bspaceO, blocksO] at c2 ⊢; omega
  match m, h with
  | some s, ⟨b, h1, gB, gW, cB, cW, yB, yW, sb, sg, pb, pg, bl, bf, h2, h3⟩ =>
    subst h1
    simp only [blocksO] at c2
    obtain ⟨k, rfl⟩ : ∃ k : Nat, i = k := ⟨i.toNat, by omega⟩
    have hk : k < s.B.length := by omega
    have e1 : (0 : Int) ≤ (k : Int) ∧ (k : Int) < (s.B.length : Int) := ⟨by omega, by omega⟩
    have e2 : (blkV s.B ++ yB)[k * 2 + 1]? = some (.int .i64 (s.B.getD k (0, 0)).2) := by
      rw [List.getElem?_append_left (by rw [blkV_len]; omega), Nat.mul_comm]; exact (blkV_get hk).2
    (repeat (first | with_reducible refine run_seq ?_ | with_reducible refine run_reg ?_ | with_reducible refine run_block ?_ | with_reducible refine run_blk ?_ | with_reducible refine run_skip ?_ | with_reducible refine run_exit rfl ?_ | with_reducible refine run_drw ?_ | with_reducible refine run_condT ?_ | with_reducible refine run_ret' ?_ | with_reducible refine run_end' ?_ | simp only [go_sem, ↓reduceIte, Nat.reduceAdd, Nat.reduceEqDiff, Nat.reduceBEq, reduceCtorEq, Int.reduceBEq, Int.reduceBNe, Int.reduceLT, Int.reduceLE, decide_eq_false c2, blocksO, h3.hb.cell, h3.hB.cell, if_pos e1, Int.toNat_natCast, e2]))
    simp [bspaceO, HL.b, hk]
  | none, _ => exact absurd (show ((0 : Nat) : Int) ≤ i by omega) c2
theorem hSpaceB (w : World) (n : Int) : Cs Tryz.prog 190 [.int .i64 n] w fun v w' => v = .bool (spaceB n) ∧ w' = w := by
  refine enter_heap_space rfl ?_
  unfold x_heap_space
  by_cases c1 : (0 : Int) ≤ n
  · (repeat (first | with_reducible refine run_seq ?_ | with_reducible refine run_reg ?_ | with_reducible refine run_block ?_ | with_reducible refine run_blk ?_ | with_reducible refine run_skip ?_ | with_reducible refine run_exit rfl ?_ | with_reducible refine run_drw ?_ | with_reducible refine run_condT ?_ | with_reducible refine run_ret' ?_ | with_reducible refine run_end' ?_ | simp only [go_sem, ↓reduceIte, Nat.reduceAdd, Nat.reduceEqDiff, Nat.reduceBEq, reduceCtorEq, Int.reduceBEq, Int.reduceBNe, Int.reduceLT, Int.reduceLE, decide_eq_true c1]))
    simp [spaceB, c1]
  · (repeat (first | with_reducible refine run_seq ?_ | with_reducible refine run_reg ?_ | with_reducible refine run_block ?_ | with_reducible refine run_blk ?_ | with_reducible refine run_skip ?_ | with_reducible refine run_exit rfl ?_ | with_reducible refine run_drw ?_ | with_reducible refine run_condT ?_ | with_reducible refine run_ret' ?_ | with_reducible refine run_end' ?_ | simp only [go_sem, ↓reduceIte, Nat.reduceAdd, Nat.reduceEqDiff, Nat.reduceBEq, reduceCtorEq, Int.reduceBEq, Int.reduceBNe, Int.reduceLT, Int.reduceLE, decide_eq_false c1]))
    simp [spaceB, c1]

/-! ### Shapes -/
theorem hValid (w : World) (s : Sh) : Cs Tryz.prog 123 [.agg ⟨shV s⟩] w fun v w' => v = .bool (validS s) ∧ Only [] w w' := by
  obtain ⟨r, d, k⟩ := s
  refine enter_heap_Valid rfl ?_
  unfold x_heap_Valid
  (repeat (first | with_reducible refine run_seq ?_ | with_reducible refine run_reg ?_ | with_reducible refine run_block ?_ | with_reducible refine run_blk ?_ | with_reducible refine run_skip ?_ | with_reducible refine run_exit rfl ?_ | with_reducible refine run_drw ?_ | with_reducible refine run_condT ?_ | with_reducible refine run_ret' ?_ | with_reducible refine run_end' ?_ | simp only [go_sem, ↓reduceIte, Nat.reduceAdd, Nat.reduceEqDiff, Nat.reduceBEq, reduceCtorEq, Int.reduceBEq, Int.reduceBNe, Int.reduceLT, Int.reduceLE]))
  refine boxT fun q w1 hq hs1 hat ho => ?_
  have c0 := hat.cell 0
  have c1 := hat.cell 1
  have c2 := hat.cell 2
  simp only [shV, List.getElem?_cons_zero, List.getElem?_cons_succ] at c0 c1 c2
  by_cases a1 : 0 ≤ r
  rotate_left
  · (repeat (first | with_reducible refine run_seq ?_ | with_reducible refine run_reg ?_ | with_reducible refine run_block ?_ | with_reducible refine run_blk ?_ | with_reducible refine run_skip ?_ | with_reducible refine run_exit rfl ?_ | with_reducible refine run_drw ?_ | with_reducible refine run_condT ?_ | with_reducible refine run_ret' ?_ | with_reducible refine run_end' ?_ | simp only [go_sem, ↓reduceIte, Nat.reduceAdd, Nat.reduceEqDiff, Nat.reduceBEq, reduceCtorEq, Int.reduceBEq, Int.reduceBNe, Int.reduceLT, Int.reduceLE, c0, c1, c2, decide_eq_false a1]))
    exact ⟨by simp [validS, a1], ho⟩
  by_cases a2 : r ≤ 15
  rotate_left
  · (repeat (first | with_reducible refine run_seq ?_ | with_reducible refine run_reg ?_ | with_reducible refine run_block ?_ | with_reducible refine run_blk ?_ | with_reducible refine run_skip ?_ | with_reducible refine run_exit rfl ?_ | with_reducible refine run_drw ?_ | with_reducible refine run_condT ?_ | with_reducible refine run_ret' ?_ | with_reducible refine run_end' ?_ | simp only [go_sem, ↓reduceIte, Nat.reduceAdd, Nat.reduceEqDiff, Nat.reduceBEq, reduceCtorEq, Int.reduceBEq, Int.reduceBNe, Int.reduceLT, Int.reduceLE, c0, c1, c2, decide_eq_true a1, decide_eq_false a2]))
    exact ⟨by simp [validS, a2], ho⟩
  by_cases a3 : 0 ≤ d
  rotate_left
  · (repeat (first | with_reducible refine run_seq ?_ | with_reducible refine run_reg ?_ | with_reducible refine run_block ?_ | with_reducible refine run_blk ?_ | with_reducible refine run_skip ?_ | with_reducible refine run_exit rfl ?_ | with_reducible refine run_drw ?_ | with_reducible refine run_condT ?_ | with_reducible refine run_ret' ?_ | with_reducible refine run_end' ?_ | simp only [go_sem, ↓reduceIte, Nat.reduceAdd, Nat.reduceEqDiff, Nat.reduceBEq, reduceCtorEq, Int.reduceBEq, Int.reduceBNe, Int.reduceLT, Int.reduceLE, c0, c1, c2, decide_eq_true a1, decide_eq_true a2, decide_eq_false a3]))
    exact ⟨by simp [validS, a3], ho⟩
  by_cases a4 : d ≤ 200
  rotate_left
  · (repeat (first | with_reducible refine run_seq ?_ | with_reducible refine run_reg ?_ | with_reducible refine run_block ?_ | with_reducible refine run_blk ?_ | with_reducible refine run_skip ?_ | with_reducible refine run_exit rfl ?_ | with_reducible refine run_drw ?_ | with_reducible refine run_condT ?_ | with_reducible refine run_ret' ?_ | with_reducible refine run_end' ?_ | simp only [go_sem, ↓reduceIte, Nat.reduceAdd, Nat.reduceEqDiff, Nat.reduceBEq, reduceCtorEq, Int.reduceBEq, Int.reduceBNe, Int.reduceLT, Int.reduceLE, c0, c1, c2, decide_eq_true a1, decide_eq_true a2, decide_eq_true a3, decide_eq_false a4]))
    exact ⟨by simp [validS, a4], ho⟩
  by_cases a5 : 0 ≤ k
  rotate_left
  · (repeat (first | with_reducible refine run_seq ?_ | with_reducible refine run_reg ?_ | with_reducible refine run_block ?_ | with_reducible refine run_blk ?_ | with_reducible refine run_skip ?_ | with_reducible refine run_exit rfl ?_ | with_reducible refine run_drw ?_ | with_reducible refine run_condT ?_ | with_reducible refine run_ret' ?_ | with_reducible refine run_end' ?_ | simp only [go_sem, ↓reduceIte, Nat.reduceAdd, Nat.reduceEqDiff, Nat.reduceBEq, reduceCtorEq, Int.reduceBEq, Int.reduceBNe, Int.reduceLT, Int.reduceLE, c0, c1, c2, decide_eq_true a1, decide_eq_true a2, decide_eq_true a3, decide_eq_true a4, decide_eq_false a5]))
    exact ⟨by simp [validS, a5], ho⟩
  by_cases a6 : k ≤ 3
  rotate_left
  · (repeat (first | with_reducible refine run_seq ?_ | with_reducible refine run_reg ?_ | with_reducible refine run_block ?_ | with_reducible refine run_blk ?_ | with_reducible refine run_skip ?_ | with_reducible refine run_exit rfl ?_ | with_reducible refine run_drw ?_ | with_reducible refine run_condT ?_ | with_reducible refine run_ret' ?_ | with_reducible refine run_end' ?_ | simp only [go_sem, ↓reduceIte, Nat.reduceAdd, Nat.reduceEqDiff, Nat.reduceBEq, reduceCtorEq, Int.reduceBEq, Int.reduceBNe, Int.reduceLT, Int.reduceLE, c0, c1, c2, decide_eq_true a1, decide_eq_true a2, decide_eq_true a3, decide_eq_true a4, decide_eq_true a5, decide_eq_false a6]))
    exact ⟨by simp [validS, a6], ho⟩
  by_cases a7 : k = 1
  · have a9 : ¬ k = 2 := by omega
    by_cases a8 : 1 ≤ r
    · (repeat (first | with_reducible refine run_seq ?_ | with_reducible refine run_reg ?_ | with_reducible refine run_block ?_ | with_reducible refine run_blk ?_ | with_reducible refine run_skip ?_ | with_reducible refine run_exit rfl ?_ | with_reducible refine run_drw ?_ | with_reducible refine run_condT ?_ | with_reducible refine run_ret' ?_ | with_reducible refine run_end' ?_ | simp only [go_sem, ↓reduceIte, Nat.reduceAdd, Nat.reduceEqDiff, Nat.reduceBEq, reduceCtorEq, Int.reduceBEq, Int.reduceBNe, Int.reduceLT, Int.reduceLE, c0, c1, c2, decide_eq_true a1, decide_eq_true a2, decide_eq_true a3, decide_eq_true a4, decide_eq_true a5, decide_eq_true a6, bne_int_false a7, decide_eq_true a8, bne_int_true a9]))
      exact ⟨by simp [validS, a1, a2, a3, a4, a7, a8], ho⟩
    · (repeat (first | with_reducible refine run_seq ?_ | with_reducible refine run_reg ?_ | with_reducible refine run_block ?_ | with_reducible refine run_blk ?_ | with_reducible refine run_skip ?_ | with_reducible refine run_exit rfl ?_ | with_reducible refine run_drw ?_ | with_reducible refine run_condT ?_ | with_reducible refine run_ret' ?_ | with_reducible refine run_end' ?_ | simp only [go_sem, ↓reduceIte, Nat.reduceAdd, Nat.reduceEqDiff, Nat.reduceBEq, reduceCtorEq, Int.reduceBEq, Int.reduceBNe, Int.reduceLT, Int.reduceLE, c0, c1, c2, decide_eq_true a1, decide_eq_true a2, decide_eq_true a3, decide_eq_true a4, decide_eq_true a5, decide_eq_true a6, bne_int_false a7, decide_eq_false a8]))
      exact ⟨by simp [validS, a7, a8], ho⟩
  · by_cases a9 : k = 2
    · by_cases a8 : 2 ≤ r
      · (repeat (first | with_reducible refine run_seq ?_ | with_reducible refine run_reg ?_ | with_reducible refine run_block ?_ | with_reducible refine run_blk ?_ | with_reducible refine run_skip ?_ | with_reducible refine run_exit rfl ?_ | with_reducible refine run_drw ?_ | with_reducible refine run_condT ?_ | with_reducible refine run_ret' ?_ | with_reducible refine run_end' ?_ | simp only [go_sem, ↓reduceIte, Nat.reduceAdd, Nat.reduceEqDiff, Nat.reduceBEq, reduceCtorEq, Int.reduceBEq, Int.reduceBNe, Int.reduceLT, Int.reduceLE, c0, c1, c2, decide_eq_true a1, decide_eq_true a2, decide_eq_true a3, decide_eq_true a4, decide_eq_true a5, decide_eq_true a6, bne_int_true a7, bne_int_false a9, decide_eq_true a8]))
        exact ⟨by simp [validS, a1, a2, a3, a4, a9, a8], ho⟩
      · (repeat (first | with_reducible refine run_seq ?_ | with_reducible refine run_reg ?_ | with_reducible refine run_block ?_ | with_reducible refine run_blk ?_ | with_reducible refine run_skip ?_ | with_reducible refine run_exit rfl ?_ | with_reducible refine run_drw ?_ | with_reducible refine run_condT ?_ | with_reducible refine run_ret' ?_ | with_reducible refine run_end' ?_ | simp only [go_sem, ↓reduceIte, Nat.reduceAdd, Nat.reduceEqDiff, Nat.reduceBEq, reduceCtorEq, Int.reduceBEq, Int.reduceBNe, Int.reduceLT, Int.reduceLE, c0, c1, c2, decide_eq_true a1, decide_eq_true a2, decide_eq_true a3, decide_eq_true a4, decide_eq_true a5, decide_eq_true a6, bne_int_true a7, bne_int_false a9, decide_eq_false a8]))
        exact ⟨by simp [validS, a9, a8], ho⟩
    · (repeat (first | with_reducible refine run_seq ?_ | with_reducible refine run_reg ?_ | with_reducible refine run_block ?_ | with_reducible refine run_blk ?_ | with_reducible refine run_skip ?_ | with_reducible refine run_exit rfl ?_ | with_reducible refine run_drw ?_ | with_reducible refine run_condT ?_ | with_reducible refine run_ret' ?_ | with_reducible refine run_end' ?_ | simp only [go_sem, ↓reduceIte, Nat.reduceAdd, Nat.reduceEqDiff, Nat.reduceBEq, reduceCtorEq, Int.reduceBEq, Int.reduceBNe, Int.reduceLT, Int.reduceLE, c0, c1, c2, decide_eq_true a1, decide_eq_true a2, decide_eq_true a3, decide_eq_true a4, decide_eq_true a5, decide_eq_true a6, bne_int_true a7, bne_int_true a9]))
      exact ⟨by simp [validS, a1, a2, a3, a4, a5, a6, a7, a9], ho⟩
theorem hWords (w : World) (s : Sh) : Cs Tryz.prog 125 [.agg ⟨shV s⟩] w fun v w' => v = .int .i64 (wordsS s) ∧ Only [] w w' := by
  refine enter_heap_Words rfl ?_
  unfold x_heap_Words
  (repeat (first | with_reducible refine run_seq ?_ | with_reducible refine run_reg ?_ | with_reducible refine run_block ?_ | with_reducible refine run_blk ?_ | with_reducible refine run_skip ?_ | with_reducible refine run_exit rfl ?_ | with_reducible refine run_drw ?_ | with_reducible refine run_condT ?_ | with_reducible refine run_ret' ?_ | with_reducible refine run_end' ?_ | simp only [go_sem, ↓reduceIte, Nat.reduceAdd, Nat.reduceEqDiff, Nat.reduceBEq, reduceCtorEq, Int.reduceBEq, Int.reduceBNe, Int.reduceLT, Int.reduceLE]))
  refine boxT fun q w1 hq hs1 hat ho => ?_
  have hc : cellsAt w1 ⟨q, 0, none⟩ 3 = some (shV s) := cellsAt_at hat 0 3 (by simp [shV])
  (repeat (first | with_reducible refine run_seq ?_ | with_reducible refine run_reg ?_ | with_reducible refine run_block ?_ | with_reducible refine run_blk ?_ | with_reducible refine run_skip ?_ | with_reducible refine run_exit rfl ?_ | with_reducible refine run_drw ?_ | with_reducible refine run_condT ?_ | with_reducible refine run_ret' ?_ | with_reducible refine run_end' ?_ | simp only [go_sem, ↓reduceIte, Nat.reduceAdd, Nat.reduceEqDiff, Nat.reduceBEq, reduceCtorEq, Int.reduceBEq, Int.reduceBNe, Int.reduceLT, Int.reduceLE, hc]))
  refine callT1 (hValid w1 s) fun w2 ho2 => ?_
  have hat2 := hat.keep0 ho2
  have c0 := hat2.cell 0
  have c1 := hat2.cell 1
  simp only [shV, List.getElem?_cons_zero, List.getElem?_cons_succ] at c0 c1
  cases hv : validS s with
  | false =>
    (repeat (first | with_reducible refine run_seq ?_ | with_reducible refine run_reg ?_ | with_reducible refine run_block ?_ | with_reducible refine run_blk ?_ | with_reducible refine run_skip ?_ | with_reducible refine run_exit rfl ?_ | with_reducible refine run_drw ?_ | with_reducible refine run_condT ?_ | with_reducible refine run_ret' ?_ | with_reducible refine run_end' ?_ | simp only [go_sem, ↓reduceIte, Nat.reduceAdd, Nat.reduceEqDiff, Nat.reduceBEq, reduceCtorEq, Int.reduceBEq, Int.reduceBNe, Int.reduceLT, Int.reduceLE]))
    exact ⟨by simp [wordsS, hv], ho.nil ho2⟩
  | true =>
    obtain ⟨r, d, k⟩ := s
    have hv' := hv
    simp only [validS, Bool.and_eq_true, decide_eq_true_eq] at hv
    have e1 : IntKind.i64.wrap (2 + r) = 2 + r := IntWalk.i64_in _ (by omega)
    have e2 : IntKind.i64.wrap (2 + r + d) = 2 + r + d := IntWalk.i64_in _ (by omega)
    have e3 : IntKind.i64.wrap (2 + r + d + 1) = 2 + r + d + 1 := IntWalk.i64_in _ (by omega)
    have e4 : IntKind.i64.wrap ((2 + r + d + 1).tdiv 2) = (2 + r + d + 1) / 2 := by rw [Int.tdiv_eq_ediv_of_nonneg (by omega)]; exact IntWalk.i64_in _ (by omega)
    have e5 : IntKind.i64.wrap ((2 + r + d + 1) / 2 * 2) = (2 + r + d + 1) / 2 * 2 := IntWalk.i64_in _ (by omega)
    (repeat (first | with_reducible refine run_seq ?_ | with_reducible refine run_reg ?_ | with_reducible refine run_block ?_ | with_reducible refine run_blk ?_ | with_reducible refine run_skip ?_ | with_reducible refine run_exit rfl ?_ | with_reducible refine run_drw ?_ | with_reducible refine run_condT ?_ | with_reducible refine run_ret' ?_ | with_reducible refine run_end' ?_ | simp only [go_sem, ↓reduceIte, Nat.reduceAdd, Nat.reduceEqDiff, Nat.reduceBEq, reduceCtorEq, Int.reduceBEq, Int.reduceBNe, Int.reduceLT, Int.reduceLE, c0, c1, e1, e2, e3, e4, e5]))
    exact ⟨by simp [wordsS, hv'], ho.nil ho2⟩
theorem hNumber (w : World) (s : Sh) (hv : validS s = true) : Cs Tryz.prog 126 [.agg ⟨shV s⟩] w fun v w' => v = .int .i64 (numS s) ∧ Only [] w w' := by
  obtain ⟨r, d, k⟩ := s
  refine enter_heap_number rfl ?_
  unfold x_heap_number
  (repeat (first | with_reducible refine run_seq ?_ | with_reducible refine run_reg ?_ | with_reducible refine run_block ?_ | with_reducible refine run_blk ?_ | with_reducible refine run_skip ?_ | with_reducible refine run_exit rfl ?_ | with_reducible refine run_drw ?_ | with_reducible refine run_condT ?_ | with_reducible refine run_ret' ?_ | with_reducible refine run_end' ?_ | simp only [go_sem, ↓reduceIte, Nat.reduceAdd, Nat.reduceEqDiff, Nat.reduceBEq, reduceCtorEq, Int.reduceBEq, Int.reduceBNe, Int.reduceLT, Int.reduceLE]))
  refine boxT fun q w1 hq hs1 hat ho => ?_
  have c0 := hat.cell 0
  have c1 := hat.cell 1
  have c2 := hat.cell 2
  simp only [shV, List.getElem?_cons_zero, List.getElem?_cons_succ] at c0 c1 c2
  simp only [validS, Bool.and_eq_true, decide_eq_true_eq] at hv
  have e1 : IntKind.i64.wrap (16 * d) = 16 * d := IntWalk.i64_in _ (by omega)
  have e2 : IntKind.i64.wrap (r + 16 * d) = r + 16 * d := IntWalk.i64_in _ (by omega)
  have e3 : IntKind.i64.wrap (4096 * k) = 4096 * k := IntWalk.i64_in _ (by omega)
  have e4 : IntKind.i64.wrap (r + 16 * d + 4096 * k) = r + 16 * d + 4096 * k := IntWalk.i64_in _ (by omega)
  (repeat (first | with_reducible refine run_seq ?_ | with_reducible refine run_reg ?_ | with_reducible refine run_block ?_ | with_reducible refine run_blk ?_ | with_reducible refine run_skip ?_ | with_reducible refine run_exit rfl ?_ | with_reducible refine run_drw ?_ | with_reducible refine run_condT ?_ | with_reducible refine run_ret' ?_ | with_reducible refine run_end' ?_ | simp only [go_sem, ↓reduceIte, Nat.reduceAdd, Nat.reduceEqDiff, Nat.reduceBEq, reduceCtorEq, Int.reduceBEq, Int.reduceBNe, Int.reduceLT, Int.reduceLE, c0, c1, c2, e1, e2, e3, e4]))
  exact ⟨rfl, ho⟩
end Go.Proofs.YtgcofabdialaaaaGreat
