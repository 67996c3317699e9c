/- Side tables: Clone, alike, Same. -/
import Derived.Test.YthalhkhjacjhgaaSideW
namespace Go.Proofs.Ythalhkhjacjhgaa
set_option linter.unusedSimpArgs false
set_option linter.unusedVariables false
set_option maxRecDepth 8000

theorem u64s_ints_len (ws : List Nat) : (u64s ws).length = ws.length := by simp [u64s]
theorem u64s_oneC {ws : List Nat} : ∀ u, u ∈ u64s ws → oneC u = true := by
  intro u hu
  simp only [u64s, List.mem_map] at hu
  obtain ⟨x, _, rfl⟩ := hu; rfl
theorem nats_oneC {ws : List Nat} : ∀ u, u ∈ nats ws → oneC u = true := by
  intro u hu
  simp only [nats, List.mem_map] at hu
  obtain ⟨x, _, rfl⟩ := hu; rfl
/-- what a slice of m cells reads -/
theorem SrcIs.take {w : World} {q m c : Nat} {us rest : List Value} (h : At w q (us ++ rest)) (h1 : us.length = m) : SrcIs w 1 (.slice (some ⟨q, 0, none⟩) m c) m us := by
  refine ⟨by omega, .inr ⟨⟨q, 0, none⟩, c, rfl, ?_⟩⟩
  rw [cellsAt_at h 0 (m * 1) (by rw [List.length_append]; omega), List.drop_zero, Nat.mul_one, List.take_left' h1]
/-- a slice that is not empty has a block -/
theorem Sl.pos {w : World} {v : Value} {n : Nat} {xs : List Value} {fp : List Nat} (h : Sl w 1 v n xs fp) (hn : 0 < n) : ∃ g cap ys, v = .slice (some ⟨g, 0, none⟩) n cap ∧ At w g (xs ++ ys) ∧ fp = [g] := by
  rcases h.2 with ⟨_, h2, _⟩ | ⟨g, cap, ys, T, h1, h2, h3, h4⟩
  · omega
  · exact ⟨g, cap, ys, h1, ⟨T, h3⟩, h2⟩
theorem Sl.empty {w : World} {q : Nat} (h : At w q []) : Sl w 1 (.slice (some ⟨q, 0, none⟩) 0 0) 0 [] [q] := by
  obtain ⟨T, h⟩ := h
  exact ⟨rfl, .inr ⟨q, 0, [], T, rfl, rfl, h, rfl, Nat.le_refl _⟩⟩

theorem cloneWords {w : World} {g cap : Nat} {ws : List Nat} {rest : List Value} (h : At w g (u64s ws ++ rest)) (h0 : 0 < ws.length) (hl : ws.length ≤ 4096) :
    Cs Try.prog 47 [.slice (some ⟨g, 0, none⟩) ws.length cap] w fun r w' => (∃ g' cap' rest', r = .slice (some ⟨g', 0, none⟩) ws.length cap' ∧ At w' g' (u64s ws ++ rest') ∧ w.heap.size ≤ g') ∧ Only [] w w' := by
  refine enter_slices_Clone___uint64_uint64_ rfl ?_
  unfold x_slices_Clone___uint64_uint64_
  (repeat (first | with_reducible refine run_seq ?_ | with_reducible refine run_reg ?_ | with_reducible refine run_block ?_ | with_reducible refine run_blk ?_ | with_reducible refine run_skip ?_ | with_reducible refine run_exit rfl ?_ | with_reducible refine run_drw ?_ | with_reducible refine run_condT ?_ | with_reducible refine run_ret' ?_ | with_reducible refine run_end' ?_ | simp only [go_sem, ↓reduceIte, Nat.reduceAdd, Nat.reduceEqDiff, Nat.reduceBEq, reduceCtorEq, Int.reduceBEq, Int.reduceBNe, Int.reduceLT, Int.reduceLE]))
  refine bslT fun q w1 hq hs1 hat ho => ?_
  (repeat (first | with_reducible refine run_seq ?_ | with_reducible refine run_reg ?_ | with_reducible refine run_block ?_ | with_reducible refine run_blk ?_ | with_reducible refine run_skip ?_ | with_reducible refine run_exit rfl ?_ | with_reducible refine run_drw ?_ | with_reducible refine run_condT ?_ | with_reducible refine run_ret' ?_ | with_reducible refine run_end' ?_ | simp only [go_sem, ↓reduceIte, Nat.reduceAdd, Nat.reduceEqDiff, Nat.reduceBEq, reduceCtorEq, Int.reduceBEq, Int.reduceBNe, Int.reduceLT, Int.reduceLE]))
  refine appT (Sl.empty hat) (SrcIs.take (h.keep0 ho) (u64s_ints_len ws)) u64s_oneC (by omega) (by omega) fun v' w2 fp hs hfp ho2 _ => ?_
  (repeat (first | with_reducible refine run_seq ?_ | with_reducible refine run_reg ?_ | with_reducible refine run_block ?_ | with_reducible refine run_blk ?_ | with_reducible refine run_skip ?_ | with_reducible refine run_exit rfl ?_ | with_reducible refine run_drw ?_ | with_reducible refine run_condT ?_ | with_reducible refine run_ret' ?_ | with_reducible refine run_end' ?_ | simp only [go_sem, ↓reduceIte, Nat.reduceAdd, Nat.reduceEqDiff, Nat.reduceBEq, reduceCtorEq, Int.reduceBEq, Int.reduceBNe, Int.reduceLT, Int.reduceLE]))
  rw [Nat.zero_add, List.nil_append] at hs
  obtain ⟨g', cap', rest', rfl, hat', rfl⟩ := hs.pos h0
  refine ⟨⟨g', cap', rest', rfl, hat', ?_⟩, ho.trans ho2 fun x hx => .inr ?_⟩
  · rcases hfp with h | h
    · cases h; omega
    · cases h; omega
  · rcases List.mem_cons.1 hx with rfl | hx
    · omega
    · cases hx

theorem Clone_m {w : World} {a : Option Addr} {S : List Nat} {m : MT} (h : Tab w a S m) : Cs Try.prog 29 [.pointer a] w fun r w' => ∃ a' S', r = .pointer a' ∧ NewT w.heap.size w' a' S' m ∧ Only [] w w' := by
  refine enter_side_Table_Clone rfl ?_
  unfold x_side_Table_Clone
  (repeat (first | with_reducible refine run_seq ?_ | with_reducible refine run_reg ?_ | with_reducible refine run_block ?_ | with_reducible refine run_blk ?_ | with_reducible refine run_skip ?_ | with_reducible refine run_exit rfl ?_ | with_reducible refine run_drw ?_ | with_reducible refine run_condT ?_ | with_reducible refine run_ret' ?_ | with_reducible refine run_end' ?_ | simp only [go_sem, ↓reduceIte, Nat.reduceAdd, Nat.reduceEqDiff, Nat.reduceBEq, reduceCtorEq, Int.reduceBEq, Int.reduceBNe, Int.reduceLT, Int.reduceLE]))
  refine callT0 (made_m h) ?_
  match m, h with
  | none, h =>
    (repeat (first | with_reducible refine run_seq ?_ | with_reducible refine run_reg ?_ | with_reducible refine run_block ?_ | with_reducible refine run_blk ?_ | with_reducible refine run_skip ?_ | with_reducible refine run_exit rfl ?_ | with_reducible refine run_drw ?_ | with_reducible refine run_condT ?_ | with_reducible refine run_ret' ?_ | with_reducible refine run_end' ?_ | simp only [go_sem, ↓reduceIte, Nat.reduceAdd, Nat.reduceEqDiff, Nat.reduceBEq, reduceCtorEq, Int.reduceBEq, Int.reduceBNe, Int.reduceLT, Int.reduceLE, Option.isSome_none]))
    exact ⟨none, [], rfl, .none _ _, Only.refl _ _⟩
  | some (wd, l), ⟨b, g, h1, h2, h3⟩ =>
    subst h1 h2
    obtain ⟨ws, cap, rest, f1, f2, f3, f4⟩ := h3.mem
    have n1 := h3.n1
    have n2 := h3.n2
    have hl : 0 < ws.length ∧ ws.length ≤ 4096 := by rw [f1.len]; rcases h3.hw with rfl | rfl | rfl | rfl <;> omega
    (repeat (first | with_reducible refine run_seq ?_ | with_reducible refine run_reg ?_ | with_reducible refine run_block ?_ | with_reducible refine run_blk ?_ | with_reducible refine run_skip ?_ | with_reducible refine run_exit rfl ?_ | with_reducible refine run_drw ?_ | with_reducible refine run_condT ?_ | with_reducible refine run_ret' ?_ | with_reducible refine run_end' ?_ | simp only [go_sem, ↓reduceIte, Nat.reduceAdd, Nat.reduceEqDiff, Nat.reduceBEq, reduceCtorEq, Int.reduceBEq, Int.reduceBNe, Int.reduceLT, Int.reduceLE, Option.isSome_some]))
    refine run_drg [b] ?_
    (repeat (first | with_reducible refine run_seq ?_ | with_reducible refine run_reg ?_ | with_reducible refine run_block ?_ | with_reducible refine run_blk ?_ | with_reducible refine run_skip ?_ | with_reducible refine run_exit rfl ?_ | with_reducible refine run_drw ?_ | with_reducible refine run_condT ?_ | with_reducible refine run_ret' ?_ | with_reducible refine run_end' ?_ | simp only [go_sem, ↓reduceIte, Nat.reduceAdd, Nat.reduceEqDiff, Nat.reduceBEq, reduceCtorEq, Int.reduceBEq, Int.reduceBNe, Int.reduceLT, Int.reduceLE, f2.cell]))
    refine callS (cloneWords f3.drew hl.1 hl.2) ?_
    rintro v w1 ⟨⟨g', cap', rest', rfl, hat, hg⟩, ho⟩
    refine ⟨.inr ((SB.refl _ _).only ho fun x hx => ⟨?_, by simp⟩), ?_⟩
    · rcases List.mem_cons.1 hx with rfl | hx
      · exact f2.lt
      · cases hx
    (repeat (first | with_reducible refine run_seq ?_ | with_reducible refine run_reg ?_ | with_reducible refine run_block ?_ | with_reducible refine run_blk ?_ | with_reducible refine run_skip ?_ | with_reducible refine run_exit rfl ?_ | with_reducible refine run_drw ?_ | with_reducible refine run_condT ?_ | with_reducible refine run_ret' ?_ | with_reducible refine run_end' ?_ | simp only [go_sem, ↓reduceIte, Nat.reduceAdd, Nat.reduceEqDiff, Nat.reduceBEq, reduceCtorEq, Int.reduceBEq, Int.reduceBNe, Int.reduceLT, Int.reduceLE, f2.cell]))
    rw [fillL_one rfl rfl, fillL_one rfl rfl, fillL_one rfl rfl]
    (repeat (first | with_reducible refine run_seq ?_ | with_reducible refine run_reg ?_ | with_reducible refine run_block ?_ | with_reducible refine run_blk ?_ | with_reducible refine run_skip ?_ | with_reducible refine run_exit rfl ?_ | with_reducible refine run_drw ?_ | with_reducible refine run_condT ?_ | with_reducible refine run_ret' ?_ | with_reducible refine run_end' ?_ | simp only [go_sem, ↓reduceIte, Nat.reduceAdd, Nat.reduceEqDiff, Nat.reduceBEq, reduceCtorEq, Int.reduceBEq, Int.reduceBNe, Int.reduceLT, Int.reduceLE]))
    refine boxS fun b' w3 hb3 hs3 hat3 ho3 => ⟨.inr ((SB.refl _ _).only (ho.same ho3) fun x hx => ⟨?_, by simp⟩), ?_⟩
    · rcases List.mem_cons.1 hx with rfl | hx
      · exact f2.lt
      · cases hx
    (repeat (first | with_reducible refine run_seq ?_ | with_reducible refine run_reg ?_ | with_reducible refine run_block ?_ | with_reducible refine run_blk ?_ | with_reducible refine run_skip ?_ | with_reducible refine run_exit rfl ?_ | with_reducible refine run_drw ?_ | with_reducible refine run_condT ?_ | with_reducible refine run_ret' ?_ | with_reducible refine run_end' ?_ | simp only [go_sem, ↓reduceIte, Nat.reduceAdd, Nat.reduceEqDiff, Nat.reduceBEq, reduceCtorEq, Int.reduceBEq, Int.reduceBNe, Int.reduceLT, Int.reduceLE]))
    have hd : w.drew.heap.size = w.heap.size := rfl
    have hg1 := hat.lt
    have hs := ho.size
    have hT : STab w3 b' g' l.length wd l := ⟨h3.hw, rfl, h3.n1, h3.n2, h3.el, ws, cap', rest', f1, hat3, hat.keep0 ho3, by omega⟩
    exact ⟨_, _, rfl, .mk' hT (by omega) (by omega), (ho.same ho3).drew_left⟩

theorem rClone {w : World} {a : Option Addr} {S : List Nat} {m : MT} (h : RT w a S m) : Cs Try.prog 30 [.pointer a] w fun r w' => ∃ a' S', r = .pointer a' ∧ (RT w' a' S' m ∧ ∀ x, x ∈ S' → w.heap.size ≤ x) ∧ Only [] w w' := by
  refine enter_ref01_Table_Clone rfl ?_
  unfold x_ref01_Table_Clone
  (repeat (first | with_reducible refine run_seq ?_ | with_reducible refine run_reg ?_ | with_reducible refine run_block ?_ | with_reducible refine run_blk ?_ | with_reducible refine run_skip ?_ | with_reducible refine run_exit rfl ?_ | with_reducible refine run_drw ?_ | with_reducible refine run_condT ?_ | with_reducible refine run_ret' ?_ | with_reducible refine run_end' ?_ | simp only [go_sem, ↓reduceIte, Nat.reduceAdd, Nat.reduceEqDiff, Nat.reduceBEq, reduceCtorEq, Int.reduceBEq, Int.reduceBNe, Int.reduceLT, Int.reduceLE]))
  refine callT0 (rmade h) ?_
  match m, h with
  | none, h =>
    (repeat (first | with_reducible refine run_seq ?_ | with_reducible refine run_reg ?_ | with_reducible refine run_block ?_ | with_reducible refine run_blk ?_ | with_reducible refine run_skip ?_ | with_reducible refine run_exit rfl ?_ | with_reducible refine run_drw ?_ | with_reducible refine run_condT ?_ | with_reducible refine run_ret' ?_ | with_reducible refine run_end' ?_ | simp only [go_sem, ↓reduceIte, Nat.reduceAdd, Nat.reduceEqDiff, Nat.reduceBEq, reduceCtorEq, Int.reduceBEq, Int.reduceBNe, Int.reduceLT, Int.reduceLE, Option.isSome_none]))
    exact ⟨none, [], rfl, ⟨⟨rfl, rfl⟩, by simp⟩, Only.refl _ _⟩
  | some (wd, l), ⟨b, g, h1, h2, h3⟩ =>
    subst h1 h2
    obtain ⟨cap, rest, f2, f3, f4⟩ := h3.mem
    have n1 := h3.n1
    have n2 := h3.n2
    have inb : ∀ x, x ∈ [b] → x < w.drew.heap.size := fun x hx => by
      rcases List.mem_cons.1 hx with rfl | hx
      · exact f2.lt
      · cases hx
    (repeat (first | with_reducible refine run_seq ?_ | with_reducible refine run_reg ?_ | with_reducible refine run_block ?_ | with_reducible refine run_blk ?_ | with_reducible refine run_skip ?_ | with_reducible refine run_exit rfl ?_ | with_reducible refine run_drw ?_ | with_reducible refine run_condT ?_ | with_reducible refine run_ret' ?_ | with_reducible refine run_end' ?_ | simp only [go_sem, ↓reduceIte, Nat.reduceAdd, Nat.reduceEqDiff, Nat.reduceBEq, reduceCtorEq, Int.reduceBEq, Int.reduceBNe, Int.reduceLT, Int.reduceLE, Option.isSome_some]))
    refine run_drg [b] ?_
    (repeat (first | with_reducible refine run_seq ?_ | with_reducible refine run_reg ?_ | with_reducible refine run_block ?_ | with_reducible refine run_blk ?_ | with_reducible refine run_skip ?_ | with_reducible refine run_exit rfl ?_ | with_reducible refine run_drw ?_ | with_reducible refine run_condT ?_ | with_reducible refine run_ret' ?_ | with_reducible refine run_end' ?_ | simp only [go_sem, ↓reduceIte, Nat.reduceAdd, Nat.reduceEqDiff, Nat.reduceBEq, reduceCtorEq, Int.reduceBEq, Int.reduceBNe, Int.reduceLT, Int.reduceLE, f2.cell]))
    refine bslS fun q w1 hq hs1 hat ho => ⟨.inr ((SB.refl _ _).only ho fun x hx => ⟨inb x hx, by simp⟩), ?_⟩
    (repeat (first | with_reducible refine run_seq ?_ | with_reducible refine run_reg ?_ | with_reducible refine run_block ?_ | with_reducible refine run_blk ?_ | with_reducible refine run_skip ?_ | with_reducible refine run_exit rfl ?_ | with_reducible refine run_drw ?_ | with_reducible refine run_condT ?_ | with_reducible refine run_ret' ?_ | with_reducible refine run_end' ?_ | simp only [go_sem, ↓reduceIte, Nat.reduceAdd, Nat.reduceEqDiff, Nat.reduceBEq, reduceCtorEq, Int.reduceBEq, Int.reduceBNe, Int.reduceLT, Int.reduceLE, f2.cell]))
    refine appS (Sl.empty hat) (SrcIs.take (f3.drew.keep0 ho) (show (nats l).length = l.length by simp [nats])) nats_oneC (by omega) (by omega) fun v' w2 fp hs hfp ho2 _ => ?_
    have ho12 : Only [] w.drew w2 := ho.trans ho2 fun x hx => .inr (by
      rcases List.mem_cons.1 hx with rfl | hx
      · omega
      · cases hx)
    refine ⟨.inr ((SB.refl _ _).only ho12 fun x hx => ⟨inb x hx, by simp⟩), ?_⟩
    rw [Nat.zero_add, List.nil_append] at hs
    obtain ⟨g', cap', rest', rfl, hat', rfl⟩ := hs.pos (by omega)
    (repeat (first | with_reducible refine run_seq ?_ | with_reducible refine run_reg ?_ | with_reducible refine run_block ?_ | with_reducible refine run_blk ?_ | with_reducible refine run_skip ?_ | with_reducible refine run_exit rfl ?_ | with_reducible refine run_drw ?_ | with_reducible refine run_condT ?_ | with_reducible refine run_ret' ?_ | with_reducible refine run_end' ?_ | simp only [go_sem, ↓reduceIte, Nat.reduceAdd, Nat.reduceEqDiff, Nat.reduceBEq, reduceCtorEq, Int.reduceBEq, Int.reduceBNe, Int.reduceLT, Int.reduceLE, f2.cell]))
    rw [fillL_one rfl rfl, fillL_one rfl rfl, fillL_one rfl rfl]
    (repeat (first | with_reducible refine run_seq ?_ | with_reducible refine run_reg ?_ | with_reducible refine run_block ?_ | with_reducible refine run_blk ?_ | with_reducible refine run_skip ?_ | with_reducible refine run_exit rfl ?_ | with_reducible refine run_drw ?_ | with_reducible refine run_condT ?_ | with_reducible refine run_ret' ?_ | with_reducible refine run_end' ?_ | simp only [go_sem, ↓reduceIte, Nat.reduceAdd, Nat.reduceEqDiff, Nat.reduceBEq, reduceCtorEq, Int.reduceBEq, Int.reduceBNe, Int.reduceLT, Int.reduceLE]))
    refine boxS fun b' w3 hb3 hs3 hat3 ho3 => ⟨.inr ((SB.refl _ _).only (ho12.same ho3) fun x hx => ⟨inb x hx, by simp⟩), ?_⟩
    (repeat (first | with_reducible refine run_seq ?_ | with_reducible refine run_reg ?_ | with_reducible refine run_block ?_ | with_reducible refine run_blk ?_ | with_reducible refine run_skip ?_ | with_reducible refine run_exit rfl ?_ | with_reducible refine run_drw ?_ | with_reducible refine run_condT ?_ | with_reducible refine run_ret' ?_ | with_reducible refine run_end' ?_ | simp only [go_sem, ↓reduceIte, Nat.reduceAdd, Nat.reduceEqDiff, Nat.reduceBEq, reduceCtorEq, Int.reduceBEq, Int.reduceBNe, Int.reduceLT, Int.reduceLE]))
    have hd : w.drew.heap.size = w.heap.size := rfl
    have hg1 := hat'.lt
    have hss := ho12.size
    have hg : w.heap.size ≤ g' := by
      rcases hfp with h | h
      · cases h; omega
      · cases h; omega
    have hT : RTab w3 b' g' wd l := ⟨h3.hw, h3.n1, h3.n2, h3.el, cap', rest', hat3, hat'.keep0 ho3, by omega⟩
    refine ⟨_, _, rfl, ⟨.mk hT, ?_⟩, (ho12.same ho3).drew_left⟩
    intro x hx
    rcases List.mem_cons.1 hx with rfl | hx
    · omega
    · rcases List.mem_cons.1 hx with rfl | hx
      · omega
      · cases hx

theorem alike_m {w : World} {a b : Option Addr} {S T : List Nat} {m k : MT} (h1 : Tab w a S m) (h2 : Tab w b T k) {t : Bool} (ht : m.alike k = t) : Cs Try.prog 59 [.pointer a, .pointer b] w fun r w' => r = .bool t ∧ Only [] w w' := by
  subst ht
  refine enter_side_alike rfl ?_
  unfold x_side_alike
  match m, h1 with
  | none, h1 =>
    (repeat (first | with_reducible refine run_seq ?_ | with_reducible refine run_reg ?_ | with_reducible refine run_block ?_ | with_reducible refine run_blk ?_ | with_reducible refine run_skip ?_ | with_reducible refine run_exit rfl ?_ | with_reducible refine run_drw ?_ | with_reducible refine run_condT ?_ | with_reducible refine run_ret' ?_ | with_reducible refine run_end' ?_ | simp only [go_sem, ↓reduceIte, Nat.reduceAdd, Nat.reduceEqDiff, Nat.reduceBEq, reduceCtorEq, Int.reduceBEq, Int.reduceBNe, Int.reduceLT, Int.reduceLE]))
    refine run_drg [] ?_
    (repeat (first | with_reducible refine run_seq ?_ | with_reducible refine run_reg ?_ | with_reducible refine run_block ?_ | with_reducible refine run_blk ?_ | with_reducible refine run_skip ?_ | with_reducible refine run_exit rfl ?_ | with_reducible refine run_drw ?_ | with_reducible refine run_condT ?_ | with_reducible refine run_ret' ?_ | with_reducible refine run_end' ?_ | simp only [go_sem, ↓reduceIte, Nat.reduceAdd, Nat.reduceEqDiff, Nat.reduceBEq, reduceCtorEq, Int.reduceBEq, Int.reduceBNe, Int.reduceLT, Int.reduceLE]))
    refine callS0 (made_m (h1.keep0 (Only.drew _ _))) (.inr (SB.refl _ _)) ?_
    (repeat (first | with_reducible refine run_seq ?_ | with_reducible refine run_reg ?_ | with_reducible refine run_block ?_ | with_reducible refine run_blk ?_ | with_reducible refine run_skip ?_ | with_reducible refine run_exit rfl ?_ | with_reducible refine run_drw ?_ | with_reducible refine run_condT ?_ | with_reducible refine run_ret' ?_ | with_reducible refine run_end' ?_ | simp only [go_sem, ↓reduceIte, Nat.reduceAdd, Nat.reduceEqDiff, Nat.reduceBEq, reduceCtorEq, Int.reduceBEq, Int.reduceBNe, Int.reduceLT, Int.reduceLE, Option.isSome_none]))
    exact ⟨rfl, Only.drew _ _⟩
  | some (wd, l), ⟨b1, g1, e1, e2, h3⟩ =>
    match k, h2 with
    | none, h2 =>
      subst e1 e2
      (repeat (first | with_reducible refine run_seq ?_ | with_reducible refine run_reg ?_ | with_reducible refine run_block ?_ | with_reducible refine run_blk ?_ | with_reducible refine run_skip ?_ | with_reducible refine run_exit rfl ?_ | with_reducible refine run_drw ?_ | with_reducible refine run_condT ?_ | with_reducible refine run_ret' ?_ | with_reducible refine run_end' ?_ | simp only [go_sem, ↓reduceIte, Nat.reduceAdd, Nat.reduceEqDiff, Nat.reduceBEq, reduceCtorEq, Int.reduceBEq, Int.reduceBNe, Int.reduceLT, Int.reduceLE]))
      refine run_drg [] ?_
      (repeat (first | with_reducible refine run_seq ?_ | with_reducible refine run_reg ?_ | with_reducible refine run_block ?_ | with_reducible refine run_blk ?_ | with_reducible refine run_skip ?_ | with_reducible refine run_exit rfl ?_ | with_reducible refine run_drw ?_ | with_reducible refine run_condT ?_ | with_reducible refine run_ret' ?_ | with_reducible refine run_end' ?_ | simp only [go_sem, ↓reduceIte, Nat.reduceAdd, Nat.reduceEqDiff, Nat.reduceBEq, reduceCtorEq, Int.reduceBEq, Int.reduceBNe, Int.reduceLT, Int.reduceLE]))
      refine callS0 (made_m (Tab.mk h3.drew)) (.inr (SB.refl _ _)) ?_
      (repeat (first | with_reducible refine run_seq ?_ | with_reducible refine run_reg ?_ | with_reducible refine run_block ?_ | with_reducible refine run_blk ?_ | with_reducible refine run_skip ?_ | with_reducible refine run_exit rfl ?_ | with_reducible refine run_drw ?_ | with_reducible refine run_condT ?_ | with_reducible refine run_ret' ?_ | with_reducible refine run_end' ?_ | simp only [go_sem, ↓reduceIte, Nat.reduceAdd, Nat.reduceEqDiff, Nat.reduceBEq, reduceCtorEq, Int.reduceBEq, Int.reduceBNe, Int.reduceLT, Int.reduceLE, Option.isSome_some]))
      refine callS0 (made_m (h2.keep0 (Only.drew _ _))) (.inr (SB.refl _ _)) ?_
      (repeat (first | with_reducible refine run_seq ?_ | with_reducible refine run_reg ?_ | with_reducible refine run_block ?_ | with_reducible refine run_blk ?_ | with_reducible refine run_skip ?_ | with_reducible refine run_exit rfl ?_ | with_reducible refine run_drw ?_ | with_reducible refine run_condT ?_ | with_reducible refine run_ret' ?_ | with_reducible refine run_end' ?_ | simp only [go_sem, ↓reduceIte, Nat.reduceAdd, Nat.reduceEqDiff, Nat.reduceBEq, reduceCtorEq, Int.reduceBEq, Int.reduceBNe, Int.reduceLT, Int.reduceLE, Option.isSome_none]))
      exact ⟨rfl, Only.drew _ _⟩
    | some (wd', l'), ⟨b2, g2, e3, e4, h4⟩ =>
      subst e1 e2 e3 e4
      obtain ⟨k1, cap1, c1⟩ := h3.head
      obtain ⟨k2, cap2, c2⟩ := h4.head
      (repeat (first | with_reducible refine run_seq ?_ | with_reducible refine run_reg ?_ | with_reducible refine run_block ?_ | with_reducible refine run_blk ?_ | with_reducible refine run_skip ?_ | with_reducible refine run_exit rfl ?_ | with_reducible refine run_drw ?_ | with_reducible refine run_condT ?_ | with_reducible refine run_ret' ?_ | with_reducible refine run_end' ?_ | simp only [go_sem, ↓reduceIte, Nat.reduceAdd, Nat.reduceEqDiff, Nat.reduceBEq, reduceCtorEq, Int.reduceBEq, Int.reduceBNe, Int.reduceLT, Int.reduceLE]))
      refine run_drg [b1, b2] ?_
      (repeat (first | with_reducible refine run_seq ?_ | with_reducible refine run_reg ?_ | with_reducible refine run_block ?_ | with_reducible refine run_blk ?_ | with_reducible refine run_skip ?_ | with_reducible refine run_exit rfl ?_ | with_reducible refine run_drw ?_ | with_reducible refine run_condT ?_ | with_reducible refine run_ret' ?_ | with_reducible refine run_end' ?_ | simp only [go_sem, ↓reduceIte, Nat.reduceAdd, Nat.reduceEqDiff, Nat.reduceBEq, reduceCtorEq, Int.reduceBEq, Int.reduceBNe, Int.reduceLT, Int.reduceLE]))
      refine callS0 (made_m (Tab.mk h3.drew)) (.inr (SB.refl _ _)) ?_
      (repeat (first | with_reducible refine run_seq ?_ | with_reducible refine run_reg ?_ | with_reducible refine run_block ?_ | with_reducible refine run_blk ?_ | with_reducible refine run_skip ?_ | with_reducible refine run_exit rfl ?_ | with_reducible refine run_drw ?_ | with_reducible refine run_condT ?_ | with_reducible refine run_ret' ?_ | with_reducible refine run_end' ?_ | simp only [go_sem, ↓reduceIte, Nat.reduceAdd, Nat.reduceEqDiff, Nat.reduceBEq, reduceCtorEq, Int.reduceBEq, Int.reduceBNe, Int.reduceLT, Int.reduceLE, Option.isSome_some]))
      refine callS0 (made_m (Tab.mk h4.drew)) (.inr (SB.refl _ _)) ?_
      (repeat (first | with_reducible refine run_seq ?_ | with_reducible refine run_reg ?_ | with_reducible refine run_block ?_ | with_reducible refine run_blk ?_ | with_reducible refine run_skip ?_ | with_reducible refine run_exit rfl ?_ | with_reducible refine run_drw ?_ | with_reducible refine run_condT ?_ | with_reducible refine run_ret' ?_ | with_reducible refine run_end' ?_ | simp only [go_sem, ↓reduceIte, Nat.reduceAdd, Nat.reduceEqDiff, Nat.reduceBEq, reduceCtorEq, Int.reduceBEq, Int.reduceBNe, Int.reduceLT, Int.reduceLE, Option.isSome_some, c1.cell, c2.cell]))
      by_cases hll : l.length = l'.length
      · have : ((l.length : Int) == (l'.length : Int)) = true := by simp [hll]
        (repeat (first | with_reducible refine run_seq ?_ | with_reducible refine run_reg ?_ | with_reducible refine run_block ?_ | with_reducible refine run_blk ?_ | with_reducible refine run_skip ?_ | with_reducible refine run_exit rfl ?_ | with_reducible refine run_drw ?_ | with_reducible refine run_condT ?_ | with_reducible refine run_ret' ?_ | with_reducible refine run_end' ?_ | simp only [go_sem, ↓reduceIte, Nat.reduceAdd, Nat.reduceEqDiff, Nat.reduceBEq, reduceCtorEq, Int.reduceBEq, Int.reduceBNe, Int.reduceLT, Int.reduceLE, this, c1.cell, c2.cell]))
        refine ⟨?_, Only.drew _ _⟩
        simp only [MT.alike, hll, decide_true, Bool.true_and]
        congr 1
        by_cases hw : wd = wd'
        · simp [hw]
        · simp [hw]; omega
      · have : ((l.length : Int) == (l'.length : Int)) = false := by simp; omega
        (repeat (first | with_reducible refine run_seq ?_ | with_reducible refine run_reg ?_ | with_reducible refine run_block ?_ | with_reducible refine run_blk ?_ | with_reducible refine run_skip ?_ | with_reducible refine run_exit rfl ?_ | with_reducible refine run_drw ?_ | with_reducible refine run_condT ?_ | with_reducible refine run_ret' ?_ | with_reducible refine run_end' ?_ | simp only [go_sem, ↓reduceIte, Nat.reduceAdd, Nat.reduceEqDiff, Nat.reduceBEq, reduceCtorEq, Int.reduceBEq, Int.reduceBNe, Int.reduceLT, Int.reduceLE, this]))
        exact ⟨by simp [MT.alike, hll], Only.drew _ _⟩

theorem equalWords {w : World} {g g' c c' : Nat} {ws us : List Nat} {rest rest' : List Value} (h : At w g (u64s ws ++ rest)) (h' : At w g' (u64s us ++ rest')) (hl : ws.length = us.length) (hb : ws.length ≤ 4096) :
    Cs Try.prog 62 [.slice (some ⟨g, 0, none⟩) ws.length c, .slice (some ⟨g', 0, none⟩) us.length c'] w fun r w' => r = .bool (decide (ws = us)) ∧ Only [] w w' := by
  refine enter_slices_Equal___uint64_uint64_ rfl ?_
  unfold x_slices_Equal___uint64_uint64_
  rw [← hl]
  (repeat (first | with_reducible refine run_seq ?_ | with_reducible refine run_reg ?_ | with_reducible refine run_block ?_ | with_reducible refine run_blk ?_ | with_reducible refine run_skip ?_ | with_reducible refine run_exit rfl ?_ | with_reducible refine run_drw ?_ | with_reducible refine run_condT ?_ | with_reducible refine run_ret' ?_ | with_reducible refine run_end' ?_ | simp only [go_sem, ↓reduceIte, Nat.reduceAdd, Nat.reduceEqDiff, Nat.reduceBEq, reduceCtorEq, Int.reduceBEq, Int.reduceBNe, Int.reduceLT, Int.reduceLE, bne_self_eq_false]))
  refine run_loop (5 :: 13 :: 14 :: 15 :: 16 :: 17 :: 18 :: 19 :: 20 :: 21 :: 22 :: 23 :: 24 :: 25 :: []) (fun g' w' => ∃ (i : Nat), g' 13 = .int .i64 i ∧ i ≤ ws.length ∧ (∀ j, j < i → ws.getD j 0 = us.getD j 0) ∧ Only [] w w') (fun g' _ => upTo ws.length 13 g')
    ⟨0, by simp only [go_sem, ↓reduceIte, Nat.reduceAdd, Nat.reduceEqDiff, Nat.reduceBEq, reduceCtorEq, Int.reduceBEq, Int.reduceBNe, Int.reduceLT, Int.reduceLE]; rfl, by omega, fun j hj => by omega, Only.refl _ _⟩ fun g'' w' hI hnext => ?_
  obtain ⟨i, hi, hin, hall, ho⟩ := hI
  (repeat (first | with_reducible refine run_seq ?_ | with_reducible refine run_reg ?_ | with_reducible refine run_block ?_ | with_reducible refine run_blk ?_ | with_reducible refine run_skip ?_ | with_reducible refine run_exit rfl ?_ | with_reducible refine run_drw ?_ | with_reducible refine run_condT ?_ | with_reducible refine run_ret' ?_ | with_reducible refine run_end' ?_ | simp only [go_sem, ↓reduceIte, Nat.reduceAdd, Nat.reduceEqDiff, Nat.reduceBEq, reduceCtorEq, Int.reduceBEq, Int.reduceBNe, Int.reduceLT, Int.reduceLE, hi]))
  refine condT (fun hlt => ?_) (fun hge => ?_)
  · have hlt : i < ws.length := by simpa using hlt
    have c1 : (0 : Int) ≤ (i : Int) ∧ (i : Int) < (ws.length : Int) := ⟨by omega, by omega⟩
    (repeat (first | with_reducible refine run_seq ?_ | with_reducible refine run_reg ?_ | with_reducible refine run_block ?_ | with_reducible refine run_blk ?_ | with_reducible refine run_skip ?_ | with_reducible refine run_exit rfl ?_ | with_reducible refine run_drw ?_ | with_reducible refine run_condT ?_ | with_reducible refine run_ret' ?_ | with_reducible refine run_end' ?_ | simp only [go_sem, ↓reduceIte, Nat.reduceAdd, Nat.reduceEqDiff, Nat.reduceBEq, reduceCtorEq, Int.reduceBEq, Int.reduceBNe, Int.reduceLT, Int.reduceLE, hi, if_pos c1, Int.toNat_natCast, Nat.mul_one, (h.keep0 ho).cell, (h'.keep0 ho).cell, u64s_getElem? ws rest i hlt, u64s_getElem? us rest' i (by omega)]))
    refine condT (fun hne => ?_) (fun he => ?_)
    · have hne : ¬ ((ws.getD i 0 : Nat) : Int) = ((us.getD i 0 : Nat) : Int) := by simpa using hne
      (repeat (first | with_reducible refine run_seq ?_ | with_reducible refine run_reg ?_ | with_reducible refine run_block ?_ | with_reducible refine run_blk ?_ | with_reducible refine run_skip ?_ | with_reducible refine run_exit rfl ?_ | with_reducible refine run_drw ?_ | with_reducible refine run_condT ?_ | with_reducible refine run_ret' ?_ | with_reducible refine run_end' ?_ | simp only [go_sem, ↓reduceIte, Nat.reduceAdd, Nat.reduceEqDiff, Nat.reduceBEq, reduceCtorEq, Int.reduceBEq, Int.reduceBNe, Int.reduceLT, Int.reduceLE]))
      refine ⟨?_, ho.nil (Only.drew _ _)⟩
      have : ¬ ws = us := fun e => hne (by rw [e])
      simp [this]
    · have he : ((ws.getD i 0 : Nat) : Int) = ((us.getD i 0 : Nat) : Int) := by simpa using he
      (repeat (first | with_reducible refine run_seq ?_ | with_reducible refine run_reg ?_ | with_reducible refine run_block ?_ | with_reducible refine run_blk ?_ | with_reducible refine run_skip ?_ | with_reducible refine run_exit rfl ?_ | with_reducible refine run_drw ?_ | with_reducible refine run_condT ?_ | with_reducible refine run_ret' ?_ | with_reducible refine run_end' ?_ | simp only [go_sem, ↓reduceIte, Nat.reduceAdd, Nat.reduceEqDiff, Nat.reduceBEq, reduceCtorEq, Int.reduceBEq, Int.reduceBNe, Int.reduceLT, Int.reduceLE, hi, i64_succ i (by omega)]))
      refine hnext _ _ ?_ ⟨i + 1, ?_, hlt, fun j hj => ?_, ho.nil (Only.drew _ _)⟩ ?_
      · (repeat (first | with_reducible exact Keeps.refl _ _ | with_reducible exact Keeps.ovr _ _ _ | refine Keeps.put ?_ rfl _ | exact Keeps.refl _ _ | exact Keeps.ovr _ _ _ | refine Keeps.ovr2 ?_ rfl _))
      · simp only [go_sem, ↓reduceIte, Nat.reduceAdd, Nat.reduceEqDiff, Nat.reduceBEq, reduceCtorEq, Int.reduceBEq, Int.reduceBNe, Int.reduceLT, Int.reduceLE]
      · rcases Nat.lt_or_ge j i with h | h
        · exact hall j h
        · have : j = i := by omega
          subst this; omega
      · rw [upTo_int hi, upTo_int (k := .i64) (i := i + 1) (by simp only [go_sem, ↓reduceIte, Nat.reduceAdd, Nat.reduceEqDiff, Nat.reduceBEq, reduceCtorEq, Int.reduceBEq, Int.reduceBNe, Int.reduceLT, Int.reduceLE])]; omega
  · have hge : ¬ i < ws.length := by simpa using hge
    have : i = ws.length := by omega
    subst this
    (repeat (first | with_reducible refine run_seq ?_ | with_reducible refine run_reg ?_ | with_reducible refine run_block ?_ | with_reducible refine run_blk ?_ | with_reducible refine run_skip ?_ | with_reducible refine run_exit rfl ?_ | with_reducible refine run_drw ?_ | with_reducible refine run_condT ?_ | with_reducible refine run_ret' ?_ | with_reducible refine run_end' ?_ | simp only [go_sem, ↓reduceIte, Nat.reduceAdd, Nat.reduceEqDiff, Nat.reduceBEq, reduceCtorEq, Int.reduceBEq, Int.reduceBNe, Int.reduceLT, Int.reduceLE]))
    refine ⟨?_, ho⟩
    have : ws = us := List.ext_getElem hl fun j h1 h2 => by
      have := hall j h1
      simpa [h1, h2] using this
    simp [this]
end Go.Proofs.Ythalhkhjacjhgaa
