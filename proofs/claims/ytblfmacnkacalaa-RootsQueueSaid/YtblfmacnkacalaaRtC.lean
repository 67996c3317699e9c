/- Roots: the program's Pop, New and Clone. -/
import Derived.Test.YtblfmacnkacalaaRtB
namespace Go.Proofs.Ytblfmacnkacalaa
set_option linter.unusedSimpArgs false
set_option linter.unusedVariables false
set_option maxRecDepth 8000

theorem slcO_1 {n cap g : Nat} (h1 : 1 ≤ n) (h2 : n ≤ cap) : slcO 1 (.slice (some ⟨g, 0, none⟩) n cap) (some (.int .i64 1)) none = some (.slice (some (if cap = 1 then ⟨g, 0, none⟩ else ⟨g, 1, none⟩)) (n - 1) (cap - 1)) := by
  by_cases e : cap = 1
  · subst e
    have e2 : (1 : Int) ≤ (n : Int) := by omega
    simp [slcO, boundO, e2]
  · have e2 : (1 : Int) ≤ (n : Int) := by omega
    simp [slcO, boundO, e2, e, addr_add]
theorem src_tail {w : World} {g n cap : Nat} {x : Int} {q : List Int} {ys : List Value} (hat : At w g (ints (x :: q) ++ ys)) (hn : n = q.length + 1) (hc : n ≤ cap) :
    SrcIs w 1 (.slice (some (if cap = 1 then ⟨g, 0, none⟩ else ⟨g, 1, none⟩)) (n - 1) (cap - 1)) q.length (ints q) := by
  refine ⟨by simp [ints_length], .inr ⟨_, cap - 1, by rw [hn]; rfl, ?_⟩⟩
  by_cases e : cap = 1
  · have : q.length = 0 := by omega
    have : q = [] := List.eq_nil_of_length_eq_zero this
    subst this
    rfl
  · rw [if_neg e, cellsAt_at hat 1 _ (by simp [ints]; omega)]
    simp [ints]

theorem Pop_m {w : World} {a : Option Addr} {fp : List Nat} {m : MO} (h : PR w a fp m) : Cs Try.prog 22 [.pointer a] w fun v w' => v = .tuple #[.int .i64 (popO m).1.1, .int .i64 (popO m).1.2] ∧ Only fp w w' ∧ ((popO m).1.2 ≠ 0 → Only [] w w') ∧ ∃ fp', PR w' a fp' (popO m).2 ∧ ∀ x, x ∈ fp' → x ∈ fp ∨ w.heap.size ≤ x := by
  refine enter_roots_Roots_Pop rfl ?_
  unfold x_roots_Roots_Pop
  (repeat (first | with_reducible refine run_seq ?_ | with_reducible refine run_reg ?_ | with_reducible refine run_block ?_ | with_reducible refine run_blk ?_ | with_reducible refine run_skip ?_ | with_reducible refine run_exit rfl ?_ | with_reducible refine run_drw ?_ | with_reducible refine run_condT ?_ | with_reducible refine run_ret' ?_ | with_reducible refine run_end' ?_ | simp only [go_sem, ↓reduceIte, Nat.reduceAdd, Nat.reduceEqDiff, Nat.reduceBEq, reduceCtorEq, Int.reduceBEq, Int.reduceBNe, Int.reduceLT, Int.reduceLE]))
  refine callT0 (made_m h) ?_
  match m, h with
  | none, h =>
    (repeat (first | with_reducible refine run_seq ?_ | with_reducible refine run_reg ?_ | with_reducible refine run_block ?_ | with_reducible refine run_blk ?_ | with_reducible refine run_skip ?_ | with_reducible refine run_exit rfl ?_ | with_reducible refine run_drw ?_ | with_reducible refine run_condT ?_ | with_reducible refine run_ret' ?_ | with_reducible refine run_end' ?_ | simp only [go_sem, ↓reduceIte, Nat.reduceAdd, Nat.reduceEqDiff, Nat.reduceBEq, reduceCtorEq, Int.reduceBEq, Int.reduceBNe, Int.reduceLT, Int.reduceLE, Option.isSome_none]))
    exact ⟨rfl, Only.refl _ _, fun _ => Only.refl _ _, fp, h, fun x hx => .inl hx⟩
  | some s, ⟨b, hb, vs, vg, vq, fs, fg, fq, hfp, hp⟩ =>
    subst hb
    subst hfp
    have h0 : PR w (some ⟨b, 0, none⟩) (b :: (fs ++ (fg ++ fq))) (some s) := ⟨b, rfl, vs, vg, vq, fs, fg, fq, rfl, hp⟩
    obtain ⟨M, S, G, Q⟩ := s
    cases Q with
    | nil =>
      obtain ⟨aq, cq, hvq⟩ := hp.h2.val
      subst hvq
      (repeat (first | with_reducible refine run_seq ?_ | with_reducible refine run_reg ?_ | with_reducible refine run_block ?_ | with_reducible refine run_blk ?_ | with_reducible refine run_skip ?_ | with_reducible refine run_exit rfl ?_ | with_reducible refine run_drw ?_ | with_reducible refine run_condT ?_ | with_reducible refine run_ret' ?_ | with_reducible refine run_end' ?_ | simp only [go_sem, ↓reduceIte, Nat.reduceAdd, Nat.reduceEqDiff, Nat.reduceBEq, reduceCtorEq, Int.reduceBEq, Int.reduceBNe, Int.reduceLT, Int.reduceLE, Option.isSome_some, hp.hb.cell, beq_int_true (show ((0 : Nat) : Int) = 0 by rfl)]))
      rw [show popO (some ⟨M, S, G, []⟩) = ((0, 4), some ⟨M, S, G, []⟩) from rfl]
      exact ⟨rfl, Only.refl _ _, fun _ => Only.refl _ _, _, h0, fun x hx => .inl (by simpa using hx)⟩
    | cons x q =>
      obtain ⟨g, cap, ys, hv, hg, hfq, hcap⟩ := hp.h2.pos (by simp)
      subst hv
      subst hfq
      have hlen : (x :: q).length = q.length + 1 := rfl
      have c1 : ¬ ((((x :: q).length : Nat) : Int) = 0) := by rw [hlen]; omega
      have c2 : (0 : Int) ≤ 0 ∧ (0 : Int) < (((x :: q).length : Nat) : Int) := by rw [hlen]; omega
      have hget : (ints (x :: q) ++ ys)[0]? = some (.int .i64 x) := rfl
      have hlq := hp.ok.lq
      simp only at hlq hcap
      have hz : (0 : Int).toNat * 1 = 0 := rfl
      have hpb := hp.hb
      simp only at hpb
      generalize hL : (x :: q).length = L at *
      (repeat (first | with_reducible refine run_seq ?_ | with_reducible refine run_reg ?_ | with_reducible refine run_block ?_ | with_reducible refine run_blk ?_ | with_reducible refine run_skip ?_ | with_reducible refine run_exit rfl ?_ | with_reducible refine run_drw ?_ | with_reducible refine run_condT ?_ | with_reducible refine run_ret' ?_ | with_reducible refine run_end' ?_ | simp only [go_sem, ↓reduceIte, Nat.reduceAdd, Nat.reduceEqDiff, Nat.reduceBEq, reduceCtorEq, Int.reduceBEq, Int.reduceBNe, Int.reduceLT, Int.reduceLE, Option.isSome_some, hpb.cell, beq_int_false c1, if_pos c2.2, hz, hg.cell, hget, slcO_1 (show 1 ≤ L by omega) hcap]))
      refine callT (sclone (src_tail hg hlen hcap) ints_one (by omega)) ?_
      rintro v' w2 ⟨ho2, fp', hs2, hf2⟩
      have hb2 := hpb.keep0 ho2
      obtain ⟨av, cv, hv'⟩ := hs2.val
      have hone : oneC v' = true := by rw [hv']; rfl
      (repeat (first | with_reducible refine run_seq ?_ | with_reducible refine run_reg ?_ | with_reducible refine run_block ?_ | with_reducible refine run_blk ?_ | with_reducible refine run_skip ?_ | with_reducible refine run_exit rfl ?_ | with_reducible refine run_drw ?_ | with_reducible refine run_condT ?_ | with_reducible refine run_ret' ?_ | with_reducible refine run_end' ?_ | simp only [go_sem, ↓reduceIte, Nat.reduceAdd, Nat.reduceEqDiff, Nat.reduceBEq, reduceCtorEq, Int.reduceBEq, Int.reduceBNe, Int.reduceLT, Int.reduceLE, hpb.cell]))
      refine stT hb2 (by simp) hone fun w3 hs3 hat3 ho3 => ?_
      (repeat (first | with_reducible refine run_seq ?_ | with_reducible refine run_reg ?_ | with_reducible refine run_block ?_ | with_reducible refine run_blk ?_ | with_reducible refine run_skip ?_ | with_reducible refine run_exit rfl ?_ | with_reducible refine run_drw ?_ | with_reducible refine run_condT ?_ | with_reducible refine run_ret' ?_ | with_reducible refine run_end' ?_ | simp only [go_sem, ↓reduceIte, Nat.reduceAdd, Nat.reduceEqDiff, Nat.reduceBEq, reduceCtorEq, Int.reduceBEq, Int.reduceBNe, Int.reduceLT, Int.reduceLE]))
      have hlt := hpb.lt
      have hbf : b ∉ fp' := fun hx => by have := hf2 b hx; omega
      have hO : Only (b :: [g]) w w3 := ho2.of_nil.same (ho3.mono fun x hx => .inl (by simp only [List.mem_singleton] at hx; simp [hx]))
      have hq3 : Sl w3 1 v' q.length (ints q) fp' := hs2.keep ho3 fun x hx hx2 => by simp only [List.mem_singleton] at hx2; subst hx2; exact hbf hx
      subst hL
      have hp3 := hp.turn (q := q) (by simp at hlq; omega) hq3 hat3 hO (fun x hx => .inr (hf2 x hx))
      rw [show popO (some ⟨M, S, G, x :: q⟩) = ((x, 0), some ⟨M, S, G, q⟩) from rfl]
      refine ⟨rfl, hO.mono fun x hx => .inl ?_, fun hne => absurd rfl hne, _, ⟨b, rfl, hp3⟩, fun x hx => ?_⟩
      · simp only [List.mem_cons, List.not_mem_nil, or_false] at hx
        rcases hx with rfl | rfl <;> simp
      · simp only [List.mem_cons, List.mem_append] at hx ⊢
        rcases hx with rfl | hx | hx | hx
        · exact .inl (.inl rfl)
        · exact .inl (.inr (.inl hx))
        · exact .inl (.inr (.inr (.inl hx)))
        · exact .inr (hf2 x hx)

theorem Clone_m {w : World} {a : Option Addr} {fp : List Nat} {m : MO} (h : PR w a fp m) : Cs Try.prog 26 [.pointer a] w fun v w' => Only [] w w' ∧ ∃ a' fp', v = .pointer a' ∧ PR w' a' fp' m ∧ (m = none → a' = none) ∧ ∀ x, x ∈ fp' → w.heap.size ≤ x := by
  refine enter_roots_Roots_Clone rfl ?_
  unfold x_roots_Roots_Clone
  (repeat (first | with_reducible refine run_seq ?_ | with_reducible refine run_reg ?_ | with_reducible refine run_block ?_ | with_reducible refine run_blk ?_ | with_reducible refine run_skip ?_ | with_reducible refine run_exit rfl ?_ | with_reducible refine run_drw ?_ | with_reducible refine run_condT ?_ | with_reducible refine run_ret' ?_ | with_reducible refine run_end' ?_ | simp only [go_sem, ↓reduceIte, Nat.reduceAdd, Nat.reduceEqDiff, Nat.reduceBEq, reduceCtorEq, Int.reduceBEq, Int.reduceBNe, Int.reduceLT, Int.reduceLE]))
  refine callT0 (made_m h) ?_
  match m, h with
  | none, h =>
    (repeat (first | with_reducible refine run_seq ?_ | with_reducible refine run_reg ?_ | with_reducible refine run_block ?_ | with_reducible refine run_blk ?_ | with_reducible refine run_skip ?_ | with_reducible refine run_exit rfl ?_ | with_reducible refine run_drw ?_ | with_reducible refine run_condT ?_ | with_reducible refine run_ret' ?_ | with_reducible refine run_end' ?_ | simp only [go_sem, ↓reduceIte, Nat.reduceAdd, Nat.reduceEqDiff, Nat.reduceBEq, reduceCtorEq, Int.reduceBEq, Int.reduceBNe, Int.reduceLT, Int.reduceLE, Option.isSome_none]))
    exact ⟨Only.refl _ _, none, [], rfl, .inl ⟨rfl, rfl⟩, fun _ => rfl, by simp⟩
  | some s, ⟨b, hb, vs, vg, vq, fs, fg, fq, hfp, hp⟩ =>
    subst hb
    have hok := hp.ok
    (repeat (first | with_reducible refine run_seq ?_ | with_reducible refine run_reg ?_ | with_reducible refine run_block ?_ | with_reducible refine run_blk ?_ | with_reducible refine run_skip ?_ | with_reducible refine run_exit rfl ?_ | with_reducible refine run_drw ?_ | with_reducible refine run_condT ?_ | with_reducible refine run_ret' ?_ | with_reducible refine run_end' ?_ | simp only [go_sem, ↓reduceIte, Nat.reduceAdd, Nat.reduceEqDiff, Nat.reduceBEq, reduceCtorEq, Int.reduceBEq, Int.reduceBNe, Int.reduceLT, Int.reduceLE, Option.isSome_some]))
    refine run_drt [b] ?_
    (repeat (first | with_reducible refine run_seq ?_ | with_reducible refine run_reg ?_ | with_reducible refine run_block ?_ | with_reducible refine run_blk ?_ | with_reducible refine run_skip ?_ | with_reducible refine run_exit rfl ?_ | with_reducible refine run_drw ?_ | with_reducible refine run_condT ?_ | with_reducible refine run_ret' ?_ | with_reducible refine run_end' ?_ | simp only [go_sem, ↓reduceIte, Nat.reduceAdd, Nat.reduceEqDiff, Nat.reduceBEq, reduceCtorEq, Int.reduceBEq, Int.reduceBNe, Int.reduceLT, Int.reduceLE, hp.hb.cell]))
    refine callS (sclone (hp.keep0 (Only.drew [] w)).h0.src ints_one (by have := hok.m4; omega)) ?_
    rintro v1 w1 ⟨ho1, f1, hs1, hf1⟩
    have p1 := (hp.keep0 (Only.drew [] w)).keep0 ho1
    refine ⟨.inr ((SB.refl _ _).only ho1 (fun x hx => by simp only [List.mem_singleton] at hx; subst hx; exact ⟨hp.hb.lt, by simp⟩)), ?_⟩
    (repeat (first | with_reducible refine run_seq ?_ | with_reducible refine run_reg ?_ | with_reducible refine run_block ?_ | with_reducible refine run_blk ?_ | with_reducible refine run_skip ?_ | with_reducible refine run_exit rfl ?_ | with_reducible refine run_drw ?_ | with_reducible refine run_condT ?_ | with_reducible refine run_ret' ?_ | with_reducible refine run_end' ?_ | simp only [go_sem, ↓reduceIte, Nat.reduceAdd, Nat.reduceEqDiff, Nat.reduceBEq, reduceCtorEq, Int.reduceBEq, Int.reduceBNe, Int.reduceLT, Int.reduceLE, hp.hb.cell]))
    refine callS (sclone p1.h1.src ints_one (by omega)) ?_
    rintro v2 w2 ⟨ho2, f2, hs2, hf2⟩
    have p2 := p1.keep0 ho2
    refine ⟨.inr ((SB.refl _ _).only (ho1.nil ho2) (fun x hx => by simp only [List.mem_singleton] at hx; subst hx; exact ⟨hp.hb.lt, by simp⟩)), ?_⟩
    (repeat (first | with_reducible refine run_seq ?_ | with_reducible refine run_reg ?_ | with_reducible refine run_block ?_ | with_reducible refine run_blk ?_ | with_reducible refine run_skip ?_ | with_reducible refine run_exit rfl ?_ | with_reducible refine run_drw ?_ | with_reducible refine run_condT ?_ | with_reducible refine run_ret' ?_ | with_reducible refine run_end' ?_ | simp only [go_sem, ↓reduceIte, Nat.reduceAdd, Nat.reduceEqDiff, Nat.reduceBEq, reduceCtorEq, Int.reduceBEq, Int.reduceBNe, Int.reduceLT, Int.reduceLE, hp.hb.cell]))
    refine callS (sclone p2.h2.src ints_one (by have := hok.lq; omega)) ?_
    rintro v3 w3 ⟨ho3, f3, hs3, hf3⟩
    have hd1 : w.drew.heap.size = w.heap.size := rfl
    have hl1 := hs1.lt; have hl2 := hs2.lt; have hl3 := hs3.lt
    have hz1 := ho1.size; have hz2 := ho2.size; have hz3 := ho3.size
    obtain ⟨a1, c1, e1⟩ := hs1.val
    obtain ⟨a2, c2, e2⟩ := hs2.val
    obtain ⟨a3, c3, e3⟩ := hs3.val
    refine ⟨.inr ((SB.refl _ _).only ((ho1.nil ho2).nil ho3) (fun x hx => by simp only [List.mem_singleton] at hx; subst hx; exact ⟨hp.hb.lt, by simp⟩)), ?_⟩
    have q1 := (hs1.keep0 ho2).keep0 ho3
    have q2 := hs2.keep0 ho3
    subst e1 e2 e3
    (repeat (first | with_reducible refine run_seq ?_ | with_reducible refine run_reg ?_ | with_reducible refine run_block ?_ | with_reducible refine run_blk ?_ | with_reducible refine run_skip ?_ | with_reducible refine run_exit rfl ?_ | with_reducible refine run_drw ?_ | with_reducible refine run_condT ?_ | with_reducible refine run_ret' ?_ | with_reducible refine run_end' ?_ | simp only [go_sem, ↓reduceIte, Nat.reduceAdd, Nat.reduceEqDiff, Nat.reduceBEq, reduceCtorEq, Int.reduceBEq, Int.reduceBNe, Int.reduceLT, Int.reduceLE, hp.hb.cell]))
    rw [fillL_one rfl rfl]
    (repeat (first | with_reducible refine run_seq ?_ | with_reducible refine run_reg ?_ | with_reducible refine run_block ?_ | with_reducible refine run_blk ?_ | with_reducible refine run_skip ?_ | with_reducible refine run_exit rfl ?_ | with_reducible refine run_drw ?_ | with_reducible refine run_condT ?_ | with_reducible refine run_ret' ?_ | with_reducible refine run_end' ?_ | simp only [go_sem, ↓reduceIte, Nat.reduceAdd, Nat.reduceEqDiff, Nat.reduceBEq, reduceCtorEq, Int.reduceBEq, Int.reduceBNe, Int.reduceLT, Int.reduceLE]))
    rw [fillL_one rfl rfl]
    (repeat (first | with_reducible refine run_seq ?_ | with_reducible refine run_reg ?_ | with_reducible refine run_block ?_ | with_reducible refine run_blk ?_ | with_reducible refine run_skip ?_ | with_reducible refine run_exit rfl ?_ | with_reducible refine run_drw ?_ | with_reducible refine run_condT ?_ | with_reducible refine run_ret' ?_ | with_reducible refine run_end' ?_ | simp only [go_sem, ↓reduceIte, Nat.reduceAdd, Nat.reduceEqDiff, Nat.reduceBEq, reduceCtorEq, Int.reduceBEq, Int.reduceBNe, Int.reduceLT, Int.reduceLE]))
    rw [fillL_one rfl rfl]
    (repeat (first | with_reducible refine run_seq ?_ | with_reducible refine run_reg ?_ | with_reducible refine run_block ?_ | with_reducible refine run_blk ?_ | with_reducible refine run_skip ?_ | with_reducible refine run_exit rfl ?_ | with_reducible refine run_drw ?_ | with_reducible refine run_condT ?_ | with_reducible refine run_ret' ?_ | with_reducible refine run_end' ?_ | simp only [go_sem, ↓reduceIte, Nat.reduceAdd, Nat.reduceEqDiff, Nat.reduceBEq, reduceCtorEq, Int.reduceBEq, Int.reduceBNe, Int.reduceLT, Int.reduceLE]))
    rw [fillL_one rfl rfl]
    (repeat (first | with_reducible refine run_seq ?_ | with_reducible refine run_reg ?_ | with_reducible refine run_block ?_ | with_reducible refine run_blk ?_ | with_reducible refine run_skip ?_ | with_reducible refine run_exit rfl ?_ | with_reducible refine run_drw ?_ | with_reducible refine run_condT ?_ | with_reducible refine run_ret' ?_ | with_reducible refine run_end' ?_ | simp only [go_sem, ↓reduceIte, Nat.reduceAdd, Nat.reduceEqDiff, Nat.reduceBEq, reduceCtorEq, Int.reduceBEq, Int.reduceBNe, Int.reduceLT, Int.reduceLE]))
    refine boxS fun q w4 hq hs4 hat4 ho4 => ?_
    have hO := ((ho1.nil ho2).nil ho3).nil ho4
    refine ⟨.inr ((SB.refl _ _).only hO (fun x hx => by simp only [List.mem_singleton] at hx; subst hx; exact ⟨hp.hb.lt, by simp⟩)), ?_⟩
    (repeat (first | with_reducible refine run_seq ?_ | with_reducible refine run_reg ?_ | with_reducible refine run_block ?_ | with_reducible refine run_blk ?_ | with_reducible refine run_skip ?_ | with_reducible refine run_exit rfl ?_ | with_reducible refine run_drw ?_ | with_reducible refine run_condT ?_ | with_reducible refine run_ret' ?_ | with_reducible refine run_end' ?_ | simp only [go_sem, ↓reduceIte, Nat.reduceAdd, Nat.reduceEqDiff, Nat.reduceBEq, reduceCtorEq, Int.reduceBEq, Int.reduceBNe, Int.reduceLT, Int.reduceLE]))
    refine ⟨Only.drew_left hO, some ⟨q, 0, none⟩, q :: (f1 ++ (f2 ++ f3)), rfl, ⟨q, rfl, _, _, _, f1, f2, f3, rfl, ⟨hok, ?_, hat4, q1.keep0 ho4, q2.keep0 ho4, hs3.keep0 ho4⟩⟩, (fun hx => by first | cases hx | exact hx.elim), fun x hx => ?_⟩
    · simp only [List.nodup_cons, List.mem_append, not_or, List.nodup_append]
      refine ⟨⟨fun hx => by have := hl1 q hx; omega, fun hx => by have := hl2 q hx; omega, fun hx => by have := hl3 q hx; omega⟩, hs1.nodup, ⟨hs2.nodup, hs3.nodup, fun x hx y hy e => ?_⟩, fun x hx y hy e => ?_⟩
      · subst e; have := hl2 x hx; have := hf3 x hy; omega
      · subst e; have := hl1 x hx
        rcases hy with hy | hy
        · have := hf2 x hy; omega
        · have := hf3 x hy; omega
    · simp only [List.mem_cons, List.mem_append] at hx
      rcases hx with rfl | hx | hx | hx
      · omega
      · have := hf1 x hx; omega
      · have := hf2 x hx; omega
      · have := hf3 x hx; omega

theorem New_m (w : World) (n : Int) : Cs Try.prog 20 [.int .i64 n] w fun v w' => Only [] w w' ∧ ∃ a fp, v = .tuple #[.pointer a, .int .i64 (if (newO n).isSome then 0 else 1)] ∧ PR w' a fp (newO n) ∧ (newO n = none → a = none) ∧ ∀ x, x ∈ fp → w.heap.size ≤ x := by
  refine enter_roots_New rfl ?_
  unfold x_roots_New
  by_cases c1 : n < 1
  · (repeat (first | with_reducible refine run_seq ?_ | with_reducible refine run_reg ?_ | with_reducible refine run_block ?_ | with_reducible refine run_blk ?_ | with_reducible refine run_skip ?_ | with_reducible refine run_exit rfl ?_ | with_reducible refine run_drw ?_ | with_reducible refine run_condT ?_ | with_reducible refine run_ret' ?_ | with_reducible refine run_end' ?_ | simp only [go_sem, ↓reduceIte, Nat.reduceAdd, Nat.reduceEqDiff, Nat.reduceBEq, reduceCtorEq, Int.reduceBEq, Int.reduceBNe, Int.reduceLT, Int.reduceLE, decide_eq_true c1]))
    have : newO n = none := by unfold newO; rw [if_neg (by omega)]
    rw [this]
    exact ⟨Only.refl _ _, none, [], rfl, .inl ⟨rfl, rfl⟩, fun _ => rfl, by simp⟩
  by_cases c2 : 4 < n
  · (repeat (first | with_reducible refine run_seq ?_ | with_reducible refine run_reg ?_ | with_reducible refine run_block ?_ | with_reducible refine run_blk ?_ | with_reducible refine run_skip ?_ | with_reducible refine run_exit rfl ?_ | with_reducible refine run_drw ?_ | with_reducible refine run_condT ?_ | with_reducible refine run_ret' ?_ | with_reducible refine run_end' ?_ | simp only [go_sem, ↓reduceIte, Nat.reduceAdd, Nat.reduceEqDiff, Nat.reduceBEq, reduceCtorEq, Int.reduceBEq, Int.reduceBNe, Int.reduceLT, Int.reduceLE, decide_eq_false c1, decide_eq_true c2]))
    have : newO n = none := by unfold newO; rw [if_neg (by omega)]
    rw [this]
    exact ⟨Only.refl _ _, none, [], rfl, .inl ⟨rfl, rfl⟩, fun _ => rfl, by simp⟩
  · (repeat (first | with_reducible refine run_seq ?_ | with_reducible refine run_reg ?_ | with_reducible refine run_block ?_ | with_reducible refine run_blk ?_ | with_reducible refine run_skip ?_ | with_reducible refine run_exit rfl ?_ | with_reducible refine run_drw ?_ | with_reducible refine run_condT ?_ | with_reducible refine run_ret' ?_ | with_reducible refine run_end' ?_ | simp only [go_sem, ↓reduceIte, Nat.reduceAdd, Nat.reduceEqDiff, Nat.reduceBEq, reduceCtorEq, Int.reduceBEq, Int.reduceBNe, Int.reduceLT, Int.reduceLE, decide_eq_false c1, decide_eq_false c2]))
    obtain ⟨k, rfl⟩ : ∃ k : Nat, n = k := ⟨n.toNat, by omega⟩
    have e1 : IntKind.i64.wrap ((k : Int) * 16) = ((16 * k : Nat) : Int) := by rw [show ((k : Int) * 16) = ((16 * k : Nat) : Int) by omega, i64_of_nat _ (by omega)]
    have hnew : newO (k : Int) = some ⟨k, List.replicate (16 * k) 0, List.replicate 16 0, []⟩ := by
      unfold newO; rw [if_pos (by omega)]; simp
    have fin : ∀ q g0 g1 w', Only [] w w' → q < w'.heap.size → At w' q [.int .i64 (k : Int), .slice (some ⟨g0, 0, none⟩) (16 * k) (16 * k), .slice (some ⟨g1, 0, none⟩) 16 16, .slice none 0 0] → At w' g0 (List.replicate (16 * k) (.int .i64 0)) → At w' g1 (List.replicate 16 (.int .i64 0)) →
        q ≠ g0 → q ≠ g1 → g0 ≠ g1 → w.heap.size ≤ q → w.heap.size ≤ g0 → w.heap.size ≤ g1 →
        Only [] w w' ∧ ∃ a fp, Value.tuple #[.pointer (some ⟨q, 0, none⟩), .int .i64 0] = .tuple #[.pointer a, .int .i64 (if (newO (k : Int)).isSome then 0 else 1)] ∧ PR w' a fp (newO (k : Int)) ∧ (newO (k : Int) = none → a = none) ∧ ∀ x, x ∈ fp → w.heap.size ≤ x := by
      intro q g0 g1 w' ho _ hb h0 h1 n1 n2 n3 l1 l2 l3
      rw [hnew]
      have e0 : List.replicate (16 * k) (Value.int .i64 0) = ints (List.replicate (16 * k) 0) ++ [] := by rw [ints_replicate]; simp
      have e2 : List.replicate 16 (Value.int .i64 0) = ints (List.replicate 16 0) ++ [] := by rw [ints_replicate]; simp
      rw [e0] at h0
      rw [e2] at h1
      refine ⟨ho, some ⟨q, 0, none⟩, q :: ([g0] ++ ([g1] ++ [])), rfl, ⟨q, rfl, _, _, _, [g0], [g1], [], rfl, ⟨newO_ok hnew, by simp [n1, n2, n3], hb, Sl.mk1 h0 (by simp [ints_length]) (by simp [ints_length]), Sl.mk1 h1 (by simp [ints_length]) (by simp [ints_length]), Sl.nil1 _⟩⟩, (fun h => by cases h), fun x hx => ?_⟩
      simp only [List.cons_append, List.nil_append, List.mem_cons, List.not_mem_nil, or_false] at hx
      rcases hx with rfl | rfl | rfl <;> assumption
    refine run_drt [] ?_
    (repeat (first | with_reducible refine run_seq ?_ | with_reducible refine run_reg ?_ | with_reducible refine run_block ?_ | with_reducible refine run_blk ?_ | with_reducible refine run_skip ?_ | with_reducible refine run_exit rfl ?_ | with_reducible refine run_drw ?_ | with_reducible refine run_condT ?_ | with_reducible refine run_ret' ?_ | with_reducible refine run_end' ?_ | simp only [go_sem, ↓reduceIte, Nat.reduceAdd, Nat.reduceEqDiff, Nat.reduceBEq, reduceCtorEq, Int.reduceBEq, Int.reduceBNe, Int.reduceLT, Int.reduceLE, e1]))
    have hd : w.drew.heap.size = w.heap.size := rfl
    refine ⟨?_, ?_⟩
    · refine mksS (Nat.le_refl _) (by omega) (by omega) fun g0 w1 hg0 hs1 hat1 ho1 => ⟨.inl rfl, ?_⟩
      (repeat (first | with_reducible refine run_seq ?_ | with_reducible refine run_reg ?_ | with_reducible refine run_block ?_ | with_reducible refine run_blk ?_ | with_reducible refine run_skip ?_ | with_reducible refine run_exit rfl ?_ | with_reducible refine run_drw ?_ | with_reducible refine run_condT ?_ | with_reducible refine run_ret' ?_ | with_reducible refine run_end' ?_ | simp only [go_sem, ↓reduceIte, Nat.reduceAdd, Nat.reduceEqDiff, Nat.reduceBEq, reduceCtorEq, Int.reduceBEq, Int.reduceBNe, Int.reduceLT, Int.reduceLE]))
      refine mksS (n := 16) (m := 16) (Nat.le_refl _) (by omega) (by omega) fun g1 w2 hg1 hs2 hat2 ho2 => ⟨.inl rfl, ?_⟩
      (repeat (first | with_reducible refine run_seq ?_ | with_reducible refine run_reg ?_ | with_reducible refine run_block ?_ | with_reducible refine run_blk ?_ | with_reducible refine run_skip ?_ | with_reducible refine run_exit rfl ?_ | with_reducible refine run_drw ?_ | with_reducible refine run_condT ?_ | with_reducible refine run_ret' ?_ | with_reducible refine run_end' ?_ | simp only [go_sem, ↓reduceIte, Nat.reduceAdd, Nat.reduceEqDiff, Nat.reduceBEq, reduceCtorEq, Int.reduceBEq, Int.reduceBNe, Int.reduceLT, Int.reduceLE]))
      rw [fillL_one rfl rfl]
      (repeat (first | with_reducible refine run_seq ?_ | with_reducible refine run_reg ?_ | with_reducible refine run_block ?_ | with_reducible refine run_blk ?_ | with_reducible refine run_skip ?_ | with_reducible refine run_exit rfl ?_ | with_reducible refine run_drw ?_ | with_reducible refine run_condT ?_ | with_reducible refine run_ret' ?_ | with_reducible refine run_end' ?_ | simp only [go_sem, ↓reduceIte, Nat.reduceAdd, Nat.reduceEqDiff, Nat.reduceBEq, reduceCtorEq, Int.reduceBEq, Int.reduceBNe, Int.reduceLT, Int.reduceLE]))
      rw [fillL_one rfl rfl]
      (repeat (first | with_reducible refine run_seq ?_ | with_reducible refine run_reg ?_ | with_reducible refine run_block ?_ | with_reducible refine run_blk ?_ | with_reducible refine run_skip ?_ | with_reducible refine run_exit rfl ?_ | with_reducible refine run_drw ?_ | with_reducible refine run_condT ?_ | with_reducible refine run_ret' ?_ | with_reducible refine run_end' ?_ | simp only [go_sem, ↓reduceIte, Nat.reduceAdd, Nat.reduceEqDiff, Nat.reduceBEq, reduceCtorEq, Int.reduceBEq, Int.reduceBNe, Int.reduceLT, Int.reduceLE]))
      rw [fillL_one rfl rfl]
      (repeat (first | with_reducible refine run_seq ?_ | with_reducible refine run_reg ?_ | with_reducible refine run_block ?_ | with_reducible refine run_blk ?_ | with_reducible refine run_skip ?_ | with_reducible refine run_exit rfl ?_ | with_reducible refine run_drw ?_ | with_reducible refine run_condT ?_ | with_reducible refine run_ret' ?_ | with_reducible refine run_end' ?_ | simp only [go_sem, ↓reduceIte, Nat.reduceAdd, Nat.reduceEqDiff, Nat.reduceBEq, reduceCtorEq, Int.reduceBEq, Int.reduceBNe, Int.reduceLT, Int.reduceLE]))
      rw [fillL_one rfl rfl]
      (repeat (first | with_reducible refine run_seq ?_ | with_reducible refine run_reg ?_ | with_reducible refine run_block ?_ | with_reducible refine run_blk ?_ | with_reducible refine run_skip ?_ | with_reducible refine run_exit rfl ?_ | with_reducible refine run_drw ?_ | with_reducible refine run_condT ?_ | with_reducible refine run_ret' ?_ | with_reducible refine run_end' ?_ | simp only [go_sem, ↓reduceIte, Nat.reduceAdd, Nat.reduceEqDiff, Nat.reduceBEq, reduceCtorEq, Int.reduceBEq, Int.reduceBNe, Int.reduceLT, Int.reduceLE]))
      refine boxS fun q w3 hq hs3 hat3 ho3 => ⟨.inl rfl, ?_⟩
      (repeat (first | with_reducible refine run_seq ?_ | with_reducible refine run_reg ?_ | with_reducible refine run_block ?_ | with_reducible refine run_blk ?_ | with_reducible refine run_skip ?_ | with_reducible refine run_exit rfl ?_ | with_reducible refine run_drw ?_ | with_reducible refine run_condT ?_ | with_reducible refine run_ret' ?_ | with_reducible refine run_end' ?_ | simp only [go_sem, ↓reduceIte, Nat.reduceAdd, Nat.reduceEqDiff, Nat.reduceBEq, reduceCtorEq, Int.reduceBEq, Int.reduceBNe, Int.reduceLT, Int.reduceLE]))
      rw [rowZ_one] at hat1 hat2
      exact fin q g0 g1 w3 (Only.drew_left ((ho1.nil ho2).nil ho3)) (by omega) hat3 ((hat1.keep0 ho2).keep0 ho3) (hat2.keep0 ho3) (by omega) (by omega) (by omega) (by omega) (by omega) (by omega)
    · refine mksS (n := 16) (m := 16) (Nat.le_refl _) (by omega) (by omega) fun g1 w1 hg1 hs1 hat1 ho1 => ⟨.inl rfl, ?_⟩
      (repeat (first | with_reducible refine run_seq ?_ | with_reducible refine run_reg ?_ | with_reducible refine run_block ?_ | with_reducible refine run_blk ?_ | with_reducible refine run_skip ?_ | with_reducible refine run_exit rfl ?_ | with_reducible refine run_drw ?_ | with_reducible refine run_condT ?_ | with_reducible refine run_ret' ?_ | with_reducible refine run_end' ?_ | simp only [go_sem, ↓reduceIte, Nat.reduceAdd, Nat.reduceEqDiff, Nat.reduceBEq, reduceCtorEq, Int.reduceBEq, Int.reduceBNe, Int.reduceLT, Int.reduceLE]))
      refine mksS (Nat.le_refl _) (by omega) (by omega) fun g0 w2 hg0 hs2 hat2 ho2 => ⟨.inl rfl, ?_⟩
      (repeat (first | with_reducible refine run_seq ?_ | with_reducible refine run_reg ?_ | with_reducible refine run_block ?_ | with_reducible refine run_blk ?_ | with_reducible refine run_skip ?_ | with_reducible refine run_exit rfl ?_ | with_reducible refine run_drw ?_ | with_reducible refine run_condT ?_ | with_reducible refine run_ret' ?_ | with_reducible refine run_end' ?_ | simp only [go_sem, ↓reduceIte, Nat.reduceAdd, Nat.reduceEqDiff, Nat.reduceBEq, reduceCtorEq, Int.reduceBEq, Int.reduceBNe, Int.reduceLT, Int.reduceLE]))
      rw [fillL_one rfl rfl]
      (repeat (first | with_reducible refine run_seq ?_ | with_reducible refine run_reg ?_ | with_reducible refine run_block ?_ | with_reducible refine run_blk ?_ | with_reducible refine run_skip ?_ | with_reducible refine run_exit rfl ?_ | with_reducible refine run_drw ?_ | with_reducible refine run_condT ?_ | with_reducible refine run_ret' ?_ | with_reducible refine run_end' ?_ | simp only [go_sem, ↓reduceIte, Nat.reduceAdd, Nat.reduceEqDiff, Nat.reduceBEq, reduceCtorEq, Int.reduceBEq, Int.reduceBNe, Int.reduceLT, Int.reduceLE]))
      rw [fillL_one rfl rfl]
      (repeat (first | with_reducible refine run_seq ?_ | with_reducible refine run_reg ?_ | with_reducible refine run_block ?_ | with_reducible refine run_blk ?_ | with_reducible refine run_skip ?_ | with_reducible refine run_exit rfl ?_ | with_reducible refine run_drw ?_ | with_reducible refine run_condT ?_ | with_reducible refine run_ret' ?_ | with_reducible refine run_end' ?_ | simp only [go_sem, ↓reduceIte, Nat.reduceAdd, Nat.reduceEqDiff, Nat.reduceBEq, reduceCtorEq, Int.reduceBEq, Int.reduceBNe, Int.reduceLT, Int.reduceLE]))
      rw [fillL_one rfl rfl]
      (repeat (first | with_reducible refine run_seq ?_ | with_reducible refine run_reg ?_ | with_reducible refine run_block ?_ | with_reducible refine run_blk ?_ | with_reducible refine run_skip ?_ | with_reducible refine run_exit rfl ?_ | with_reducible refine run_drw ?_ | with_reducible refine run_condT ?_ | with_reducible refine run_ret' ?_ | with_reducible refine run_end' ?_ | simp only [go_sem, ↓reduceIte, Nat.reduceAdd, Nat.reduceEqDiff, Nat.reduceBEq, reduceCtorEq, Int.reduceBEq, Int.reduceBNe, Int.reduceLT, Int.reduceLE]))
      rw [fillL_one rfl rfl]
      (repeat (first | with_reducible refine run_seq ?_ | with_reducible refine run_reg ?_ | with_reducible refine run_block ?_ | with_reducible refine run_blk ?_ | with_reducible refine run_skip ?_ | with_reducible refine run_exit rfl ?_ | with_reducible refine run_drw ?_ | with_reducible refine run_condT ?_ | with_reducible refine run_ret' ?_ | with_reducible refine run_end' ?_ | simp only [go_sem, ↓reduceIte, Nat.reduceAdd, Nat.reduceEqDiff, Nat.reduceBEq, reduceCtorEq, Int.reduceBEq, Int.reduceBNe, Int.reduceLT, Int.reduceLE]))
      refine boxS fun q w3 hq hs3 hat3 ho3 => ⟨.inl rfl, ?_⟩
      (repeat (first | with_reducible refine run_seq ?_ | with_reducible refine run_reg ?_ | with_reducible refine run_block ?_ | with_reducible refine run_blk ?_ | with_reducible refine run_skip ?_ | with_reducible refine run_exit rfl ?_ | with_reducible refine run_drw ?_ | with_reducible refine run_condT ?_ | with_reducible refine run_ret' ?_ | with_reducible refine run_end' ?_ | simp only [go_sem, ↓reduceIte, Nat.reduceAdd, Nat.reduceEqDiff, Nat.reduceBEq, reduceCtorEq, Int.reduceBEq, Int.reduceBNe, Int.reduceLT, Int.reduceLE]))
      rw [rowZ_one] at hat1 hat2
      exact fin q g0 g1 w3 (Only.drew_left ((ho1.nil ho2).nil ho3)) (by omega) hat3 (hat2.keep0 ho3) ((hat1.keep0 ho2).keep0 ho3) (by omega) (by omega) (by omega) (by omega) (by omega) (by omega)
end Go.Proofs.Ytblfmacnkacalaa
