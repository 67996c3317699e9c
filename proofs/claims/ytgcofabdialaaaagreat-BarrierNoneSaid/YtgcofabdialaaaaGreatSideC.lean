/- Side tables: check, Get, Set. -/
import Derived.Test.YtgcofabdialaaaaGreatSideB
namespace Go.Proofs.YtgcofabdialaaaaGreat
set_option linter.unusedSimpArgs false
set_option linter.unusedVariables false
set_option maxRecDepth 8000

theorem not_all {α : Type} (xs : List α) (p : α → Bool) : xs.any (fun x => !p x) = !xs.all p := by
  induction xs with
  | nil => rfl
  | cons x xs ih => simp [ih]

theorem check_tab {w : World} {b g n wd : Nat} {l : List Nat} (h : STab w b g n wd l) {i : Int} {a : Option Addr} {xs : List Int} {cap : Nat} {e : Int} (hs : xs ≠ [] → ∃ s rest, a = some ⟨s, 0, none⟩ ∧ At w s (ints xs ++ rest))
    (hlen : xs.length ≤ 1000) (he : MT.check (some (wd, l)) i xs = e) :
    Cs Tryz.prog 195 [.pointer (some ⟨b, 0, none⟩), .int .i64 i, .slice a xs.length cap] w fun v w' => v = .int .i64 e ∧ Only [] w w' := by
  subst he
  refine enter_side_Table_check rfl ?_
  unfold x_side_Table_check
  (repeat (first | with_reducible refine run_seq ?_ | with_reducible refine run_reg ?_ | with_reducible refine run_block ?_ | with_reducible refine run_blk ?_ | with_reducible refine run_skip ?_ | with_reducible refine run_exit rfl ?_ | with_reducible refine run_drw ?_ | with_reducible refine run_condT ?_ | with_reducible refine run_ret' ?_ | with_reducible refine run_end' ?_ | simp only [go_sem, ↓reduceIte, Nat.reduceAdd, Nat.reduceEqDiff, Nat.reduceBEq, reduceCtorEq, Int.reduceBEq, Int.reduceBNe, Int.reduceLT, Int.reduceLE]))
  refine boxT fun q w1 hq hsz hat ho => ?_
  have h := h.keep ho (by simp) (by simp)
  have hs : xs ≠ [] → ∃ s rest, a = some ⟨s, 0, none⟩ ∧ At w1 s (ints xs ++ rest) := fun hn => let ⟨s, rest, e1, e2⟩ := hs hn; ⟨s, rest, e1, e2.keep0 ho⟩
  (repeat (first | with_reducible refine run_seq ?_ | with_reducible refine run_reg ?_ | with_reducible refine run_block ?_ | with_reducible refine run_blk ?_ | with_reducible refine run_skip ?_ | with_reducible refine run_exit rfl ?_ | with_reducible refine run_drw ?_ | with_reducible refine run_condT ?_ | with_reducible refine run_ret' ?_ | with_reducible refine run_end' ?_ | simp only [go_sem, ↓reduceIte, Nat.reduceAdd, Nat.reduceEqDiff, Nat.reduceBEq, reduceCtorEq, Int.reduceBEq, Int.reduceBNe, Int.reduceLT, Int.reduceLE, hat.cell]))
  refine callT0 (made_tab h) ?_
  (repeat (first | with_reducible refine run_seq ?_ | with_reducible refine run_reg ?_ | with_reducible refine run_block ?_ | with_reducible refine run_blk ?_ | with_reducible refine run_skip ?_ | with_reducible refine run_exit rfl ?_ | with_reducible refine run_drw ?_ | with_reducible refine run_condT ?_ | with_reducible refine run_ret' ?_ | with_reducible refine run_end' ?_ | simp only [go_sem, ↓reduceIte, Nat.reduceAdd, Nat.reduceEqDiff, Nat.reduceBEq, reduceCtorEq, Int.reduceBEq, Int.reduceBNe, Int.reduceLT, Int.reduceLE, hat.cell]))
  by_cases hi : hasB n i = true
  · refine callT1 (there_tab h hi) fun w2 ho2 => ?_
    have h := h.keep ho2 (by simp) (by simp)
    have hat := hat.keep0 ho2
    have hs : xs ≠ [] → ∃ s rest, a = some ⟨s, 0, none⟩ ∧ At w2 s (ints xs ++ rest) := fun hn => let ⟨s, rest, e1, e2⟩ := hs hn; ⟨s, rest, e1, e2.keep0 ho2⟩
    (repeat (first | with_reducible refine run_seq ?_ | with_reducible refine run_reg ?_ | with_reducible refine run_block ?_ | with_reducible refine run_blk ?_ | with_reducible refine run_skip ?_ | with_reducible refine run_exit rfl ?_ | with_reducible refine run_drw ?_ | with_reducible refine run_condT ?_ | with_reducible refine run_ret' ?_ | with_reducible refine run_end' ?_ | simp only [go_sem, ↓reduceIte, Nat.reduceAdd, Nat.reduceEqDiff, Nat.reduceBEq, reduceCtorEq, Int.reduceBEq, Int.reduceBNe, Int.reduceLT, Int.reduceLE]))
    refine callT1 (containsFunc hs rfl hlen (p := fun x => !mayB wd x) fun w' x ho' _ => check1_tab (h.keep ho' (by simp) (by simp)) (hat.keep0 ho') x) fun w3 ho3 => ?_
    (repeat (first | with_reducible refine run_seq ?_ | with_reducible refine run_reg ?_ | with_reducible refine run_block ?_ | with_reducible refine run_blk ?_ | with_reducible refine run_skip ?_ | with_reducible refine run_exit rfl ?_ | with_reducible refine run_drw ?_ | with_reducible refine run_condT ?_ | with_reducible refine run_ret' ?_ | with_reducible refine run_end' ?_ | simp only [go_sem, ↓reduceIte, Nat.reduceAdd, Nat.reduceEqDiff, Nat.reduceBEq, reduceCtorEq, Int.reduceBEq, Int.reduceBNe, Int.reduceLT, Int.reduceLE, not_all]))
    by_cases ha : xs.all (mayB wd) = true
    · (repeat (first | with_reducible refine run_seq ?_ | with_reducible refine run_reg ?_ | with_reducible refine run_block ?_ | with_reducible refine run_blk ?_ | with_reducible refine run_skip ?_ | with_reducible refine run_exit rfl ?_ | with_reducible refine run_drw ?_ | with_reducible refine run_condT ?_ | with_reducible refine run_ret' ?_ | with_reducible refine run_end' ?_ | simp only [go_sem, ↓reduceIte, Nat.reduceAdd, Nat.reduceEqDiff, Nat.reduceBEq, reduceCtorEq, Int.reduceBEq, Int.reduceBNe, Int.reduceLT, Int.reduceLE, ha]))
      exact ⟨by simp [MT.check, h.len, hi, ha], (ho.same ho2).same ho3⟩
    · rw [Bool.not_eq_true] at ha
      (repeat (first | with_reducible refine run_seq ?_ | with_reducible refine run_reg ?_ | with_reducible refine run_block ?_ | with_reducible refine run_blk ?_ | with_reducible refine run_skip ?_ | with_reducible refine run_exit rfl ?_ | with_reducible refine run_drw ?_ | with_reducible refine run_condT ?_ | with_reducible refine run_ret' ?_ | with_reducible refine run_end' ?_ | simp only [go_sem, ↓reduceIte, Nat.reduceAdd, Nat.reduceEqDiff, Nat.reduceBEq, reduceCtorEq, Int.reduceBEq, Int.reduceBNe, Int.reduceLT, Int.reduceLE, ha]))
      exact ⟨by simp [MT.check, h.len, hi, ha], (ho.same ho2).same ho3⟩
  · rw [Bool.not_eq_true] at hi
    refine callT1 (there_tab h hi) fun w2 ho2 => ?_
    (repeat (first | with_reducible refine run_seq ?_ | with_reducible refine run_reg ?_ | with_reducible refine run_block ?_ | with_reducible refine run_blk ?_ | with_reducible refine run_skip ?_ | with_reducible refine run_exit rfl ?_ | with_reducible refine run_drw ?_ | with_reducible refine run_condT ?_ | with_reducible refine run_ret' ?_ | with_reducible refine run_end' ?_ | simp only [go_sem, ↓reduceIte, Nat.reduceAdd, Nat.reduceEqDiff, Nat.reduceBEq, reduceCtorEq, Int.reduceBEq, Int.reduceBNe, Int.reduceLT, Int.reduceLE]))
    exact ⟨by simp [MT.check, h.len, hi], ho.same ho2⟩
end Go.Proofs.YtgcofabdialaaaaGreat
