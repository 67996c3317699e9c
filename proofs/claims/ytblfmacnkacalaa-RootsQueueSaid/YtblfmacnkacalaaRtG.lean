/- Roots: Leads of the program. -/
import Derived.Test.YtblfmacnkacalaaRtF
namespace Go.Proofs.Ytblfmacnkacalaa
set_option linter.unusedSimpArgs false
set_option linter.unusedVariables false
set_option maxRecDepth 8000

def leadL (l : List Int) : List Int := l.foldl addNew []
theorem addNew_length (acc : List Int) (x : Int) : (addNew acc x).length ≤ acc.length + 1 := by unfold addNew; split <;> simp
theorem foldl_addNew_length : ∀ (l acc : List Int), (l.foldl addNew acc).length ≤ acc.length + l.length
  | [], acc => by simp
  | x :: l, acc => by
    have h1 := foldl_addNew_length l (addNew acc x)
    have h2 := addNew_length acc x
    simp only [List.foldl_cons, List.length_cons]; omega
theorem leadL_length (l : List Int) : (leadL l).length ≤ l.length := by have := foldl_addNew_length l []; simpa [leadL] using this
theorem leadL_snoc (l : List Int) (x : Int) : leadL (l ++ [x]) = addNew (leadL l) x := by simp [leadL]

theorem Leads_m {w : World} {a : Option Addr} {fp : List Nat} {m : MO} (h : PR w a fp m) : Cs Try.prog 18 [.pointer a] w fun v w' => Only [] w w' ∧ ∃ fp', Sl w' 1 v (leadsO m).length (ints (leadsO m)) fp' ∧ ∀ x, x ∈ fp' → w.heap.size ≤ x := by
  refine enter_roots_Roots_Leads rfl ?_
  unfold x_roots_Roots_Leads
  (repeat (first | with_reducible refine run_seq ?_ | with_reducible refine run_reg ?_ | with_reducible refine run_block ?_ | with_reducible refine run_blk ?_ | with_reducible refine run_skip ?_ | with_reducible refine run_exit rfl ?_ | with_reducible refine run_drw ?_ | with_reducible refine run_condT ?_ | with_reducible refine run_ret' ?_ | with_reducible refine run_end' ?_ | simp only [go_sem, ↓reduceIte, Nat.reduceAdd, Nat.reduceEqDiff, Nat.reduceBEq, reduceCtorEq, Int.reduceBEq, Int.reduceBNe, Int.reduceLT, Int.reduceLE]))
  refine callT0 (made_m h) ?_
  match m, h with
  | none, _ =>
    (repeat (first | with_reducible refine run_seq ?_ | with_reducible refine run_reg ?_ | with_reducible refine run_block ?_ | with_reducible refine run_blk ?_ | with_reducible refine run_skip ?_ | with_reducible refine run_exit rfl ?_ | with_reducible refine run_drw ?_ | with_reducible refine run_condT ?_ | with_reducible refine run_ret' ?_ | with_reducible refine run_end' ?_ | simp only [go_sem, ↓reduceIte, Nat.reduceAdd, Nat.reduceEqDiff, Nat.reduceBEq, reduceCtorEq, Int.reduceBEq, Int.reduceBNe, Int.reduceLT, Int.reduceLE, Option.isSome_none]))
    exact ⟨Only.refl _ _, [], Sl.nil1 w, by simp⟩
  | some s, ⟨b, hb, vs, vg, vq, fs, fg, fq, hfp, hp⟩ =>
    subst hb
    (repeat (first | with_reducible refine run_seq ?_ | with_reducible refine run_reg ?_ | with_reducible refine run_block ?_ | with_reducible refine run_blk ?_ | with_reducible refine run_skip ?_ | with_reducible refine run_exit rfl ?_ | with_reducible refine run_drw ?_ | with_reducible refine run_condT ?_ | with_reducible refine run_ret' ?_ | with_reducible refine run_end' ?_ | simp only [go_sem, ↓reduceIte, Nat.reduceAdd, Nat.reduceEqDiff, Nat.reduceBEq, reduceCtorEq, Int.reduceBEq, Int.reduceBNe, Int.reduceLT, Int.reduceLE, Option.isSome_some]))
    refine boxT fun q3 w1 hq3 hs1 hat1 ho1 => ?_
    (repeat (first | with_reducible refine run_seq ?_ | with_reducible refine run_reg ?_ | with_reducible refine run_block ?_ | with_reducible refine run_blk ?_ | with_reducible refine run_skip ?_ | with_reducible refine run_exit rfl ?_ | with_reducible refine run_drw ?_ | with_reducible refine run_condT ?_ | with_reducible refine run_ret' ?_ | with_reducible refine run_end' ?_ | simp only [go_sem, ↓reduceIte, Nat.reduceAdd, Nat.reduceEqDiff, Nat.reduceBEq, reduceCtorEq, Int.reduceBEq, Int.reduceBNe, Int.reduceLT, Int.reduceLE]))
    refine callT (all_m w1 _) ?_
    rintro v w2 ⟨ho2, rb, rfl, hrb, hrl⟩
    (repeat (first | with_reducible refine run_seq ?_ | with_reducible refine run_reg ?_ | with_reducible refine run_block ?_ | with_reducible refine run_blk ?_ | with_reducible refine run_skip ?_ | with_reducible refine run_exit rfl ?_ | with_reducible refine run_drw ?_ | with_reducible refine run_condT ?_ | with_reducible refine run_ret' ?_ | with_reducible refine run_end' ?_ | simp only [go_sem, ↓reduceIte, Nat.reduceAdd, Nat.reduceEqDiff, Nat.reduceBEq, reduceCtorEq, Int.reduceBEq, Int.reduceBNe, Int.reduceLT, Int.reduceLE]))
    refine run_rng (it := 50) (caps := [.pointer (some ⟨rb, 0, none⟩)]) rfl rfl (by simp only [go_sem, ↓reduceIte, Nat.reduceAdd, Nat.reduceEqDiff, Nat.reduceBEq, reduceCtorEq, Int.reduceBEq, Int.reduceBNe, Int.reduceLT, Int.reduceLE]) (by kernel_rfl) fun D l w3 hD hl hs3 ho3 hat3 hloop => ?_
    have hO3 : Only [] w w3 := (ho1.nil ho2).nil ho3
    have hp3 := hp.keep0 hO3
    have hltp := hp.hb.lt
    have hz2 := ho2.size
    have hrows : ∀ x, x ∈ b :: (fs ++ (fg ++ fq)) → x < w.heap.size := (show PM w b s (b :: (fs ++ (fg ++ fq))) from ⟨vs, vg, vq, fs, fg, fq, rfl, hp⟩).lt
    have hB1 : ∀ x, x ∈ [q3, l] → w.heap.size ≤ x := by
      intro x hx; simp only [List.mem_cons, List.not_mem_nil, or_false] at hx; rcases hx with rfl | rfl <;> omega
    refine (all1_m hp3 (hrb.keep0 ho3) id rfl
      (fun pre F w' => LoopAt Try.prog fx_roots_Roots_Leads l w' _ _ _ _ .ready D ∧ w'.heap[D]? = some (.deferred (some [])) ∧ ∃ v, At w' q3 [v] ∧ Sl w' 1 v (leadL (pre.map (·.2))).length (ints (leadL (pre.map (·.2)))) F)
      [q3, l] ?_ ⟨hloop, hat3, _, (hat1.keep0 ho2).keep0 ho3, Sl.nil1 _⟩ ?_ ?_).mono ?_
    · intro x hx; simp only [List.mem_cons, List.not_mem_nil, or_false] at hx; rcases hx with rfl | rfl <;> omega
    · rintro pre F w4 w5 ⟨k1, k2, v, k4, k5⟩ ho
      exact ⟨k1.keep ho (by simp), by rw [ho.block D (Array.getElem?_eq_some_iff.1 k2).1 (by simp)]; exact k2, v, k4.keep0 ho, k5.keep0 ho⟩
    · rintro pre F k i g xs w4 hk hi ⟨k1, k2, v, k4, k5⟩ hFl hpl hsz hO4 hg hgat hget hne
      have hplen : (leadL (pre.map (·.2))).length ≤ 300 := by have := leadL_length (pre.map (·.2)); rw [List.length_map] at this; omega
      refine ys_run ok_roots_Roots_Leads k1 rfl ?_
      (repeat (first | with_reducible refine run_seq ?_ | with_reducible refine run_reg ?_ | with_reducible refine run_block ?_ | with_reducible refine run_blk ?_ | with_reducible refine run_skip ?_ | with_reducible refine run_exit rfl ?_ | with_reducible refine run_drw ?_ | with_reducible refine run_condT ?_ | with_reducible refine run_ret' ?_ | with_reducible refine run_end' ?_ | simp only [go_sem, ↓reduceIte, Nat.reduceAdd, Nat.reduceEqDiff, Nat.reduceBEq, reduceCtorEq, Int.reduceBEq, Int.reduceBNe, Int.reduceLT, Int.reduceLE]))
      have l1 := k1.lt
      have l2 := (Array.getElem?_eq_some_iff.1 k2).1
      have l4 := k4.lt
      have l5 := k5.lt
      have hgm : g ∈ b :: (fs ++ (fg ++ fq)) := by have := pick3_mem hg; simp only [List.mem_cons]; exact .inr this
      have hglt := hrows g hgm
      have hq3l : q3 ≠ l := by omega
      have hFo : ∀ x, x ∈ F → x ≠ l ∧ x ≠ q3 ∧ x ≠ D := fun x hx => by have := hFl x hx; exact ⟨by omega, by omega, by omega⟩
      refine run_bgn (l := l) rfl k1 fun w7 hs7 ho7 hl7 => ?_
      have k47 : At w7 q3 [v] := k4.keep ho7 (by simpa using hq3l)
      have k57 := k5.keep ho7 (fun x hx => by simpa using (hFo x hx).1)
      have g7 : At w7 g xs := hgat.keep ho7 (by simp; omega)
      have hnot : ∀ x, x ∈ b :: (fs ++ (fg ++ fq)) → x ∉ [q3, l] ++ F := fun x hx hx2 => by
        have := hrows x hx
        rcases List.mem_append.1 hx2 with h1 | h1
        · have := hB1 x h1; omega
        · have := hFl x h1; omega
      have fin : ∀ w10 w11 F' v', Only ([q3, l] ++ F) w7 w10 → Only [l] w10 w11 → At w10 q3 [v'] → Sl w10 1 v' (leadL ((pre ++ [(pl k i, (rowL s k).getD i 0)]).map (·.2))).length (ints (leadL ((pre ++ [(pl k i, (rowL s k).getD i 0)]).map (·.2)))) F' →
          (∀ x, x ∈ F' → x ∈ F ∨ w4.heap.size ≤ x) → w11.heap[D]? = some (.deferred (some [])) ∧ At w11 q3 [v'] ∧ Sl w11 1 v' (leadL ((pre ++ [(pl k i, (rowL s k).getD i 0)]).map (·.2))).length (ints (leadL ((pre ++ [(pl k i, (rowL s k).getD i 0)]).map (·.2)))) F' ∧
            Only ([q3, l] ++ F) w4 w11 ∧ At w11 g (xs.set i (.int .i64 (id ((rowL s k).getD i 0)))) ∧ ∀ g', g' ∈ fs ++ (fg ++ fq) → g' ≠ g → w11.heap[g']? = w4.heap[g']? := by
        intro w10 w11 F' v' hO10 ho11 a10 s10 hF'
        have hO : Only ([q3, l] ++ F) w4 w11 := ((ho7.mono (T := [q3, l] ++ F) fun x hx => by simp only [List.mem_singleton] at hx; subst hx; exact .inl (by simp)).same hO10).same (ho11.mono fun x hx => by simp only [List.mem_singleton] at hx; subst hx; exact .inl (by simp))
        have hF'o : ∀ x, x ∈ F' → x ≠ l := fun x hx => (hF' x hx).elim (fun h => (hFo x h).1) (fun h => by omega)
        refine ⟨?_, a10.keep ho11 (by simpa using hq3l), s10.keep ho11 (fun x hx => by simpa using hF'o x hx), hO, ?_, fun g' hg' _ => ?_⟩
        · rw [hO.block D l2 (by simp only [List.mem_append, List.mem_cons, List.not_mem_nil, or_false, not_or]; exact ⟨⟨by omega, by omega⟩, fun hx => (hFo D hx).2.2 rfl⟩)]; exact k2
        · rw [show (id ((rowL s k).getD i 0)) = (rowL s k).getD i 0 from rfl, set_self hget]
          exact hgat.keep hO (hnot g hgm)
        · exact hO.block g' (by have := hrows g' (by simp only [List.mem_cons]; exact .inr hg'); omega) (hnot g' (by simp only [List.mem_cons]; exact .inr hg'))
      (repeat (first | with_reducible refine run_seq ?_ | with_reducible refine run_reg ?_ | with_reducible refine run_block ?_ | with_reducible refine run_blk ?_ | with_reducible refine run_skip ?_ | with_reducible refine run_exit rfl ?_ | with_reducible refine run_drw ?_ | with_reducible refine run_condT ?_ | with_reducible refine run_ret' ?_ | with_reducible refine run_end' ?_ | simp only [go_sem, ↓reduceIte, Nat.reduceAdd, Nat.reduceEqDiff, Nat.reduceBEq, reduceCtorEq, Int.reduceBEq, Int.reduceBNe, Int.reduceLT, Int.reduceLE]))
      refine run_drt [q3, g] ?_
      (repeat (first | with_reducible refine run_seq ?_ | with_reducible refine run_reg ?_ | with_reducible refine run_block ?_ | with_reducible refine run_blk ?_ | with_reducible refine run_skip ?_ | with_reducible refine run_exit rfl ?_ | with_reducible refine run_drw ?_ | with_reducible refine run_condT ?_ | with_reducible refine run_ret' ?_ | with_reducible refine run_end' ?_ | simp only [go_sem, ↓reduceIte, Nat.reduceAdd, Nat.reduceEqDiff, Nat.reduceBEq, reduceCtorEq, Int.reduceBEq, Int.reduceBNe, Int.reduceLT, Int.reduceLE, k47.cell, g7.cell, hget]))
      refine callS0 (Contains_m (k57.keep0 (Only.drew [] w7)).rd (by omega) _) (.inl rfl) ?_
      cases hc : (leadL (pre.map (·.2))).contains ((rowL s k).getD i 0) with
      | true =>
        (repeat (first | with_reducible refine run_seq ?_ | with_reducible refine run_reg ?_ | with_reducible refine run_block ?_ | with_reducible refine run_blk ?_ | with_reducible refine run_skip ?_ | with_reducible refine run_exit rfl ?_ | with_reducible refine run_drw ?_ | with_reducible refine run_condT ?_ | with_reducible refine run_ret' ?_ | with_reducible refine run_end' ?_ | simp only [go_sem, ↓reduceIte, Nat.reduceAdd, Nat.reduceEqDiff, Nat.reduceBEq, reduceCtorEq, Int.reduceBEq, Int.reduceBNe, Int.reduceLT, Int.reduceLE]))
        refine run_endR (l := l) rfl (hl7.heap (w' := w7.drew) rfl) fun w11 hs11 ho11 hl11 => ?_
        obtain ⟨e1, e2, e3, e4, e5, e6⟩ := fin w7.drew w11 F v (Only.drew _ _) ho11 k47 (by
          rw [List.map_append, List.map_cons, List.map_nil, leadL_snoc, addNew, if_pos hc]
          exact k57.keep0 (Only.drew [] w7)) (fun x hx => .inl hx)
        exact ⟨rfl, ⟨F, ⟨hl11, e1, v, e2, e3⟩, fun x hx => .inl hx⟩, e4, e5, e6⟩
      | false =>
        (repeat (first | with_reducible refine run_seq ?_ | with_reducible refine run_reg ?_ | with_reducible refine run_block ?_ | with_reducible refine run_blk ?_ | with_reducible refine run_skip ?_ | with_reducible refine run_exit rfl ?_ | with_reducible refine run_drw ?_ | with_reducible refine run_condT ?_ | with_reducible refine run_ret' ?_ | with_reducible refine run_end' ?_ | simp only [go_sem, ↓reduceIte, Nat.reduceAdd, Nat.reduceEqDiff, Nat.reduceBEq, reduceCtorEq, Int.reduceBEq, Int.reduceBNe, Int.reduceLT, Int.reduceLE]))
        refine run_drt [q3, g] ?_
        (repeat (first | with_reducible refine run_seq ?_ | with_reducible refine run_reg ?_ | with_reducible refine run_block ?_ | with_reducible refine run_blk ?_ | with_reducible refine run_skip ?_ | with_reducible refine run_exit rfl ?_ | with_reducible refine run_drw ?_ | with_reducible refine run_condT ?_ | with_reducible refine run_ret' ?_ | with_reducible refine run_end' ?_ | simp only [go_sem, ↓reduceIte, Nat.reduceAdd, Nat.reduceEqDiff, Nat.reduceBEq, reduceCtorEq, Int.reduceBEq, Int.reduceBNe, Int.reduceLT, Int.reduceLE, k47.cell, g7.cell, hget]))
        rw [fillL_one rfl rfl]
        (repeat (first | with_reducible refine run_seq ?_ | with_reducible refine run_reg ?_ | with_reducible refine run_block ?_ | with_reducible refine run_blk ?_ | with_reducible refine run_skip ?_ | with_reducible refine run_exit rfl ?_ | with_reducible refine run_drw ?_ | with_reducible refine run_condT ?_ | with_reducible refine run_ret' ?_ | with_reducible refine run_end' ?_ | simp only [go_sem, ↓reduceIte, Nat.reduceAdd, Nat.reduceEqDiff, Nat.reduceBEq, reduceCtorEq, Int.reduceBEq, Int.reduceBNe, Int.reduceLT, Int.reduceLE]))
        refine bslS fun q8 w8 hq8 hs8 hat8 ho8 => ?_
        have hO8 : Only [] w7 w8 := Only.drew_left (Only.drew_left ho8)
        refine ⟨.inr ((SB.refl _ _).only ho8 (fun x hx => ⟨?_, by simp⟩)), ?_⟩
        · simp only [List.mem_cons, List.not_mem_nil, or_false] at hx
          rcases hx with rfl | rfl
          · exact k47.lt
          · exact g7.lt
        (repeat (first | with_reducible refine run_seq ?_ | with_reducible refine run_reg ?_ | with_reducible refine run_block ?_ | with_reducible refine run_blk ?_ | with_reducible refine run_skip ?_ | with_reducible refine run_exit rfl ?_ | with_reducible refine run_drw ?_ | with_reducible refine run_condT ?_ | with_reducible refine run_ret' ?_ | with_reducible refine run_end' ?_ | simp only [go_sem, ↓reduceIte, Nat.reduceAdd, Nat.reduceEqDiff, Nat.reduceBEq, reduceCtorEq, Int.reduceBEq, Int.reduceBNe, Int.reduceLT, Int.reduceLE]))
        refine appS (k57.keep0 hO8) (SrcIs.at hat8 rfl) (by simp [Go.Proofs.Ytblfmacnkacalaa.oneC]) (by omega) (by omega) ?_
        intro v' w9 F' hs9 hF' ho9 _
        refine ⟨.inl rfl, ?_⟩
        have hq3F : q3 ∉ F := fun hx => (hFo q3 hx).2.1 rfl
        have k49 := (k47.keep0 hO8).keep ho9 hq3F
        have hd7 : w7.drew.drew.heap.size = w7.heap.size := rfl
        (repeat (first | with_reducible refine run_seq ?_ | with_reducible refine run_reg ?_ | with_reducible refine run_block ?_ | with_reducible refine run_blk ?_ | with_reducible refine run_skip ?_ | with_reducible refine run_exit rfl ?_ | with_reducible refine run_drw ?_ | with_reducible refine run_condT ?_ | with_reducible refine run_ret' ?_ | with_reducible refine run_end' ?_ | simp only [go_sem, ↓reduceIte, Nat.reduceAdd, Nat.reduceEqDiff, Nat.reduceBEq, reduceCtorEq, Int.reduceBEq, Int.reduceBNe, Int.reduceLT, Int.reduceLE]))
        refine stS k49 (by simp) hs9.oneC fun w10 hs10 hat10 ho10 => ⟨.inl rfl, ?_⟩
        (repeat (first | with_reducible refine run_seq ?_ | with_reducible refine run_reg ?_ | with_reducible refine run_block ?_ | with_reducible refine run_blk ?_ | with_reducible refine run_skip ?_ | with_reducible refine run_exit rfl ?_ | with_reducible refine run_drw ?_ | with_reducible refine run_condT ?_ | with_reducible refine run_ret' ?_ | with_reducible refine run_end' ?_ | simp only [go_sem, ↓reduceIte, Nat.reduceAdd, Nat.reduceEqDiff, Nat.reduceBEq, reduceCtorEq, Int.reduceBEq, Int.reduceBNe, Int.reduceLT, Int.reduceLE]))
        have hF'm : ∀ x, x ∈ F' → x ∈ F ∨ w4.heap.size ≤ x := by
          intro x hx
          rcases hF' with rfl | rfl
          · exact .inl hx
          · simp only [List.mem_singleton] at hx; right; omega
        have hF'o : ∀ x, x ∈ F' → x ≠ q3 := fun x hx => (hF'm x hx).elim (fun h => (hFo x h).2.1) (fun h => by omega)
        have hlF : l ∉ F := fun hx => (hFo l hx).1 rfl
        refine run_endR (l := l) rfl (((hl7.keep hO8 (by simp)).keep ho9 hlF).keep ho10 (by simp; omega)) fun w11 hs11 ho11 hl11 => ?_
        obtain ⟨e1, e2, e3, e4, e5, e6⟩ := fin w10 w11 F' v' ((hO8.of_nil.same (ho9.mono fun x hx => .inl (by simp [hx]))).same (ho10.mono fun x hx => .inl (by simp only [List.mem_singleton] at hx; subst hx; simp))) ho11 hat10 (by
          rw [List.map_append, List.map_cons, List.map_nil, leadL_snoc, addNew, if_neg (by rw [hc]; simp), List.length_append, ints_append]
          exact hs9.keep ho10 (fun x hx => by simpa using hF'o x hx)) hF'm
        exact ⟨rfl, ⟨F', ⟨hl11, e1, v', e2, e3⟩, hF'm⟩, e4, e5, e6⟩
    · rintro _ w4 ⟨⟨F, ⟨k1, k2, v, k4, k5⟩, hFl⟩, hO4, hR4⟩
      refine ⟨k1, fun w5 hs5 ho5 => ?_⟩
      have l1 := k1.lt
      have hq3l : q3 ≠ l := by omega
      have hFo : ∀ x, x ∈ F → x ≠ l ∧ x ≠ q3 ∧ x ≠ D := fun x hx => by have := hFl x hx; exact ⟨by omega, by omega, by omega⟩
      have k45 := k4.keep ho5 (by simpa using hq3l)
      have k55 := k5.keep ho5 (fun x hx => by simpa using (hFo x hx).1)
      have hD5 : w5.heap[D]? = some (.deferred (some [])) := by rw [ho5.block D (Array.getElem?_eq_some_iff.1 k2).1 (by simp; omega)]; exact k2
      (repeat (first | with_reducible refine run_seq ?_ | with_reducible refine run_reg ?_ | with_reducible refine run_block ?_ | with_reducible refine run_blk ?_ | with_reducible refine run_skip ?_ | with_reducible refine run_exit rfl ?_ | with_reducible refine run_drw ?_ | with_reducible refine run_condT ?_ | with_reducible refine run_ret' ?_ | with_reducible refine run_end' ?_ | simp only [go_sem, ↓reduceIte, Nat.reduceAdd, Nat.reduceEqDiff, Nat.reduceBEq, reduceCtorEq, Int.reduceBEq, Int.reduceBNe, Int.reduceLT, Int.reduceLE, k45.cell]))
      refine run_retM' hD5 fun w6 hs6 ho6 => ?_
      (repeat (first | with_reducible refine run_seq ?_ | with_reducible refine run_reg ?_ | with_reducible refine run_block ?_ | with_reducible refine run_blk ?_ | with_reducible refine run_skip ?_ | with_reducible refine run_exit rfl ?_ | with_reducible refine run_drw ?_ | with_reducible refine run_condT ?_ | with_reducible refine run_ret' ?_ | with_reducible refine run_end' ?_ | simp only [go_sem, ↓reduceIte, Nat.reduceAdd, Nat.reduceEqDiff, Nat.reduceBEq, reduceCtorEq, Int.reduceBEq, Int.reduceBNe, Int.reduceLT, Int.reduceLE]))
      have hO6 : Only [] w w6 := by
        refine ((hO3.trans hO4 fun x hx => .inr (hB1 x hx)).trans ho5 fun x hx => .inr ?_).trans ho6 fun x hx => .inr ?_
        · simp only [List.mem_singleton] at hx; omega
        · simp only [List.mem_singleton] at hx; omega
      refine ⟨hO6, F, ?_, fun x hx => by have := hFl x hx; omega⟩
      exact k55.keep ho6 (fun x hx => by simpa using (hFo x hx).2.2)
end Go.Proofs.Ytblfmacnkacalaa
