/- Roots: Places, Leads and Replace of the program. -/
import Derived.Test.YtblfmacnkacalaaRtD
namespace Go.Proofs.Ytblfmacnkacalaa
set_option linter.unusedSimpArgs false
set_option linter.unusedVariables false
set_option maxRecDepth 8000

def plsV (l : List PT) : List Value := l.flatMap plV
theorem plsV_length (l : List PT) : (plsV l).length = l.length * 3 := by induction l with
  | nil => rfl
  | cons a l ih => simp only [plsV, List.flatMap_cons, List.length_append, List.length_cons] at ih ⊢; rw [ih]; simp [plV]; omega
theorem plsV_append (l m : List PT) : plsV (l ++ m) = plsV l ++ plsV m := by simp [plsV]
theorem plsV_one {l : List PT} : ∀ u, u ∈ plsV l → oneC u = true := by
  intro u hu
  simp only [plsV, List.mem_flatMap] at hu
  obtain ⟨p, _, hp⟩ := hu
  exact plV_one u hp
theorem set_self {xs : List Value} {i : Nat} {v : Value} (h : xs[i]? = some v) : xs.set i v = xs := by
  apply List.ext_getElem?
  intro k
  rw [List.getElem?_set]
  split
  · rename_i e; subst e
    have hl := lt_of_get h
    rw [if_pos hl, h]
  · rfl
theorem Sl.nil3 (w : World) : Sl w 3 (.slice none 0 0) 0 [] [] := ⟨rfl, .inl ⟨rfl, rfl, rfl⟩⟩
theorem Sl.oneC {w : World} {sz : Nat} {v : Value} {n : Nat} {xs : List Value} {fp : List Nat} (h : Sl w sz v n xs fp) : Go.Proofs.Ytblfmacnkacalaa.oneC v = true := by
  obtain ⟨a, c, e⟩ := h.val; rw [e]; rfl

theorem fillL_agg {cs vs : List Value} {off n : Nat} {r : List (Nat × Nat × Value)} (h1 : vs.length = n) (h2 : Nat.ble (off + n) cs.length = true) : fillL cs ((off, n, .agg ⟨vs⟩) :: r) = fillL (setL cs off vs) r := by
  have hc : (Value.agg ⟨vs⟩).cells.size = n ∧ off + n ≤ cs.length := ⟨by show (⟨vs⟩ : Array Value).size = n; simpa using h1, Nat.le_of_ble_eq_true h2⟩
  rw [fillL]
  exact if_pos hc
theorem setL_pl (x y z : Value) (p : PT) : setL [x, y, z] 0 (plV p) = plV p := Eq.trans rfl rfl
theorem row_ne {b g q : Nat} {fs fg fq : List Nat} {k : Nat} {w : World} (h : ∀ x, x ∈ b :: (fs ++ (fg ++ fq)) → x < w.heap.size) (hg : g ∈ pick3 fs fg fq k) (hq : w.heap.size ≤ q) : g ≠ q := by
  have := h g (by have := pick3_mem hg; simp only [List.mem_cons]; exact .inr this)
  omega

theorem all_m (w : World) (a : Option Addr) : Cs Try.prog 36 [.pointer a] w fun v w' => Only [] w w' ∧ ∃ rb, v = .func (.func 50) #[] #[.pointer (some ⟨rb, 0, none⟩)] ∧ At w' rb [.pointer a] ∧ w.heap.size ≤ rb := by
  refine enter_roots_Roots_all rfl ?_
  unfold x_roots_Roots_all
  (repeat (first | with_reducible refine run_seq ?_ | with_reducible refine run_reg ?_ | with_reducible refine run_block ?_ | with_reducible refine run_blk ?_ | with_reducible refine run_skip ?_ | with_reducible refine run_exit rfl ?_ | with_reducible refine run_drw ?_ | with_reducible refine run_condT ?_ | with_reducible refine run_ret' ?_ | with_reducible refine run_end' ?_ | simp only [go_sem, ↓reduceIte, Nat.reduceAdd, Nat.reduceEqDiff, Nat.reduceBEq, reduceCtorEq, Int.reduceBEq, Int.reduceBNe, Int.reduceLT, Int.reduceLE]))
  refine boxT fun q w1 hq hs1 hat1 ho1 => ?_
  (repeat (first | with_reducible refine run_seq ?_ | with_reducible refine run_reg ?_ | with_reducible refine run_block ?_ | with_reducible refine run_blk ?_ | with_reducible refine run_skip ?_ | with_reducible refine run_exit rfl ?_ | with_reducible refine run_drw ?_ | with_reducible refine run_condT ?_ | with_reducible refine run_ret' ?_ | with_reducible refine run_end' ?_ | simp only [go_sem, ↓reduceIte, Nat.reduceAdd, Nat.reduceEqDiff, Nat.reduceBEq, reduceCtorEq, Int.reduceBEq, Int.reduceBNe, Int.reduceLT, Int.reduceLE]))
  exact ⟨ho1, q, rfl, hat1, by omega⟩

theorem Places_m {w : World} {a : Option Addr} {fp : List Nat} {m : MO} (h : PR w a fp m) : Cs Try.prog 16 [.pointer a] w fun v w' => Only [] w w' ∧ ∃ fp', Sl w' 3 v (placesO m).length (plsV (placesO m)) fp' ∧ ∀ x, x ∈ fp' → w.heap.size ≤ x := by
  refine enter_roots_Roots_Places rfl ?_
  unfold x_roots_Roots_Places
  (repeat (first | with_reducible refine run_seq ?_ | with_reducible refine run_reg ?_ | with_reducible refine run_block ?_ | with_reducible refine run_blk ?_ | with_reducible refine run_skip ?_ | with_reducible refine run_exit rfl ?_ | with_reducible refine run_drw ?_ | with_reducible refine run_condT ?_ | with_reducible refine run_ret' ?_ | with_reducible refine run_end' ?_ | simp only [go_sem, ↓reduceIte, Nat.reduceAdd, Nat.reduceEqDiff, Nat.reduceBEq, reduceCtorEq, Int.reduceBEq, Int.reduceBNe, Int.reduceLT, Int.reduceLE]))
  refine callT0 (made_m h) ?_
  match m, h with
  | none, _ =>
    (repeat (first | with_reducible refine run_seq ?_ | with_reducible refine run_reg ?_ | with_reducible refine run_block ?_ | with_reducible refine run_blk ?_ | with_reducible refine run_skip ?_ | with_reducible refine run_exit rfl ?_ | with_reducible refine run_drw ?_ | with_reducible refine run_condT ?_ | with_reducible refine run_ret' ?_ | with_reducible refine run_end' ?_ | simp only [go_sem, ↓reduceIte, Nat.reduceAdd, Nat.reduceEqDiff, Nat.reduceBEq, reduceCtorEq, Int.reduceBEq, Int.reduceBNe, Int.reduceLT, Int.reduceLE, Option.isSome_none]))
    exact ⟨Only.refl _ _, [], Sl.nil3 w, by simp⟩
  | some s, ⟨b, hb, vs, vg, vq, fs, fg, fq, hfp, hp⟩ =>
    subst hb
    (repeat (first | with_reducible refine run_seq ?_ | with_reducible refine run_reg ?_ | with_reducible refine run_block ?_ | with_reducible refine run_blk ?_ | with_reducible refine run_skip ?_ | with_reducible refine run_exit rfl ?_ | with_reducible refine run_drw ?_ | with_reducible refine run_condT ?_ | with_reducible refine run_ret' ?_ | with_reducible refine run_end' ?_ | simp only [go_sem, ↓reduceIte, Nat.reduceAdd, Nat.reduceEqDiff, Nat.reduceBEq, reduceCtorEq, Int.reduceBEq, Int.reduceBNe, Int.reduceLT, Int.reduceLE, Option.isSome_some]))
    refine boxT fun q3 w1 hq3 hs1 hat1 ho1 => ?_
    (repeat (first | with_reducible refine run_seq ?_ | with_reducible refine run_reg ?_ | with_reducible refine run_block ?_ | with_reducible refine run_blk ?_ | with_reducible refine run_skip ?_ | with_reducible refine run_exit rfl ?_ | with_reducible refine run_drw ?_ | with_reducible refine run_condT ?_ | with_reducible refine run_ret' ?_ | with_reducible refine run_end' ?_ | simp only [go_sem, ↓reduceIte, Nat.reduceAdd, Nat.reduceEqDiff, Nat.reduceBEq, reduceCtorEq, Int.reduceBEq, Int.reduceBNe, Int.reduceLT, Int.reduceLE]))
    refine callT (all_m w1 _) ?_
    rintro v w2 ⟨ho2, rb, rfl, hrb, hrl⟩
    (repeat (first | with_reducible refine run_seq ?_ | with_reducible refine run_reg ?_ | with_reducible refine run_block ?_ | with_reducible refine run_blk ?_ | with_reducible refine run_skip ?_ | with_reducible refine run_exit rfl ?_ | with_reducible refine run_drw ?_ | with_reducible refine run_condT ?_ | with_reducible refine run_ret' ?_ | with_reducible refine run_end' ?_ | simp only [go_sem, ↓reduceIte, Nat.reduceAdd, Nat.reduceEqDiff, Nat.reduceBEq, reduceCtorEq, Int.reduceBEq, Int.reduceBNe, Int.reduceLT, Int.reduceLE]))
    refine run_rng (it := 50) (caps := [.pointer (some ⟨rb, 0, none⟩)]) rfl rfl (by simp only [go_sem, ↓reduceIte, Nat.reduceAdd, Nat.reduceEqDiff, Nat.reduceBEq, reduceCtorEq, Int.reduceBEq, Int.reduceBNe, Int.reduceLT, Int.reduceLE]) (by kernel_rfl) fun D l w3 hD hl hs3 ho3 hat3 hloop => ?_
    have hO3 : Only [] w w3 := (ho1.nil ho2).nil ho3
    have hp3 := hp.keep0 hO3
    have hltp := hp.hb.lt
    have hz2 := ho2.size
    have hrows : ∀ x, x ∈ b :: (fs ++ (fg ++ fq)) → x < w.heap.size := (show PM w b s (b :: (fs ++ (fg ++ fq))) from ⟨vs, vg, vq, fs, fg, fq, rfl, hp⟩).lt
    have hB1 : ∀ x, x ∈ [q3, l] → w.heap.size ≤ x := by
      intro x hx; simp only [List.mem_cons, List.not_mem_nil, or_false] at hx; rcases hx with rfl | rfl <;> omega
    refine (all1_m hp3 (hrb.keep0 ho3) id rfl
      (fun pre F w' => LoopAt Try.prog fx_roots_Roots_Places l w' _ _ _ _ .ready D ∧ w'.heap[D]? = some (.deferred (some [])) ∧ ∃ v, At w' q3 [v] ∧ Sl w' 3 v pre.length (plsV (pre.map (·.1))) F)
      [q3, l] ?_ ⟨hloop, hat3, _, (hat1.keep0 ho2).keep0 ho3, Sl.nil3 _⟩ ?_ ?_).mono ?_
    · intro x hx; simp only [List.mem_cons, List.not_mem_nil, or_false] at hx; rcases hx with rfl | rfl <;> omega
    · rintro pre F w4 w5 ⟨k1, k2, v, k4, k5⟩ ho
      exact ⟨k1.keep ho (by simp), by rw [ho.block D (Array.getElem?_eq_some_iff.1 k2).1 (by simp)]; exact k2, v, k4.keep0 ho, k5.keep0 ho⟩
    · rintro pre F k i g xs w4 hk hi ⟨k1, k2, v, k4, k5⟩ hFl hpl hsz hO4 hg hgat hget hne
      refine ys_run ok_roots_Roots_Places k1 rfl ?_
      (repeat (first | with_reducible refine run_seq ?_ | with_reducible refine run_reg ?_ | with_reducible refine run_block ?_ | with_reducible refine run_blk ?_ | with_reducible refine run_skip ?_ | with_reducible refine run_exit rfl ?_ | with_reducible refine run_drw ?_ | with_reducible refine run_condT ?_ | with_reducible refine run_ret' ?_ | with_reducible refine run_end' ?_ | simp only [go_sem, ↓reduceIte, Nat.reduceAdd, Nat.reduceEqDiff, Nat.reduceBEq, reduceCtorEq, Int.reduceBEq, Int.reduceBNe, Int.reduceLT, Int.reduceLE]))
      refine boxT fun q w5 hq hs5 hat5 ho5 => ?_
      (repeat (first | with_reducible refine run_seq ?_ | with_reducible refine run_reg ?_ | with_reducible refine run_block ?_ | with_reducible refine run_blk ?_ | with_reducible refine run_skip ?_ | with_reducible refine run_exit rfl ?_ | with_reducible refine run_drw ?_ | with_reducible refine run_condT ?_ | with_reducible refine run_ret' ?_ | with_reducible refine run_end' ?_ | simp only [go_sem, ↓reduceIte, Nat.reduceAdd, Nat.reduceEqDiff, Nat.reduceBEq, reduceCtorEq, Int.reduceBEq, Int.reduceBNe, Int.reduceLT, Int.reduceLE]))
      refine stNT hat5 rfl (by simp [plV]) plV_one fun w6 hs6 hat6 ho6 => ?_
      rw [setL_pl] at hat6
      (repeat (first | with_reducible refine run_seq ?_ | with_reducible refine run_reg ?_ | with_reducible refine run_block ?_ | with_reducible refine run_blk ?_ | with_reducible refine run_skip ?_ | with_reducible refine run_exit rfl ?_ | with_reducible refine run_drw ?_ | with_reducible refine run_condT ?_ | with_reducible refine run_ret' ?_ | with_reducible refine run_end' ?_ | simp only [go_sem, ↓reduceIte, Nat.reduceAdd, Nat.reduceEqDiff, Nat.reduceBEq, reduceCtorEq, Int.reduceBEq, Int.reduceBNe, Int.reduceLT, Int.reduceLE]))
      have l1 := k1.lt
      have l2 := (Array.getElem?_eq_some_iff.1 k2).1
      have l4 := k4.lt
      have l5 := k5.lt
      have hO6 : Only [] w4 w6 := ho5.trans ho6 fun x hx => .inr (by simp only [List.mem_singleton] at hx; omega)
      refine run_bgn (l := l) rfl (k1.keep hO6 (by simp)) fun w7 hs7 ho7 hl7 => ?_
      have hql : q ≠ l := by omega
      have hq3l : q3 ≠ l := by omega
      have hFo : ∀ x, x ∈ F → x ≠ l ∧ x ≠ q3 ∧ x ≠ D := fun x hx => by have := hFl x hx; exact ⟨by omega, by omega, by omega⟩
      have a7 : At w7 q (plV (pl k i)) := hat6.keep ho7 (by simpa using hql)
      have k47 : At w7 q3 [v] := (k4.keep0 hO6).keep ho7 (by simpa using hq3l)
      have k57 := (k5.keep0 hO6).keep ho7 (fun x hx => by simpa using (hFo x hx).1)
      have hcs : cellsAt w7 ⟨q, 0, none⟩ 3 = some (plV (pl k i)) := cellsAt_at a7 0 3 (by simp [plV])
      (repeat (first | with_reducible refine run_seq ?_ | with_reducible refine run_reg ?_ | with_reducible refine run_block ?_ | with_reducible refine run_blk ?_ | with_reducible refine run_skip ?_ | with_reducible refine run_exit rfl ?_ | with_reducible refine run_drw ?_ | with_reducible refine run_condT ?_ | with_reducible refine run_ret' ?_ | with_reducible refine run_end' ?_ | simp only [go_sem, ↓reduceIte, Nat.reduceAdd, Nat.reduceEqDiff, Nat.reduceBEq, reduceCtorEq, Int.reduceBEq, Int.reduceBNe, Int.reduceLT, Int.reduceLE, k47.cell, hcs]))
      rw [fillL_agg (by simp [plV]) rfl, setL_pl]
      (repeat (first | with_reducible refine run_seq ?_ | with_reducible refine run_reg ?_ | with_reducible refine run_block ?_ | with_reducible refine run_blk ?_ | with_reducible refine run_skip ?_ | with_reducible refine run_exit rfl ?_ | with_reducible refine run_drw ?_ | with_reducible refine run_condT ?_ | with_reducible refine run_ret' ?_ | with_reducible refine run_end' ?_ | simp only [go_sem, ↓reduceIte, Nat.reduceAdd, Nat.reduceEqDiff, Nat.reduceBEq, reduceCtorEq, Int.reduceBEq, Int.reduceBNe, Int.reduceLT, Int.reduceLE]))
      refine bslT fun q8 w8 hq8 hs8 hat8 ho8 => ?_
      (repeat (first | with_reducible refine run_seq ?_ | with_reducible refine run_reg ?_ | with_reducible refine run_block ?_ | with_reducible refine run_blk ?_ | with_reducible refine run_skip ?_ | with_reducible refine run_exit rfl ?_ | with_reducible refine run_drw ?_ | with_reducible refine run_condT ?_ | with_reducible refine run_ret' ?_ | with_reducible refine run_end' ?_ | simp only [go_sem, ↓reduceIte, Nat.reduceAdd, Nat.reduceEqDiff, Nat.reduceBEq, reduceCtorEq, Int.reduceBEq, Int.reduceBNe, Int.reduceLT, Int.reduceLE]))
      refine appT (k57.keep0 ho8) (SrcIs.at hat8 (by simp [plV])) plV_one (by omega) (by omega) ?_
      intro v' w9 F' hs9 hF' ho9 _
      have hq3F : q3 ∉ F := fun hx => (hFo q3 hx).2.1 rfl
      have k49 := (k47.keep0 ho8).keep ho9 hq3F
      (repeat (first | with_reducible refine run_seq ?_ | with_reducible refine run_reg ?_ | with_reducible refine run_block ?_ | with_reducible refine run_blk ?_ | with_reducible refine run_skip ?_ | with_reducible refine run_exit rfl ?_ | with_reducible refine run_drw ?_ | with_reducible refine run_condT ?_ | with_reducible refine run_ret' ?_ | with_reducible refine run_end' ?_ | simp only [go_sem, ↓reduceIte, Nat.reduceAdd, Nat.reduceEqDiff, Nat.reduceBEq, reduceCtorEq, Int.reduceBEq, Int.reduceBNe, Int.reduceLT, Int.reduceLE]))
      refine stT k49 (by simp) hs9.oneC fun w10 hs10 hat10 ho10 => ?_
      (repeat (first | with_reducible refine run_seq ?_ | with_reducible refine run_reg ?_ | with_reducible refine run_block ?_ | with_reducible refine run_blk ?_ | with_reducible refine run_skip ?_ | with_reducible refine run_exit rfl ?_ | with_reducible refine run_drw ?_ | with_reducible refine run_condT ?_ | with_reducible refine run_ret' ?_ | with_reducible refine run_end' ?_ | simp only [go_sem, ↓reduceIte, Nat.reduceAdd, Nat.reduceEqDiff, Nat.reduceBEq, reduceCtorEq, Int.reduceBEq, Int.reduceBNe, Int.reduceLT, Int.reduceLE]))
      have hz4 : w4.heap.size ≤ w8.heap.size := by omega
      have hF'm : ∀ x, x ∈ F' → x ∈ F ∨ w4.heap.size ≤ x := by
        intro x hx
        rcases hF' with rfl | rfl
        · exact .inl hx
        · simp only [List.mem_singleton] at hx; right; omega
      have hF'o : ∀ x, x ∈ F' → x ≠ l ∧ x ≠ q3 := fun x hx => (hF'm x hx).elim (fun h => ⟨(hFo x h).1, (hFo x h).2.1⟩) (fun h => ⟨by omega, by omega⟩)
      have hlF : l ∉ F := fun hx => (hFo l hx).1 rfl
      have hl10 := (((hl7.keep ho8 (by simp)).keep ho9 hlF).keep ho10 (by simpa using fun e : l = q3 => hq3l e.symm))
      refine run_endR (l := l) rfl hl10 fun w11 hs11 ho11 hl11 => ?_
      have hO : Only ([q3, l] ++ F) w4 w11 := by
        refine ((((hO6.of_nil.same (ho7.mono ?_)).same ho8.of_nil).same (ho9.mono ?_)).same (ho10.mono ?_)).same (ho11.mono ?_)
        · intro x hx; simp only [List.mem_singleton] at hx; subst hx; exact .inl (by simp)
        · intro x hx; exact .inl (by simp [hx])
        · intro x hx; simp only [List.mem_singleton] at hx; subst hx; exact .inl (by simp)
        · intro x hx; simp only [List.mem_singleton] at hx; subst hx; exact .inl (by simp)
      have hnot : ∀ x, x ∈ b :: (fs ++ (fg ++ fq)) → x ∉ [q3, l] ++ F := fun x hx hx2 => by
        have := hrows x hx
        rcases List.mem_append.1 hx2 with h1 | h1
        · have := hB1 x h1; omega
        · have := hFl x h1; omega
      have hgm : g ∈ b :: (fs ++ (fg ++ fq)) := by have := pick3_mem hg; simp only [List.mem_cons]; exact .inr this
      refine ⟨rfl, ⟨F', ⟨hl11, ?_, v', hat10.keep ho11 (by simpa using hq3l), ?_⟩, hF'm⟩, hO, ?_, fun g' hg' _ => ?_⟩
      · rw [hO.block D l2 (by simp only [List.mem_append, List.mem_cons, List.not_mem_nil, or_false, not_or]; exact ⟨⟨by omega, by omega⟩, fun hx => (hFo D hx).2.2 rfl⟩)]; exact k2
      · have := (hs9.keep ho10 (fun x hx => by simpa using (hF'o x hx).2)).keep ho11 (fun x hx => by simpa using (hF'o x hx).1)
        rw [List.map_append, plsV_append, List.length_append]
        simpa [plsV] using this
      · rw [show (id ((rowL s k).getD i 0)) = (rowL s k).getD i 0 from rfl, set_self hget]
        exact hgat.keep hO (hnot g hgm)
      · exact hO.block g' (by have := hrows g' (by simp only [List.mem_cons]; exact .inr hg'); omega) (hnot g' (by simp only [List.mem_cons]; exact .inr hg'))
    · rintro _ w4 ⟨⟨F, ⟨k1, k2, v, k4, k5⟩, hFl⟩, hO4, hR4⟩
      refine ⟨k1, fun w5 hs5 ho5 => ?_⟩
      have l1 := k1.lt
      have hq3l : q3 ≠ l := by omega
      have hFo : ∀ x, x ∈ F → x ≠ l ∧ x ≠ q3 ∧ x ≠ D := fun x hx => by have := hFl x hx; exact ⟨by omega, by omega, by omega⟩
      have k45 := k4.keep ho5 (by simpa using hq3l)
      have k55 := k5.keep ho5 (fun x hx => by simpa using (hFo x hx).1)
      have hD5 : w5.heap[D]? = some (.deferred (some [])) := by rw [ho5.block D (Array.getElem?_eq_some_iff.1 k2).1 (by simp; omega)]; exact k2
      (repeat (first | with_reducible refine run_seq ?_ | with_reducible refine run_reg ?_ | with_reducible refine run_block ?_ | with_reducible refine run_blk ?_ | with_reducible refine run_skip ?_ | with_reducible refine run_exit rfl ?_ | with_reducible refine run_drw ?_ | with_reducible refine run_condT ?_ | with_reducible refine run_ret' ?_ | with_reducible refine run_end' ?_ | simp only [go_sem, ↓reduceIte, Nat.reduceAdd, Nat.reduceEqDiff, Nat.reduceBEq, reduceCtorEq, Int.reduceBEq, Int.reduceBNe, Int.reduceLT, Int.reduceLE, k45.cell]))
      refine run_retM' hD5 fun w6 hs6 ho6 => ?_
      (repeat (first | with_reducible refine run_seq ?_ | with_reducible refine run_reg ?_ | with_reducible refine run_block ?_ | with_reducible refine run_blk ?_ | with_reducible refine run_skip ?_ | with_reducible refine run_exit rfl ?_ | with_reducible refine run_drw ?_ | with_reducible refine run_condT ?_ | with_reducible refine run_ret' ?_ | with_reducible refine run_end' ?_ | simp only [go_sem, ↓reduceIte, Nat.reduceAdd, Nat.reduceEqDiff, Nat.reduceBEq, reduceCtorEq, Int.reduceBEq, Int.reduceBNe, Int.reduceLT, Int.reduceLE]))
      have hO6 : Only [] w w6 := by
        refine ((hO3.trans hO4 fun x hx => .inr (hB1 x hx)).trans ho5 fun x hx => .inr ?_).trans ho6 fun x hx => .inr ?_
        · simp only [List.mem_singleton] at hx; omega
        · simp only [List.mem_singleton] at hx; omega
      refine ⟨hO6, F, ?_, fun x hx => by have := hFl x hx; omega⟩
      have := k55.keep ho6 (fun x hx => by simpa using (hFo x hx).2.2)
      simpa [placesO] using this
end Go.Proofs.Ytblfmacnkacalaa
