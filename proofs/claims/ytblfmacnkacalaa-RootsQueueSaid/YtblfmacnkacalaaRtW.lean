/- Roots: the reference's Every, Places, Leads. -/
import Derived.Test.YtblfmacnkacalaaRtV
namespace Go.Proofs.Ytblfmacnkacalaa
set_option linter.unusedSimpArgs false
set_option linter.unusedVariables false
set_option maxRecDepth 8000

theorem Sl.posN {w : World} {sz : Nat} {v : Value} {n : Nat} {xs : List Value} {fp : List Nat} (h : Sl w sz v n xs fp) (hn : 0 < n) : ∃ g cap ys, v = .slice (some ⟨g, 0, none⟩) n cap ∧ At w g (xs ++ ys) ∧ fp = [g] := by
  rcases h.2 with ⟨_, h0, _⟩ | ⟨g, cap, ys, T, h1, h2, h3, h4, h5⟩
  · omega
  · exact ⟨g, cap, ys, h1, ⟨T, h3⟩, h2⟩
theorem plsV_drop : ∀ (L : List PT) (i : Nat), (plsV L).drop (i * 3) = plsV (L.drop i)
  | L, 0 => by simp
  | [], i + 1 => by simp [plsV]
  | p :: L, i + 1 => by
    have e : plsV (p :: L) = plV p ++ plsV L := by simp [plsV]
    rw [e, show (i + 1) * 3 = (plV p).length + i * 3 by simp [plV]; omega, List.drop_append, Nat.add_sub_cancel_left, plsV_drop L i]
    simp
theorem plsV_cells {w : World} {g i : Nat} {L : List PT} {ys : List Value} (h : At w g (plsV L ++ ys)) (hi : i < L.length) : cellsAt w ⟨g, i * 3, none⟩ 3 = some (plV (L.getD i (0, 0, 0))) := by
  have hl := plsV_length L
  rw [cellsAt_at h _ _ (by rw [List.length_append]; omega), List.drop_append_of_le_length (by omega), List.take_append_of_le_length (by simp; omega), plsV_drop, List.drop_eq_getElem_cons hi]
  simp only [plsV, List.flatMap_cons]
  simp [plV, hi]
/-- the places of a slice, read -/
theorem Sl.place {w : World} {v : Value} {n i : Nat} {L : List PT} {fp : List Nat} (h : Sl w 3 v n (plsV L) fp) (hi : i < L.length) : ∃ g cap, v = .slice (some ⟨g, 0, none⟩) L.length cap ∧ cellsAt w ⟨g, i * 3, none⟩ 3 = some (plV (L.getD i (0, 0, 0))) ∧ g ∈ fp := by
  have hn : n = L.length := by have := h.1; rw [plsV_length] at this; omega
  subst hn
  obtain ⟨g, cap, ys, h1, h2, h3⟩ := h.posN (by omega)
  exact ⟨g, cap, h1, plsV_cells h2 hi, by rw [h3]; simp⟩

/-- a place is added to a list of the walk's own -/
theorem app_place {w w2 : World} {v' : Value} {L : List PT} {fp fp' : List Nat} {p : PT} {n0 : Nat} (h : Sl w2 3 v' (L.length + 1) (plsV L ++ plV p) fp') (hf : fp' = fp ∨ fp' = [w.heap.size]) (hn : ∀ x, x ∈ fp → n0 ≤ x) (h0 : n0 ≤ w.heap.size) :
    Sl w2 3 v' (L ++ [p]).length (plsV (L ++ [p])) fp' ∧ ∀ x, x ∈ fp' → n0 ≤ x := by
  refine ⟨by rw [plsV_append, List.length_append]; simpa [plsV] using h, fun x hx => ?_⟩
  rcases hf with rfl | rfl
  · exact hn x hx
  · simp only [List.mem_singleton] at hx; omega

def eS (n : Nat) : List PT := (List.range n).map fun j => ((0 : Int), ((j / 16 : Nat) : Int), ((j % 16 : Nat) : Int))
def eG (n : Nat) : List PT := (List.range n).map fun j => ((1 : Int), (0 : Int), ((j : Nat) : Int))
def eQ (n : Nat) : List PT := (List.range n).map fun j => ((2 : Int), (0 : Int), ((j : Nat) : Int))
theorem eS_succ {m i : Nat} (hi : i < 16) : eS (16 * m + (i + 1)) = eS (16 * m + i) ++ [((0 : Int), (m : Int), (i : Int))] := by
  unfold eS
  rw [show 16 * m + (i + 1) = (16 * m + i) + 1 by omega, List.range_succ, List.map_append]
  simp only [List.map_cons, List.map_nil]
  rw [show (16 * m + i) / 16 = m by omega, show (16 * m + i) % 16 = i by omega]
theorem eG_succ (i : Nat) : eG (i + 1) = eG i ++ [((1 : Int), (0 : Int), (i : Int))] := by unfold eG; rw [List.range_succ, List.map_append]; rfl
theorem eQ_succ (i : Nat) : eQ (i + 1) = eQ i ++ [((2 : Int), (0 : Int), (i : Int))] := by unfold eQ; rw [List.range_succ, List.map_append]; rfl
theorem eS_length (n : Nat) : (eS n).length = n := by simp [eS]
theorem eG_length (n : Nat) : (eG n).length = n := by simp [eG]
theorem eQ_length (n : Nat) : (eQ n).length = n := by simp [eQ]

theorem rEvery {w : World} {a : Option Addr} {fp : List Nat} {m : MO} (h : RR w a fp m) : Cs Try.prog 15 [.pointer a] w fun v w' => Only [] w w' ∧ ∃ fp', Sl w' 3 v (everyO m).length (plsV (everyO m)) fp' ∧ ∀ x, x ∈ fp' → w.heap.size ≤ x := by
  refine enter_ref03_Roots_Every rfl ?_
  unfold x_ref03_Roots_Every
  (repeat (first | with_reducible refine run_seq ?_ | with_reducible refine run_reg ?_ | with_reducible refine run_block ?_ | with_reducible refine run_blk ?_ | with_reducible refine run_skip ?_ | with_reducible refine run_exit rfl ?_ | with_reducible refine run_drw ?_ | with_reducible refine run_condT ?_ | with_reducible refine run_ret' ?_ | with_reducible refine run_end' ?_ | simp only [go_sem, ↓reduceIte, Nat.reduceAdd, Nat.reduceEqDiff, Nat.reduceBEq, reduceCtorEq, Int.reduceBEq, Int.reduceBNe, Int.reduceLT, Int.reduceLE]))
  refine callT0 (rmade h) ?_
  match m, h with
  | none, _ =>
    (repeat (first | with_reducible refine run_seq ?_ | with_reducible refine run_reg ?_ | with_reducible refine run_block ?_ | with_reducible refine run_blk ?_ | with_reducible refine run_skip ?_ | with_reducible refine run_exit rfl ?_ | with_reducible refine run_drw ?_ | with_reducible refine run_condT ?_ | with_reducible refine run_ret' ?_ | with_reducible refine run_end' ?_ | simp only [go_sem, ↓reduceIte, Nat.reduceAdd, Nat.reduceEqDiff, Nat.reduceBEq, reduceCtorEq, Int.reduceBEq, Int.reduceBNe, Int.reduceLT, Int.reduceLE, Option.isSome_none]))
    exact ⟨Only.refl _ _, [], Sl.nil3 w, by simp⟩
  | some s, ⟨b, hb', vs, vg, vq, fs, rows, fg, fq, _, hp⟩ =>
    subst hb'
    have hok := hp.ok
    have hM4 := hok.m4
    have hlq := hok.lq
    (repeat (first | with_reducible refine run_seq ?_ | with_reducible refine run_reg ?_ | with_reducible refine run_block ?_ | with_reducible refine run_blk ?_ | with_reducible refine run_skip ?_ | with_reducible refine run_exit rfl ?_ | with_reducible refine run_drw ?_ | with_reducible refine run_condT ?_ | with_reducible refine run_ret' ?_ | with_reducible refine run_end' ?_ | simp only [go_sem, ↓reduceIte, Nat.reduceAdd, Nat.reduceEqDiff, Nat.reduceBEq, reduceCtorEq, Int.reduceBEq, Int.reduceBNe, Int.reduceLT, Int.reduceLE, Option.isSome_some]))
    refine run_loop (3 :: 4 :: 5 :: 12 :: 13 :: 14 :: 15 :: 16 :: 17 :: 18 :: 19 :: 20 :: 21 :: 22 :: 23 :: 24 :: 25 :: 26 :: 27 :: 28 :: 29 :: 30 :: []) (fun g w' => ∃ (m : Nat) (v : Value) (f : List Nat), g 4 = .int .i64 m ∧ g 3 = v ∧ m ≤ s.M ∧ Sl w' 3 v (eS (16 * m)).length (plsV (eS (16 * m))) f ∧ (∀ x, x ∈ f → w.heap.size ≤ x) ∧ Only [] w w') (fun g _ => upTo s.M 4 g)
      ⟨0, _, [], by simp only [go_sem, ↓reduceIte, Nat.reduceAdd, Nat.reduceEqDiff, Nat.reduceBEq, reduceCtorEq, Int.reduceBEq, Int.reduceBNe, Int.reduceLT, Int.reduceLE]; rfl, by simp only [go_sem, ↓reduceIte, Nat.reduceAdd, Nat.reduceEqDiff, Nat.reduceBEq, reduceCtorEq, Int.reduceBEq, Int.reduceBNe, Int.reduceLT, Int.reduceLE], by omega, Sl.nil3 w, by simp, Only.refl _ _⟩ fun g w1 hI hnext => ?_
    obtain ⟨m, v, f, h4, h3, hm, hs, hf, ho⟩ := hI
    have hp1 := hp.keep0 ho
    obtain ⟨a0, c0, evs⟩ := hp.h0.val
    obtain ⟨aq, cq, evq⟩ := hp.h2.val
    subst evs evq
    (repeat (first | with_reducible refine run_seq ?_ | with_reducible refine run_reg ?_ | with_reducible refine run_block ?_ | with_reducible refine run_blk ?_ | with_reducible refine run_skip ?_ | with_reducible refine run_exit rfl ?_ | with_reducible refine run_drw ?_ | with_reducible refine run_condT ?_ | with_reducible refine run_ret' ?_ | with_reducible refine run_end' ?_ | simp only [go_sem, ↓reduceIte, Nat.reduceAdd, Nat.reduceEqDiff, Nat.reduceBEq, reduceCtorEq, Int.reduceBEq, Int.reduceBNe, Int.reduceLT, Int.reduceLE, h4, hp1.hb.cell]))
    refine condT (fun hlt => ?_) (fun hge => ?_)
    · have hlt : m < s.M := by have : (m : Int) < (s.M : Int) := by simpa using hlt
                               omega
      (repeat (first | with_reducible refine run_seq ?_ | with_reducible refine run_reg ?_ | with_reducible refine run_block ?_ | with_reducible refine run_blk ?_ | with_reducible refine run_skip ?_ | with_reducible refine run_exit rfl ?_ | with_reducible refine run_drw ?_ | with_reducible refine run_condT ?_ | with_reducible refine run_ret' ?_ | with_reducible refine run_end' ?_ | simp only [go_sem, ↓reduceIte, Nat.reduceAdd, Nat.reduceEqDiff, Nat.reduceBEq, reduceCtorEq, Int.reduceBEq, Int.reduceBNe, Int.reduceLT, Int.reduceLE, h4]))
      refine run_loop (3 :: 5 :: 21 :: 22 :: 23 :: 24 :: 25 :: 26 :: 27 :: 28 :: 29 :: 30 :: []) (fun g2 w' => ∃ (i : Nat) (v : Value) (f : List Nat), g2 5 = .int .i64 i ∧ g2 3 = v ∧ i ≤ 16 ∧ Sl w' 3 v (eS (16 * m + i)).length (plsV (eS (16 * m + i))) f ∧ (∀ x, x ∈ f → w.heap.size ≤ x) ∧ Only [] w w') (fun g2 _ => upTo 16 5 g2)
        ⟨0, v, f, by simp only [go_sem, ↓reduceIte, Nat.reduceAdd, Nat.reduceEqDiff, Nat.reduceBEq, reduceCtorEq, Int.reduceBEq, Int.reduceBNe, Int.reduceLT, Int.reduceLE]; rfl, by simp only [go_sem, ↓reduceIte, Nat.reduceAdd, Nat.reduceEqDiff, Nat.reduceBEq, reduceCtorEq, Int.reduceBEq, Int.reduceBNe, Int.reduceLT, Int.reduceLE, h3], by omega, hs, hf, ho⟩ fun g2 w2 hI hnext2 => ?_
      obtain ⟨i, v2, f2, h5, h3', hi, hs2, hf2, ho2⟩ := hI
      have e16 : ((16 : Nat) : Int) = 16 := rfl
      (repeat (first | with_reducible refine run_seq ?_ | with_reducible refine run_reg ?_ | with_reducible refine run_block ?_ | with_reducible refine run_blk ?_ | with_reducible refine run_skip ?_ | with_reducible refine run_exit rfl ?_ | with_reducible refine run_drw ?_ | with_reducible refine run_condT ?_ | with_reducible refine run_ret' ?_ | with_reducible refine run_end' ?_ | simp only [go_sem, ↓reduceIte, Nat.reduceAdd, Nat.reduceEqDiff, Nat.reduceBEq, reduceCtorEq, Int.reduceBEq, Int.reduceBNe, Int.reduceLT, Int.reduceLE, h5]))
      refine condT (fun hlt2 => ?_) (fun hge2 => ?_)
      · have hlt2 : i < 16 := by have : (i : Int) < 16 := by simpa using hlt2
                                 omega
        (repeat (first | with_reducible refine run_seq ?_ | with_reducible refine run_reg ?_ | with_reducible refine run_block ?_ | with_reducible refine run_blk ?_ | with_reducible refine run_skip ?_ | with_reducible refine run_exit rfl ?_ | with_reducible refine run_drw ?_ | with_reducible refine run_condT ?_ | with_reducible refine run_ret' ?_ | with_reducible refine run_end' ?_ | simp only [go_sem, ↓reduceIte, Nat.reduceAdd, Nat.reduceEqDiff, Nat.reduceBEq, reduceCtorEq, Int.reduceBEq, Int.reduceBNe, Int.reduceLT, Int.reduceLE, h5, h3', h4]))
        rw [fillL_one rfl rfl]
        (repeat (first | with_reducible refine run_seq ?_ | with_reducible refine run_reg ?_ | with_reducible refine run_block ?_ | with_reducible refine run_blk ?_ | with_reducible refine run_skip ?_ | with_reducible refine run_exit rfl ?_ | with_reducible refine run_drw ?_ | with_reducible refine run_condT ?_ | with_reducible refine run_ret' ?_ | with_reducible refine run_end' ?_ | simp only [go_sem, ↓reduceIte, Nat.reduceAdd, Nat.reduceEqDiff, Nat.reduceBEq, reduceCtorEq, Int.reduceBEq, Int.reduceBNe, Int.reduceLT, Int.reduceLE]))
        rw [fillL_one rfl rfl]
        (repeat (first | with_reducible refine run_seq ?_ | with_reducible refine run_reg ?_ | with_reducible refine run_block ?_ | with_reducible refine run_blk ?_ | with_reducible refine run_skip ?_ | with_reducible refine run_exit rfl ?_ | with_reducible refine run_drw ?_ | with_reducible refine run_condT ?_ | with_reducible refine run_ret' ?_ | with_reducible refine run_end' ?_ | simp only [go_sem, ↓reduceIte, Nat.reduceAdd, Nat.reduceEqDiff, Nat.reduceBEq, reduceCtorEq, Int.reduceBEq, Int.reduceBNe, Int.reduceLT, Int.reduceLE]))
        rw [fillL_one rfl rfl]
        (repeat (first | with_reducible refine run_seq ?_ | with_reducible refine run_reg ?_ | with_reducible refine run_block ?_ | with_reducible refine run_blk ?_ | with_reducible refine run_skip ?_ | with_reducible refine run_exit rfl ?_ | with_reducible refine run_drw ?_ | with_reducible refine run_condT ?_ | with_reducible refine run_ret' ?_ | with_reducible refine run_end' ?_ | simp only [go_sem, ↓reduceIte, Nat.reduceAdd, Nat.reduceEqDiff, Nat.reduceBEq, reduceCtorEq, Int.reduceBEq, Int.reduceBNe, Int.reduceLT, Int.reduceLE]))
        rw [fillL_agg (n := 3) rfl rfl, setL_three]
        (repeat (first | with_reducible refine run_seq ?_ | with_reducible refine run_reg ?_ | with_reducible refine run_block ?_ | with_reducible refine run_blk ?_ | with_reducible refine run_skip ?_ | with_reducible refine run_exit rfl ?_ | with_reducible refine run_drw ?_ | with_reducible refine run_condT ?_ | with_reducible refine run_ret' ?_ | with_reducible refine run_end' ?_ | simp only [go_sem, ↓reduceIte, Nat.reduceAdd, Nat.reduceEqDiff, Nat.reduceBEq, reduceCtorEq, Int.reduceBEq, Int.reduceBNe, Int.reduceLT, Int.reduceLE]))
        refine bslT fun q w3 hq hs3 hat3 ho3 => ?_
        (repeat (first | with_reducible refine run_seq ?_ | with_reducible refine run_reg ?_ | with_reducible refine run_block ?_ | with_reducible refine run_blk ?_ | with_reducible refine run_skip ?_ | with_reducible refine run_exit rfl ?_ | with_reducible refine run_drw ?_ | with_reducible refine run_condT ?_ | with_reducible refine run_ret' ?_ | with_reducible refine run_end' ?_ | simp only [go_sem, ↓reduceIte, Nat.reduceAdd, Nat.reduceEqDiff, Nat.reduceBEq, reduceCtorEq, Int.reduceBEq, Int.reduceBNe, Int.reduceLT, Int.reduceLE, h3']))
        refine appT (hs2.keep0 ho3) (SrcIs.at hat3 rfl) (by simp [oneC]) (by rw [eS_length]; omega) (by rw [eS_length]; omega) ?_
        intro v4 w4 f4 hs4 hf4 ho4 _
        have hz2 := ho2.size
        have hz3 := ho3.size
        obtain ⟨hsl, hnew⟩ := app_place (p := (0, (m : Int), (i : Int))) (n0 := w.heap.size) hs4 hf4 hf2 (by omega)
        (repeat (first | with_reducible refine run_seq ?_ | with_reducible refine run_reg ?_ | with_reducible refine run_block ?_ | with_reducible refine run_blk ?_ | with_reducible refine run_skip ?_ | with_reducible refine run_exit rfl ?_ | with_reducible refine run_drw ?_ | with_reducible refine run_condT ?_ | with_reducible refine run_ret' ?_ | with_reducible refine run_end' ?_ | simp only [go_sem, ↓reduceIte, Nat.reduceAdd, Nat.reduceEqDiff, Nat.reduceBEq, reduceCtorEq, Int.reduceBEq, Int.reduceBNe, Int.reduceLT, Int.reduceLE, h5, i64_succ i (by omega)]))
        refine hnext2 _ w4 ?_ ⟨i + 1, v4, f4, ?_, ?_, by omega, by rw [eS_succ hlt2]; exact hsl, hnew, (ho2.nil ho3).trans ho4 fun x hx => .inr (hf2 x hx)⟩ ?_
        · (repeat (first | with_reducible exact Keeps.refl _ _ | with_reducible exact Keeps.ovr _ _ _ | refine Keeps.put ?_ rfl _ | exact Keeps.refl _ _ | exact Keeps.ovr _ _ _ | refine Keeps.ovr2 ?_ rfl _))
        · simp only [go_sem, ↓reduceIte, Nat.reduceAdd, Nat.reduceEqDiff, Nat.reduceBEq, reduceCtorEq, Int.reduceBEq, Int.reduceBNe, Int.reduceLT, Int.reduceLE]
        · simp only [go_sem, ↓reduceIte, Nat.reduceAdd, Nat.reduceEqDiff, Nat.reduceBEq, reduceCtorEq, Int.reduceBEq, Int.reduceBNe, Int.reduceLT, Int.reduceLE]
        · rw [upTo_int h5, upTo_int (k := .i64) (i := i + 1) (by simp only [go_sem, ↓reduceIte, Nat.reduceAdd, Nat.reduceEqDiff, Nat.reduceBEq, reduceCtorEq, Int.reduceBEq, Int.reduceBNe, Int.reduceLT, Int.reduceLE])]; omega
      · have : i = 16 := by have : ¬ (i : Int) < 16 := by simpa using hge2
                            omega
        subst this
        (repeat (first | with_reducible refine run_seq ?_ | with_reducible refine run_reg ?_ | with_reducible refine run_block ?_ | with_reducible refine run_blk ?_ | with_reducible refine run_skip ?_ | with_reducible refine run_exit rfl ?_ | with_reducible refine run_drw ?_ | with_reducible refine run_condT ?_ | with_reducible refine run_ret' ?_ | with_reducible refine run_end' ?_ | simp only [go_sem, ↓reduceIte, Nat.reduceAdd, Nat.reduceEqDiff, Nat.reduceBEq, reduceCtorEq, Int.reduceBEq, Int.reduceBNe, Int.reduceLT, Int.reduceLE, h4, i64_succ m (by omega)]))
        refine hnext _ w2 ?_ ⟨m + 1, v2, f2, ?_, ?_, by omega, by rw [show 16 * (m + 1) = 16 * m + 16 by omega]; exact hs2, hf2, ho2⟩ ?_
        · (repeat (first | with_reducible exact Keeps.refl _ _ | with_reducible exact Keeps.ovr _ _ _ | refine Keeps.put ?_ rfl _ | exact Keeps.refl _ _ | exact Keeps.ovr _ _ _ | refine Keeps.ovr2 ?_ rfl _))
        · simp only [go_sem, ↓reduceIte, Nat.reduceAdd, Nat.reduceEqDiff, Nat.reduceBEq, reduceCtorEq, Int.reduceBEq, Int.reduceBNe, Int.reduceLT, Int.reduceLE]
        · simp only [go_sem, ↓reduceIte, Nat.reduceAdd, Nat.reduceEqDiff, Nat.reduceBEq, reduceCtorEq, Int.reduceBEq, Int.reduceBNe, Int.reduceLT, Int.reduceLE, h3']
        · rw [upTo_int h4, upTo_int (k := .i64) (i := m + 1) (by simp only [go_sem, ↓reduceIte, Nat.reduceAdd, Nat.reduceEqDiff, Nat.reduceBEq, reduceCtorEq, Int.reduceBEq, Int.reduceBNe, Int.reduceLT, Int.reduceLE])]; omega
    · have : m = s.M := by have : ¬ (m : Int) < (s.M : Int) := by simpa using hge
                           omega
      subst this
      (repeat (first | with_reducible refine run_seq ?_ | with_reducible refine run_reg ?_ | with_reducible refine run_block ?_ | with_reducible refine run_blk ?_ | with_reducible refine run_skip ?_ | with_reducible refine run_exit rfl ?_ | with_reducible refine run_drw ?_ | with_reducible refine run_condT ?_ | with_reducible refine run_ret' ?_ | with_reducible refine run_end' ?_ | simp only [go_sem, ↓reduceIte, Nat.reduceAdd, Nat.reduceEqDiff, Nat.reduceBEq, reduceCtorEq, Int.reduceBEq, Int.reduceBNe, Int.reduceLT, Int.reduceLE]))
      refine run_loop (3 :: 6 :: 31 :: 32 :: 33 :: 34 :: 35 :: 36 :: 37 :: 38 :: 39 :: []) (fun g2 w' => ∃ (i : Nat) (v : Value) (f : List Nat), g2 6 = .int .i64 i ∧ g2 3 = v ∧ i ≤ 16 ∧ Sl w' 3 v (eS (16 * s.M) ++ eG i).length (plsV (eS (16 * s.M) ++ eG i)) f ∧ (∀ x, x ∈ f → w.heap.size ≤ x) ∧ Only [] w w') (fun g2 _ => upTo 16 6 g2)
        ⟨0, v, f, by simp only [go_sem, ↓reduceIte, Nat.reduceAdd, Nat.reduceEqDiff, Nat.reduceBEq, reduceCtorEq, Int.reduceBEq, Int.reduceBNe, Int.reduceLT, Int.reduceLE]; rfl, by simp only [go_sem, ↓reduceIte, Nat.reduceAdd, Nat.reduceEqDiff, Nat.reduceBEq, reduceCtorEq, Int.reduceBEq, Int.reduceBNe, Int.reduceLT, Int.reduceLE, h3], by omega, by simpa [eG] using hs, hf, ho⟩ fun g2 w2 hI hnext2 => ?_
      obtain ⟨i, v2, f2, h6, h3', hi, hs2, hf2, ho2⟩ := hI
      (repeat (first | with_reducible refine run_seq ?_ | with_reducible refine run_reg ?_ | with_reducible refine run_block ?_ | with_reducible refine run_blk ?_ | with_reducible refine run_skip ?_ | with_reducible refine run_exit rfl ?_ | with_reducible refine run_drw ?_ | with_reducible refine run_condT ?_ | with_reducible refine run_ret' ?_ | with_reducible refine run_end' ?_ | simp only [go_sem, ↓reduceIte, Nat.reduceAdd, Nat.reduceEqDiff, Nat.reduceBEq, reduceCtorEq, Int.reduceBEq, Int.reduceBNe, Int.reduceLT, Int.reduceLE, h6]))
      refine condT (fun hlt2 => ?_) (fun hge2 => ?_)
      · have hlt2 : i < 16 := by have : (i : Int) < 16 := by simpa using hlt2
                                 omega
        (repeat (first | with_reducible refine run_seq ?_ | with_reducible refine run_reg ?_ | with_reducible refine run_block ?_ | with_reducible refine run_blk ?_ | with_reducible refine run_skip ?_ | with_reducible refine run_exit rfl ?_ | with_reducible refine run_drw ?_ | with_reducible refine run_condT ?_ | with_reducible refine run_ret' ?_ | with_reducible refine run_end' ?_ | simp only [go_sem, ↓reduceIte, Nat.reduceAdd, Nat.reduceEqDiff, Nat.reduceBEq, reduceCtorEq, Int.reduceBEq, Int.reduceBNe, Int.reduceLT, Int.reduceLE, h6, h3']))
        rw [fillL_one rfl rfl]
        (repeat (first | with_reducible refine run_seq ?_ | with_reducible refine run_reg ?_ | with_reducible refine run_block ?_ | with_reducible refine run_blk ?_ | with_reducible refine run_skip ?_ | with_reducible refine run_exit rfl ?_ | with_reducible refine run_drw ?_ | with_reducible refine run_condT ?_ | with_reducible refine run_ret' ?_ | with_reducible refine run_end' ?_ | simp only [go_sem, ↓reduceIte, Nat.reduceAdd, Nat.reduceEqDiff, Nat.reduceBEq, reduceCtorEq, Int.reduceBEq, Int.reduceBNe, Int.reduceLT, Int.reduceLE]))
        rw [fillL_one rfl rfl]
        (repeat (first | with_reducible refine run_seq ?_ | with_reducible refine run_reg ?_ | with_reducible refine run_block ?_ | with_reducible refine run_blk ?_ | with_reducible refine run_skip ?_ | with_reducible refine run_exit rfl ?_ | with_reducible refine run_drw ?_ | with_reducible refine run_condT ?_ | with_reducible refine run_ret' ?_ | with_reducible refine run_end' ?_ | simp only [go_sem, ↓reduceIte, Nat.reduceAdd, Nat.reduceEqDiff, Nat.reduceBEq, reduceCtorEq, Int.reduceBEq, Int.reduceBNe, Int.reduceLT, Int.reduceLE]))
        rw [fillL_agg (n := 3) rfl rfl, setL_three]
        (repeat (first | with_reducible refine run_seq ?_ | with_reducible refine run_reg ?_ | with_reducible refine run_block ?_ | with_reducible refine run_blk ?_ | with_reducible refine run_skip ?_ | with_reducible refine run_exit rfl ?_ | with_reducible refine run_drw ?_ | with_reducible refine run_condT ?_ | with_reducible refine run_ret' ?_ | with_reducible refine run_end' ?_ | simp only [go_sem, ↓reduceIte, Nat.reduceAdd, Nat.reduceEqDiff, Nat.reduceBEq, reduceCtorEq, Int.reduceBEq, Int.reduceBNe, Int.reduceLT, Int.reduceLE]))
        refine bslT fun q w3 hq hs3 hat3 ho3 => ?_
        (repeat (first | with_reducible refine run_seq ?_ | with_reducible refine run_reg ?_ | with_reducible refine run_block ?_ | with_reducible refine run_blk ?_ | with_reducible refine run_skip ?_ | with_reducible refine run_exit rfl ?_ | with_reducible refine run_drw ?_ | with_reducible refine run_condT ?_ | with_reducible refine run_ret' ?_ | with_reducible refine run_end' ?_ | simp only [go_sem, ↓reduceIte, Nat.reduceAdd, Nat.reduceEqDiff, Nat.reduceBEq, reduceCtorEq, Int.reduceBEq, Int.reduceBNe, Int.reduceLT, Int.reduceLE, h3']))
        refine appT (hs2.keep0 ho3) (SrcIs.at hat3 rfl) (by simp [oneC]) (by rw [List.length_append, eS_length, eG_length]; omega) (by rw [List.length_append, eS_length, eG_length]; omega) ?_
        intro v4 w4 f4 hs4 hf4 ho4 _
        have hz2 := ho2.size
        have hz3 := ho3.size
        obtain ⟨hsl, hnew⟩ := app_place (p := (1, 0, (i : Int))) (n0 := w.heap.size) hs4 hf4 hf2 (by omega)
        (repeat (first | with_reducible refine run_seq ?_ | with_reducible refine run_reg ?_ | with_reducible refine run_block ?_ | with_reducible refine run_blk ?_ | with_reducible refine run_skip ?_ | with_reducible refine run_exit rfl ?_ | with_reducible refine run_drw ?_ | with_reducible refine run_condT ?_ | with_reducible refine run_ret' ?_ | with_reducible refine run_end' ?_ | simp only [go_sem, ↓reduceIte, Nat.reduceAdd, Nat.reduceEqDiff, Nat.reduceBEq, reduceCtorEq, Int.reduceBEq, Int.reduceBNe, Int.reduceLT, Int.reduceLE, h6, i64_succ i (by omega)]))
        refine hnext2 _ w4 ?_ ⟨i + 1, v4, f4, ?_, ?_, by omega, by rw [eG_succ, ← List.append_assoc]; exact hsl, hnew, (ho2.nil ho3).trans ho4 fun x hx => .inr (hf2 x hx)⟩ ?_
        · (repeat (first | with_reducible exact Keeps.refl _ _ | with_reducible exact Keeps.ovr _ _ _ | refine Keeps.put ?_ rfl _ | exact Keeps.refl _ _ | exact Keeps.ovr _ _ _ | refine Keeps.ovr2 ?_ rfl _))
        · simp only [go_sem, ↓reduceIte, Nat.reduceAdd, Nat.reduceEqDiff, Nat.reduceBEq, reduceCtorEq, Int.reduceBEq, Int.reduceBNe, Int.reduceLT, Int.reduceLE]
        · simp only [go_sem, ↓reduceIte, Nat.reduceAdd, Nat.reduceEqDiff, Nat.reduceBEq, reduceCtorEq, Int.reduceBEq, Int.reduceBNe, Int.reduceLT, Int.reduceLE]
        · rw [upTo_int h6, upTo_int (k := .i64) (i := i + 1) (by simp only [go_sem, ↓reduceIte, Nat.reduceAdd, Nat.reduceEqDiff, Nat.reduceBEq, reduceCtorEq, Int.reduceBEq, Int.reduceBNe, Int.reduceLT, Int.reduceLE])]; omega
      · have : i = 16 := by have : ¬ (i : Int) < 16 := by simpa using hge2
                            omega
        subst this
        (repeat (first | with_reducible refine run_seq ?_ | with_reducible refine run_reg ?_ | with_reducible refine run_block ?_ | with_reducible refine run_blk ?_ | with_reducible refine run_skip ?_ | with_reducible refine run_exit rfl ?_ | with_reducible refine run_drw ?_ | with_reducible refine run_condT ?_ | with_reducible refine run_ret' ?_ | with_reducible refine run_end' ?_ | simp only [go_sem, ↓reduceIte, Nat.reduceAdd, Nat.reduceEqDiff, Nat.reduceBEq, reduceCtorEq, Int.reduceBEq, Int.reduceBNe, Int.reduceLT, Int.reduceLE]))
        refine run_loop (3 :: 7 :: 40 :: 41 :: 42 :: 43 :: 44 :: 45 :: 46 :: 47 :: 48 :: 49 :: 50 :: 51 :: 52 :: 53 :: []) (fun g3 w' => ∃ (i : Nat) (v : Value) (f : List Nat), g3 7 = .int .i64 i ∧ g3 3 = v ∧ i ≤ s.Q.length ∧ Sl w' 3 v ((eS (16 * s.M) ++ eG 16) ++ eQ i).length (plsV ((eS (16 * s.M) ++ eG 16) ++ eQ i)) f ∧ (∀ x, x ∈ f → w.heap.size ≤ x) ∧ Only [] w w') (fun g3 _ => upTo s.Q.length 7 g3)
          ⟨0, v2, f2, by simp only [go_sem, ↓reduceIte, Nat.reduceAdd, Nat.reduceEqDiff, Nat.reduceBEq, reduceCtorEq, Int.reduceBEq, Int.reduceBNe, Int.reduceLT, Int.reduceLE]; rfl, by simp only [go_sem, ↓reduceIte, Nat.reduceAdd, Nat.reduceEqDiff, Nat.reduceBEq, reduceCtorEq, Int.reduceBEq, Int.reduceBNe, Int.reduceLT, Int.reduceLE, h3'], by omega, by simpa [eQ] using hs2, hf2, ho2⟩ fun g3 w3 hI hnext3 => ?_
        obtain ⟨i, v3, f3, h7, h3'', hi, hs3, hf3, ho3⟩ := hI
        have hp3 := hp.keep0 ho3
        (repeat (first | with_reducible refine run_seq ?_ | with_reducible refine run_reg ?_ | with_reducible refine run_block ?_ | with_reducible refine run_blk ?_ | with_reducible refine run_skip ?_ | with_reducible refine run_exit rfl ?_ | with_reducible refine run_drw ?_ | with_reducible refine run_condT ?_ | with_reducible refine run_ret' ?_ | with_reducible refine run_end' ?_ | simp only [go_sem, ↓reduceIte, Nat.reduceAdd, Nat.reduceEqDiff, Nat.reduceBEq, reduceCtorEq, Int.reduceBEq, Int.reduceBNe, Int.reduceLT, Int.reduceLE, h7, hp3.hb.cell]))
        refine condT (fun hlt3 => ?_) (fun hge3 => ?_)
        · have hlt3 : i < s.Q.length := by simpa using hlt3
          (repeat (first | with_reducible refine run_seq ?_ | with_reducible refine run_reg ?_ | with_reducible refine run_block ?_ | with_reducible refine run_blk ?_ | with_reducible refine run_skip ?_ | with_reducible refine run_exit rfl ?_ | with_reducible refine run_drw ?_ | with_reducible refine run_condT ?_ | with_reducible refine run_ret' ?_ | with_reducible refine run_end' ?_ | simp only [go_sem, ↓reduceIte, Nat.reduceAdd, Nat.reduceEqDiff, Nat.reduceBEq, reduceCtorEq, Int.reduceBEq, Int.reduceBNe, Int.reduceLT, Int.reduceLE, h7, h3'']))
          rw [fillL_one rfl rfl]
          (repeat (first | with_reducible refine run_seq ?_ | with_reducible refine run_reg ?_ | with_reducible refine run_block ?_ | with_reducible refine run_blk ?_ | with_reducible refine run_skip ?_ | with_reducible refine run_exit rfl ?_ | with_reducible refine run_drw ?_ | with_reducible refine run_condT ?_ | with_reducible refine run_ret' ?_ | with_reducible refine run_end' ?_ | simp only [go_sem, ↓reduceIte, Nat.reduceAdd, Nat.reduceEqDiff, Nat.reduceBEq, reduceCtorEq, Int.reduceBEq, Int.reduceBNe, Int.reduceLT, Int.reduceLE]))
          rw [fillL_one rfl rfl]
          (repeat (first | with_reducible refine run_seq ?_ | with_reducible refine run_reg ?_ | with_reducible refine run_block ?_ | with_reducible refine run_blk ?_ | with_reducible refine run_skip ?_ | with_reducible refine run_exit rfl ?_ | with_reducible refine run_drw ?_ | with_reducible refine run_condT ?_ | with_reducible refine run_ret' ?_ | with_reducible refine run_end' ?_ | simp only [go_sem, ↓reduceIte, Nat.reduceAdd, Nat.reduceEqDiff, Nat.reduceBEq, reduceCtorEq, Int.reduceBEq, Int.reduceBNe, Int.reduceLT, Int.reduceLE]))
          rw [fillL_agg (n := 3) rfl rfl, setL_three]
          (repeat (first | with_reducible refine run_seq ?_ | with_reducible refine run_reg ?_ | with_reducible refine run_block ?_ | with_reducible refine run_blk ?_ | with_reducible refine run_skip ?_ | with_reducible refine run_exit rfl ?_ | with_reducible refine run_drw ?_ | with_reducible refine run_condT ?_ | with_reducible refine run_ret' ?_ | with_reducible refine run_end' ?_ | simp only [go_sem, ↓reduceIte, Nat.reduceAdd, Nat.reduceEqDiff, Nat.reduceBEq, reduceCtorEq, Int.reduceBEq, Int.reduceBNe, Int.reduceLT, Int.reduceLE]))
          refine bslT fun q w4 hq hs4 hat4 ho4 => ?_
          (repeat (first | with_reducible refine run_seq ?_ | with_reducible refine run_reg ?_ | with_reducible refine run_block ?_ | with_reducible refine run_blk ?_ | with_reducible refine run_skip ?_ | with_reducible refine run_exit rfl ?_ | with_reducible refine run_drw ?_ | with_reducible refine run_condT ?_ | with_reducible refine run_ret' ?_ | with_reducible refine run_end' ?_ | simp only [go_sem, ↓reduceIte, Nat.reduceAdd, Nat.reduceEqDiff, Nat.reduceBEq, reduceCtorEq, Int.reduceBEq, Int.reduceBNe, Int.reduceLT, Int.reduceLE, h3'']))
          refine appT (hs3.keep0 ho4) (SrcIs.at hat4 rfl) (by simp [oneC]) (by rw [List.length_append, List.length_append, eS_length, eG_length, eQ_length]; omega) (by rw [List.length_append, List.length_append, eS_length, eG_length, eQ_length]; omega) ?_
          intro v5 w5 f5 hs5 hf5 ho5 _
          have hz3 := ho3.size
          have hz4 := ho4.size
          obtain ⟨hsl, hnew⟩ := app_place (p := (2, 0, (i : Int))) (n0 := w.heap.size) hs5 hf5 hf3 (by omega)
          (repeat (first | with_reducible refine run_seq ?_ | with_reducible refine run_reg ?_ | with_reducible refine run_block ?_ | with_reducible refine run_blk ?_ | with_reducible refine run_skip ?_ | with_reducible refine run_exit rfl ?_ | with_reducible refine run_drw ?_ | with_reducible refine run_condT ?_ | with_reducible refine run_ret' ?_ | with_reducible refine run_end' ?_ | simp only [go_sem, ↓reduceIte, Nat.reduceAdd, Nat.reduceEqDiff, Nat.reduceBEq, reduceCtorEq, Int.reduceBEq, Int.reduceBNe, Int.reduceLT, Int.reduceLE, h7, i64_succ i (by omega)]))
          refine hnext3 _ w5 ?_ ⟨i + 1, v5, f5, ?_, ?_, by omega, by rw [eQ_succ, ← List.append_assoc]; exact hsl, hnew, (ho3.nil ho4).trans ho5 fun x hx => .inr (hf3 x hx)⟩ ?_
          · (repeat (first | with_reducible exact Keeps.refl _ _ | with_reducible exact Keeps.ovr _ _ _ | refine Keeps.put ?_ rfl _ | exact Keeps.refl _ _ | exact Keeps.ovr _ _ _ | refine Keeps.ovr2 ?_ rfl _))
          · simp only [go_sem, ↓reduceIte, Nat.reduceAdd, Nat.reduceEqDiff, Nat.reduceBEq, reduceCtorEq, Int.reduceBEq, Int.reduceBNe, Int.reduceLT, Int.reduceLE]
          · simp only [go_sem, ↓reduceIte, Nat.reduceAdd, Nat.reduceEqDiff, Nat.reduceBEq, reduceCtorEq, Int.reduceBEq, Int.reduceBNe, Int.reduceLT, Int.reduceLE]
          · rw [upTo_int h7, upTo_int (k := .i64) (i := i + 1) (by simp only [go_sem, ↓reduceIte, Nat.reduceAdd, Nat.reduceEqDiff, Nat.reduceBEq, reduceCtorEq, Int.reduceBEq, Int.reduceBNe, Int.reduceLT, Int.reduceLE])]; omega
        · have : i = s.Q.length := by have : ¬ (i < s.Q.length) := by simpa using hge3
                                      omega
          subst this
          (repeat (first | with_reducible refine run_seq ?_ | with_reducible refine run_reg ?_ | with_reducible refine run_block ?_ | with_reducible refine run_blk ?_ | with_reducible refine run_skip ?_ | with_reducible refine run_exit rfl ?_ | with_reducible refine run_drw ?_ | with_reducible refine run_condT ?_ | with_reducible refine run_ret' ?_ | with_reducible refine run_end' ?_ | simp only [go_sem, ↓reduceIte, Nat.reduceAdd, Nat.reduceEqDiff, Nat.reduceBEq, reduceCtorEq, Int.reduceBEq, Int.reduceBNe, Int.reduceLT, Int.reduceLE, h3'']))
          exact ⟨ho3, f3, hs3, hf3⟩
end Go.Proofs.Ytblfmacnkacalaa
