/- Roots: made, all, Same, as the laws call them. -/
import Derived.Test.YtblfmacnkacalaaRtLB
namespace Go.Proofs.Ytblfmacnkacalaa
set_option linter.unusedSimpArgs false
set_option linter.unusedVariables false
set_option maxRecDepth 8000

theorem setO_some {m : MO} {p : PT} {a : Int} : (setO m p a).2.isSome = m.isSome := by
  cases m with
  | none => rfl
  | some s => unfold setO; simp only; split <;> (try split) <;> rfl
theorem pushO_some {m : MO} {a : Int} : (pushO m a).2.isSome = m.isSome := by
  cases m with
  | none => rfl
  | some s => unfold pushO; simp only; split <;> (try split) <;> rfl
theorem popO_some {m : MO} : (popO m).2.isSome = m.isSome := by
  cases m with
  | none => rfl
  | some s => unfold popO; simp only; split <;> rfl
theorem replO_some {m : MO} {F T : List Int} : (replO m F T).2.isSome = m.isSome := by
  cases m with
  | none => rfl
  | some s => unfold replO; simp only; split <;> rfl
theorem playO_some {m : MO} {x : A7} : (playO m x).isSome = m.isSome := by
  unfold playO
  split
  · exact setO_some
  split
  · exact pushO_some
  split
  · exact popO_some
  split
  · exact replO_some
  · rfl
def playsO (m : MO) (l : List A7) : MO := l.foldl playO m
theorem playsO_some : ∀ (l : List A7) (m : MO), (playsO m l).isSome = m.isSome
  | [], m => rfl
  | x :: l, m => by
    have := playsO_some l (playO m x)
    unfold playsO at *
    rw [List.foldl_cons, this, playO_some]
theorem playsO_succ {l : List A7} {m : MO} {i : Nat} (hi : i < l.length) : playsO m (l.take (i + 1)) = playO (playsO m (l.take i)) (l.getD i default) := by
  unfold playsO
  rw [List.take_succ_eq_append_getElem hi, List.foldl_append]
  simp [hi]
theorem gr_false {l : List A7} (h : gr l = false) : l.length ≤ 100 ∧ ∀ i, i < l.length → bigA (l.getD i default) = false := by
  unfold gr at h
  simp only [Bool.or_eq_false_iff, decide_eq_false_iff_not] at h
  refine ⟨by omega, fun i hi => ?_⟩
  have h1 := List.any_eq_false.1 h.1 (l.getD i default) (by simp [hi])
  simpa using h1

/-- l[i], read in any world that has what lay below h0 -/
theorem ActsAt.read {h0 i n cap : Nat} {w : World} {a : Option Addr} {l : List A7} (h : ActsAt h0 w (.slice a n cap) l) (hi : i < l.length) : ∃ p vF vT, a = some p ∧ cellsAt w (p.add (i * 7)) 7 = some (actV (l.getD i default) vF vT) ∧ RdH h0 w vF (l.getD i default).F ∧ RdH h0 w vT (l.getD i default).T := by
  obtain ⟨a', cap', h1, _, h2⟩ := h
  cases h1
  obtain ⟨p, cs, h3, _, h4, vF, vT, h5, h6, h7⟩ := h2 i hi
  subst h5
  exact ⟨p, vF, vT, h3, h4, h6, h7⟩
theorem ActsAt.val {h0 : Nat} {w : World} {v : Value} {l : List A7} (h : ActsAt h0 w v l) : ∃ (a : Option Addr) (cap : Nat), v = .slice a l.length cap := by
  obtain ⟨a, cap, h1, _⟩ := h; exact ⟨a, cap, h1⟩

theorem law_made {w : World} {v : Value} {l : List A7} {h0 : Nat} (hl : ActsAt h0 w v l) (hh : h0 ≤ w.heap.size) (n : Int) : Cs Try.prog 11 [.int .i64 n, v] w fun r w' => Only [] w w' ∧
    ((r = .tuple #[.pointer none, .pointer none] ∧ (gr l = true ∨ newO n = none)) ∨
      (gr l = false ∧ ∃ a b fp rp s, r = .tuple #[.pointer (some a), .pointer (some b)] ∧ playsO (newO n) l = some s ∧ Two w' h0 (some a) (some b) fp rp (some s) ∧ ∀ x, x ∈ fp ++ rp → w.heap.size ≤ x)) := by
  refine enter_law03_made rfl ?_
  unfold x_law03_made
  (repeat (first | with_reducible refine run_seq ?_ | with_reducible refine run_reg ?_ | with_reducible refine run_block ?_ | with_reducible refine run_blk ?_ | with_reducible refine run_skip ?_ | with_reducible refine run_exit rfl ?_ | with_reducible refine run_drw ?_ | with_reducible refine run_condT ?_ | with_reducible refine run_ret' ?_ | with_reducible refine run_end' ?_ | simp only [go_sem, ↓reduceIte, Nat.reduceAdd, Nat.reduceEqDiff, Nat.reduceBEq, reduceCtorEq, Int.reduceBEq, Int.reduceBNe, Int.reduceLT, Int.reduceLE]))
  refine callT (New_m w n) ?_
  rintro r w1 ⟨ho1, a, fp, rfl, hp, hpn, hpf⟩
  (repeat (first | with_reducible refine run_seq ?_ | with_reducible refine run_reg ?_ | with_reducible refine run_block ?_ | with_reducible refine run_blk ?_ | with_reducible refine run_skip ?_ | with_reducible refine run_exit rfl ?_ | with_reducible refine run_drw ?_ | with_reducible refine run_condT ?_ | with_reducible refine run_ret' ?_ | with_reducible refine run_end' ?_ | simp only [go_sem, ↓reduceIte, Nat.reduceAdd, Nat.reduceEqDiff, Nat.reduceBEq, reduceCtorEq, Int.reduceBEq, Int.reduceBNe, Int.reduceLT, Int.reduceLE]))
  refine callT (rNew w1 n) ?_
  rintro r w2 ⟨ho2, b, rp, rfl, hr, hrn, hrf⟩
  have ho := ho1.nil ho2
  (repeat (first | with_reducible refine run_seq ?_ | with_reducible refine run_reg ?_ | with_reducible refine run_block ?_ | with_reducible refine run_blk ?_ | with_reducible refine run_skip ?_ | with_reducible refine run_exit rfl ?_ | with_reducible refine run_drw ?_ | with_reducible refine run_condT ?_ | with_reducible refine run_ret' ?_ | with_reducible refine run_end' ?_ | simp only [go_sem, ↓reduceIte, Nat.reduceAdd, Nat.reduceEqDiff, Nat.reduceBEq, reduceCtorEq, Int.reduceBEq, Int.reduceBNe, Int.reduceLT, Int.reduceLE]))
  refine callT0 (law_great (hl.keep hh ho (by simp))) ?_
  cases hg : gr l with
  | true =>
    (repeat (first | with_reducible refine run_seq ?_ | with_reducible refine run_reg ?_ | with_reducible refine run_block ?_ | with_reducible refine run_blk ?_ | with_reducible refine run_skip ?_ | with_reducible refine run_exit rfl ?_ | with_reducible refine run_drw ?_ | with_reducible refine run_condT ?_ | with_reducible refine run_ret' ?_ | with_reducible refine run_end' ?_ | simp only [go_sem, ↓reduceIte, Nat.reduceAdd, Nat.reduceEqDiff, Nat.reduceBEq, reduceCtorEq, Int.reduceBEq, Int.reduceBNe, Int.reduceLT, Int.reduceLE]))
    exact ho
  | false =>
    cases hm : newO n with
    | none =>
      have := hrn hm
      subst this
      (repeat (first | with_reducible refine run_seq ?_ | with_reducible refine run_reg ?_ | with_reducible refine run_block ?_ | with_reducible refine run_blk ?_ | with_reducible refine run_skip ?_ | with_reducible refine run_exit rfl ?_ | with_reducible refine run_drw ?_ | with_reducible refine run_condT ?_ | with_reducible refine run_ret' ?_ | with_reducible refine run_end' ?_ | simp only [go_sem, ↓reduceIte, Nat.reduceAdd, Nat.reduceEqDiff, Nat.reduceBEq, reduceCtorEq, Int.reduceBEq, Int.reduceBNe, Int.reduceLT, Int.reduceLE]))
      exact ho
    | some s0 =>
      rw [hm] at hp hr
      obtain ⟨ba, rfl, hpm⟩ := hp
      obtain ⟨bb, rfl, hrm⟩ := hr
      have hz1 := ho1.size
      have hz2 := ho2.size
      have hlp := hpm.lt
      have ht : Two w2 h0 (some ⟨ba, 0, none⟩) (some ⟨bb, 0, none⟩) fp rp (some s0) := ⟨⟨ba, rfl, hpm.keep ho2 (by simp)⟩, ⟨bb, rfl, hrm⟩, fun x hx hx2 => by have := hrf x hx2; have := hlp x hx; omega, fun x hx => by
        rcases List.mem_append.1 hx with hx | hx
        · have := hpf x hx; omega
        · have := hrf x hx; omega⟩
      have hnew : ∀ x, x ∈ fp ++ rp → w.heap.size ≤ x := fun x hx => by
        rcases List.mem_append.1 hx with hx | hx
        · exact hpf x hx
        · have := hrf x hx; omega
      obtain ⟨al, cl, rfl⟩ := hl.val
      obtain ⟨hl100, hsm⟩ := gr_false hg
      (repeat (first | with_reducible refine run_seq ?_ | with_reducible refine run_reg ?_ | with_reducible refine run_block ?_ | with_reducible refine run_blk ?_ | with_reducible refine run_skip ?_ | with_reducible refine run_exit rfl ?_ | with_reducible refine run_drw ?_ | with_reducible refine run_condT ?_ | with_reducible refine run_ret' ?_ | with_reducible refine run_end' ?_ | simp only [go_sem, ↓reduceIte, Nat.reduceAdd, Nat.reduceEqDiff, Nat.reduceBEq, reduceCtorEq, Int.reduceBEq, Int.reduceBNe, Int.reduceLT, Int.reduceLE]))
      refine run_loop (10 :: 27 :: 28 :: 29 :: 30 :: 31 :: 32 :: 33 :: 34 :: 35 :: 36 :: 37 :: 38 :: 39 :: []) (fun g w' => ∃ (i : Nat) (fp' rp' : List Nat), g 10 = .int .i64 i ∧ i ≤ l.length ∧ Two w' h0 (some ⟨ba, 0, none⟩) (some ⟨bb, 0, none⟩) fp' rp' (playsO (some s0) (l.take i)) ∧ (∀ x, x ∈ fp' ++ rp' → w.heap.size ≤ x) ∧ Only [] w w') (fun g _ => upTo l.length 10 g)
        ⟨0, fp, rp, by simp only [go_sem, ↓reduceIte, Nat.reduceAdd, Nat.reduceEqDiff, Nat.reduceBEq, reduceCtorEq, Int.reduceBEq, Int.reduceBNe, Int.reduceLT, Int.reduceLE]; rfl, by omega, by simpa [playsO] using ht, hnew, ho⟩ fun g w3 hI hnext => ?_
      obtain ⟨i, fp', rp', h10, hi, ht3, hnew3, ho3⟩ := hI
      have hz3 := ho3.size
      (repeat (first | with_reducible refine run_seq ?_ | with_reducible refine run_reg ?_ | with_reducible refine run_block ?_ | with_reducible refine run_blk ?_ | with_reducible refine run_skip ?_ | with_reducible refine run_exit rfl ?_ | with_reducible refine run_drw ?_ | with_reducible refine run_condT ?_ | with_reducible refine run_ret' ?_ | with_reducible refine run_end' ?_ | simp only [go_sem, ↓reduceIte, Nat.reduceAdd, Nat.reduceEqDiff, Nat.reduceBEq, reduceCtorEq, Int.reduceBEq, Int.reduceBNe, Int.reduceLT, Int.reduceLE, h10]))
      refine condT (fun hlt => ?_) (fun hge => ?_)
      · have hlt : i < l.length := by simpa using hlt
        obtain ⟨p, vF, vT, rfl, hc, hF, hT⟩ := (hl.keep hh ho3 (by simp)).read hlt
        have e1 : (0 : Int) ≤ (i : Int) ∧ (i : Int) < (l.length : Int) := ⟨by omega, by omega⟩
        (repeat (first | with_reducible refine run_seq ?_ | with_reducible refine run_reg ?_ | with_reducible refine run_block ?_ | with_reducible refine run_blk ?_ | with_reducible refine run_skip ?_ | with_reducible refine run_exit rfl ?_ | with_reducible refine run_drw ?_ | with_reducible refine run_condT ?_ | with_reducible refine run_ret' ?_ | with_reducible refine run_end' ?_ | simp only [go_sem, ↓reduceIte, Nat.reduceAdd, Nat.reduceEqDiff, Nat.reduceBEq, reduceCtorEq, Int.reduceBEq, Int.reduceBNe, Int.reduceLT, Int.reduceLE, h10, if_pos e1, Int.toNat_natCast, hc]))
        refine callT (law_play ht3 (by omega) hF hT (hsm i hlt)) ?_
        rintro r w4 ⟨rfl, fp4, rp4, ht4, ho4, hn4⟩
        (repeat (first | with_reducible refine run_seq ?_ | with_reducible refine run_reg ?_ | with_reducible refine run_block ?_ | with_reducible refine run_blk ?_ | with_reducible refine run_skip ?_ | with_reducible refine run_exit rfl ?_ | with_reducible refine run_drw ?_ | with_reducible refine run_condT ?_ | with_reducible refine run_ret' ?_ | with_reducible refine run_end' ?_ | simp only [go_sem, ↓reduceIte, Nat.reduceAdd, Nat.reduceEqDiff, Nat.reduceBEq, reduceCtorEq, Int.reduceBEq, Int.reduceBNe, Int.reduceLT, Int.reduceLE, h10, i64_succ i (by omega)]))
        refine hnext _ w4 ?_ ⟨i + 1, fp4, rp4, ?_, by omega, by rw [playsO_succ hlt]; exact ht4, fun x hx => (hn4 x hx).elim (hnew3 x) (fun h => by omega), ho3.trans ho4 fun x hx => .inr (hnew3 x hx)⟩ ?_
        · (repeat (first | with_reducible exact Keeps.refl _ _ | with_reducible exact Keeps.ovr _ _ _ | refine Keeps.put ?_ rfl _ | exact Keeps.refl _ _ | exact Keeps.ovr _ _ _ | refine Keeps.ovr2 ?_ rfl _))
        · simp only [go_sem, ↓reduceIte, Nat.reduceAdd, Nat.reduceEqDiff, Nat.reduceBEq, reduceCtorEq, Int.reduceBEq, Int.reduceBNe, Int.reduceLT, Int.reduceLE]
        · rw [upTo_int h10, upTo_int (k := .i64) (i := i + 1) (by simp only [go_sem, ↓reduceIte, Nat.reduceAdd, Nat.reduceEqDiff, Nat.reduceBEq, reduceCtorEq, Int.reduceBEq, Int.reduceBNe, Int.reduceLT, Int.reduceLE])]; omega
      · have : i = l.length := by have : ¬ (i < l.length) := by simpa using hge
                                  omega
        subst this
        rw [List.take_length] at ht3
        (repeat (first | with_reducible refine run_seq ?_ | with_reducible refine run_reg ?_ | with_reducible refine run_block ?_ | with_reducible refine run_blk ?_ | with_reducible refine run_skip ?_ | with_reducible refine run_exit rfl ?_ | with_reducible refine run_drw ?_ | with_reducible refine run_condT ?_ | with_reducible refine run_ret' ?_ | with_reducible refine run_end' ?_ | simp only [go_sem, ↓reduceIte, Nat.reduceAdd, Nat.reduceEqDiff, Nat.reduceBEq, reduceCtorEq, Int.reduceBEq, Int.reduceBNe, Int.reduceLT, Int.reduceLE]))
        cases hs : playsO (some s0) l with
        | none => have := playsO_some l (some s0); rw [hs] at this; cases this
        | some s =>
          rw [hs] at ht3
          exact ⟨ho3, .inr (by first | exact ⟨_, _, fp', rp', ⟨rfl, rfl⟩, ht3, hnew3⟩ | exact ⟨rfl, _, _, fp', rp', s, rfl, rfl, ht3, hnew3⟩ | exact ⟨_, _, fp', rp', s, rfl, rfl, ht3, hnew3⟩)⟩

theorem getO_pj {s : MS} (h : s.Ok) {i : Nat} (hi : i < 16 * s.M + 16 + s.Q.length) : getO (some s) (pj s i) = (s.V.getD i 0, 0) := by
  unfold getO; simp only [seg_pj hi, rd_segJ h hi]

theorem law_all2 {w : World} {a b : Option Addr} {fp rp : List Nat} {s t : MS} (hpr : PR w a fp (some s)) (hrr : RR w b rp (some t)) (hM : t.M = s.M) (hQ : t.Q.length = s.Q.length) : Cs Try.prog 13 [.pointer a, .pointer b] w fun r w' => Only [] w w' ∧ ∃ f, Sl w' 1 r s.V.length (ints s.V) f ∧ ∀ x, x ∈ f → w.heap.size ≤ x := by
  have hok : s.Ok := by obtain ⟨_, _, _, _, _, _, _, _, _, k⟩ := hpr; exact k.ok
  have hV := V_le hok
  have hVl := V_length hok
  refine enter_law03_all rfl ?_
  unfold x_law03_all
  (repeat (first | with_reducible refine run_seq ?_ | with_reducible refine run_reg ?_ | with_reducible refine run_block ?_ | with_reducible refine run_blk ?_ | with_reducible refine run_skip ?_ | with_reducible refine run_exit rfl ?_ | with_reducible refine run_drw ?_ | with_reducible refine run_condT ?_ | with_reducible refine run_ret' ?_ | with_reducible refine run_end' ?_ | simp only [go_sem, ↓reduceIte, Nat.reduceAdd, Nat.reduceEqDiff, Nat.reduceBEq, reduceCtorEq, Int.reduceBEq, Int.reduceBNe, Int.reduceLT, Int.reduceLE]))
  refine callT (rEvery hrr) ?_
  rintro v4 w1 ⟨ho1, fE, hsE, hfE⟩
  have hEl := hsE.lt
  obtain ⟨a4, c4, e4⟩ := hsE.val
  subst e4
  (repeat (first | with_reducible refine run_seq ?_ | with_reducible refine run_reg ?_ | with_reducible refine run_block ?_ | with_reducible refine run_blk ?_ | with_reducible refine run_skip ?_ | with_reducible refine run_exit rfl ?_ | with_reducible refine run_drw ?_ | with_reducible refine run_condT ?_ | with_reducible refine run_ret' ?_ | with_reducible refine run_end' ?_ | simp only [go_sem, ↓reduceIte, Nat.reduceAdd, Nat.reduceEqDiff, Nat.reduceBEq, reduceCtorEq, Int.reduceBEq, Int.reduceBNe, Int.reduceLT, Int.reduceLE]))
  have h1 := hpr.keep0 ho1
  have hev : everyO (some t) = everyO (some s) := by show everyS t = everyS s; rw [every_eq, every_eq, hM, hQ]; congr 1; funext j; unfold pj; rw [hM]
  rw [hev] at hsE ⊢
  refine run_loop (5 :: 7 :: 8 :: 9 :: 12 :: 13 :: 14 :: 15 :: 16 :: 17 :: 18 :: 19 :: 20 :: 21 :: 22 :: 23 :: 24 :: 25 :: 26 :: 27 :: 28 :: 29 :: 30 :: []) (fun g w' => ∃ (i : Nat) (v : Value) (f : List Nat), g 7 = .int .i64 i ∧ g 5 = v ∧ i ≤ s.V.length ∧ Sl w' 1 v (s.V.take i).length (ints (s.V.take i)) f ∧ (∀ x, x ∈ f → w1.heap.size ≤ x) ∧ Only [] w1 w') (fun g _ => upTo s.V.length 7 g)
    ⟨0, _, [], by simp only [go_sem, ↓reduceIte, Nat.reduceAdd, Nat.reduceEqDiff, Nat.reduceBEq, reduceCtorEq, Int.reduceBEq, Int.reduceBNe, Int.reduceLT, Int.reduceLE]; rfl, by simp only [go_sem, ↓reduceIte, Nat.reduceAdd, Nat.reduceEqDiff, Nat.reduceBEq, reduceCtorEq, Int.reduceBEq, Int.reduceBNe, Int.reduceLT, Int.reduceLE], by omega, Sl.nil1 w1, by simp, Only.refl _ _⟩ fun g w2 hI hnext => ?_
  obtain ⟨i, v, f, h7, h5, hi, hs, hf, ho⟩ := hI
  have hel := everyO_length (s := s)
  (repeat (first | with_reducible refine run_seq ?_ | with_reducible refine run_reg ?_ | with_reducible refine run_block ?_ | with_reducible refine run_blk ?_ | with_reducible refine run_skip ?_ | with_reducible refine run_exit rfl ?_ | with_reducible refine run_drw ?_ | with_reducible refine run_condT ?_ | with_reducible refine run_ret' ?_ | with_reducible refine run_end' ?_ | simp only [go_sem, ↓reduceIte, Nat.reduceAdd, Nat.reduceEqDiff, Nat.reduceBEq, reduceCtorEq, Int.reduceBEq, Int.reduceBNe, Int.reduceLT, Int.reduceLE, h7]))
  refine condT (fun hlt => ?_) (fun hge => ?_)
  · have hlt : i < s.V.length := by have : (i : Int) < (((everyO (some s)).length : Nat) : Int) := by simpa using hlt
                                    omega
    obtain ⟨gE, cE, hvE, hcE, hgE⟩ := (hsE.keep0 ho).place (i := i) (by rw [hel]; omega)
    cases hvE
    rw [every_getD (by omega)] at hcE
    have c1 : (0 : Int) ≤ (i : Int) ∧ (i : Int) < (((everyO (some s)).length : Nat) : Int) := ⟨by omega, by omega⟩
    (repeat (first | with_reducible refine run_seq ?_ | with_reducible refine run_reg ?_ | with_reducible refine run_block ?_ | with_reducible refine run_blk ?_ | with_reducible refine run_skip ?_ | with_reducible refine run_exit rfl ?_ | with_reducible refine run_drw ?_ | with_reducible refine run_condT ?_ | with_reducible refine run_ret' ?_ | with_reducible refine run_end' ?_ | simp only [go_sem, ↓reduceIte, Nat.reduceAdd, Nat.reduceEqDiff, Nat.reduceBEq, reduceCtorEq, Int.reduceBEq, Int.reduceBNe, Int.reduceLT, Int.reduceLE, h7, if_pos c1, Int.toNat_natCast, hcE]))
    refine callT (Get_m (h1.keep0 ho) (pj s i)) ?_
    rintro r w3 ⟨rfl, ho3⟩
    (repeat (first | with_reducible refine run_seq ?_ | with_reducible refine run_reg ?_ | with_reducible refine run_block ?_ | with_reducible refine run_blk ?_ | with_reducible refine run_skip ?_ | with_reducible refine run_exit rfl ?_ | with_reducible refine run_drw ?_ | with_reducible refine run_condT ?_ | with_reducible refine run_ret' ?_ | with_reducible refine run_end' ?_ | simp only [go_sem, ↓reduceIte, Nat.reduceAdd, Nat.reduceEqDiff, Nat.reduceBEq, reduceCtorEq, Int.reduceBEq, Int.reduceBNe, Int.reduceLT, Int.reduceLE, h5, getO_pj hok (show i < 16 * s.M + 16 + s.Q.length by omega)]))
    rw [fillL_one rfl rfl]
    (repeat (first | with_reducible refine run_seq ?_ | with_reducible refine run_reg ?_ | with_reducible refine run_block ?_ | with_reducible refine run_blk ?_ | with_reducible refine run_skip ?_ | with_reducible refine run_exit rfl ?_ | with_reducible refine run_drw ?_ | with_reducible refine run_condT ?_ | with_reducible refine run_ret' ?_ | with_reducible refine run_end' ?_ | simp only [go_sem, ↓reduceIte, Nat.reduceAdd, Nat.reduceEqDiff, Nat.reduceBEq, reduceCtorEq, Int.reduceBEq, Int.reduceBNe, Int.reduceLT, Int.reduceLE]))
    refine bslT fun q w4 hq hs4 hat4 ho4 => ?_
    (repeat (first | with_reducible refine run_seq ?_ | with_reducible refine run_reg ?_ | with_reducible refine run_block ?_ | with_reducible refine run_blk ?_ | with_reducible refine run_skip ?_ | with_reducible refine run_exit rfl ?_ | with_reducible refine run_drw ?_ | with_reducible refine run_condT ?_ | with_reducible refine run_ret' ?_ | with_reducible refine run_end' ?_ | simp only [go_sem, ↓reduceIte, Nat.reduceAdd, Nat.reduceEqDiff, Nat.reduceBEq, reduceCtorEq, Int.reduceBEq, Int.reduceBNe, Int.reduceLT, Int.reduceLE, h5]))
    refine appT ((hs.keep0 ho3).keep0 ho4) (SrcIs.at hat4 rfl) (by simp [oneC]) (by simp; omega) (by simp; omega) ?_
    intro v5 w5 f5 hs5 hf5 ho5 _
    have hz2 := ho.size
    have hz3 := ho3.size
    have hz4 := ho4.size
    (repeat (first | with_reducible refine run_seq ?_ | with_reducible refine run_reg ?_ | with_reducible refine run_block ?_ | with_reducible refine run_blk ?_ | with_reducible refine run_skip ?_ | with_reducible refine run_exit rfl ?_ | with_reducible refine run_drw ?_ | with_reducible refine run_condT ?_ | with_reducible refine run_ret' ?_ | with_reducible refine run_end' ?_ | simp only [go_sem, ↓reduceIte, Nat.reduceAdd, Nat.reduceEqDiff, Nat.reduceBEq, reduceCtorEq, Int.reduceBEq, Int.reduceBNe, Int.reduceLT, Int.reduceLE, h7, i64_succ i (by omega)]))
    have et : s.V.take (i + 1) = s.V.take i ++ [s.V.getD i 0] := by rw [List.take_succ_eq_append_getElem hlt]; simp [hlt]
    refine hnext _ w5 ?_ ⟨i + 1, v5, f5, ?_, ?_, by omega, by rw [et, List.length_append, ints_append]; exact hs5, ?_, ((ho.nil ho3).nil ho4).trans ho5 fun x hx => .inr (hf x hx)⟩ ?_
    · (repeat (first | with_reducible exact Keeps.refl _ _ | with_reducible exact Keeps.ovr _ _ _ | refine Keeps.put ?_ rfl _ | exact Keeps.refl _ _ | exact Keeps.ovr _ _ _ | refine Keeps.ovr2 ?_ rfl _))
    · simp only [go_sem, ↓reduceIte, Nat.reduceAdd, Nat.reduceEqDiff, Nat.reduceBEq, reduceCtorEq, Int.reduceBEq, Int.reduceBNe, Int.reduceLT, Int.reduceLE]
    · simp only [go_sem, ↓reduceIte, Nat.reduceAdd, Nat.reduceEqDiff, Nat.reduceBEq, reduceCtorEq, Int.reduceBEq, Int.reduceBNe, Int.reduceLT, Int.reduceLE]
    · intro x hx
      rcases hf5 with rfl | rfl
      · exact hf x hx
      · simp only [List.mem_singleton] at hx; omega
    · rw [upTo_int h7, upTo_int (k := .i64) (i := i + 1) (by simp only [go_sem, ↓reduceIte, Nat.reduceAdd, Nat.reduceEqDiff, Nat.reduceBEq, reduceCtorEq, Int.reduceBEq, Int.reduceBNe, Int.reduceLT, Int.reduceLE])]; omega
  · have hge : ¬ (i : Int) < (((everyO (some s)).length : Nat) : Int) := by simpa using hge
    have : i = s.V.length := by omega
    subst this
    rw [List.take_length] at hs
    (repeat (first | with_reducible refine run_seq ?_ | with_reducible refine run_reg ?_ | with_reducible refine run_block ?_ | with_reducible refine run_blk ?_ | with_reducible refine run_skip ?_ | with_reducible refine run_exit rfl ?_ | with_reducible refine run_drw ?_ | with_reducible refine run_condT ?_ | with_reducible refine run_ret' ?_ | with_reducible refine run_end' ?_ | simp only [go_sem, ↓reduceIte, Nat.reduceAdd, Nat.reduceEqDiff, Nat.reduceBEq, reduceCtorEq, Int.reduceBEq, Int.reduceBNe, Int.reduceLT, Int.reduceLE, h5]))
    exact ⟨ho1.nil ho, f, hs, fun x hx => by have := hf x hx; have := ho1.size; omega⟩

theorem law_all {w : World} {h0 : Nat} {a b : Option Addr} {fp rp : List Nat} {s : MS} (h : Two w h0 a b fp rp (some s)) : Cs Try.prog 13 [.pointer a, .pointer b] w fun r w' => Only [] w w' ∧ ∃ f, Sl w' 1 r s.V.length (ints s.V) f ∧ ∀ x, x ∈ f → w.heap.size ≤ x := law_all2 h.p h.r rfl rfl

theorem law_same {w : World} {a b : Option Addr} {fp rp : List Nat} {m : MO} (hp : PR w a fp m) (hr : RR w b rp m) (hab : a.isNone = b.isNone) : Cs Try.prog 29 [.pointer a, .pointer b] w fun r w' => r = .bool true ∧ Only [] w w' := by
  refine enter_law03_Same rfl ?_
  unfold x_law03_Same
  have hlen : (placesO m).length ≤ 100000 ∧ (leadsO m).length ≤ 100000 ∧ (queueO m).length ≤ 100000 := by
    match m, hr with
    | none, _ => exact ⟨by simp [placesO], by simp [leadsO], by simp [queueO]⟩
    | some s, ⟨_, _, _, _, _, _, _, _, _, _, k⟩ =>
      have hok := k.ok
      have hV := V_le hok
      rw [V_length hok] at hV
      have h1 := idx_length (s := s)
      have h2 := ldU_length s (idx s).length
      rw [ldU_end hok] at h2
      have h3 := hok.lq
      exact ⟨by rw [placesO_length hok]; omega, by omega, by simp only [queueO]; omega⟩
  (repeat (first | with_reducible refine run_seq ?_ | with_reducible refine run_reg ?_ | with_reducible refine run_block ?_ | with_reducible refine run_blk ?_ | with_reducible refine run_skip ?_ | with_reducible refine run_exit rfl ?_ | with_reducible refine run_drw ?_ | with_reducible refine run_condT ?_ | with_reducible refine run_ret' ?_ | with_reducible refine run_end' ?_ | simp only [go_sem, ↓reduceIte, Nat.reduceAdd, Nat.reduceEqDiff, Nat.reduceBEq, reduceCtorEq, Int.reduceBEq, Int.reduceBNe, Int.reduceLT, Int.reduceLE]))
  refine callT0 (Mutators_m hp) ?_
  (repeat (first | with_reducible refine run_seq ?_ | with_reducible refine run_reg ?_ | with_reducible refine run_block ?_ | with_reducible refine run_blk ?_ | with_reducible refine run_skip ?_ | with_reducible refine run_exit rfl ?_ | with_reducible refine run_drw ?_ | with_reducible refine run_condT ?_ | with_reducible refine run_ret' ?_ | with_reducible refine run_end' ?_ | simp only [go_sem, ↓reduceIte, Nat.reduceAdd, Nat.reduceEqDiff, Nat.reduceBEq, reduceCtorEq, Int.reduceBEq, Int.reduceBNe, Int.reduceLT, Int.reduceLE]))
  refine callT0 (rMutators hr) ?_
  (repeat (first | with_reducible refine run_seq ?_ | with_reducible refine run_reg ?_ | with_reducible refine run_block ?_ | with_reducible refine run_blk ?_ | with_reducible refine run_skip ?_ | with_reducible refine run_exit rfl ?_ | with_reducible refine run_drw ?_ | with_reducible refine run_condT ?_ | with_reducible refine run_ret' ?_ | with_reducible refine run_end' ?_ | simp only [go_sem, ↓reduceIte, Nat.reduceAdd, Nat.reduceEqDiff, Nat.reduceBEq, reduceCtorEq, Int.reduceBEq, Int.reduceBNe, Int.reduceLT, Int.reduceLE, bne_int_false (rfl : mutO m = mutO m)]))
  refine callT (Places_m hp) ?_
  rintro v1 w1 ⟨ho1, f1, hs1, hf1⟩
  (repeat (first | with_reducible refine run_seq ?_ | with_reducible refine run_reg ?_ | with_reducible refine run_block ?_ | with_reducible refine run_blk ?_ | with_reducible refine run_skip ?_ | with_reducible refine run_exit rfl ?_ | with_reducible refine run_drw ?_ | with_reducible refine run_condT ?_ | with_reducible refine run_ret' ?_ | with_reducible refine run_end' ?_ | simp only [go_sem, ↓reduceIte, Nat.reduceAdd, Nat.reduceEqDiff, Nat.reduceBEq, reduceCtorEq, Int.reduceBEq, Int.reduceBNe, Int.reduceLT, Int.reduceLE]))
  refine callT (rPlaces (hr.keep0 ho1)) ?_
  rintro v2 w2 ⟨ho2, f2, hs2, hf2⟩
  (repeat (first | with_reducible refine run_seq ?_ | with_reducible refine run_reg ?_ | with_reducible refine run_block ?_ | with_reducible refine run_blk ?_ | with_reducible refine run_skip ?_ | with_reducible refine run_exit rfl ?_ | with_reducible refine run_drw ?_ | with_reducible refine run_condT ?_ | with_reducible refine run_ret' ?_ | with_reducible refine run_end' ?_ | simp only [go_sem, ↓reduceIte, Nat.reduceAdd, Nat.reduceEqDiff, Nat.reduceBEq, reduceCtorEq, Int.reduceBEq, Int.reduceBNe, Int.reduceLT, Int.reduceLE]))
  refine callT (law_samePlaces (hs1.keep0 ho2) hs2 hlen.1) ?_
  rintro r w3 ⟨rfl, ho3⟩
  have o3 := (ho1.nil ho2).nil ho3
  (repeat (first | with_reducible refine run_seq ?_ | with_reducible refine run_reg ?_ | with_reducible refine run_block ?_ | with_reducible refine run_blk ?_ | with_reducible refine run_skip ?_ | with_reducible refine run_exit rfl ?_ | with_reducible refine run_drw ?_ | with_reducible refine run_condT ?_ | with_reducible refine run_ret' ?_ | with_reducible refine run_end' ?_ | simp only [go_sem, ↓reduceIte, Nat.reduceAdd, Nat.reduceEqDiff, Nat.reduceBEq, reduceCtorEq, Int.reduceBEq, Int.reduceBNe, Int.reduceLT, Int.reduceLE, decide_eq_true (rfl : placesO m = placesO m)]))
  refine callT (Leads_m (hp.keep0 o3)) ?_
  rintro v1 w4 ⟨ho4, f4, hs4, hf4⟩
  (repeat (first | with_reducible refine run_seq ?_ | with_reducible refine run_reg ?_ | with_reducible refine run_block ?_ | with_reducible refine run_blk ?_ | with_reducible refine run_skip ?_ | with_reducible refine run_exit rfl ?_ | with_reducible refine run_drw ?_ | with_reducible refine run_condT ?_ | with_reducible refine run_ret' ?_ | with_reducible refine run_end' ?_ | simp only [go_sem, ↓reduceIte, Nat.reduceAdd, Nat.reduceEqDiff, Nat.reduceBEq, reduceCtorEq, Int.reduceBEq, Int.reduceBNe, Int.reduceLT, Int.reduceLE]))
  refine callT (rLeads ((hr.keep0 o3).keep0 ho4)) ?_
  rintro v2 w5 ⟨ho5, f5, hs5, hf5⟩
  (repeat (first | with_reducible refine run_seq ?_ | with_reducible refine run_reg ?_ | with_reducible refine run_block ?_ | with_reducible refine run_blk ?_ | with_reducible refine run_skip ?_ | with_reducible refine run_exit rfl ?_ | with_reducible refine run_drw ?_ | with_reducible refine run_condT ?_ | with_reducible refine run_ret' ?_ | with_reducible refine run_end' ?_ | simp only [go_sem, ↓reduceIte, Nat.reduceAdd, Nat.reduceEqDiff, Nat.reduceBEq, reduceCtorEq, Int.reduceBEq, Int.reduceBNe, Int.reduceLT, Int.reduceLE]))
  refine callT (law_ints (hs4.keep0 ho5).rd hs5.rd hlen.2.1) ?_
  rintro r w6 ⟨rfl, ho6⟩
  have o6 := ((o3.nil ho4).nil ho5).nil ho6
  (repeat (first | with_reducible refine run_seq ?_ | with_reducible refine run_reg ?_ | with_reducible refine run_block ?_ | with_reducible refine run_blk ?_ | with_reducible refine run_skip ?_ | with_reducible refine run_exit rfl ?_ | with_reducible refine run_drw ?_ | with_reducible refine run_condT ?_ | with_reducible refine run_ret' ?_ | with_reducible refine run_end' ?_ | simp only [go_sem, ↓reduceIte, Nat.reduceAdd, Nat.reduceEqDiff, Nat.reduceBEq, reduceCtorEq, Int.reduceBEq, Int.reduceBNe, Int.reduceLT, Int.reduceLE, decide_eq_true (rfl : leadsO m = leadsO m)]))
  refine callT (Queue_m (hp.keep0 o6)) ?_
  rintro v1 w7 ⟨ho7, f7, hs7, hf7⟩
  (repeat (first | with_reducible refine run_seq ?_ | with_reducible refine run_reg ?_ | with_reducible refine run_block ?_ | with_reducible refine run_blk ?_ | with_reducible refine run_skip ?_ | with_reducible refine run_exit rfl ?_ | with_reducible refine run_drw ?_ | with_reducible refine run_condT ?_ | with_reducible refine run_ret' ?_ | with_reducible refine run_end' ?_ | simp only [go_sem, ↓reduceIte, Nat.reduceAdd, Nat.reduceEqDiff, Nat.reduceBEq, reduceCtorEq, Int.reduceBEq, Int.reduceBNe, Int.reduceLT, Int.reduceLE]))
  refine callT (rQueue ((hr.keep0 o6).keep0 ho7)) ?_
  rintro v2 w8 ⟨ho8, f8, hs8, hf8⟩
  (repeat (first | with_reducible refine run_seq ?_ | with_reducible refine run_reg ?_ | with_reducible refine run_block ?_ | with_reducible refine run_blk ?_ | with_reducible refine run_skip ?_ | with_reducible refine run_exit rfl ?_ | with_reducible refine run_drw ?_ | with_reducible refine run_condT ?_ | with_reducible refine run_ret' ?_ | with_reducible refine run_end' ?_ | simp only [go_sem, ↓reduceIte, Nat.reduceAdd, Nat.reduceEqDiff, Nat.reduceBEq, reduceCtorEq, Int.reduceBEq, Int.reduceBNe, Int.reduceLT, Int.reduceLE]))
  refine callT (law_ints (hs7.keep0 ho8).rd hs8.rd hlen.2.2) ?_
  rintro r w9 ⟨rfl, ho9⟩
  have o9 := ((o6.nil ho7).nil ho8).nil ho9
  have tail : ∀ ρ : Env, True := fun _ => trivial
  have hr9 := hr.keep0 o9
  have hp9 := hp.keep0 o9
  have both : (a = none ∧ b = none) ∨ ∃ x y, a = some x ∧ b = some y := by
    cases a <;> cases b <;> simp_all
  rcases both with ⟨rfl, rfl⟩ | ⟨x, y, rfl, rfl⟩
  · (repeat (first | with_reducible refine run_seq ?_ | with_reducible refine run_reg ?_ | with_reducible refine run_block ?_ | with_reducible refine run_blk ?_ | with_reducible refine run_skip ?_ | with_reducible refine run_exit rfl ?_ | with_reducible refine run_drw ?_ | with_reducible refine run_condT ?_ | with_reducible refine run_ret' ?_ | with_reducible refine run_end' ?_ | simp only [go_sem, ↓reduceIte, Nat.reduceAdd, Nat.reduceEqDiff, Nat.reduceBEq, reduceCtorEq, Int.reduceBEq, Int.reduceBNe, Int.reduceLT, Int.reduceLE, decide_eq_true (rfl : queueO m = queueO m)]))
    refine callT (rEvery hr9) ?_
    rintro v w10 ⟨ho10, f10, hs10, hf10⟩
    have hm : m = none := by
      match m, hp with
      | none, _ => rfl
      | some s, ⟨_, h, _⟩ => cases h
    subst hm
    obtain ⟨av, cv, rfl⟩ := hs10.val
    (repeat (first | with_reducible refine run_seq ?_ | with_reducible refine run_reg ?_ | with_reducible refine run_block ?_ | with_reducible refine run_blk ?_ | with_reducible refine run_skip ?_ | with_reducible refine run_exit rfl ?_ | with_reducible refine run_drw ?_ | with_reducible refine run_condT ?_ | with_reducible refine run_ret' ?_ | with_reducible refine run_end' ?_ | simp only [go_sem, ↓reduceIte, Nat.reduceAdd, Nat.reduceEqDiff, Nat.reduceBEq, reduceCtorEq, Int.reduceBEq, Int.reduceBNe, Int.reduceLT, Int.reduceLE]))
    refine run_loop (4 :: 6 :: 7 :: 8 :: 9 :: 10 :: 49 :: 50 :: 51 :: 52 :: 53 :: 54 :: 55 :: 56 :: 57 :: 58 :: 59 :: 60 :: 61 :: 62 :: 63 :: 64 :: 65 :: 66 :: 67 :: 68 :: 69 :: 70 :: 71 :: 72 :: 73 :: 74 :: 75 :: 76 :: 77 :: 78 :: 79 :: 80 :: []) (fun g w' => ∃ i : Nat, g 6 = .int .i64 i ∧ Only [] w w') (fun g _ => upTo 0 6 g) ⟨0, by simp only [go_sem, ↓reduceIte, Nat.reduceAdd, Nat.reduceEqDiff, Nat.reduceBEq, reduceCtorEq, Int.reduceBEq, Int.reduceBNe, Int.reduceLT, Int.reduceLE]; rfl, o9.nil ho10⟩ fun g w11 hI hnext => ?_
    obtain ⟨i, h6, ho11⟩ := hI
    have e0 : ¬ (i : Int) < (((everyO none).length : Nat) : Int) := by show ¬ (i : Int) < ((0 : Nat) : Int); omega
    (repeat (first | with_reducible refine run_seq ?_ | with_reducible refine run_reg ?_ | with_reducible refine run_block ?_ | with_reducible refine run_blk ?_ | with_reducible refine run_skip ?_ | with_reducible refine run_exit rfl ?_ | with_reducible refine run_drw ?_ | with_reducible refine run_condT ?_ | with_reducible refine run_ret' ?_ | with_reducible refine run_end' ?_ | simp only [go_sem, ↓reduceIte, Nat.reduceAdd, Nat.reduceEqDiff, Nat.reduceBEq, reduceCtorEq, Int.reduceBEq, Int.reduceBNe, Int.reduceLT, Int.reduceLE, h6, decide_eq_false e0]))
    exact ho11
  · (repeat (first | with_reducible refine run_seq ?_ | with_reducible refine run_reg ?_ | with_reducible refine run_block ?_ | with_reducible refine run_blk ?_ | with_reducible refine run_skip ?_ | with_reducible refine run_exit rfl ?_ | with_reducible refine run_drw ?_ | with_reducible refine run_condT ?_ | with_reducible refine run_ret' ?_ | with_reducible refine run_end' ?_ | simp only [go_sem, ↓reduceIte, Nat.reduceAdd, Nat.reduceEqDiff, Nat.reduceBEq, reduceCtorEq, Int.reduceBEq, Int.reduceBNe, Int.reduceLT, Int.reduceLE, decide_eq_true (rfl : queueO m = queueO m)]))
    refine callT (rEvery hr9) ?_
    rintro v w10 ⟨ho10, f10, hs10, hf10⟩
    obtain ⟨av, cv, rfl⟩ := hs10.val
    (repeat (first | with_reducible refine run_seq ?_ | with_reducible refine run_reg ?_ | with_reducible refine run_block ?_ | with_reducible refine run_blk ?_ | with_reducible refine run_skip ?_ | with_reducible refine run_exit rfl ?_ | with_reducible refine run_drw ?_ | with_reducible refine run_condT ?_ | with_reducible refine run_ret' ?_ | with_reducible refine run_end' ?_ | simp only [go_sem, ↓reduceIte, Nat.reduceAdd, Nat.reduceEqDiff, Nat.reduceBEq, reduceCtorEq, Int.reduceBEq, Int.reduceBNe, Int.reduceLT, Int.reduceLE]))
    have o10 := o9.nil ho10
    have hel : (everyO m).length ≤ 1000 := by
      match m, hr with
      | none, _ => simp [everyO]
      | some s, ⟨_, _, _, _, _, _, _, _, _, _, k⟩ =>
        have hok := k.ok
        have := everyO_length (s := s)
        have := hok.m4; have := hok.lq; omega
    refine run_loop (4 :: 6 :: 7 :: 8 :: 9 :: 10 :: 49 :: 50 :: 51 :: 52 :: 53 :: 54 :: 55 :: 56 :: 57 :: 58 :: 59 :: 60 :: 61 :: 62 :: 63 :: 64 :: 65 :: 66 :: 67 :: 68 :: 69 :: 70 :: 71 :: 72 :: 73 :: 74 :: 75 :: 76 :: 77 :: 78 :: 79 :: 80 :: []) (fun g w' => ∃ i : Nat, g 6 = .int .i64 i ∧ i ≤ (everyO m).length ∧ Only [] w10 w') (fun g _ => upTo (everyO m).length 6 g) ⟨0, by simp only [go_sem, ↓reduceIte, Nat.reduceAdd, Nat.reduceEqDiff, Nat.reduceBEq, reduceCtorEq, Int.reduceBEq, Int.reduceBNe, Int.reduceLT, Int.reduceLE]; rfl, by omega, Only.refl _ _⟩ fun g w11 hI hnext => ?_
    obtain ⟨i, h6, hi, ho11⟩ := hI
    (repeat (first | with_reducible refine run_seq ?_ | with_reducible refine run_reg ?_ | with_reducible refine run_block ?_ | with_reducible refine run_blk ?_ | with_reducible refine run_skip ?_ | with_reducible refine run_exit rfl ?_ | with_reducible refine run_drw ?_ | with_reducible refine run_condT ?_ | with_reducible refine run_ret' ?_ | with_reducible refine run_end' ?_ | simp only [go_sem, ↓reduceIte, Nat.reduceAdd, Nat.reduceEqDiff, Nat.reduceBEq, reduceCtorEq, Int.reduceBEq, Int.reduceBNe, Int.reduceLT, Int.reduceLE, h6]))
    refine condT (fun hlt => ?_) (fun hge => ?_)
    · have hlt : i < (everyO m).length := by simpa using hlt
      obtain ⟨gE, cE, hvE, hcE, hgE⟩ := (hs10.keep0 ho11).place (i := i) hlt
      cases hvE
      have c1 : (0 : Int) ≤ (i : Int) ∧ (i : Int) < (((everyO m).length : Nat) : Int) := ⟨by omega, by omega⟩
      (repeat (first | with_reducible refine run_seq ?_ | with_reducible refine run_reg ?_ | with_reducible refine run_block ?_ | with_reducible refine run_blk ?_ | with_reducible refine run_skip ?_ | with_reducible refine run_exit rfl ?_ | with_reducible refine run_drw ?_ | with_reducible refine run_condT ?_ | with_reducible refine run_ret' ?_ | with_reducible refine run_end' ?_ | simp only [go_sem, ↓reduceIte, Nat.reduceAdd, Nat.reduceEqDiff, Nat.reduceBEq, reduceCtorEq, Int.reduceBEq, Int.reduceBNe, Int.reduceLT, Int.reduceLE, h6, if_pos c1, Int.toNat_natCast, hcE]))
      refine callT (Get_m (hp.keep0 (o10.nil ho11)) _) ?_
      rintro r w12 ⟨rfl, ho12⟩
      obtain ⟨gE', cE', hvE', hcE', _⟩ := (hs10.keep0 (ho11.nil ho12)).place (i := i) hlt
      cases hvE'
      (repeat (first | with_reducible refine run_seq ?_ | with_reducible refine run_reg ?_ | with_reducible refine run_block ?_ | with_reducible refine run_blk ?_ | with_reducible refine run_skip ?_ | with_reducible refine run_exit rfl ?_ | with_reducible refine run_drw ?_ | with_reducible refine run_condT ?_ | with_reducible refine run_ret' ?_ | with_reducible refine run_end' ?_ | simp only [go_sem, ↓reduceIte, Nat.reduceAdd, Nat.reduceEqDiff, Nat.reduceBEq, reduceCtorEq, Int.reduceBEq, Int.reduceBNe, Int.reduceLT, Int.reduceLE, h6, if_pos c1, Int.toNat_natCast, hcE']))
      refine callT (rGet (hr.keep0 (o10.nil (ho11.nil ho12))) _) ?_
      rintro r w13 ⟨rfl, ho13⟩
      generalize getO m ((everyO m).getD i (0, 0, 0)) = gg
      (repeat (first | with_reducible refine run_seq ?_ | with_reducible refine run_reg ?_ | with_reducible refine run_block ?_ | with_reducible refine run_blk ?_ | with_reducible refine run_skip ?_ | with_reducible refine run_exit rfl ?_ | with_reducible refine run_drw ?_ | with_reducible refine run_condT ?_ | with_reducible refine run_ret' ?_ | with_reducible refine run_end' ?_ | simp only [go_sem, ↓reduceIte, Nat.reduceAdd, Nat.reduceEqDiff, Nat.reduceBEq, reduceCtorEq, Int.reduceBEq, Int.reduceBNe, Int.reduceLT, Int.reduceLE, h6, bne_int_false (rfl : gg.1 = gg.1), bne_int_false (rfl : gg.2 = gg.2), i64_succ i (by omega)]))
      refine hnext _ w13 ?_ ⟨i + 1, ?_, by omega, (ho11.nil ho12).nil ho13⟩ ?_
      · (repeat (first | with_reducible exact Keeps.refl _ _ | with_reducible exact Keeps.ovr _ _ _ | refine Keeps.put ?_ rfl _ | exact Keeps.refl _ _ | exact Keeps.ovr _ _ _ | refine Keeps.ovr2 ?_ rfl _))
      · simp only [go_sem, ↓reduceIte, Nat.reduceAdd, Nat.reduceEqDiff, Nat.reduceBEq, reduceCtorEq, Int.reduceBEq, Int.reduceBNe, Int.reduceLT, Int.reduceLE]
      · rw [upTo_int h6, upTo_int (k := .i64) (i := i + 1) (by simp only [go_sem, ↓reduceIte, Nat.reduceAdd, Nat.reduceEqDiff, Nat.reduceBEq, reduceCtorEq, Int.reduceBEq, Int.reduceBNe, Int.reduceLT, Int.reduceLE])]; omega
    · (repeat (first | with_reducible refine run_seq ?_ | with_reducible refine run_reg ?_ | with_reducible refine run_block ?_ | with_reducible refine run_blk ?_ | with_reducible refine run_skip ?_ | with_reducible refine run_exit rfl ?_ | with_reducible refine run_drw ?_ | with_reducible refine run_condT ?_ | with_reducible refine run_ret' ?_ | with_reducible refine run_end' ?_ | simp only [go_sem, ↓reduceIte, Nat.reduceAdd, Nat.reduceEqDiff, Nat.reduceBEq, reduceCtorEq, Int.reduceBEq, Int.reduceBNe, Int.reduceLT, Int.reduceLE]))
      exact o10.nil ho11
end Go.Proofs.Ytblfmacnkacalaa
