/- Roots: the reference's New and Clone. -/
import Derived.Test.YtblfmacnkacalaaRtT
namespace Go.Proofs.Ytblfmacnkacalaa
set_option linter.unusedSimpArgs false
set_option linter.unusedVariables false
set_option maxRecDepth 8000

theorem rowS_replicate {n t : Nat} (h : t < n) : rowS (List.replicate (16 * n) 0) t = List.replicate 16 0 := by
  unfold rowS
  rw [List.drop_replicate, List.take_replicate]
  congr 1; omega

theorem rNew (w : World) (n : Int) : Cs Try.prog 25 [.int .i64 n] w fun v w' => Only [] w w' ∧ ∃ a fp, v = .tuple #[.pointer a, .int .i64 (if (newO n).isSome then 0 else 1)] ∧ RR w' a fp (newO n) ∧ (newO n = none → a = none) ∧ ∀ x, x ∈ fp → w.heap.size ≤ x := by
  refine enter_ref03_New rfl ?_
  unfold x_ref03_New
  by_cases c1 : n < 1
  · (repeat (first | with_reducible refine run_seq ?_ | with_reducible refine run_reg ?_ | with_reducible refine run_block ?_ | with_reducible refine run_blk ?_ | with_reducible refine run_skip ?_ | with_reducible refine run_exit rfl ?_ | with_reducible refine run_drw ?_ | with_reducible refine run_condT ?_ | with_reducible refine run_ret' ?_ | with_reducible refine run_end' ?_ | simp only [go_sem, ↓reduceIte, Nat.reduceAdd, Nat.reduceEqDiff, Nat.reduceBEq, reduceCtorEq, Int.reduceBEq, Int.reduceBNe, Int.reduceLT, Int.reduceLE, decide_eq_true c1]))
    have : newO n = none := by unfold newO; rw [if_neg (by omega)]
    rw [this]
    exact ⟨Only.refl _ _, none, [], rfl, ⟨rfl, rfl⟩, fun _ => rfl, by simp⟩
  by_cases c2 : 4 < n
  · (repeat (first | with_reducible refine run_seq ?_ | with_reducible refine run_reg ?_ | with_reducible refine run_block ?_ | with_reducible refine run_blk ?_ | with_reducible refine run_skip ?_ | with_reducible refine run_exit rfl ?_ | with_reducible refine run_drw ?_ | with_reducible refine run_condT ?_ | with_reducible refine run_ret' ?_ | with_reducible refine run_end' ?_ | simp only [go_sem, ↓reduceIte, Nat.reduceAdd, Nat.reduceEqDiff, Nat.reduceBEq, reduceCtorEq, Int.reduceBEq, Int.reduceBNe, Int.reduceLT, Int.reduceLE, decide_eq_false c1, decide_eq_true c2]))
    have : newO n = none := by unfold newO; rw [if_neg (by omega)]
    rw [this]
    exact ⟨Only.refl _ _, none, [], rfl, ⟨rfl, rfl⟩, fun _ => rfl, by simp⟩
  obtain ⟨k, rfl⟩ : ∃ k : Nat, n = k := ⟨n.toNat, by omega⟩
  have hnew : newO (k : Int) = some ⟨k, List.replicate (16 * k) 0, List.replicate 16 0, []⟩ := by
    unfold newO; rw [if_pos (by omega)]; simp
  (repeat (first | with_reducible refine run_seq ?_ | with_reducible refine run_reg ?_ | with_reducible refine run_block ?_ | with_reducible refine run_blk ?_ | with_reducible refine run_skip ?_ | with_reducible refine run_exit rfl ?_ | with_reducible refine run_drw ?_ | with_reducible refine run_condT ?_ | with_reducible refine run_ret' ?_ | with_reducible refine run_end' ?_ | simp only [go_sem, ↓reduceIte, Nat.reduceAdd, Nat.reduceEqDiff, Nat.reduceBEq, reduceCtorEq, Int.reduceBEq, Int.reduceBNe, Int.reduceLT, Int.reduceLE, decide_eq_false c1, decide_eq_false c2]))
  refine mksT (n := 16) (m := 16) (Nat.le_refl _) (by omega) (by omega) fun gg w1 hgg hs1 hat1 ho1 => ?_
  (repeat (first | with_reducible refine run_seq ?_ | with_reducible refine run_reg ?_ | with_reducible refine run_block ?_ | with_reducible refine run_blk ?_ | with_reducible refine run_skip ?_ | with_reducible refine run_exit rfl ?_ | with_reducible refine run_drw ?_ | with_reducible refine run_condT ?_ | with_reducible refine run_ret' ?_ | with_reducible refine run_end' ?_ | simp only [go_sem, ↓reduceIte, Nat.reduceAdd, Nat.reduceEqDiff, Nat.reduceBEq, reduceCtorEq, Int.reduceBEq, Int.reduceBNe, Int.reduceLT, Int.reduceLE]))
  rw [fillL_one rfl rfl]
  (repeat (first | with_reducible refine run_seq ?_ | with_reducible refine run_reg ?_ | with_reducible refine run_block ?_ | with_reducible refine run_blk ?_ | with_reducible refine run_skip ?_ | with_reducible refine run_exit rfl ?_ | with_reducible refine run_drw ?_ | with_reducible refine run_condT ?_ | with_reducible refine run_ret' ?_ | with_reducible refine run_end' ?_ | simp only [go_sem, ↓reduceIte, Nat.reduceAdd, Nat.reduceEqDiff, Nat.reduceBEq, reduceCtorEq, Int.reduceBEq, Int.reduceBNe, Int.reduceLT, Int.reduceLE]))
  refine boxT fun b w2 hb hs2 hat2 ho2 => ?_
  (repeat (first | with_reducible refine run_seq ?_ | with_reducible refine run_reg ?_ | with_reducible refine run_block ?_ | with_reducible refine run_blk ?_ | with_reducible refine run_skip ?_ | with_reducible refine run_exit rfl ?_ | with_reducible refine run_drw ?_ | with_reducible refine run_condT ?_ | with_reducible refine run_ret' ?_ | with_reducible refine run_end' ?_ | simp only [go_sem, ↓reduceIte, Nat.reduceAdd, Nat.reduceEqDiff, Nat.reduceBEq, reduceCtorEq, Int.reduceBEq, Int.reduceBNe, Int.reduceLT, Int.reduceLE]))
  have hO2 := ho1.nil ho2
  have hG2 := hat1.keep0 ho2
  rw [rowZ_one] at hG2
  refine run_loop (5 :: 15 :: 16 :: 17 :: 18 :: 19 :: 20 :: 21 :: 22 :: 23 :: 24 :: 25 :: 26 :: 27 :: 28 :: 29 :: []) (fun g w' => ∃ (t : Nat) (v : Value) (rows : List (Nat × Nat)) (fs : List Nat), g 5 = .int .i64 t ∧ t ≤ k ∧ At w' b [v, .slice (some ⟨gg, 0, none⟩) 16 16, .slice none 0 0] ∧ RowsAt w' w2.heap.size (List.replicate (16 * k) 0) t v rows fs ∧ At w' gg (List.replicate 16 (.int .i64 0)) ∧ Only [] w w')
    (fun g _ => upTo k 5 g) ⟨0, _, [], [], by simp only [go_sem, ↓reduceIte, Nat.reduceAdd, Nat.reduceEqDiff, Nat.reduceBEq, reduceCtorEq, Int.reduceBEq, Int.reduceBNe, Int.reduceLT, Int.reduceLE]; rfl, by omega, hat2, RowsAt.zero _ _ _, hG2, hO2⟩ fun g w3 hI hnext => ?_
  obtain ⟨t, v, rows, fs, h5, ht, hbt, hrows, hG, hO⟩ := hI
  (repeat (first | with_reducible refine run_seq ?_ | with_reducible refine run_reg ?_ | with_reducible refine run_block ?_ | with_reducible refine run_blk ?_ | with_reducible refine run_skip ?_ | with_reducible refine run_exit rfl ?_ | with_reducible refine run_drw ?_ | with_reducible refine run_condT ?_ | with_reducible refine run_ret' ?_ | with_reducible refine run_end' ?_ | simp only [go_sem, ↓reduceIte, Nat.reduceAdd, Nat.reduceEqDiff, Nat.reduceBEq, reduceCtorEq, Int.reduceBEq, Int.reduceBNe, Int.reduceLT, Int.reduceLE, h5]))
  refine condT (fun hlt => ?_) (fun hge => ?_)
  · have hlt : t < k := by have : (t : Int) < (k : Int) := by simpa using hlt
                           omega
    (repeat (first | with_reducible refine run_seq ?_ | with_reducible refine run_reg ?_ | with_reducible refine run_block ?_ | with_reducible refine run_blk ?_ | with_reducible refine run_skip ?_ | with_reducible refine run_exit rfl ?_ | with_reducible refine run_drw ?_ | with_reducible refine run_condT ?_ | with_reducible refine run_ret' ?_ | with_reducible refine run_end' ?_ | simp only [go_sem, ↓reduceIte, Nat.reduceAdd, Nat.reduceEqDiff, Nat.reduceBEq, reduceCtorEq, Int.reduceBEq, Int.reduceBNe, Int.reduceLT, Int.reduceLE]))
    refine run_drt [b] ?_
    have hd3 : w3.drew.heap.size = w3.heap.size := rfl
    have hbt' := hbt.lt
    have hz2 := hO.size
    have hz3 : w2.heap.size ≤ w3.heap.size := by
      have := hG.lt; omega
    have sbk : ∀ w', Only [] w3.drew w' → SB [b] w3.drew w' := fun w' ho => (SB.refl _ _).only ho fun x hx => by simp only [List.mem_singleton] at hx; subst hx; exact ⟨hbt', by simp⟩
    (repeat (first | with_reducible refine run_seq ?_ | with_reducible refine run_reg ?_ | with_reducible refine run_block ?_ | with_reducible refine run_blk ?_ | with_reducible refine run_skip ?_ | with_reducible refine run_exit rfl ?_ | with_reducible refine run_drw ?_ | with_reducible refine run_condT ?_ | with_reducible refine run_ret' ?_ | with_reducible refine run_end' ?_ | simp only [go_sem, ↓reduceIte, Nat.reduceAdd, Nat.reduceEqDiff, Nat.reduceBEq, reduceCtorEq, Int.reduceBEq, Int.reduceBNe, Int.reduceLT, Int.reduceLE, hbt.cell]))
    refine mksS (n := 16) (m := 16) (Nat.le_refl _) (by omega) (by omega) fun g1 w4 hg1 hs4 hat4 ho4 => ⟨.inr (sbk _ ho4), ?_⟩
    (repeat (first | with_reducible refine run_seq ?_ | with_reducible refine run_reg ?_ | with_reducible refine run_block ?_ | with_reducible refine run_blk ?_ | with_reducible refine run_skip ?_ | with_reducible refine run_exit rfl ?_ | with_reducible refine run_drw ?_ | with_reducible refine run_condT ?_ | with_reducible refine run_ret' ?_ | with_reducible refine run_end' ?_ | simp only [go_sem, ↓reduceIte, Nat.reduceAdd, Nat.reduceEqDiff, Nat.reduceBEq, reduceCtorEq, Int.reduceBEq, Int.reduceBNe, Int.reduceLT, Int.reduceLE]))
    rw [fillL_one rfl rfl]
    (repeat (first | with_reducible refine run_seq ?_ | with_reducible refine run_reg ?_ | with_reducible refine run_block ?_ | with_reducible refine run_blk ?_ | with_reducible refine run_skip ?_ | with_reducible refine run_exit rfl ?_ | with_reducible refine run_drw ?_ | with_reducible refine run_condT ?_ | with_reducible refine run_ret' ?_ | with_reducible refine run_end' ?_ | simp only [go_sem, ↓reduceIte, Nat.reduceAdd, Nat.reduceEqDiff, Nat.reduceBEq, reduceCtorEq, Int.reduceBEq, Int.reduceBNe, Int.reduceLT, Int.reduceLE]))
    refine bslS fun q w5 hq hs5 hat5 ho5 => ⟨.inr (sbk _ (ho4.nil ho5)), ?_⟩
    have hO35 : Only [] w3 w5 := Only.drew_left (ho4.nil ho5)
    (repeat (first | with_reducible refine run_seq ?_ | with_reducible refine run_reg ?_ | with_reducible refine run_block ?_ | with_reducible refine run_blk ?_ | with_reducible refine run_skip ?_ | with_reducible refine run_exit rfl ?_ | with_reducible refine run_drw ?_ | with_reducible refine run_condT ?_ | with_reducible refine run_ret' ?_ | with_reducible refine run_end' ?_ | simp only [go_sem, ↓reduceIte, Nat.reduceAdd, Nat.reduceEqDiff, Nat.reduceBEq, reduceCtorEq, Int.reduceBEq, Int.reduceBNe, Int.reduceLT, Int.reduceLE]))
    have hr5 := hrows.keep0 hO35
    refine appS hr5.sl (SrcIs.at hat5 rfl) (by simp [oneC]) (by omega) (by omega) ?_
    intro v' w6 fs' hs6 hf6 ho6 _
    refine ⟨.inl rfl, ?_⟩
    have hbfs : b ∉ fs := fun hx => by have := hrows.new b (by simp [hx]); omega
    have hb6 := (hbt.keep0 hO35).keep ho6 hbfs
    (repeat (first | with_reducible refine run_seq ?_ | with_reducible refine run_reg ?_ | with_reducible refine run_block ?_ | with_reducible refine run_blk ?_ | with_reducible refine run_skip ?_ | with_reducible refine run_exit rfl ?_ | with_reducible refine run_drw ?_ | with_reducible refine run_condT ?_ | with_reducible refine run_ret' ?_ | with_reducible refine run_end' ?_ | simp only [go_sem, ↓reduceIte, Nat.reduceAdd, Nat.reduceEqDiff, Nat.reduceBEq, reduceCtorEq, Int.reduceBEq, Int.reduceBNe, Int.reduceLT, Int.reduceLE]))
    refine stS hb6 (by simp) hs6.oneC fun w7 hs7 hat7 ho7 => ⟨.inl rfl, ?_⟩
    (repeat (first | with_reducible refine run_seq ?_ | with_reducible refine run_reg ?_ | with_reducible refine run_block ?_ | with_reducible refine run_blk ?_ | with_reducible refine run_skip ?_ | with_reducible refine run_exit rfl ?_ | with_reducible refine run_drw ?_ | with_reducible refine run_condT ?_ | with_reducible refine run_ret' ?_ | with_reducible refine run_end' ?_ | simp only [go_sem, ↓reduceIte, Nat.reduceAdd, Nat.reduceEqDiff, Nat.reduceBEq, reduceCtorEq, Int.reduceBEq, Int.reduceBNe, Int.reduceLT, Int.reduceLE, h5, i64_succ t (by omega)]))
    have hltr := hrows.lt
    have hr6 := hr5.snoc (g := g1) (c := 16) (ys := []) hs6 hf6 ho6 (by rw [rowS_replicate hlt, ints_replicate, List.append_nil]; rw [rowZ_one] at hat4; exact hat4.keep0 ho5) (fun hx => by have := hltr g1 hx; omega) (by omega) (by omega)
    have hggfs : gg ∉ fs := fun hx => by have := hrows.new gg (by simp [hx]); omega
    refine hnext _ w7 ?_ ⟨t + 1, v', _, fs', ?_, by omega, hat7, hr6.keep ho7 ?_, ((hG.keep0 hO35).keep ho6 hggfs).keep ho7 (by simp only [List.mem_singleton]; omega), ?_⟩ ?_
    · (repeat (first | with_reducible exact Keeps.refl _ _ | with_reducible exact Keeps.ovr _ _ _ | refine Keeps.put ?_ rfl _ | exact Keeps.refl _ _ | exact Keeps.ovr _ _ _ | refine Keeps.ovr2 ?_ rfl _))
    · simp only [go_sem, ↓reduceIte, Nat.reduceAdd, Nat.reduceEqDiff, Nat.reduceBEq, reduceCtorEq, Int.reduceBEq, Int.reduceBNe, Int.reduceLT, Int.reduceLE]
    · intro x hx; have := hr6.new x hx; simp only [List.mem_singleton]; omega
    · refine (hO.trans (hO35.of_nil.same (ho6.mono (T := fs) fun x hx => .inl hx)) fun x hx => .inr ?_).trans ho7 fun x hx => .inr ?_
      · have := hrows.new x (by simp [hx]); omega
      · simp only [List.mem_singleton] at hx; omega
    · rw [upTo_int h5, upTo_int (k := .i64) (i := t + 1) (by simp only [go_sem, ↓reduceIte, Nat.reduceAdd, Nat.reduceEqDiff, Nat.reduceBEq, reduceCtorEq, Int.reduceBEq, Int.reduceBNe, Int.reduceLT, Int.reduceLE])]; omega
  · have : t = k := by have : ¬ (t : Int) < (k : Int) := by simpa using hge
                       omega
    subst this
    (repeat (first | with_reducible refine run_seq ?_ | with_reducible refine run_reg ?_ | with_reducible refine run_block ?_ | with_reducible refine run_blk ?_ | with_reducible refine run_skip ?_ | with_reducible refine run_exit rfl ?_ | with_reducible refine run_drw ?_ | with_reducible refine run_condT ?_ | with_reducible refine run_ret' ?_ | with_reducible refine run_end' ?_ | simp only [go_sem, ↓reduceIte, Nat.reduceAdd, Nat.reduceEqDiff, Nat.reduceBEq, reduceCtorEq, Int.reduceBEq, Int.reduceBNe, Int.reduceLT, Int.reduceLE]))
    rw [hnew]
    have hok := newO_ok hnew
    have hnd := hrows.nd
    have hG' : At w3 gg (ints (List.replicate 16 0) ++ []) := by rw [ints_replicate, List.append_nil]; exact hG
    refine ⟨hO, some ⟨b, 0, none⟩, b :: (fs ++ (rows.map (·.1) ++ ([gg] ++ []))), rfl, ⟨b, rfl, v, _, _, fs, rows, [gg], [], rfl, ⟨hok, hrows.len, ?_, hbt, hrows.sl, hrows.hr, Sl.mk1 hG' (by simp [ints_length]) (by simp [ints_length]), Sl.nil1 _⟩⟩, (fun h => by cases h), fun x hx => ?_⟩
    · have hn := hrows.new
      rw [List.nodup_append] at hnd
      simp only [List.append_nil, List.nodup_cons, List.mem_append, not_or, List.nodup_append, List.mem_singleton]
      refine ⟨⟨fun hx => by have := hn b (by simp [hx]); omega, fun hx => by have := hn b (by simp only [List.mem_append]; exact .inr hx); omega, by omega⟩, hnd.1, ⟨hnd.2.1, by simp, fun x hx y hy e => ?_⟩, fun x hx y hy e => ?_⟩
      · subst hy; subst e; have := hn x (by simp only [List.mem_append]; exact .inr hx); omega
      · subst e
        rcases hy with hy | hy
        · exact hnd.2.2 x hx x hy rfl
        · subst hy; have := hn x (by simp [hx]); omega
    · simp only [List.append_nil, List.mem_cons, List.mem_append, List.mem_singleton, List.not_mem_nil, or_false] at hx
      rcases hx with rfl | hx | hx | rfl
      · omega
      · have := hrows.new x (by simp [hx]); omega
      · have := hrows.new x (by simp only [List.mem_append]; exact .inr hx); omega
      · omega

theorem rClone {w : World} {a : Option Addr} {fp : List Nat} {m : MO} (h : RR w a fp m) : Cs Try.prog 27 [.pointer a] w fun v w' => Only [] w w' ∧ ∃ a' fp', v = .pointer a' ∧ RR w' a' fp' m ∧ (m = none → a' = none) ∧ ∀ x, x ∈ fp' → w.heap.size ≤ x := by
  refine enter_ref03_Roots_Clone rfl ?_
  unfold x_ref03_Roots_Clone
  (repeat (first | with_reducible refine run_seq ?_ | with_reducible refine run_reg ?_ | with_reducible refine run_block ?_ | with_reducible refine run_blk ?_ | with_reducible refine run_skip ?_ | with_reducible refine run_exit rfl ?_ | with_reducible refine run_drw ?_ | with_reducible refine run_condT ?_ | with_reducible refine run_ret' ?_ | with_reducible refine run_end' ?_ | simp only [go_sem, ↓reduceIte, Nat.reduceAdd, Nat.reduceEqDiff, Nat.reduceBEq, reduceCtorEq, Int.reduceBEq, Int.reduceBNe, Int.reduceLT, Int.reduceLE]))
  refine callT0 (rmade h) ?_
  match m, h with
  | none, h =>
    (repeat (first | with_reducible refine run_seq ?_ | with_reducible refine run_reg ?_ | with_reducible refine run_block ?_ | with_reducible refine run_blk ?_ | with_reducible refine run_skip ?_ | with_reducible refine run_exit rfl ?_ | with_reducible refine run_drw ?_ | with_reducible refine run_condT ?_ | with_reducible refine run_ret' ?_ | with_reducible refine run_end' ?_ | simp only [go_sem, ↓reduceIte, Nat.reduceAdd, Nat.reduceEqDiff, Nat.reduceBEq, reduceCtorEq, Int.reduceBEq, Int.reduceBNe, Int.reduceLT, Int.reduceLE, Option.isSome_none]))
    exact ⟨Only.refl _ _, none, [], rfl, ⟨rfl, rfl⟩, fun _ => rfl, by simp⟩
  | some s, ⟨b, hb', vs, vg, vq, fs, rows, fg, fq, hfp, hp⟩ =>
    subst hb'
    have hok := hp.ok
    have hl64 := hok.lq
    have hb := hp.hb
    simp only [go_sem, ↓reduceIte, Nat.reduceAdd, Nat.reduceEqDiff, Nat.reduceBEq, reduceCtorEq, Int.reduceBEq, Int.reduceBNe, Int.reduceLT, Int.reduceLE, Option.isSome_some]
    refine run_condT ?_
    simp only [go_sem, ↓reduceIte, Nat.reduceAdd, Nat.reduceEqDiff, Nat.reduceBEq, reduceCtorEq, Int.reduceBEq, Int.reduceBNe, Int.reduceLT, Int.reduceLE, Option.isSome_some]
    refine run_skip ?_
    refine run_seq ?_
    refine run_cut (3 :: 8 :: 9 :: 10 :: 11 :: 12 :: 13 :: 14 :: 15 :: 16 :: 17 :: 18 :: 19 :: 20 :: 21 :: []) (fun ρ w' => ∃ c vg' vq' fg' fq', ρ 3 = .pointer (some ⟨c, 0, none⟩) ∧ At w' c [.slice none 0 0, vg', vq'] ∧ Sl w' 1 vg' 16 (ints s.G) fg' ∧ Sl w' 1 vq' s.Q.length (ints s.Q) fq' ∧ Only [] w w' ∧ (c :: (fg' ++ fq')).Nodup ∧ ∀ x, x ∈ c :: (fg' ++ fq') → w.heap.size ≤ x) (fun kk hkk => ?_) (fun g w1 hJ => ?_)
    refine run_drt [b] ?_
    have sbk : ∀ w', Only [] w.drew w' → SB [b] w.drew w' := fun w' ho => (SB.refl _ _).only ho fun x hx => by simp only [List.mem_singleton] at hx; subst hx; exact ⟨hb.lt, by simp⟩
    have hd : w.drew.heap.size = w.heap.size := rfl
    have hp := hp.keep0 (Only.drew [] w)
    (repeat (first | with_reducible refine run_seq ?_ | with_reducible refine run_reg ?_ | with_reducible refine run_block ?_ | with_reducible refine run_blk ?_ | with_reducible refine run_skip ?_ | with_reducible refine run_exit rfl ?_ | with_reducible refine run_drw ?_ | with_reducible refine run_condT ?_ | with_reducible refine run_ret' ?_ | with_reducible refine run_end' ?_ | simp only [go_sem, ↓reduceIte, Nat.reduceAdd, Nat.reduceEqDiff, Nat.reduceBEq, reduceCtorEq, Int.reduceBEq, Int.reduceBNe, Int.reduceLT, Int.reduceLE, hb.cell]))
    refine ⟨?_, ?_⟩
    · skip
      refine bslS fun q8 u1 hq8 hs1 hat8 ho1 => ⟨.inr ?_, ?_⟩
      · exact sbk _ (by exact ((Only.refl [] w.drew).nil ho1))
      (repeat (first | with_reducible refine run_seq ?_ | with_reducible refine run_reg ?_ | with_reducible refine run_block ?_ | with_reducible refine run_blk ?_ | with_reducible refine run_skip ?_ | with_reducible refine run_exit rfl ?_ | with_reducible refine run_drw ?_ | with_reducible refine run_condT ?_ | with_reducible refine run_ret' ?_ | with_reducible refine run_end' ?_ | simp only [go_sem, ↓reduceIte, Nat.reduceAdd, Nat.reduceEqDiff, Nat.reduceBEq, reduceCtorEq, Int.reduceBEq, Int.reduceBNe, Int.reduceLT, Int.reduceLE, hb.cell]))
      refine ⟨?_, ?_⟩
      · skip
        refine appS (fp := [q8]) (Sl.empty1 hat8) (hp.h1.src.keep0 (((Only.refl [] w.drew).nil ho1))) ints_one (by omega) (by omega) ?_
        intro v13 u2 f13 hsx13 hf13 ho2 _
        have hs13' : Sl u2 1 v13 16 (ints s.G) f13 := by simpa using hsx13
        have hz2 := ho2.size
        refine ⟨.inr ?_, ?_⟩
        · exact sbk _ (by exact (((Only.refl [] w.drew).nil ho1).trans ho2 fun x hx => .inr (by simp only [List.mem_singleton] at hx; omega)))
        (repeat (first | with_reducible refine run_seq ?_ | with_reducible refine run_reg ?_ | with_reducible refine run_block ?_ | with_reducible refine run_blk ?_ | with_reducible refine run_skip ?_ | with_reducible refine run_exit rfl ?_ | with_reducible refine run_drw ?_ | with_reducible refine run_condT ?_ | with_reducible refine run_ret' ?_ | with_reducible refine run_end' ?_ | simp only [go_sem, ↓reduceIte, Nat.reduceAdd, Nat.reduceEqDiff, Nat.reduceBEq, reduceCtorEq, Int.reduceBEq, Int.reduceBNe, Int.reduceLT, Int.reduceLE, hb.cell]))
        refine bslS fun q14 u3 hq14 hs3 hat14 ho3 => ⟨.inr ?_, ?_⟩
        · exact sbk _ (by exact ((((Only.refl [] w.drew).nil ho1).trans ho2 fun x hx => .inr (by simp only [List.mem_singleton] at hx; omega)).nil ho3))
        (repeat (first | with_reducible refine run_seq ?_ | with_reducible refine run_reg ?_ | with_reducible refine run_block ?_ | with_reducible refine run_blk ?_ | with_reducible refine run_skip ?_ | with_reducible refine run_exit rfl ?_ | with_reducible refine run_drw ?_ | with_reducible refine run_condT ?_ | with_reducible refine run_ret' ?_ | with_reducible refine run_end' ?_ | simp only [go_sem, ↓reduceIte, Nat.reduceAdd, Nat.reduceEqDiff, Nat.reduceBEq, reduceCtorEq, Int.reduceBEq, Int.reduceBNe, Int.reduceLT, Int.reduceLE, hb.cell]))
        refine appS (fp := [q14]) (Sl.empty1 hat14) (hp.h2.src.keep0 (((((Only.refl [] w.drew).nil ho1).trans ho2 fun x hx => .inr (by simp only [List.mem_singleton] at hx; omega)).nil ho3))) ints_one (by omega) (by omega) ?_
        intro v19 u4 f19 hsx19 hf19 ho4 _
        have hs19' : Sl u4 1 v19 s.Q.length (ints s.Q) f19 := by simpa using hsx19
        have hz4 := ho4.size
        refine ⟨.inr ?_, ?_⟩
        · exact sbk _ (by exact (((((Only.refl [] w.drew).nil ho1).trans ho2 fun x hx => .inr (by simp only [List.mem_singleton] at hx; omega)).nil ho3).trans ho4 fun x hx => .inr (by simp only [List.mem_singleton] at hx; omega)))
        (repeat (first | with_reducible refine run_seq ?_ | with_reducible refine run_reg ?_ | with_reducible refine run_block ?_ | with_reducible refine run_blk ?_ | with_reducible refine run_skip ?_ | with_reducible refine run_exit rfl ?_ | with_reducible refine run_drw ?_ | with_reducible refine run_condT ?_ | with_reducible refine run_ret' ?_ | with_reducible refine run_end' ?_ | simp only [go_sem, ↓reduceIte, Nat.reduceAdd, Nat.reduceEqDiff, Nat.reduceBEq, reduceCtorEq, Int.reduceBEq, Int.reduceBNe, Int.reduceLT, Int.reduceLE, hb.cell]))
        rw [fillL_one hs13'.oneC rfl]
        (repeat (first | with_reducible refine run_seq ?_ | with_reducible refine run_reg ?_ | with_reducible refine run_block ?_ | with_reducible refine run_blk ?_ | with_reducible refine run_skip ?_ | with_reducible refine run_exit rfl ?_ | with_reducible refine run_drw ?_ | with_reducible refine run_condT ?_ | with_reducible refine run_ret' ?_ | with_reducible refine run_end' ?_ | simp only [go_sem, ↓reduceIte, Nat.reduceAdd, Nat.reduceEqDiff, Nat.reduceBEq, reduceCtorEq, Int.reduceBEq, Int.reduceBNe, Int.reduceLT, Int.reduceLE]))
        rw [fillL_one hs19'.oneC rfl]
        (repeat (first | with_reducible refine run_seq ?_ | with_reducible refine run_reg ?_ | with_reducible refine run_block ?_ | with_reducible refine run_blk ?_ | with_reducible refine run_skip ?_ | with_reducible refine run_exit rfl ?_ | with_reducible refine run_drw ?_ | with_reducible refine run_condT ?_ | with_reducible refine run_ret' ?_ | with_reducible refine run_end' ?_ | simp only [go_sem, ↓reduceIte, Nat.reduceAdd, Nat.reduceEqDiff, Nat.reduceBEq, reduceCtorEq, Int.reduceBEq, Int.reduceBNe, Int.reduceLT, Int.reduceLE]))
        refine boxS fun c u5 hc hs5 hat5 ho5 => ⟨.inl rfl, ?_⟩
        (repeat (first | with_reducible refine run_seq ?_ | with_reducible refine run_reg ?_ | with_reducible refine run_block ?_ | with_reducible refine run_blk ?_ | with_reducible refine run_skip ?_ | with_reducible refine run_exit rfl ?_ | with_reducible refine run_drw ?_ | with_reducible refine run_condT ?_ | with_reducible refine run_ret' ?_ | with_reducible refine run_end' ?_ | simp only [go_sem, ↓reduceIte, Nat.reduceAdd, Nat.reduceEqDiff, Nat.reduceBEq, reduceCtorEq, Int.reduceBEq, Int.reduceBNe, Int.reduceLT, Int.reduceLE]))
        have hO4 : Only [] w.drew u4 := (((((Only.refl [] w.drew).nil ho1).trans ho2 fun x hx => .inr (by simp only [List.mem_singleton] at hx; omega)).nil ho3).trans ho4 fun x hx => .inr (by simp only [List.mem_singleton] at hx; omega))
        have hz4' := hO4.size
        refine hkk _ u5 (by (repeat (first | with_reducible exact Keeps.refl _ _ | with_reducible exact Keeps.ovr _ _ _ | refine Keeps.put ?_ rfl _ | exact Keeps.refl _ _ | exact Keeps.ovr _ _ _ | refine Keeps.ovr2 ?_ rfl _))) ⟨c, v13, v19, f13, f19, by simp only [go_sem, ↓reduceIte, Nat.reduceAdd, Nat.reduceEqDiff, Nat.reduceBEq, reduceCtorEq, Int.reduceBEq, Int.reduceBNe, Int.reduceLT, Int.reduceLE], hat5, (((hs13'.keep0 ho3).keep ho4 (fun x hx => by have hlx := hs13'.lt x hx; simp only [List.mem_singleton]; rcases hf13 with rfl | rfl <;> simp only [List.mem_singleton] at hx <;> omega))).keep0 ho5, (hs19').keep0 ho5, Only.drew_left (hO4.nil ho5), ?_, ?_⟩
        · have l13 := hs13'.lt; have l19 := hs19'.lt; have o13 := hs13'.oneC
          rcases hf13 with rfl | rfl <;> rcases hf19 with rfl | rfl <;> (have l13' := l13 _ (List.mem_singleton.2 rfl); have l19' := l19 _ (List.mem_singleton.2 rfl); simp only [List.cons_append, List.nil_append, List.nodup_cons, List.mem_cons, List.not_mem_nil, or_false, not_or, not_false_eq_true, List.nodup_nil, and_true]; omega)
        · intro x hx; rcases hf13 with rfl | rfl <;> rcases hf19 with rfl | rfl <;> simp only [List.cons_append, List.nil_append, List.mem_cons, List.not_mem_nil, or_false] at hx <;> omega
      · skip
        refine bslS fun q14 u2 hq14 hs2 hat14 ho2 => ⟨.inr ?_, ?_⟩
        · exact sbk _ (by exact (((Only.refl [] w.drew).nil ho1).nil ho2))
        (repeat (first | with_reducible refine run_seq ?_ | with_reducible refine run_reg ?_ | with_reducible refine run_block ?_ | with_reducible refine run_blk ?_ | with_reducible refine run_skip ?_ | with_reducible refine run_exit rfl ?_ | with_reducible refine run_drw ?_ | with_reducible refine run_condT ?_ | with_reducible refine run_ret' ?_ | with_reducible refine run_end' ?_ | simp only [go_sem, ↓reduceIte, Nat.reduceAdd, Nat.reduceEqDiff, Nat.reduceBEq, reduceCtorEq, Int.reduceBEq, Int.reduceBNe, Int.reduceLT, Int.reduceLE, hb.cell]))
        refine appS (fp := [q8]) (Sl.empty1 (hat8.keep0 ho2)) (hp.h1.src.keep0 ((((Only.refl [] w.drew).nil ho1).nil ho2))) ints_one (by omega) (by omega) ?_
        intro v13 u3 f13 hsx13 hf13 ho3 _
        have hs13' : Sl u3 1 v13 16 (ints s.G) f13 := by simpa using hsx13
        have hz3 := ho3.size
        refine ⟨.inr ?_, ?_⟩
        · exact sbk _ (by exact ((((Only.refl [] w.drew).nil ho1).nil ho2).trans ho3 fun x hx => .inr (by simp only [List.mem_singleton] at hx; omega)))
        (repeat (first | with_reducible refine run_seq ?_ | with_reducible refine run_reg ?_ | with_reducible refine run_block ?_ | with_reducible refine run_blk ?_ | with_reducible refine run_skip ?_ | with_reducible refine run_exit rfl ?_ | with_reducible refine run_drw ?_ | with_reducible refine run_condT ?_ | with_reducible refine run_ret' ?_ | with_reducible refine run_end' ?_ | simp only [go_sem, ↓reduceIte, Nat.reduceAdd, Nat.reduceEqDiff, Nat.reduceBEq, reduceCtorEq, Int.reduceBEq, Int.reduceBNe, Int.reduceLT, Int.reduceLE, hb.cell]))
        refine appS (fp := [q14]) (Sl.empty1 (hat14.keep ho3 (by simp only [List.mem_singleton]; omega))) (hp.h2.src.keep0 (((((Only.refl [] w.drew).nil ho1).nil ho2).trans ho3 fun x hx => .inr (by simp only [List.mem_singleton] at hx; omega)))) ints_one (by omega) (by omega) ?_
        intro v19 u4 f19 hsx19 hf19 ho4 _
        have hs19' : Sl u4 1 v19 s.Q.length (ints s.Q) f19 := by simpa using hsx19
        have hz4 := ho4.size
        refine ⟨.inr ?_, ?_⟩
        · exact sbk _ (by exact (((((Only.refl [] w.drew).nil ho1).nil ho2).trans ho3 fun x hx => .inr (by simp only [List.mem_singleton] at hx; omega)).trans ho4 fun x hx => .inr (by simp only [List.mem_singleton] at hx; omega)))
        (repeat (first | with_reducible refine run_seq ?_ | with_reducible refine run_reg ?_ | with_reducible refine run_block ?_ | with_reducible refine run_blk ?_ | with_reducible refine run_skip ?_ | with_reducible refine run_exit rfl ?_ | with_reducible refine run_drw ?_ | with_reducible refine run_condT ?_ | with_reducible refine run_ret' ?_ | with_reducible refine run_end' ?_ | simp only [go_sem, ↓reduceIte, Nat.reduceAdd, Nat.reduceEqDiff, Nat.reduceBEq, reduceCtorEq, Int.reduceBEq, Int.reduceBNe, Int.reduceLT, Int.reduceLE, hb.cell]))
        rw [fillL_one hs13'.oneC rfl]
        (repeat (first | with_reducible refine run_seq ?_ | with_reducible refine run_reg ?_ | with_reducible refine run_block ?_ | with_reducible refine run_blk ?_ | with_reducible refine run_skip ?_ | with_reducible refine run_exit rfl ?_ | with_reducible refine run_drw ?_ | with_reducible refine run_condT ?_ | with_reducible refine run_ret' ?_ | with_reducible refine run_end' ?_ | simp only [go_sem, ↓reduceIte, Nat.reduceAdd, Nat.reduceEqDiff, Nat.reduceBEq, reduceCtorEq, Int.reduceBEq, Int.reduceBNe, Int.reduceLT, Int.reduceLE]))
        rw [fillL_one hs19'.oneC rfl]
        (repeat (first | with_reducible refine run_seq ?_ | with_reducible refine run_reg ?_ | with_reducible refine run_block ?_ | with_reducible refine run_blk ?_ | with_reducible refine run_skip ?_ | with_reducible refine run_exit rfl ?_ | with_reducible refine run_drw ?_ | with_reducible refine run_condT ?_ | with_reducible refine run_ret' ?_ | with_reducible refine run_end' ?_ | simp only [go_sem, ↓reduceIte, Nat.reduceAdd, Nat.reduceEqDiff, Nat.reduceBEq, reduceCtorEq, Int.reduceBEq, Int.reduceBNe, Int.reduceLT, Int.reduceLE]))
        refine boxS fun c u5 hc hs5 hat5 ho5 => ⟨.inl rfl, ?_⟩
        (repeat (first | with_reducible refine run_seq ?_ | with_reducible refine run_reg ?_ | with_reducible refine run_block ?_ | with_reducible refine run_blk ?_ | with_reducible refine run_skip ?_ | with_reducible refine run_exit rfl ?_ | with_reducible refine run_drw ?_ | with_reducible refine run_condT ?_ | with_reducible refine run_ret' ?_ | with_reducible refine run_end' ?_ | simp only [go_sem, ↓reduceIte, Nat.reduceAdd, Nat.reduceEqDiff, Nat.reduceBEq, reduceCtorEq, Int.reduceBEq, Int.reduceBNe, Int.reduceLT, Int.reduceLE]))
        have hO4 : Only [] w.drew u4 := (((((Only.refl [] w.drew).nil ho1).nil ho2).trans ho3 fun x hx => .inr (by simp only [List.mem_singleton] at hx; omega)).trans ho4 fun x hx => .inr (by simp only [List.mem_singleton] at hx; omega))
        have hz4' := hO4.size
        refine hkk _ u5 (by (repeat (first | with_reducible exact Keeps.refl _ _ | with_reducible exact Keeps.ovr _ _ _ | refine Keeps.put ?_ rfl _ | exact Keeps.refl _ _ | exact Keeps.ovr _ _ _ | refine Keeps.ovr2 ?_ rfl _))) ⟨c, v13, v19, f13, f19, by simp only [go_sem, ↓reduceIte, Nat.reduceAdd, Nat.reduceEqDiff, Nat.reduceBEq, reduceCtorEq, Int.reduceBEq, Int.reduceBNe, Int.reduceLT, Int.reduceLE], hat5, ((hs13'.keep ho4 (fun x hx => by have hlx := hs13'.lt x hx; simp only [List.mem_singleton]; rcases hf13 with rfl | rfl <;> simp only [List.mem_singleton] at hx <;> omega))).keep0 ho5, (hs19').keep0 ho5, Only.drew_left (hO4.nil ho5), ?_, ?_⟩
        · have l13 := hs13'.lt; have l19 := hs19'.lt; have o13 := hs13'.oneC
          rcases hf13 with rfl | rfl <;> rcases hf19 with rfl | rfl <;> (have l13' := l13 _ (List.mem_singleton.2 rfl); have l19' := l19 _ (List.mem_singleton.2 rfl); simp only [List.cons_append, List.nil_append, List.nodup_cons, List.mem_cons, List.not_mem_nil, or_false, not_or, not_false_eq_true, List.nodup_nil, and_true]; omega)
        · intro x hx; rcases hf13 with rfl | rfl <;> rcases hf19 with rfl | rfl <;> simp only [List.cons_append, List.nil_append, List.mem_cons, List.not_mem_nil, or_false] at hx <;> omega
    · skip
      refine bslS fun q14 u1 hq14 hs1 hat14 ho1 => ⟨.inr ?_, ?_⟩
      · exact sbk _ (by exact ((Only.refl [] w.drew).nil ho1))
      (repeat (first | with_reducible refine run_seq ?_ | with_reducible refine run_reg ?_ | with_reducible refine run_block ?_ | with_reducible refine run_blk ?_ | with_reducible refine run_skip ?_ | with_reducible refine run_exit rfl ?_ | with_reducible refine run_drw ?_ | with_reducible refine run_condT ?_ | with_reducible refine run_ret' ?_ | with_reducible refine run_end' ?_ | simp only [go_sem, ↓reduceIte, Nat.reduceAdd, Nat.reduceEqDiff, Nat.reduceBEq, reduceCtorEq, Int.reduceBEq, Int.reduceBNe, Int.reduceLT, Int.reduceLE, hb.cell]))
      refine bslS fun q8 u2 hq8 hs2 hat8 ho2 => ⟨.inr ?_, ?_⟩
      · exact sbk _ (by exact (((Only.refl [] w.drew).nil ho1).nil ho2))
      (repeat (first | with_reducible refine run_seq ?_ | with_reducible refine run_reg ?_ | with_reducible refine run_block ?_ | with_reducible refine run_blk ?_ | with_reducible refine run_skip ?_ | with_reducible refine run_exit rfl ?_ | with_reducible refine run_drw ?_ | with_reducible refine run_condT ?_ | with_reducible refine run_ret' ?_ | with_reducible refine run_end' ?_ | simp only [go_sem, ↓reduceIte, Nat.reduceAdd, Nat.reduceEqDiff, Nat.reduceBEq, reduceCtorEq, Int.reduceBEq, Int.reduceBNe, Int.reduceLT, Int.reduceLE, hb.cell]))
      refine appS (fp := [q8]) (Sl.empty1 hat8) (hp.h1.src.keep0 ((((Only.refl [] w.drew).nil ho1).nil ho2))) ints_one (by omega) (by omega) ?_
      intro v13 u3 f13 hsx13 hf13 ho3 _
      have hs13' : Sl u3 1 v13 16 (ints s.G) f13 := by simpa using hsx13
      have hz3 := ho3.size
      refine ⟨.inr ?_, ?_⟩
      · exact sbk _ (by exact ((((Only.refl [] w.drew).nil ho1).nil ho2).trans ho3 fun x hx => .inr (by simp only [List.mem_singleton] at hx; omega)))
      (repeat (first | with_reducible refine run_seq ?_ | with_reducible refine run_reg ?_ | with_reducible refine run_block ?_ | with_reducible refine run_blk ?_ | with_reducible refine run_skip ?_ | with_reducible refine run_exit rfl ?_ | with_reducible refine run_drw ?_ | with_reducible refine run_condT ?_ | with_reducible refine run_ret' ?_ | with_reducible refine run_end' ?_ | simp only [go_sem, ↓reduceIte, Nat.reduceAdd, Nat.reduceEqDiff, Nat.reduceBEq, reduceCtorEq, Int.reduceBEq, Int.reduceBNe, Int.reduceLT, Int.reduceLE, hb.cell]))
      refine appS (fp := [q14]) (Sl.empty1 ((hat14.keep0 ho2).keep ho3 (by simp only [List.mem_singleton]; omega))) (hp.h2.src.keep0 (((((Only.refl [] w.drew).nil ho1).nil ho2).trans ho3 fun x hx => .inr (by simp only [List.mem_singleton] at hx; omega)))) ints_one (by omega) (by omega) ?_
      intro v19 u4 f19 hsx19 hf19 ho4 _
      have hs19' : Sl u4 1 v19 s.Q.length (ints s.Q) f19 := by simpa using hsx19
      have hz4 := ho4.size
      refine ⟨.inr ?_, ?_⟩
      · exact sbk _ (by exact (((((Only.refl [] w.drew).nil ho1).nil ho2).trans ho3 fun x hx => .inr (by simp only [List.mem_singleton] at hx; omega)).trans ho4 fun x hx => .inr (by simp only [List.mem_singleton] at hx; omega)))
      (repeat (first | with_reducible refine run_seq ?_ | with_reducible refine run_reg ?_ | with_reducible refine run_block ?_ | with_reducible refine run_blk ?_ | with_reducible refine run_skip ?_ | with_reducible refine run_exit rfl ?_ | with_reducible refine run_drw ?_ | with_reducible refine run_condT ?_ | with_reducible refine run_ret' ?_ | with_reducible refine run_end' ?_ | simp only [go_sem, ↓reduceIte, Nat.reduceAdd, Nat.reduceEqDiff, Nat.reduceBEq, reduceCtorEq, Int.reduceBEq, Int.reduceBNe, Int.reduceLT, Int.reduceLE, hb.cell]))
      rw [fillL_one hs13'.oneC rfl]
      (repeat (first | with_reducible refine run_seq ?_ | with_reducible refine run_reg ?_ | with_reducible refine run_block ?_ | with_reducible refine run_blk ?_ | with_reducible refine run_skip ?_ | with_reducible refine run_exit rfl ?_ | with_reducible refine run_drw ?_ | with_reducible refine run_condT ?_ | with_reducible refine run_ret' ?_ | with_reducible refine run_end' ?_ | simp only [go_sem, ↓reduceIte, Nat.reduceAdd, Nat.reduceEqDiff, Nat.reduceBEq, reduceCtorEq, Int.reduceBEq, Int.reduceBNe, Int.reduceLT, Int.reduceLE]))
      rw [fillL_one hs19'.oneC rfl]
      (repeat (first | with_reducible refine run_seq ?_ | with_reducible refine run_reg ?_ | with_reducible refine run_block ?_ | with_reducible refine run_blk ?_ | with_reducible refine run_skip ?_ | with_reducible refine run_exit rfl ?_ | with_reducible refine run_drw ?_ | with_reducible refine run_condT ?_ | with_reducible refine run_ret' ?_ | with_reducible refine run_end' ?_ | simp only [go_sem, ↓reduceIte, Nat.reduceAdd, Nat.reduceEqDiff, Nat.reduceBEq, reduceCtorEq, Int.reduceBEq, Int.reduceBNe, Int.reduceLT, Int.reduceLE]))
      refine boxS fun c u5 hc hs5 hat5 ho5 => ⟨.inl rfl, ?_⟩
      (repeat (first | with_reducible refine run_seq ?_ | with_reducible refine run_reg ?_ | with_reducible refine run_block ?_ | with_reducible refine run_blk ?_ | with_reducible refine run_skip ?_ | with_reducible refine run_exit rfl ?_ | with_reducible refine run_drw ?_ | with_reducible refine run_condT ?_ | with_reducible refine run_ret' ?_ | with_reducible refine run_end' ?_ | simp only [go_sem, ↓reduceIte, Nat.reduceAdd, Nat.reduceEqDiff, Nat.reduceBEq, reduceCtorEq, Int.reduceBEq, Int.reduceBNe, Int.reduceLT, Int.reduceLE]))
      have hO4 : Only [] w.drew u4 := (((((Only.refl [] w.drew).nil ho1).nil ho2).trans ho3 fun x hx => .inr (by simp only [List.mem_singleton] at hx; omega)).trans ho4 fun x hx => .inr (by simp only [List.mem_singleton] at hx; omega))
      have hz4' := hO4.size
      refine hkk _ u5 (by (repeat (first | with_reducible exact Keeps.refl _ _ | with_reducible exact Keeps.ovr _ _ _ | refine Keeps.put ?_ rfl _ | exact Keeps.refl _ _ | exact Keeps.ovr _ _ _ | refine Keeps.ovr2 ?_ rfl _))) ⟨c, v13, v19, f13, f19, by simp only [go_sem, ↓reduceIte, Nat.reduceAdd, Nat.reduceEqDiff, Nat.reduceBEq, reduceCtorEq, Int.reduceBEq, Int.reduceBNe, Int.reduceLT, Int.reduceLE], hat5, ((hs13'.keep ho4 (fun x hx => by have hlx := hs13'.lt x hx; simp only [List.mem_singleton]; rcases hf13 with rfl | rfl <;> simp only [List.mem_singleton] at hx <;> omega))).keep0 ho5, (hs19').keep0 ho5, Only.drew_left (hO4.nil ho5), ?_, ?_⟩
      · have l13 := hs13'.lt; have l19 := hs19'.lt; have o13 := hs13'.oneC
        rcases hf13 with rfl | rfl <;> rcases hf19 with rfl | rfl <;> (have l13' := l13 _ (List.mem_singleton.2 rfl); have l19' := l19 _ (List.mem_singleton.2 rfl); simp only [List.cons_append, List.nil_append, List.nodup_cons, List.mem_cons, List.not_mem_nil, or_false, not_or, not_false_eq_true, List.nodup_nil, and_true]; omega)
      · intro x hx; rcases hf13 with rfl | rfl <;> rcases hf19 with rfl | rfl <;> simp only [List.cons_append, List.nil_append, List.mem_cons, List.not_mem_nil, or_false] at hx <;> omega
    obtain ⟨c, vg', vq', fg', fq', h3, hc, hg', hq', hO, hnd', hnew'⟩ := hJ
    have hp1 := hp.keep0 hO
    have hclt := hc.lt
    have hz1 := hO.size
    have hlto : ∀ x, x ∈ b :: (fs ++ (rows.map (·.1) ++ (fg ++ fq))) → x < w.heap.size := (show RM w b s _ from ⟨_, _, _, _, _, _, _, rfl, hp⟩).lt
    have hblt := hlto b (by simp)
    (repeat (first | with_reducible refine run_seq ?_ | with_reducible refine run_reg ?_ | with_reducible refine run_block ?_ | with_reducible refine run_blk ?_ | with_reducible refine run_skip ?_ | with_reducible refine run_exit rfl ?_ | with_reducible refine run_drw ?_ | with_reducible refine run_condT ?_ | with_reducible refine run_ret' ?_ | with_reducible refine run_end' ?_ | simp only [go_sem, ↓reduceIte, Nat.reduceAdd, Nat.reduceEqDiff, Nat.reduceBEq, reduceCtorEq, Int.reduceBEq, Int.reduceBNe, Int.reduceLT, Int.reduceLE]))
    refine run_loop (4 :: 22 :: 23 :: 24 :: 25 :: 26 :: 27 :: 28 :: 29 :: 30 :: 31 :: 32 :: 33 :: 34 :: 35 :: 36 :: 37 :: 38 :: 39 :: 40 :: 41 :: 42 :: 43 :: 44 :: 45 :: 46 :: 47 :: 48 :: []) (fun g2 w' => ∃ (t : Nat) (v : Value) (rows' : List (Nat × Nat)) (fs' : List Nat), g2 4 = .int .i64 t ∧ t ≤ s.M ∧ At w' c [v, vg', vq'] ∧ RowsAt w' w1.heap.size s.S t v rows' fs' ∧ Sl w' 1 vg' 16 (ints s.G) fg' ∧ Sl w' 1 vq' s.Q.length (ints s.Q) fq' ∧ Only [] w w' ∧ w1.heap.size ≤ w'.heap.size)
      (fun g2 _ => upTo s.M 4 g2) ⟨0, _, [], [], by simp only [go_sem, ↓reduceIte, Nat.reduceAdd, Nat.reduceEqDiff, Nat.reduceBEq, reduceCtorEq, Int.reduceBEq, Int.reduceBNe, Int.reduceLT, Int.reduceLE]; rfl, by omega, hc, RowsAt.zero _ _ _, hg', hq', hO, Nat.le_refl _⟩ fun g2 w3 hI hnext => ?_
    obtain ⟨t, v, rows', fs', h4, ht, hct, hrows, hg3, hq3, hO3, hsz⟩ := hI
    have hp3 := hp.keep0 hO3
    obtain ⟨gs, cap, ys, hvs, hgs, hfs, _⟩ := hp3.h0.pos (by have := hok.m1; omega)
    have hgslt : gs < w.heap.size := hlto gs (by rw [hfs]; simp)
    subst hvs
    (repeat (first | with_reducible refine run_seq ?_ | with_reducible refine run_reg ?_ | with_reducible refine run_block ?_ | with_reducible refine run_blk ?_ | with_reducible refine run_skip ?_ | with_reducible refine run_exit rfl ?_ | with_reducible refine run_drw ?_ | with_reducible refine run_condT ?_ | with_reducible refine run_ret' ?_ | with_reducible refine run_end' ?_ | simp only [go_sem, ↓reduceIte, Nat.reduceAdd, Nat.reduceEqDiff, Nat.reduceBEq, reduceCtorEq, Int.reduceBEq, Int.reduceBNe, Int.reduceLT, Int.reduceLE, h4, h3, hp3.hb.cell]))
    refine condT (fun hlt => ?_) (fun hge => ?_)
    · have hlt : t < s.M := by have : (t : Int) < (s.M : Int) := by simpa using hlt
                               omega
      (repeat (first | with_reducible refine run_seq ?_ | with_reducible refine run_reg ?_ | with_reducible refine run_block ?_ | with_reducible refine run_blk ?_ | with_reducible refine run_skip ?_ | with_reducible refine run_exit rfl ?_ | with_reducible refine run_drw ?_ | with_reducible refine run_condT ?_ | with_reducible refine run_ret' ?_ | with_reducible refine run_end' ?_ | simp only [go_sem, ↓reduceIte, Nat.reduceAdd, Nat.reduceEqDiff, Nat.reduceBEq, reduceCtorEq, Int.reduceBEq, Int.reduceBNe, Int.reduceLT, Int.reduceLE]))
      refine run_drt [c, b, gs] ?_
      have hd3 : w3.drew.heap.size = w3.heap.size := rfl
      have hct' := hct.lt
      obtain ⟨g0, cap0, ys0, g1, c1, zs, hv0, hg0, hgt, hg1e, hg1⟩ := hp3.row hlt
      cases hv0
      have hg1lt : g1 < w.heap.size := by rw [hg1e]; exact hlto _ (by simp only [List.mem_cons, List.mem_append]; exact .inr (.inr (.inl (getD_mem (by rw [hp.len]; exact hlt)))))
      have sbk : ∀ w', Only [] w3.drew w' → SB [c, b, gs] w3.drew w' := fun w' ho => (SB.refl _ _).only ho fun x hx => by
        simp only [List.mem_cons, List.not_mem_nil, or_false] at hx
        have := hO3.size
        rcases hx with rfl | rfl | rfl
        · exact ⟨hct', by simp⟩
        · exact ⟨by omega, by simp⟩
        · exact ⟨by omega, by simp⟩
      have e1 : (0 : Int) ≤ (t : Int) ∧ (t : Int) < (s.M : Int) := ⟨by omega, by omega⟩
      have hl : (rowS s.S t).length = 16 := rowS_length (by have := hok.ls; omega)
      (repeat (first | with_reducible refine run_seq ?_ | with_reducible refine run_reg ?_ | with_reducible refine run_block ?_ | with_reducible refine run_blk ?_ | with_reducible refine run_skip ?_ | with_reducible refine run_exit rfl ?_ | with_reducible refine run_drw ?_ | with_reducible refine run_condT ?_ | with_reducible refine run_ret' ?_ | with_reducible refine run_end' ?_ | simp only [go_sem, ↓reduceIte, Nat.reduceAdd, Nat.reduceEqDiff, Nat.reduceBEq, reduceCtorEq, Int.reduceBEq, Int.reduceBNe, Int.reduceLT, Int.reduceLE, h3, h4, hct.cell, hp3.hb.cell, if_pos e1, Int.toNat_natCast, Nat.mul_one, hg0.cell, hgt]))
      refine bslS fun q4 w4 hq4 hs4 hat4 ho4 => ⟨.inr (sbk _ ho4), ?_⟩
      have hO34 : Only [] w3 w4 := Only.drew_left ho4
      (repeat (first | with_reducible refine run_seq ?_ | with_reducible refine run_reg ?_ | with_reducible refine run_block ?_ | with_reducible refine run_blk ?_ | with_reducible refine run_skip ?_ | with_reducible refine run_exit rfl ?_ | with_reducible refine run_drw ?_ | with_reducible refine run_condT ?_ | with_reducible refine run_ret' ?_ | with_reducible refine run_end' ?_ | simp only [go_sem, ↓reduceIte, Nat.reduceAdd, Nat.reduceEqDiff, Nat.reduceBEq, reduceCtorEq, Int.reduceBEq, Int.reduceBNe, Int.reduceLT, Int.reduceLE]))
      refine appS (fp := [q4]) (Sl.empty1 hat4) (m := 16) (us := ints (rowS s.S t)) ?_ ints_one (by omega) (by omega) ?_
      · have hg14 := hg1.keep0 hO34
        refine ⟨by rw [ints_length, hl], .inr ⟨_, c1, rfl, ?_⟩⟩
        rw [cellsAt_at hg14 0 _ (by simp [ints_length, hl])]
        simp [ints, hl]
      intro v5 w5 f5 hs5 hf5 ho5 _
      have hO45 : Only [] w3.drew w5 := ho4.trans ho5 fun x hx => .inr (by simp only [List.mem_singleton] at hx; omega)
      have hO35 : Only [] w3 w5 := Only.drew_left hO45
      have hs5' : Sl w5 1 v5 16 (ints (rowS s.S t)) f5 := by simpa using hs5
      refine ⟨.inr (sbk _ hO45), ?_⟩
      obtain ⟨g5, c5, ys5, hv5, hat5, hf5', _⟩ := hs5'.pos (by omega)
      have hg5n : w3.heap.size ≤ g5 := by
        rcases hf5 with e | e
        · rw [e] at hf5'; simp only [List.cons.injEq, and_true] at hf5'; omega
        · rw [e] at hf5'; simp only [List.cons.injEq, and_true] at hf5'; omega
      subst hv5
      (repeat (first | with_reducible refine run_seq ?_ | with_reducible refine run_reg ?_ | with_reducible refine run_block ?_ | with_reducible refine run_blk ?_ | with_reducible refine run_skip ?_ | with_reducible refine run_exit rfl ?_ | with_reducible refine run_drw ?_ | with_reducible refine run_condT ?_ | with_reducible refine run_ret' ?_ | with_reducible refine run_end' ?_ | simp only [go_sem, ↓reduceIte, Nat.reduceAdd, Nat.reduceEqDiff, Nat.reduceBEq, reduceCtorEq, Int.reduceBEq, Int.reduceBNe, Int.reduceLT, Int.reduceLE]))
      rw [fillL_one rfl rfl]
      (repeat (first | with_reducible refine run_seq ?_ | with_reducible refine run_reg ?_ | with_reducible refine run_block ?_ | with_reducible refine run_blk ?_ | with_reducible refine run_skip ?_ | with_reducible refine run_exit rfl ?_ | with_reducible refine run_drw ?_ | with_reducible refine run_condT ?_ | with_reducible refine run_ret' ?_ | with_reducible refine run_end' ?_ | simp only [go_sem, ↓reduceIte, Nat.reduceAdd, Nat.reduceEqDiff, Nat.reduceBEq, reduceCtorEq, Int.reduceBEq, Int.reduceBNe, Int.reduceLT, Int.reduceLE]))
      refine bslS fun q6 w6 hq6 hs6 hat6 ho6 => ⟨.inr (sbk _ (hO45.nil ho6)), ?_⟩
      have hO36 := hO35.nil ho6
      (repeat (first | with_reducible refine run_seq ?_ | with_reducible refine run_reg ?_ | with_reducible refine run_block ?_ | with_reducible refine run_blk ?_ | with_reducible refine run_skip ?_ | with_reducible refine run_exit rfl ?_ | with_reducible refine run_drw ?_ | with_reducible refine run_condT ?_ | with_reducible refine run_ret' ?_ | with_reducible refine run_end' ?_ | simp only [go_sem, ↓reduceIte, Nat.reduceAdd, Nat.reduceEqDiff, Nat.reduceBEq, reduceCtorEq, Int.reduceBEq, Int.reduceBNe, Int.reduceLT, Int.reduceLE]))
      have hr6 := hrows.keep0 hO36
      refine appS hr6.sl (SrcIs.at hat6 rfl) (by simp [oneC]) (by have := hok.m4; omega) (by have := hok.m4; omega) ?_
      intro v' w7 fs7 hs7 hf7 ho7 _
      refine ⟨.inl rfl, ?_⟩
      have hcfs : c ∉ fs' := fun hx => by have := hrows.new c (by simp [hx]); omega
      have hc7 := (hct.keep0 hO36).keep ho7 hcfs
      (repeat (first | with_reducible refine run_seq ?_ | with_reducible refine run_reg ?_ | with_reducible refine run_block ?_ | with_reducible refine run_blk ?_ | with_reducible refine run_skip ?_ | with_reducible refine run_exit rfl ?_ | with_reducible refine run_drw ?_ | with_reducible refine run_condT ?_ | with_reducible refine run_ret' ?_ | with_reducible refine run_end' ?_ | simp only [go_sem, ↓reduceIte, Nat.reduceAdd, Nat.reduceEqDiff, Nat.reduceBEq, reduceCtorEq, Int.reduceBEq, Int.reduceBNe, Int.reduceLT, Int.reduceLE, h3]))
      refine stS hc7 (by simp) hs7.oneC fun w8 hs8 hat8 ho8 => ⟨.inl rfl, ?_⟩
      (repeat (first | with_reducible refine run_seq ?_ | with_reducible refine run_reg ?_ | with_reducible refine run_block ?_ | with_reducible refine run_blk ?_ | with_reducible refine run_skip ?_ | with_reducible refine run_exit rfl ?_ | with_reducible refine run_drw ?_ | with_reducible refine run_condT ?_ | with_reducible refine run_ret' ?_ | with_reducible refine run_end' ?_ | simp only [go_sem, ↓reduceIte, Nat.reduceAdd, Nat.reduceEqDiff, Nat.reduceBEq, reduceCtorEq, Int.reduceBEq, Int.reduceBNe, Int.reduceLT, Int.reduceLE, h4, i64_succ t (by have := hok.m4; omega)]))
      have hltr := hrows.lt
      have hz36 := hO36.size
      have hr7 := hr6.snoc (g := g5) (c := c5) (ys := ys5) hs7 hf7 ho7 (hat5.keep0 ho6) (fun hx => by have := hltr g5 hx; omega) (by omega) (by omega)
      have hold : ∀ x, x < w1.heap.size → x ∉ fs' := fun x hx hx2 => by have := hrows.new x (by simp [hx2]); omega
      have hg8 := hg'.lt; have hq8 := hq'.lt
      simp only [List.nodup_cons, List.mem_append, not_or] at hnd'
      refine hnext _ w8 ?_ ⟨t + 1, v', _, fs7, ?_, by omega, hat8, hr7.keep ho8 ?_, ((hg3.keep0 hO36).keep ho7 fun x hx => hold x (hg8 x hx)).keep ho8 ?_, ((hq3.keep0 hO36).keep ho7 fun x hx => hold x (hq8 x hx)).keep ho8 ?_, ?_, ?_⟩ ?_
      · (repeat (first | with_reducible exact Keeps.refl _ _ | with_reducible exact Keeps.ovr _ _ _ | refine Keeps.put ?_ rfl _ | exact Keeps.refl _ _ | exact Keeps.ovr _ _ _ | refine Keeps.ovr2 ?_ rfl _))
      · simp only [go_sem, ↓reduceIte, Nat.reduceAdd, Nat.reduceEqDiff, Nat.reduceBEq, reduceCtorEq, Int.reduceBEq, Int.reduceBNe, Int.reduceLT, Int.reduceLE]
      · intro x hx; have := hr7.new x hx; simp only [List.mem_singleton]; omega
      · intro x hx; simp only [List.mem_singleton]; rintro rfl; exact hnd'.1.1 hx
      · intro x hx; simp only [List.mem_singleton]; rintro rfl; exact hnd'.1.2 hx
      · refine (hO3.trans (hO36.of_nil.same (ho7.mono (T := fs') fun x hx => .inl hx)) fun x hx => .inr ?_).trans ho8 fun x hx => .inr ?_
        · have := hrows.new x (by simp [hx]); omega
        · simp only [List.mem_singleton] at hx; subst hx; exact hnew' _ (by simp)
      · have := ho7.size; have := ho8.size; omega
      · rw [upTo_int h4, upTo_int (k := .i64) (i := t + 1) (by simp only [go_sem, ↓reduceIte, Nat.reduceAdd, Nat.reduceEqDiff, Nat.reduceBEq, reduceCtorEq, Int.reduceBEq, Int.reduceBNe, Int.reduceLT, Int.reduceLE])]; omega
    · have : t = s.M := by have : ¬ (t : Int) < (s.M : Int) := by simpa using hge
                           omega
      subst this
      (repeat (first | with_reducible refine run_seq ?_ | with_reducible refine run_reg ?_ | with_reducible refine run_block ?_ | with_reducible refine run_blk ?_ | with_reducible refine run_skip ?_ | with_reducible refine run_exit rfl ?_ | with_reducible refine run_drw ?_ | with_reducible refine run_condT ?_ | with_reducible refine run_ret' ?_ | with_reducible refine run_end' ?_ | simp only [go_sem, ↓reduceIte, Nat.reduceAdd, Nat.reduceEqDiff, Nat.reduceBEq, reduceCtorEq, Int.reduceBEq, Int.reduceBNe, Int.reduceLT, Int.reduceLE, h3]))
      have hnd := hrows.nd
      rw [List.nodup_append] at hnd
      have hn := hrows.new
      have hg8 := hg'.lt; have hq8 := hq'.lt
      simp only [List.nodup_cons, List.mem_append, not_or, List.nodup_append] at hnd'
      refine ⟨hO3, some ⟨c, 0, none⟩, c :: (fs' ++ (rows'.map (·.1) ++ (fg' ++ fq'))), rfl, ⟨c, rfl, v, _, _, fs', rows', fg', fq', rfl, ⟨hok, hrows.len, ?_, hct, hrows.sl, hrows.hr, hg3, hq3⟩⟩, (fun h => by first | cases h | exact h.elim), fun x hx => ?_⟩
      · simp only [List.nodup_cons, List.mem_append, not_or, List.nodup_append]
        refine ⟨⟨fun hx => by have := hn c (by simp [hx]); omega, fun hx => by have := hn c (by simp only [List.mem_append]; exact .inr hx); omega, hnd'.1.1, hnd'.1.2⟩, hnd.1, ⟨hnd.2.1, hnd'.2, fun x hx y hy e => ?_⟩, fun x hx y hy e => ?_⟩
        · subst e
          have h1 := hn x (by simp only [List.mem_append]; exact .inr hx)
          rcases hy with hy | hy
          · have := hg8 x hy; omega
          · have := hq8 x hy; omega
        · subst e
          have h1 := hn x (by simp [hx])
          rcases hy with hy | hy | hy
          · exact hnd.2.2 x hx x hy rfl
          · have := hg8 x hy; omega
          · have := hq8 x hy; omega
      · simp only [List.mem_cons, List.mem_append] at hx
        rcases hx with rfl | hx | hx | hx | hx
        · exact hnew' _ (by simp)
        · have := hn x (by simp [hx]); omega
        · have := hn x (by simp only [List.mem_append]; exact .inr hx); omega
        · exact hnew' _ (by simp [hx])
        · exact hnew' _ (by simp [hx])
end Go.Proofs.Ytblfmacnkacalaa
