/- The laws RootsPlays and RootsNone, walked. -/
import Derived.Test.YtblfmacnkacalaaRtLD
namespace Go.Proofs.Ytblfmacnkacalaa
set_option linter.unusedSimpArgs false
set_option linter.unusedVariables false
set_option maxRecDepth 8000

/-- a list of one act, made -/
theorem acts_one {w : World} {h0 q : Nat} {x : A7} {vF vT : Value} (hq : At w q (actV x vF vT)) (hF : RdH h0 w vF x.F) (hT : RdH h0 w vT x.T) (hh : h0 ≤ w.heap.size) : ActsAt w.heap.size w (.slice (some ⟨q, 0, none⟩) 1 1) [x] := by
  refine ⟨some ⟨q, 0, none⟩, 1, rfl, by simp, fun i hi => ?_⟩
  have : i = 0 := by simpa using hi
  subst this
  obtain ⟨D1, h1, h2⟩ := hF
  obtain ⟨D2, h3, h4⟩ := hT
  refine ⟨⟨q, 0, none⟩, actV x vF vT, rfl, hq.lt, ?_, vF, vT, rfl, ⟨D1, h1, fun y hy => Nat.lt_of_lt_of_le (h2 y hy) hh⟩, ⟨D2, h3, fun y hy => Nat.lt_of_lt_of_le (h4 y hy) hh⟩⟩
  have := cellsAt_at hq 0 7 (by simp [actV])
  simpa [actV, Addr.add] using this
theorem actV_one {x : A7} {vF vT : Value} (hF : oneC vF = true) (hT : oneC vT = true) : ∀ u, u ∈ actV x vF vT → oneC u = true := by
  intro u hu
  simp only [actV, List.mem_cons, List.not_mem_nil, or_false] at hu
  rcases hu with rfl | rfl | rfl | rfl | rfl | rfl | rfl <;> first | rfl | assumption
theorem RdH.oneC {h0 : Nat} {w : World} {v : Value} {xs : List Int} (h : RdH h0 w v xs) : Go.Proofs.Ytblfmacnkacalaa.oneC v = true := by
  obtain ⟨D, h1, _⟩ := h
  obtain ⟨a, c, e⟩ := h1.val
  rw [e]; rfl
theorem gr_one {x : A7} : gr [x] = bigA x := by simp [gr]
theorem setL_act {z1 z2 z3 z4 z5 z6 z7 : Value} {x : A7} {vF vT : Value} : setL [z1, z2, z3, z4, z5, z6, z7] 0 (actV x vF vT) = actV x vF vT := Eq.trans rfl rfl

def cloneStep (m : MO) (x : A7) : MO := playO m x

theorem plays_walk {w : World} {v : Value} {l : List A7} (n : Int) (hl : ActsAt w.heap.size w v l) : Cs Try.prog 8 [.int .i64 n, v] w fun r w' => r = .bool true ∧ Only [] w w' := by
  refine enter_law03_RootsPlays rfl ?_
  unfold x_law03_RootsPlays
  (repeat (first | with_reducible refine run_seq ?_ | with_reducible refine run_reg ?_ | with_reducible refine run_block ?_ | with_reducible refine run_blk ?_ | with_reducible refine run_skip ?_ | with_reducible refine run_exit rfl ?_ | with_reducible refine run_drw ?_ | with_reducible refine run_condT ?_ | with_reducible refine run_ret' ?_ | with_reducible refine run_end' ?_ | simp only [go_sem, ↓reduceIte, Nat.reduceAdd, Nat.reduceEqDiff, Nat.reduceBEq, reduceCtorEq, Int.reduceBEq, Int.reduceBNe, Int.reduceLT, Int.reduceLE]))
  refine callT0 (law_great hl) ?_
  cases hg : gr l with
  | true =>
    (repeat (first | with_reducible refine run_seq ?_ | with_reducible refine run_reg ?_ | with_reducible refine run_block ?_ | with_reducible refine run_blk ?_ | with_reducible refine run_skip ?_ | with_reducible refine run_exit rfl ?_ | with_reducible refine run_drw ?_ | with_reducible refine run_condT ?_ | with_reducible refine run_ret' ?_ | with_reducible refine run_end' ?_ | simp only [go_sem, ↓reduceIte, Nat.reduceAdd, Nat.reduceEqDiff, Nat.reduceBEq, reduceCtorEq, Int.reduceBEq, Int.reduceBNe, Int.reduceLT, Int.reduceLE]))
    refine callT1 (law_alive w) fun w' ho => ?_
    (repeat (first | with_reducible refine run_seq ?_ | with_reducible refine run_reg ?_ | with_reducible refine run_block ?_ | with_reducible refine run_blk ?_ | with_reducible refine run_skip ?_ | with_reducible refine run_exit rfl ?_ | with_reducible refine run_drw ?_ | with_reducible refine run_condT ?_ | with_reducible refine run_ret' ?_ | with_reducible refine run_end' ?_ | simp only [go_sem, ↓reduceIte, Nat.reduceAdd, Nat.reduceEqDiff, Nat.reduceBEq, reduceCtorEq, Int.reduceBEq, Int.reduceBNe, Int.reduceLT, Int.reduceLE]))
    exact ho
  | false =>
    obtain ⟨hl100, hsm⟩ := gr_false hg
    (repeat (first | with_reducible refine run_seq ?_ | with_reducible refine run_reg ?_ | with_reducible refine run_block ?_ | with_reducible refine run_blk ?_ | with_reducible refine run_skip ?_ | with_reducible refine run_exit rfl ?_ | with_reducible refine run_drw ?_ | with_reducible refine run_condT ?_ | with_reducible refine run_ret' ?_ | with_reducible refine run_end' ?_ | simp only [go_sem, ↓reduceIte, Nat.reduceAdd, Nat.reduceEqDiff, Nat.reduceBEq, reduceCtorEq, Int.reduceBEq, Int.reduceBNe, Int.reduceLT, Int.reduceLE]))
    refine callT (New_m w n) ?_
    rintro r w1 ⟨ho1, a, fp, rfl, hp, hpn, hpf⟩
    (repeat (first | with_reducible refine run_seq ?_ | with_reducible refine run_reg ?_ | with_reducible refine run_block ?_ | with_reducible refine run_blk ?_ | with_reducible refine run_skip ?_ | with_reducible refine run_exit rfl ?_ | with_reducible refine run_drw ?_ | with_reducible refine run_condT ?_ | with_reducible refine run_ret' ?_ | with_reducible refine run_end' ?_ | simp only [go_sem, ↓reduceIte, Nat.reduceAdd, Nat.reduceEqDiff, Nat.reduceBEq, reduceCtorEq, Int.reduceBEq, Int.reduceBNe, Int.reduceLT, Int.reduceLE]))
    refine callT (rNew w1 n) ?_
    rintro r w2 ⟨ho2, b, rp, rfl, hr, hrn, hrf⟩
    have ho := ho1.nil ho2
    obtain ⟨al, cl, rfl⟩ := hl.val
    cases hm : newO n with
    | none =>
      have ea := hpn hm; have eb := hrn hm
      subst ea eb
      rw [hm] at hp hr
      (repeat (first | with_reducible refine run_seq ?_ | with_reducible refine run_reg ?_ | with_reducible refine run_block ?_ | with_reducible refine run_blk ?_ | with_reducible refine run_skip ?_ | with_reducible refine run_exit rfl ?_ | with_reducible refine run_drw ?_ | with_reducible refine run_condT ?_ | with_reducible refine run_ret' ?_ | with_reducible refine run_end' ?_ | simp only [go_sem, ↓reduceIte, Nat.reduceAdd, Nat.reduceEqDiff, Nat.reduceBEq, reduceCtorEq, Int.reduceBEq, Int.reduceBNe, Int.reduceLT, Int.reduceLE, Option.isSome_none, bne_int_false (rfl : (1 : Int) = 1)]))
      refine run_loop (4 :: 5 :: 6 :: 7 :: 8 :: 9 :: 33 :: 34 :: 35 :: 36 :: 37 :: 38 :: 39 :: 40 :: 41 :: 42 :: 43 :: 44 :: 45 :: 46 :: 47 :: 48 :: 49 :: 50 :: 51 :: 52 :: 53 :: 54 :: 55 :: 56 :: 57 :: 58 :: 59 :: 60 :: []) (fun g w' => ∃ i : Nat, g 9 = .int .i64 i ∧ g 5 = .pointer none ∧ g 7 = .pointer none ∧ w' = w2) (fun _ _ => 0) ⟨0, by simp only [go_sem, ↓reduceIte, Nat.reduceAdd, Nat.reduceEqDiff, Nat.reduceBEq, reduceCtorEq, Int.reduceBEq, Int.reduceBNe, Int.reduceLT, Int.reduceLE]; rfl, by simp only [go_sem, ↓reduceIte, Nat.reduceAdd, Nat.reduceEqDiff, Nat.reduceBEq, reduceCtorEq, Int.reduceBEq, Int.reduceBNe, Int.reduceLT, Int.reduceLE], by simp only [go_sem, ↓reduceIte, Nat.reduceAdd, Nat.reduceEqDiff, Nat.reduceBEq, reduceCtorEq, Int.reduceBEq, Int.reduceBNe, Int.reduceLT, Int.reduceLE], rfl⟩ fun g w3 hI hnext => ?_
      obtain ⟨i, h9, h5, h7, rfl⟩ := hI
      by_cases c : (i : Int) < (l.length : Int)
      · (repeat (first | with_reducible refine run_seq ?_ | with_reducible refine run_reg ?_ | with_reducible refine run_block ?_ | with_reducible refine run_blk ?_ | with_reducible refine run_skip ?_ | with_reducible refine run_exit rfl ?_ | with_reducible refine run_drw ?_ | with_reducible refine run_condT ?_ | with_reducible refine run_ret' ?_ | with_reducible refine run_end' ?_ | simp only [go_sem, ↓reduceIte, Nat.reduceAdd, Nat.reduceEqDiff, Nat.reduceBEq, reduceCtorEq, Int.reduceBEq, Int.reduceBNe, Int.reduceLT, Int.reduceLE, h9, h7, h5, decide_eq_true c]))
        refine callT (law_same (hp.keep0 ho2) hr rfl) ?_
        rintro r w4 ⟨rfl, ho4⟩
        (repeat (first | with_reducible refine run_seq ?_ | with_reducible refine run_reg ?_ | with_reducible refine run_block ?_ | with_reducible refine run_blk ?_ | with_reducible refine run_skip ?_ | with_reducible refine run_exit rfl ?_ | with_reducible refine run_drw ?_ | with_reducible refine run_condT ?_ | with_reducible refine run_ret' ?_ | with_reducible refine run_end' ?_ | simp only [go_sem, ↓reduceIte, Nat.reduceAdd, Nat.reduceEqDiff, Nat.reduceBEq, reduceCtorEq, Int.reduceBEq, Int.reduceBNe, Int.reduceLT, Int.reduceLE]))
        refine callT1 (law_alive w4) fun w5 ho5 => ?_
        (repeat (first | with_reducible refine run_seq ?_ | with_reducible refine run_reg ?_ | with_reducible refine run_block ?_ | with_reducible refine run_blk ?_ | with_reducible refine run_skip ?_ | with_reducible refine run_exit rfl ?_ | with_reducible refine run_drw ?_ | with_reducible refine run_condT ?_ | with_reducible refine run_ret' ?_ | with_reducible refine run_end' ?_ | simp only [go_sem, ↓reduceIte, Nat.reduceAdd, Nat.reduceEqDiff, Nat.reduceBEq, reduceCtorEq, Int.reduceBEq, Int.reduceBNe, Int.reduceLT, Int.reduceLE]))
        exact (ho.nil ho4).nil ho5
      · (repeat (first | with_reducible refine run_seq ?_ | with_reducible refine run_reg ?_ | with_reducible refine run_block ?_ | with_reducible refine run_blk ?_ | with_reducible refine run_skip ?_ | with_reducible refine run_exit rfl ?_ | with_reducible refine run_drw ?_ | with_reducible refine run_condT ?_ | with_reducible refine run_ret' ?_ | with_reducible refine run_end' ?_ | simp only [go_sem, ↓reduceIte, Nat.reduceAdd, Nat.reduceEqDiff, Nat.reduceBEq, reduceCtorEq, Int.reduceBEq, Int.reduceBNe, Int.reduceLT, Int.reduceLE, h9, h7, h5, decide_eq_false c]))
        refine callT (law_same (hp.keep0 ho2) hr rfl) ?_
        rintro r w4 ⟨rfl, ho4⟩
        (repeat (first | with_reducible refine run_seq ?_ | with_reducible refine run_reg ?_ | with_reducible refine run_block ?_ | with_reducible refine run_blk ?_ | with_reducible refine run_skip ?_ | with_reducible refine run_exit rfl ?_ | with_reducible refine run_drw ?_ | with_reducible refine run_condT ?_ | with_reducible refine run_ret' ?_ | with_reducible refine run_end' ?_ | simp only [go_sem, ↓reduceIte, Nat.reduceAdd, Nat.reduceEqDiff, Nat.reduceBEq, reduceCtorEq, Int.reduceBEq, Int.reduceBNe, Int.reduceLT, Int.reduceLE]))
        refine callT1 (law_alive w4) fun w5 ho5 => ?_
        (repeat (first | with_reducible refine run_seq ?_ | with_reducible refine run_reg ?_ | with_reducible refine run_block ?_ | with_reducible refine run_blk ?_ | with_reducible refine run_skip ?_ | with_reducible refine run_exit rfl ?_ | with_reducible refine run_drw ?_ | with_reducible refine run_condT ?_ | with_reducible refine run_ret' ?_ | with_reducible refine run_end' ?_ | simp only [go_sem, ↓reduceIte, Nat.reduceAdd, Nat.reduceEqDiff, Nat.reduceBEq, reduceCtorEq, Int.reduceBEq, Int.reduceBNe, Int.reduceLT, Int.reduceLE]))
        exact (ho.nil ho4).nil ho5
    | some s0 =>
      rw [hm] at hp hr
      obtain ⟨ba, rfl, hpm⟩ := hp
      obtain ⟨bb, rfl, hrm⟩ := hr
      have hz1 := ho1.size
      have hz2 := ho2.size
      have hlp := hpm.lt
      have ht : Two w2 w.heap.size (some ⟨ba, 0, none⟩) (some ⟨bb, 0, none⟩) fp rp (some s0) := ⟨⟨ba, rfl, hpm.keep ho2 (by simp)⟩, ⟨bb, rfl, hrm⟩, fun x hx hx2 => by have := hrf x hx2; have := hlp x hx; omega, fun x hx => by
        rcases List.mem_append.1 hx with hx | hx
        · exact hpf x hx
        · have := hrf x hx; omega⟩
      (repeat (first | with_reducible refine run_seq ?_ | with_reducible refine run_reg ?_ | with_reducible refine run_block ?_ | with_reducible refine run_blk ?_ | with_reducible refine run_skip ?_ | with_reducible refine run_exit rfl ?_ | with_reducible refine run_drw ?_ | with_reducible refine run_condT ?_ | with_reducible refine run_ret' ?_ | with_reducible refine run_end' ?_ | simp only [go_sem, ↓reduceIte, Nat.reduceAdd, Nat.reduceEqDiff, Nat.reduceBEq, reduceCtorEq, Int.reduceBEq, Int.reduceBNe, Int.reduceLT, Int.reduceLE, Option.isSome_some, bne_int_false (rfl : (0 : Int) = 0)]))
      refine run_loop (4 :: 5 :: 7 :: 9 :: 33 :: 34 :: 35 :: 36 :: 37 :: 38 :: 39 :: 40 :: 41 :: 42 :: 43 :: 44 :: 45 :: 46 :: 47 :: 48 :: 49 :: 50 :: 51 :: 52 :: 53 :: 54 :: 55 :: 56 :: 57 :: 58 :: 59 :: 60 :: []) (fun g w' => ∃ (i : Nat) (aa bb : Addr) (fp' rp' : List Nat) (s : MS), g 9 = .int .i64 i ∧ i ≤ l.length ∧ g 5 = .pointer (some aa) ∧ g 7 = .pointer (some bb) ∧ Two w' w.heap.size (some aa) (some bb) fp' rp' (some s) ∧ Only [] w w') (fun g _ => upTo l.length 9 g)
        ⟨0, _, _, fp, rp, s0, by simp only [go_sem, ↓reduceIte, Nat.reduceAdd, Nat.reduceEqDiff, Nat.reduceBEq, reduceCtorEq, Int.reduceBEq, Int.reduceBNe, Int.reduceLT, Int.reduceLE]; rfl, by omega, by simp only [go_sem, ↓reduceIte, Nat.reduceAdd, Nat.reduceEqDiff, Nat.reduceBEq, reduceCtorEq, Int.reduceBEq, Int.reduceBNe, Int.reduceLT, Int.reduceLE], by simp only [go_sem, ↓reduceIte, Nat.reduceAdd, Nat.reduceEqDiff, Nat.reduceBEq, reduceCtorEq, Int.reduceBEq, Int.reduceBNe, Int.reduceLT, Int.reduceLE], ht, ho⟩ fun g w3 hI hnext => ?_
      obtain ⟨i, aa, bb', fp', rp', s, h9, hi, h5, h7, ht3, ho3⟩ := hI
      have hz3 := ho3.size
      by_cases c : i < l.length
      · have c' : (i : Int) < (l.length : Int) := by omega
        obtain ⟨p, vF, vT, hpe, hc, hF, hT⟩ := (hl.keep (Nat.le_refl _) ho3 (by simp)).read c
        subst hpe
        have e1 : (0 : Int) ≤ (i : Int) ∧ (i : Int) < (l.length : Int) := ⟨by omega, by omega⟩
        have hc0 := (cellsAt_spec hc).2 0 (by omega)
        have hz : ∀ q : Addr, q.add 0 = q := fun q => rfl
        rw [hz] at hc0
        have hc0' : w3.cell? (p.add (i * 7)) = some (.int .i64 (l.getD i default).k) := hc0
        -- playing goes on from any two
        have goOn : ∀ (aa' bb'' : Addr) (fp4 rp4 : List Nat) (w4 : World), Two w4 w.heap.size (some aa') (some bb'') fp4 rp4 (some s) → Only [] w w4 → cellsAt w4 (p.add (i * 7)) 7 = some (actV (l.getD i default) vF vT) ∧
            Cs Try.prog 28 [.pointer (some aa'), .pointer (some bb''), .agg ⟨actV (l.getD i default) vF vT⟩] w4 fun r w5 => r = .bool true ∧ ∃ (fp5 rp5 : List Nat) (s5 : MS), Two w5 w.heap.size (some aa') (some bb'') fp5 rp5 (some s5) ∧ Only [] w w5 := by
          intro aa' bb'' fp4 rp4 w4 ht4 ho4
          have hz4 := ho4.size
          obtain ⟨p', vF', vT', hpe', hc', hF', hT'⟩ := (hl.keep (Nat.le_refl _) ho4 (by simp)).read c
          cases hpe'
          have hsame : actV (l.getD i default) vF' vT' = actV (l.getD i default) vF vT := by
            have hblk : (p.add (i * 7)).block < w.heap.size := by
              obtain ⟨_, _, h1, _, h2⟩ := hl
              cases h1
              obtain ⟨_, _, h3, h4, _⟩ := h2 i c
              cases h3
              rw [add_block]; exact h4
            rw [cellsAt_heap (ho4.block _ hblk (by simp))] at hc'
            rw [cellsAt_heap (ho3.block _ hblk (by simp))] at hc
            rw [hc] at hc'
            exact (Option.some.inj hc').symm
          have e5 : vF' = vF ∧ vT' = vT := by simp only [actV, List.cons.injEq, true_and, and_true] at hsame; exact hsame
          obtain ⟨rfl, rfl⟩ := e5
          refine ⟨hc', (law_play ht4 hz4 hF' hT' (hsm i c)).mono ?_⟩
          rintro r w5 ⟨rfl, fp5, rp5, ht5, ho5, hn5⟩
          refine ⟨rfl, fp5, rp5, ?_⟩
          have hsome : (playO (some s) (l.getD i default)).isSome = true := playO_some
          obtain ⟨s5, hs5⟩ := Option.isSome_iff_exists.1 hsome
          rw [hs5] at ht5
          exact ⟨s5, ht5, ho4.trans ho5 fun x hx => .inr (ht4.lo x hx)⟩
        by_cases k5 : (l.getD i default).k = 5
        · (repeat (first | with_reducible refine run_seq ?_ | with_reducible refine run_reg ?_ | with_reducible refine run_block ?_ | with_reducible refine run_blk ?_ | with_reducible refine run_skip ?_ | with_reducible refine run_exit rfl ?_ | with_reducible refine run_drw ?_ | with_reducible refine run_condT ?_ | with_reducible refine run_ret' ?_ | with_reducible refine run_end' ?_ | simp only [go_sem, ↓reduceIte, Nat.reduceAdd, Nat.reduceEqDiff, Nat.reduceBEq, reduceCtorEq, Int.reduceBEq, Int.reduceBNe, Int.reduceLT, Int.reduceLE, h9, h7, h5, decide_eq_true c', if_pos e1, Int.toNat_natCast, hc0', beq_int_true k5]))
          refine callT (Clone_m ht3.p) ?_
          rintro r w4 ⟨ho4, a4, f4, rfl, hp4, _, hf4⟩
          (repeat (first | with_reducible refine run_seq ?_ | with_reducible refine run_reg ?_ | with_reducible refine run_block ?_ | with_reducible refine run_blk ?_ | with_reducible refine run_skip ?_ | with_reducible refine run_exit rfl ?_ | with_reducible refine run_drw ?_ | with_reducible refine run_condT ?_ | with_reducible refine run_ret' ?_ | with_reducible refine run_end' ?_ | simp only [go_sem, ↓reduceIte, Nat.reduceAdd, Nat.reduceEqDiff, Nat.reduceBEq, reduceCtorEq, Int.reduceBEq, Int.reduceBNe, Int.reduceLT, Int.reduceLE, h7]))
          refine callT (rClone (ht3.r.keep0 ho4)) ?_
          rintro r w5 ⟨ho5, b5, f5, rfl, hr5, _, hf5⟩
          obtain ⟨xa, rfl, hp4'⟩ := hp4
          obtain ⟨xb, rfl, hr5'⟩ := hr5
          have hz4 := ho4.size
          have l4 := hp4'.lt
          have ht5 : Two w5 w.heap.size (some ⟨xa, 0, none⟩) (some ⟨xb, 0, none⟩) f4 f5 (some s) := ⟨⟨xa, rfl, hp4'.keep ho5 (by simp)⟩, ⟨xb, rfl, hr5'⟩, fun x hx hx2 => by have := hf5 x hx2; have := l4 x hx; omega, fun x hx => by
            rcases List.mem_append.1 hx with hx | hx
            · have := hf4 x hx; omega
            · have := hf5 x hx; omega⟩
          obtain ⟨hcc, hplay⟩ := goOn _ _ _ _ w5 ht5 ((ho3.nil ho4).nil ho5)
          (repeat (first | with_reducible refine run_seq ?_ | with_reducible refine run_reg ?_ | with_reducible refine run_block ?_ | with_reducible refine run_blk ?_ | with_reducible refine run_skip ?_ | with_reducible refine run_exit rfl ?_ | with_reducible refine run_drw ?_ | with_reducible refine run_condT ?_ | with_reducible refine run_ret' ?_ | with_reducible refine run_end' ?_ | simp only [go_sem, ↓reduceIte, Nat.reduceAdd, Nat.reduceEqDiff, Nat.reduceBEq, reduceCtorEq, Int.reduceBEq, Int.reduceBNe, Int.reduceLT, Int.reduceLE, h9, if_pos e1, Int.toNat_natCast, hcc]))
          refine callT hplay ?_
          rintro r w6 ⟨rfl, fp6, rp6, s6, ht6, ho6⟩
          (repeat (first | with_reducible refine run_seq ?_ | with_reducible refine run_reg ?_ | with_reducible refine run_block ?_ | with_reducible refine run_blk ?_ | with_reducible refine run_skip ?_ | with_reducible refine run_exit rfl ?_ | with_reducible refine run_drw ?_ | with_reducible refine run_condT ?_ | with_reducible refine run_ret' ?_ | with_reducible refine run_end' ?_ | simp only [go_sem, ↓reduceIte, Nat.reduceAdd, Nat.reduceEqDiff, Nat.reduceBEq, reduceCtorEq, Int.reduceBEq, Int.reduceBNe, Int.reduceLT, Int.reduceLE, h9, i64_succ i (by omega)]))
          refine hnext _ w6 ?_ ⟨i + 1, _, _, fp6, rp6, s6, ?_, by omega, ?_, ?_, ht6, ho6⟩ ?_
          · (repeat (first | with_reducible exact Keeps.refl _ _ | with_reducible exact Keeps.ovr _ _ _ | refine Keeps.put ?_ rfl _ | exact Keeps.refl _ _ | exact Keeps.ovr _ _ _ | refine Keeps.ovr2 ?_ rfl _))
          · simp only [go_sem, ↓reduceIte, Nat.reduceAdd, Nat.reduceEqDiff, Nat.reduceBEq, reduceCtorEq, Int.reduceBEq, Int.reduceBNe, Int.reduceLT, Int.reduceLE]
          · simp only [go_sem, ↓reduceIte, Nat.reduceAdd, Nat.reduceEqDiff, Nat.reduceBEq, reduceCtorEq, Int.reduceBEq, Int.reduceBNe, Int.reduceLT, Int.reduceLE]
          · simp only [go_sem, ↓reduceIte, Nat.reduceAdd, Nat.reduceEqDiff, Nat.reduceBEq, reduceCtorEq, Int.reduceBEq, Int.reduceBNe, Int.reduceLT, Int.reduceLE]
          · rw [upTo_int h9, upTo_int (k := .i64) (i := i + 1) (by simp only [go_sem, ↓reduceIte, Nat.reduceAdd, Nat.reduceEqDiff, Nat.reduceBEq, reduceCtorEq, Int.reduceBEq, Int.reduceBNe, Int.reduceLT, Int.reduceLE])]; omega
        · obtain ⟨hcc, hplay⟩ := goOn _ _ _ _ w3 ht3 ho3
          (repeat (first | with_reducible refine run_seq ?_ | with_reducible refine run_reg ?_ | with_reducible refine run_block ?_ | with_reducible refine run_blk ?_ | with_reducible refine run_skip ?_ | with_reducible refine run_exit rfl ?_ | with_reducible refine run_drw ?_ | with_reducible refine run_condT ?_ | with_reducible refine run_ret' ?_ | with_reducible refine run_end' ?_ | simp only [go_sem, ↓reduceIte, Nat.reduceAdd, Nat.reduceEqDiff, Nat.reduceBEq, reduceCtorEq, Int.reduceBEq, Int.reduceBNe, Int.reduceLT, Int.reduceLE, h9, h7, h5, decide_eq_true c', if_pos e1, Int.toNat_natCast, hc0', beq_int_false k5, hcc]))
          refine callT hplay ?_
          rintro r w6 ⟨rfl, fp6, rp6, s6, ht6, ho6⟩
          (repeat (first | with_reducible refine run_seq ?_ | with_reducible refine run_reg ?_ | with_reducible refine run_block ?_ | with_reducible refine run_blk ?_ | with_reducible refine run_skip ?_ | with_reducible refine run_exit rfl ?_ | with_reducible refine run_drw ?_ | with_reducible refine run_condT ?_ | with_reducible refine run_ret' ?_ | with_reducible refine run_end' ?_ | simp only [go_sem, ↓reduceIte, Nat.reduceAdd, Nat.reduceEqDiff, Nat.reduceBEq, reduceCtorEq, Int.reduceBEq, Int.reduceBNe, Int.reduceLT, Int.reduceLE, h9, i64_succ i (by omega)]))
          refine hnext _ w6 ?_ ⟨i + 1, _, _, fp6, rp6, s6, ?_, by omega, ?_, ?_, ht6, ho6⟩ ?_
          · (repeat (first | with_reducible exact Keeps.refl _ _ | with_reducible exact Keeps.ovr _ _ _ | refine Keeps.put ?_ rfl _ | exact Keeps.refl _ _ | exact Keeps.ovr _ _ _ | refine Keeps.ovr2 ?_ rfl _))
          · simp only [go_sem, ↓reduceIte, Nat.reduceAdd, Nat.reduceEqDiff, Nat.reduceBEq, reduceCtorEq, Int.reduceBEq, Int.reduceBNe, Int.reduceLT, Int.reduceLE]
          · simp only [go_sem, ↓reduceIte, Nat.reduceAdd, Nat.reduceEqDiff, Nat.reduceBEq, reduceCtorEq, Int.reduceBEq, Int.reduceBNe, Int.reduceLT, Int.reduceLE, h5]
          · simp only [go_sem, ↓reduceIte, Nat.reduceAdd, Nat.reduceEqDiff, Nat.reduceBEq, reduceCtorEq, Int.reduceBEq, Int.reduceBNe, Int.reduceLT, Int.reduceLE, h7]
          · rw [upTo_int h9, upTo_int (k := .i64) (i := i + 1) (by simp only [go_sem, ↓reduceIte, Nat.reduceAdd, Nat.reduceEqDiff, Nat.reduceBEq, reduceCtorEq, Int.reduceBEq, Int.reduceBNe, Int.reduceLT, Int.reduceLE])]; omega
      · have c' : ¬ (i : Int) < (l.length : Int) := by omega
        (repeat (first | with_reducible refine run_seq ?_ | with_reducible refine run_reg ?_ | with_reducible refine run_block ?_ | with_reducible refine run_blk ?_ | with_reducible refine run_skip ?_ | with_reducible refine run_exit rfl ?_ | with_reducible refine run_drw ?_ | with_reducible refine run_condT ?_ | with_reducible refine run_ret' ?_ | with_reducible refine run_end' ?_ | simp only [go_sem, ↓reduceIte, Nat.reduceAdd, Nat.reduceEqDiff, Nat.reduceBEq, reduceCtorEq, Int.reduceBEq, Int.reduceBNe, Int.reduceLT, Int.reduceLE, h9, h7, h5, decide_eq_false c']))
        refine callT (law_same ht3.p ht3.r rfl) ?_
        rintro r w4 ⟨rfl, ho4⟩
        (repeat (first | with_reducible refine run_seq ?_ | with_reducible refine run_reg ?_ | with_reducible refine run_block ?_ | with_reducible refine run_blk ?_ | with_reducible refine run_skip ?_ | with_reducible refine run_exit rfl ?_ | with_reducible refine run_drw ?_ | with_reducible refine run_condT ?_ | with_reducible refine run_ret' ?_ | with_reducible refine run_end' ?_ | simp only [go_sem, ↓reduceIte, Nat.reduceAdd, Nat.reduceEqDiff, Nat.reduceBEq, reduceCtorEq, Int.reduceBEq, Int.reduceBNe, Int.reduceLT, Int.reduceLE]))
        refine callT1 (law_alive w4) fun w5 ho5 => ?_
        (repeat (first | with_reducible refine run_seq ?_ | with_reducible refine run_reg ?_ | with_reducible refine run_block ?_ | with_reducible refine run_blk ?_ | with_reducible refine run_skip ?_ | with_reducible refine run_exit rfl ?_ | with_reducible refine run_drw ?_ | with_reducible refine run_condT ?_ | with_reducible refine run_ret' ?_ | with_reducible refine run_end' ?_ | simp only [go_sem, ↓reduceIte, Nat.reduceAdd, Nat.reduceEqDiff, Nat.reduceBEq, reduceCtorEq, Int.reduceBEq, Int.reduceBNe, Int.reduceLT, Int.reduceLE]))
        exact (ho3.nil ho4).nil ho5
end Go.Proofs.Ytblfmacnkacalaa
