/- Heaps: New. Four blocks are laid in any order. -/
import Derived.Test.YtgcofabdialaaaaGreatHpF
namespace Go.Proofs.YtgcofabdialaaaaGreat
set_option linter.unusedSimpArgs false
set_option linter.unusedVariables false
set_option maxRecDepth 8000

theorem mkmapS {P : Program} {fl : Bool} {L : List Nat} {w0 w : World} {t : TypeId} {d : Option Nat} {rest : XT} {ρ : Env} {C : Env → World → Prop}
    (h : ∀ b w', b = w.heap.size → w'.heap.size = w.heap.size + 1 → MpAt w' b [] → Only [] w w' → (fl = true ∨ SB L w0 w') ∧ VT P L w0 rest (putO ρ d (.map (some b))) w' C) : RunS P fl L w0 (Instr.makeMap t none) d rest ρ w C := by
  obtain ⟨h1, h2⟩ := h _ _ rfl (by simp) (MpAt.alloc w) (Only.alloc [] w _)
  exact runS run_mkmap h1 h2
attribute [go_sem] Option.map_none
theorem rowZ_blk (n : Nat) : rowZ [Value.int .i64 0, Value.int .i64 0] n = blkV (List.replicate n (0, 0)) := by
  have hl : (blkV (List.replicate n (0, 0))).length = 2 * n := by rw [blkV_len, List.length_replicate]
  apply List.ext_getElem?
  intro i
  by_cases hi : i < 2 * n
  · have h1 : (rowZ [Value.int .i64 0, Value.int .i64 0] n)[i]? = some (.int .i64 0) := by
      unfold rowZ
      rw [List.getElem?_map, List.getElem?_range (by simp; omega)]
      simp only [Option.map_some]
      have : i % 2 = 0 ∨ i % 2 = 1 := by omega
      rcases this with h | h <;> simp [h]
    have h2 : (blkV (List.replicate n (0, 0)))[i]? = some (.int .i64 0) := by
      obtain ⟨g1, g2⟩ := blkV_get (B := List.replicate n ((0 : Int), (0 : Int))) (i := i / 2) (by simp; omega)
      have hz : (List.replicate n ((0 : Int), (0 : Int))).getD (i / 2) (0, 0) = (0, 0) := by
        simp only [List.getD_eq_getElem?_getD, List.getElem?_replicate]
        split <;> rfl
      rw [hz] at g1 g2
      rcases (show i = 2 * (i / 2) ∨ i = 2 * (i / 2) + 1 by omega) with h | h
      · rw [h]; exact g1
      · rw [h]; exact g2
    rw [h1, h2]
  · rw [List.getElem?_eq_none (by rw [rowZ_length]; simp; omega), List.getElem?_eq_none (by omega)]
theorem ints_rep (n : Nat) : List.replicate n (Value.int .i64 0) = ints (List.replicate n 0) := by simp [ints]

theorem hNew (w : World) (x : Int) : Cs Tryz.prog 37 [.int .i64 x] w fun v w' => ∃ a fp, v = .tuple #[.pointer a, .int .i64 (if (newH x).isSome then 0 else 1)] ∧ HR w' a fp (newH x) ∧ (newH x = none → a = none) ∧ (∀ y, y ∈ fp → w.heap.size ≤ y) ∧ Only [] w w' := by
  refine enter_heap_New rfl ?_
  unfold x_heap_New
  have bad : ¬ (2 ≤ x ∧ x ≤ 64) → ∃ a fp, Value.tuple #[.pointer none, .int .i64 1] = .tuple #[.pointer a, .int .i64 (if (newH x).isSome then 0 else 1)] ∧ HR w a fp (newH x) ∧ (newH x = none → a = none) ∧ (∀ y, y ∈ fp → w.heap.size ≤ y) ∧ Only [] w w := fun h => by
    have : newH x = none := if_neg h
    rw [this]
    exact ⟨none, [], rfl, .inl ⟨rfl, rfl⟩, fun _ => rfl, by simp, Only.refl _ _⟩
  by_cases c1 : x < 2
  · (repeat (first | with_reducible refine run_seq ?_ | with_reducible refine run_reg ?_ | with_reducible refine run_block ?_ | with_reducible refine run_blk ?_ | with_reducible refine run_skip ?_ | with_reducible refine run_exit rfl ?_ | with_reducible refine run_drw ?_ | with_reducible refine run_condT ?_ | with_reducible refine run_ret' ?_ | with_reducible refine run_end' ?_ | simp only [go_sem, ↓reduceIte, Nat.reduceAdd, Nat.reduceEqDiff, Nat.reduceBEq, reduceCtorEq, Int.reduceBEq, Int.reduceBNe, Int.reduceLT, Int.reduceLE, decide_eq_true c1]))
    exact bad (by omega)
  by_cases c2 : 64 < x
  · (repeat (first | with_reducible refine run_seq ?_ | with_reducible refine run_reg ?_ | with_reducible refine run_block ?_ | with_reducible refine run_blk ?_ | with_reducible refine run_skip ?_ | with_reducible refine run_exit rfl ?_ | with_reducible refine run_drw ?_ | with_reducible refine run_condT ?_ | with_reducible refine run_ret' ?_ | with_reducible refine run_end' ?_ | simp only [go_sem, ↓reduceIte, Nat.reduceAdd, Nat.reduceEqDiff, Nat.reduceBEq, reduceCtorEq, Int.reduceBEq, Int.reduceBNe, Int.reduceLT, Int.reduceLE, decide_eq_false c1, decide_eq_true c2]))
    exact bad (by omega)
  obtain ⟨n, rfl⟩ : ∃ n : Nat, x = n := ⟨x.toNat, by omega⟩
  have e1 : IntKind.i64.wrap ((n : Int) * 64) = ((64 * n : Nat) : Int) := by rw [show (n : Int) * 64 = ((64 * n : Nat) : Int) by omega]; exact i64_of_nat _ (by omega)
  have hnew : newH (n : Int) = some ⟨List.replicate n (0, 0), List.replicate (64 * n) 0, List.replicate (32 * n) 0, List.replicate (32 * n) 0, [], [], 0⟩ := by
    unfold newH; rw [if_pos (by omega)]; simp only [Int.toNat_natCast]
  have hok := newH_ok hnew
  (repeat (first | with_reducible refine run_seq ?_ | with_reducible refine run_reg ?_ | with_reducible refine run_block ?_ | with_reducible refine run_blk ?_ | with_reducible refine run_skip ?_ | with_reducible refine run_exit rfl ?_ | with_reducible refine run_drw ?_ | with_reducible refine run_condT ?_ | with_reducible refine run_ret' ?_ | with_reducible refine run_end' ?_ | simp only [go_sem, ↓reduceIte, Nat.reduceAdd, Nat.reduceEqDiff, Nat.reduceBEq, reduceCtorEq, Int.reduceBEq, Int.reduceBNe, Int.reduceLT, Int.reduceLE, decide_eq_false c1, decide_eq_false c2]))
  refine run_cut (4 :: 11 :: 12 :: 13 :: 14 :: 15 :: 16 :: 17 :: 18 :: 19 :: []) (fun ρ w' => ∃ gB gW bl bf b, ρ 4 = .pointer (some ⟨b, 0, none⟩) ∧ At w' b [.slice (some ⟨gB, 0, none⟩) n n, .slice (some ⟨gW, 0, none⟩) (64 * n) (64 * n), .pointer none, .pointer none, .map (some bl), .map (some bf), .int .i64 0] ∧
      At w' gB (rowZ [Value.int .i64 0, Value.int .i64 0] n) ∧ At w' gW (rowZ [Value.int .i64 0] (64 * n)) ∧ MpAt w' bl [] ∧ MpAt w' bf [] ∧ (b ≠ gB ∧ b ≠ gW ∧ b ≠ bl ∧ b ≠ bf ∧ gB ≠ gW ∧ gB ≠ bl ∧ gB ≠ bf ∧ gW ≠ bl ∧ gW ≠ bf ∧ bl ≠ bf) ∧ (w.heap.size ≤ b ∧ w.heap.size ≤ gB ∧ w.heap.size ≤ gW ∧ w.heap.size ≤ bl ∧ w.heap.size ≤ bf) ∧ Only [] w w') (fun kk hkk => ?_) (fun g w1 hJ => ?_)
  · refine run_drt [] ?_
    have hO : Only [] w w.drew := Only.drew [] w
    have hs0 : w.drew.heap.size = w.heap.size := rfl
    repeat' (first
      | refine And.intro ?_ ?_
      | (refine mksS (n := n) (m := n) (Nat.le_refl _) (by omega) (by omega) fun gB w' hgB hs hB ho => ⟨.inl rfl, ?_⟩
         try (have hW := hW.keep0 ho)
         try (have h6 := h6.keep0 ho)
         try (have h7 := h7.keep0 ho)
         have hO := hO.nil ho
         clear ho)
      | (refine mksS (n := 64 * n) (m := 64 * n) (Nat.le_refl _) (by omega) (by omega) fun gW w' hgW hs hW ho => ⟨.inl rfl, ?_⟩
         try (have hB := hB.keep0 ho)
         try (have h6 := h6.keep0 ho)
         try (have h7 := h7.keep0 ho)
         have hO := hO.nil ho
         clear ho)
      | (refine mkmapS (d := some 16) fun b6 w' hg6 hs h6 ho => ⟨.inl rfl, ?_⟩
         try (have hB := hB.keep0 ho)
         try (have hW := hW.keep0 ho)
         try (have h7 := h7.keep0 ho)
         have hO := hO.nil ho
         clear ho)
      | (refine mkmapS (d := some 17) fun b7 w' hg7 hs h7 ho => ⟨.inl rfl, ?_⟩
         try (have hB := hB.keep0 ho)
         try (have hW := hW.keep0 ho)
         try (have h6 := h6.keep0 ho)
         have hO := hO.nil ho
         clear ho)
      | (refine boxS fun b w' hgb hs hb ho => ⟨.inl rfl, ?_⟩
         have hB := hB.keep0 ho
         have hW := hW.keep0 ho
         have h6 := h6.keep0 ho
         have h7 := h7.keep0 ho
         have hO := hO.nil ho
         clear ho
         simp only [go_sem, ↓reduceIte, Nat.reduceAdd, Nat.reduceEqDiff, Nat.reduceBEq, reduceCtorEq, Int.reduceBEq, Int.reduceBNe, Int.reduceLT, Int.reduceLE]
         refine hkk _ _ ?_ ⟨gB, gW, b6, b7, b, ?_, hb, hB, hW, h6, h7, ⟨?_, ?_, ?_, ?_, ?_, ?_, ?_, ?_, ?_, ?_⟩, ⟨?_, ?_, ?_, ?_, ?_⟩, hO⟩
         · (repeat (first | with_reducible exact Keeps.refl _ _ | with_reducible exact Keeps.ovr _ _ _ | refine Keeps.put ?_ rfl _ | exact Keeps.refl _ _ | exact Keeps.ovr _ _ _ | refine Keeps.ovr2 ?_ rfl _))
         · simp only [go_sem, ↓reduceIte, Nat.reduceAdd, Nat.reduceEqDiff, Nat.reduceBEq, reduceCtorEq, Int.reduceBEq, Int.reduceBNe, Int.reduceLT, Int.reduceLE]
         all_goals omega)
      | rw [fillL_one rfl rfl, fillL_one rfl rfl, fillL_one rfl rfl, fillL_one rfl rfl]
      | simp only [go_sem, ↓reduceIte, Nat.reduceAdd, Nat.reduceEqDiff, Nat.reduceBEq, reduceCtorEq, Int.reduceBEq, Int.reduceBNe, Int.reduceLT, Int.reduceLE, e1])
  obtain ⟨gB, gW, bl, bf, b, h4, hb, hB, hW, hl, hf, ⟨x1, x2, x3, x4, x5, x6, x7, x8, x9, x10⟩, ⟨y1, y2, y3, y4, y5⟩, hO⟩ := hJ
  rw [rowZ_blk] at hB
  rw [rowZ_one, ints_rep] at hW
  have hz1 := hO.size
  have hm : newM ((32 * n : Nat) : Int) 1 = some (1, List.replicate (32 * n) 0) := by
    unfold newM
    rw [if_pos ⟨by omega, by omega, rfl⟩]; simp only [Int.toNat_natCast]; rfl
  have e2 : IntKind.i64.wrap (((64 * n : Nat) : Int).tdiv 2) = ((32 * n : Nat) : Int) := by rw [tdiv2 _ (by omega)]; omega
  (repeat (first | with_reducible refine run_seq ?_ | with_reducible refine run_reg ?_ | with_reducible refine run_block ?_ | with_reducible refine run_blk ?_ | with_reducible refine run_skip ?_ | with_reducible refine run_exit rfl ?_ | with_reducible refine run_drw ?_ | with_reducible refine run_condT ?_ | with_reducible refine run_ret' ?_ | with_reducible refine run_end' ?_ | simp only [go_sem, ↓reduceIte, Nat.reduceAdd, Nat.reduceEqDiff, Nat.reduceBEq, reduceCtorEq, Int.reduceBEq, Int.reduceBNe, Int.reduceLT, Int.reduceLE, h4, hb.cell, e2]))
  refine callT (New_m w1 ((32 * n : Nat) : Int) 1) ?_
  rintro r w2 ⟨a2, S2, rfl, hT2, ho2⟩
  rw [hm] at hT2 ⊢
  obtain ⟨⟨sb, sg, rfl, rfl, hs2⟩, _, hn2⟩ := hT2
  have hsb := hn2 sb (by simp)
  have hsg := hn2 sg (by simp)
  have hlb := hb.lt
  have hlB := hB.lt
  have hlW := hW.lt
  have hll := hl.lt
  have hlf := hf.lt
  (repeat (first | with_reducible refine run_seq ?_ | with_reducible refine run_reg ?_ | with_reducible refine run_block ?_ | with_reducible refine run_blk ?_ | with_reducible refine run_skip ?_ | with_reducible refine run_exit rfl ?_ | with_reducible refine run_drw ?_ | with_reducible refine run_condT ?_ | with_reducible refine run_ret' ?_ | with_reducible refine run_end' ?_ | simp only [go_sem, ↓reduceIte, Nat.reduceAdd, Nat.reduceEqDiff, Nat.reduceBEq, reduceCtorEq, Int.reduceBEq, Int.reduceBNe, Int.reduceLT, Int.reduceLE, h4]))
  refine stT (hb.keep0 ho2) (by simp) rfl fun w3 hz3 hb3 ho3 => ?_
  simp only [List.set_cons_zero, List.set_cons_succ] at hb3
  have hs3 := hs2.keep ho3 (off1 (show sb ≠ b by omega)) (off1 (show sg ≠ b by omega))
  have hl2 := (Tab.mk hs3).lt
  have hlsb := hl2 sb (by simp)
  have hlsg := hl2 sg (by simp)
  (repeat (first | with_reducible refine run_seq ?_ | with_reducible refine run_reg ?_ | with_reducible refine run_block ?_ | with_reducible refine run_blk ?_ | with_reducible refine run_skip ?_ | with_reducible refine run_exit rfl ?_ | with_reducible refine run_drw ?_ | with_reducible refine run_condT ?_ | with_reducible refine run_ret' ?_ | with_reducible refine run_end' ?_ | simp only [go_sem, ↓reduceIte, Nat.reduceAdd, Nat.reduceEqDiff, Nat.reduceBEq, reduceCtorEq, Int.reduceBEq, Int.reduceBNe, Int.reduceLT, Int.reduceLE, h4, hb3.cell, e2]))
  refine callT (New_m w3 ((32 * n : Nat) : Int) 1) ?_
  rintro r w4 ⟨a4, S4, rfl, hT4, ho4⟩
  rw [hm] at hT4 ⊢
  obtain ⟨⟨pb, pg, rfl, rfl, hp4⟩, _, hn4⟩ := hT4
  have hpb := hn4 pb (by simp)
  have hpg := hn4 pg (by simp)
  have hz2 := ho2.size
  have hz4 := ho4.size
  have hsne : sb ≠ sg := by obtain ⟨_, _, _, _, _, _, h⟩ := hs2.mem; exact h
  have hpne : pb ≠ pg := by obtain ⟨_, _, _, _, _, _, h⟩ := hp4.mem; exact h
  (repeat (first | with_reducible refine run_seq ?_ | with_reducible refine run_reg ?_ | with_reducible refine run_block ?_ | with_reducible refine run_blk ?_ | with_reducible refine run_skip ?_ | with_reducible refine run_exit rfl ?_ | with_reducible refine run_drw ?_ | with_reducible refine run_condT ?_ | with_reducible refine run_ret' ?_ | with_reducible refine run_end' ?_ | simp only [go_sem, ↓reduceIte, Nat.reduceAdd, Nat.reduceEqDiff, Nat.reduceBEq, reduceCtorEq, Int.reduceBEq, Int.reduceBNe, Int.reduceLT, Int.reduceLE, h4]))
  refine stT (hb3.keep0 ho4) (by simp) rfl fun w5 hz5 hb5 ho5 => ?_
  simp only [List.set_cons_zero, List.set_cons_succ] at hb5
  (repeat (first | with_reducible refine run_seq ?_ | with_reducible refine run_reg ?_ | with_reducible refine run_block ?_ | with_reducible refine run_blk ?_ | with_reducible refine run_skip ?_ | with_reducible refine run_exit rfl ?_ | with_reducible refine run_drw ?_ | with_reducible refine run_condT ?_ | with_reducible refine run_ret' ?_ | with_reducible refine run_end' ?_ | simp only [go_sem, ↓reduceIte, Nat.reduceAdd, Nat.reduceEqDiff, Nat.reduceBEq, reduceCtorEq, Int.reduceBEq, Int.reduceBNe, Int.reduceLT, Int.reduceLE, h4]))
  have o25 : Only [b] w1 w5 := ((ho2.of_nil (T := [b])).same ho3).same ((ho4.of_nil (T := [b])).same ho5)
  rw [hnew]
  have hlen : ∀ (k : Nat) (z : Int), (List.replicate k z).length = k := fun _ _ => List.length_replicate
  refine ⟨some ⟨b, 0, none⟩, _, rfl, ⟨b, rfl, gB, gW, n, 64 * n, [], [], sb, sg, pb, pg, bl, bf, rfl, ⟨hok, ?_, ?_, ?_, by simp, by simp, ?_, ?_, (hl.keep o25 (off1 (Ne.symm x3))), (hf.keep o25 (off1 (Ne.symm x4))), ?_⟩⟩, by simp, ?_, hO.trans o25 fun z hz => by simp only [List.mem_singleton] at hz; subst hz; exact .inr y1⟩
  · simpa using hb5
  · simpa using hB.keep o25 (off1 (Ne.symm x1))
  · simpa using hW.keep o25 (off1 (Ne.symm x2))
  · have := (hs3.keep ho4 (by simp) (by simp)).keep ho5 (off1 (show sb ≠ b by omega)) (off1 (show sg ≠ b by omega))
    simpa using this
  · have := hp4.keep ho5 (off1 (show pb ≠ b by omega)) (off1 (show pg ≠ b by omega))
    simpa using this
  · simp only [List.nodup_cons, List.mem_cons, List.not_mem_nil, or_false, not_or, List.nodup_nil, not_false_eq_true, and_true]
    refine ⟨⟨x1, x2, ?_, ?_, ?_, ?_, x3, x4⟩, ⟨x5, ?_, ?_, ?_, ?_, x6, x7⟩, ⟨?_, ?_, ?_, ?_, x8, x9⟩, ⟨hsne, ?_, ?_, ?_, ?_⟩, ⟨?_, ?_, ?_, ?_⟩, ⟨hpne, ?_, ?_⟩, ⟨?_, ?_⟩, x10⟩
    all_goals omega
  · intro y hy
    simp only [List.mem_cons, List.not_mem_nil, or_false] at hy
    omega
end Go.Proofs.YtgcofabdialaaaaGreat
