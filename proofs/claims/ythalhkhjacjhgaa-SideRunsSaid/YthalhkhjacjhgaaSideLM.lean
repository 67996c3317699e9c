/- The law SideRuns, walked. -/
import Derived.Test.YthalhkhjacjhgaaSideLL
import Derived.Test.YthalhkhjacjhgaaSideN
namespace Go.Proofs.Ythalhkhjacjhgaa
set_option linter.unusedSimpArgs false
set_option linter.unusedVariables false
set_option maxRecDepth 8000

def bools (n : Nat) (f : Nat → Bool) : List Value := (List.range n).map fun k => .bool (f k)
theorem bools_len (n : Nat) (f : Nat → Bool) : (bools n f).length = n := by simp [bools]
theorem bools_get {n k : Nat} (f : Nat → Bool) (h : k < n) : (bools n f)[k]? = some (.bool (f k)) := by simp [bools, h]
theorem bools_set {n k : Nat} (f : Nat → Bool) : (bools n f).set k (.bool true) = bools n fun j => f j || decide (j = k) := by
  apply List.ext_getElem
  · simp [bools]
  · intro i h1 h2
    rw [List.getElem_set]
    simp only [bools, List.getElem_map, List.getElem_range]
    split
    · rename_i e; subst e; simp
    · rename_i e
      have : ¬ i = k := fun h => e h.symm
      simp [this]
theorem bools_congr {n : Nat} {f g : Nat → Bool} (h : ∀ k, k < n → f k = g k) : bools n f = bools n g := by
  simp only [bools]
  exact List.map_congr_left fun k hk => by rw [h k (List.mem_range.1 hk)]
/-- do the first i runs cover k? -/
def covB (rs : Runs) : Nat → Nat → Bool
  | 0, _ => false
  | i + 1, k => covB rs i k || (decide ((rs.getD i (0, 0)).1 ≤ k) && decide (k < (rs.getD i (0, 0)).1 + (rs.getD i (0, 0)).2))
theorem covB_iff (rs : Runs) (k : Nat) : ∀ i, covB rs i k = true ↔ ∃ j, j < i ∧ (rs.getD j (0, 0)).1 ≤ k ∧ k < (rs.getD j (0, 0)).1 + (rs.getD j (0, 0)).2
  | 0 => by simp [covB]
  | i + 1 => by
    simp only [covB, Bool.or_eq_true, Bool.and_eq_true, decide_eq_true_eq, covB_iff rs k i]
    constructor
    · rintro (⟨j, h1, h2⟩ | h)
      · exact ⟨j, by omega, h2⟩
      · exact ⟨i, by omega, h⟩
    · rintro ⟨j, h1, h2⟩
      by_cases e : j = i
      · subst e; exact .inr h2
      · exact .inl ⟨j, by omega, h2⟩

theorem runs_walk {w : World} {v : Value} {l : List Act4} (n wd x : Int) (hl : ActsAt w.heap.size w v l) : Cs Try.prog 4 [.int .i64 n, .int .i64 wd, v, .int .i64 x] w fun r w' => r = .bool true ∧ Only [] w w' := by
  refine enter_law01_SideRuns rfl ?_
  unfold x_law01_SideRuns
  by_cases h80 : 80 < l.length
  · (repeat (first | with_reducible refine run_seq ?_ | with_reducible refine run_reg ?_ | with_reducible refine run_block ?_ | with_reducible refine run_blk ?_ | with_reducible refine run_skip ?_ | with_reducible refine run_exit rfl ?_ | with_reducible refine run_drw ?_ | with_reducible refine run_condT ?_ | with_reducible refine run_ret' ?_ | with_reducible refine run_end' ?_ | simp only [go_sem, ↓reduceIte, Nat.reduceAdd, Nat.reduceEqDiff, Nat.reduceBEq, reduceCtorEq, Int.reduceBEq, Int.reduceBNe, Int.reduceLT, Int.reduceLE]))
    refine callT (law_made_great hl n wd h80) ?_
    rintro r w1 ⟨rfl, o1⟩
    (repeat (first | with_reducible refine run_seq ?_ | with_reducible refine run_reg ?_ | with_reducible refine run_block ?_ | with_reducible refine run_blk ?_ | with_reducible refine run_skip ?_ | with_reducible refine run_exit rfl ?_ | with_reducible refine run_drw ?_ | with_reducible refine run_condT ?_ | with_reducible refine run_ret' ?_ | with_reducible refine run_end' ?_ | simp only [go_sem, ↓reduceIte, Nat.reduceAdd, Nat.reduceEqDiff, Nat.reduceBEq, reduceCtorEq, Int.reduceBEq, Int.reduceBNe, Int.reduceLT, Int.reduceLE]))
    refine callT0 (law_great hl) ?_
    (repeat (first | with_reducible refine run_seq ?_ | with_reducible refine run_reg ?_ | with_reducible refine run_block ?_ | with_reducible refine run_blk ?_ | with_reducible refine run_skip ?_ | with_reducible refine run_exit rfl ?_ | with_reducible refine run_drw ?_ | with_reducible refine run_condT ?_ | with_reducible refine run_ret' ?_ | with_reducible refine run_end' ?_ | simp only [go_sem, ↓reduceIte, Nat.reduceAdd, Nat.reduceEqDiff, Nat.reduceBEq, reduceCtorEq, Int.reduceBEq, Int.reduceBNe, Int.reduceLT, Int.reduceLE, decide_eq_true h80]))
    refine callT1 (law_alive w1) fun w2 o2 => ?_
    (repeat (first | with_reducible refine run_seq ?_ | with_reducible refine run_reg ?_ | with_reducible refine run_block ?_ | with_reducible refine run_blk ?_ | with_reducible refine run_skip ?_ | with_reducible refine run_exit rfl ?_ | with_reducible refine run_drw ?_ | with_reducible refine run_condT ?_ | with_reducible refine run_ret' ?_ | with_reducible refine run_end' ?_ | simp only [go_sem, ↓reduceIte, Nat.reduceAdd, Nat.reduceEqDiff, Nat.reduceBEq, reduceCtorEq, Int.reduceBEq, Int.reduceBNe, Int.reduceLT, Int.reduceLE]))
    exact o1.same o2
  (repeat (first | with_reducible refine run_seq ?_ | with_reducible refine run_reg ?_ | with_reducible refine run_block ?_ | with_reducible refine run_blk ?_ | with_reducible refine run_skip ?_ | with_reducible refine run_exit rfl ?_ | with_reducible refine run_drw ?_ | with_reducible refine run_condT ?_ | with_reducible refine run_ret' ?_ | with_reducible refine run_end' ?_ | simp only [go_sem, ↓reduceIte, Nat.reduceAdd, Nat.reduceEqDiff, Nat.reduceBEq, reduceCtorEq, Int.reduceBEq, Int.reduceBNe, Int.reduceLT, Int.reduceLE]))
  refine callT (law_made hl (Nat.le_refl _) n wd h80) ?_
  rintro r w1 ⟨a, u, S, T, rfl, hN, hR, hT, hd, o1⟩
  (repeat (first | with_reducible refine run_seq ?_ | with_reducible refine run_reg ?_ | with_reducible refine run_block ?_ | with_reducible refine run_blk ?_ | with_reducible refine run_skip ?_ | with_reducible refine run_exit rfl ?_ | with_reducible refine run_drw ?_ | with_reducible refine run_condT ?_ | with_reducible refine run_ret' ?_ | with_reducible refine run_end' ?_ | simp only [go_sem, ↓reduceIte, Nat.reduceAdd, Nat.reduceEqDiff, Nat.reduceBEq, reduceCtorEq, Int.reduceBEq, Int.reduceBNe, Int.reduceLT, Int.reduceLE]))
  refine callT0 (law_great hl) ?_
  generalize madeM n wd l = m at *
  rcases hN.elim with ⟨rfl, rfl⟩ | ⟨wd', l0, b, g, rfl, rfl, rfl⟩
  · (repeat (first | with_reducible refine run_seq ?_ | with_reducible refine run_reg ?_ | with_reducible refine run_block ?_ | with_reducible refine run_blk ?_ | with_reducible refine run_skip ?_ | with_reducible refine run_exit rfl ?_ | with_reducible refine run_drw ?_ | with_reducible refine run_condT ?_ | with_reducible refine run_ret' ?_ | with_reducible refine run_end' ?_ | simp only [go_sem, ↓reduceIte, Nat.reduceAdd, Nat.reduceEqDiff, Nat.reduceBEq, reduceCtorEq, Int.reduceBEq, Int.reduceBNe, Int.reduceLT, Int.reduceLE, decide_eq_false h80]))
    refine callT1 (law_alive w1) fun w2 o2 => ?_
    (repeat (first | with_reducible refine run_seq ?_ | with_reducible refine run_reg ?_ | with_reducible refine run_block ?_ | with_reducible refine run_blk ?_ | with_reducible refine run_skip ?_ | with_reducible refine run_exit rfl ?_ | with_reducible refine run_drw ?_ | with_reducible refine run_condT ?_ | with_reducible refine run_ret' ?_ | with_reducible refine run_end' ?_ | simp only [go_sem, ↓reduceIte, Nat.reduceAdd, Nat.reduceEqDiff, Nat.reduceBEq, reduceCtorEq, Int.reduceBEq, Int.reduceBNe, Int.reduceLT, Int.reduceLE]))
    exact o1.same o2
  have h1 := hN.tab
  have hnew : ∀ x, x ∈ [b, g] → w.heap.size ≤ x := hN.new
  have hmax : l0.length ≤ 4096 := h1.max
  have hlt := h1.lt
  have hel : ∀ k, l0.getD k 0 < 256 := by
    obtain ⟨_, _, _, _, h3⟩ := h1
    intro k
    refine Nat.lt_of_lt_of_le (h3.el k) ?_
    rcases h3.hw with rfl | rfl | rfl | rfl <;> decide
  (repeat (first | with_reducible refine run_seq ?_ | with_reducible refine run_reg ?_ | with_reducible refine run_block ?_ | with_reducible refine run_blk ?_ | with_reducible refine run_skip ?_ | with_reducible refine run_exit rfl ?_ | with_reducible refine run_drw ?_ | with_reducible refine run_condT ?_ | with_reducible refine run_ret' ?_ | with_reducible refine run_end' ?_ | simp only [go_sem, ↓reduceIte, Nat.reduceAdd, Nat.reduceEqDiff, Nat.reduceBEq, reduceCtorEq, Int.reduceBEq, Int.reduceBNe, Int.reduceLT, Int.reduceLE, decide_eq_false h80]))
  refine callT1 (Entries_m h1) fun w2 o2 => ?_
  have h2 := h1.keep0 o2
  have o2 := o1.same o2
  (repeat (first | with_reducible refine run_seq ?_ | with_reducible refine run_reg ?_ | with_reducible refine run_block ?_ | with_reducible refine run_blk ?_ | with_reducible refine run_skip ?_ | with_reducible refine run_exit rfl ?_ | with_reducible refine run_drw ?_ | with_reducible refine run_condT ?_ | with_reducible refine run_ret' ?_ | with_reducible refine run_end' ?_ | simp only [go_sem, ↓reduceIte, Nat.reduceAdd, Nat.reduceEqDiff, Nat.reduceBEq, reduceCtorEq, Int.reduceBEq, Int.reduceBNe, Int.reduceLT, Int.reduceLE, MT.entries]))
  refine mksT (Nat.le_refl _) (by omega) (by omega) fun q w3 hq hs3 hatq o3 => ?_
  have h3 := h2.keep0 o3
  have hqS : q ∉ [b, g] := fun hx => by have := h2.lt q hx; omega
  have hqw : w.heap.size ≤ q := by have := o2.size; omega
  have o3 := o2.same o3
  (repeat (first | with_reducible refine run_seq ?_ | with_reducible refine run_reg ?_ | with_reducible refine run_block ?_ | with_reducible refine run_blk ?_ | with_reducible refine run_skip ?_ | with_reducible refine run_exit rfl ?_ | with_reducible refine run_drw ?_ | with_reducible refine run_condT ?_ | with_reducible refine run_ret' ?_ | with_reducible refine run_end' ?_ | simp only [go_sem, ↓reduceIte, Nat.reduceAdd, Nat.reduceEqDiff, Nat.reduceBEq, reduceCtorEq, Int.reduceBEq, Int.reduceBNe, Int.reduceLT, Int.reduceLE]))
  refine callT (Runs_m h3 x) ?_
  rintro s w4 ⟨hs, o4⟩
  have hatq := hatq.keep0 o4
  have h4 := h3.keep0 o4
  have o4 := o3.same o4
  have inv : RInv (MT.is (some (wd', l0)) x) l0.length (MT.runs (some (wd', l0)) x) := runs_inv _ _
  have hsz := MT.sizes (some (wd', l0)) x
  have hcl := MT.count_le (some (wd', l0)) x
  have hrl := MT.runs_len (some (wd', l0)) x
  simp only [MT.entries] at hcl hrl
  generalize MT.runs (some (wd', l0)) x = rs at *
  have hz : rowZ [Value.bool false] l0.length = bools l0.length (covB rs 0) := by
    rw [rowZ_one]
    apply List.ext_getElem
    · simp [bools]
    · intro i h1 h2; simp [bools, covB]
  rw [hz] at hatq
  have hq4 : q < w3.heap.size := by omega
  obtain ⟨sa, cap, rfl, hrd⟩ : ∃ (a : Option Addr) (cap : Nat), s = .slice a rs.length cap ∧ ∀ i, i < rs.length → ∃ e ys, a = some ⟨e, 0, none⟩ ∧ At w4 e (runCells rs ++ ys) ∧ w3.heap.size ≤ e := by
    rcases hs.cases with ⟨rfl, rfl⟩ | ⟨e, cap, ys, rfl, hat, he, _⟩
    · exact ⟨none, 0, rfl, fun i hi => absurd hi (by simp)⟩
    · exact ⟨_, cap, rfl, fun i hi => ⟨e, ys, rfl, hat, he⟩⟩
  (repeat (first | with_reducible refine run_seq ?_ | with_reducible refine run_reg ?_ | with_reducible refine run_block ?_ | with_reducible refine run_blk ?_ | with_reducible refine run_skip ?_ | with_reducible refine run_exit rfl ?_ | with_reducible refine run_drw ?_ | with_reducible refine run_condT ?_ | with_reducible refine run_ret' ?_ | with_reducible refine run_end' ?_ | simp only [go_sem, ↓reduceIte, Nat.reduceAdd, Nat.reduceEqDiff, Nat.reduceBEq, reduceCtorEq, Int.reduceBEq, Int.reduceBNe, Int.reduceLT, Int.reduceLE]))
  refine run_loop (13 :: 14 :: 15 :: 16 :: 40 :: 41 :: 42 :: 43 :: 44 :: 45 :: 46 :: 47 :: 48 :: 49 :: 50 :: 51 :: 52 :: 53 :: 54 :: 55 :: 56 :: 57 :: 58 :: 59 :: 60 :: 61 :: 62 :: 63 :: 64 :: 65 :: 66 :: 67 :: 68 :: 69 :: 70 :: 71 :: 72 :: 73 :: 74 :: 75 :: 76 :: 77 :: 78 :: 79 :: 80 :: 81 :: 82 :: 83 :: 84 :: 85 :: 86 :: 87 :: 88 :: 89 :: 90 :: 91 :: 92 :: 93 :: 94 :: 95 :: 96 :: 97 :: 98 :: 99 :: 100 :: 101 :: 102 :: 103 :: 104 :: 105 :: 106 :: 107 :: []) (fun g' w' => ∃ i : Nat, g' 14 = .int .i64 i ∧ i ≤ rs.length ∧ g' 13 = .int .i64 (sizes (rs.take i) : Nat) ∧ At w' q (bools l0.length (covB rs i)) ∧ Only [q] w4 w') (fun g' _ => upTo rs.length 14 g') ⟨0, by simp only [go_sem, ↓reduceIte, Nat.reduceAdd, Nat.reduceEqDiff, Nat.reduceBEq, reduceCtorEq, Int.reduceBEq, Int.reduceBNe, Int.reduceLT, Int.reduceLE]; rfl, by omega, by simp only [go_sem, ↓reduceIte, Nat.reduceAdd, Nat.reduceEqDiff, Nat.reduceBEq, reduceCtorEq, Int.reduceBEq, Int.reduceBNe, Int.reduceLT, Int.reduceLE]; rfl, hatq, Only.refl _ _⟩ fun g' w' hI hnext => ?_
  obtain ⟨i, hi, hin, h13, hat, ho⟩ := hI
  (repeat (first | with_reducible refine run_seq ?_ | with_reducible refine run_reg ?_ | with_reducible refine run_block ?_ | with_reducible refine run_blk ?_ | with_reducible refine run_skip ?_ | with_reducible refine run_exit rfl ?_ | with_reducible refine run_drw ?_ | with_reducible refine run_condT ?_ | with_reducible refine run_ret' ?_ | with_reducible refine run_end' ?_ | simp only [go_sem, ↓reduceIte, Nat.reduceAdd, Nat.reduceEqDiff, Nat.reduceBEq, reduceCtorEq, Int.reduceBEq, Int.reduceBNe, Int.reduceLT, Int.reduceLE, hi]))
  refine condT (fun hlt2 => ?_) (fun hge => ?_)
  · have hlt2 : i < rs.length := by simpa using hlt2
    have c1 : (0 : Int) ≤ (i : Int) ∧ (i : Int) < (rs.length : Int) := ⟨by omega, by omega⟩
    obtain ⟨e, ys, rfl, hate, hew⟩ := hrd i hlt2
    have hate := hate.keep ho (by simp; omega)
    have er := run_cells hate hlt2
    obtain ⟨z1, z2⟩ := inv.sz i hlt2
    have hgap := inv.gap i
    obtain ⟨y1, y2⟩ := runCells_get rs ys (i - 1) (by omega)
    have z3 : 0 < i → 1 ≤ (rs.getD (i - 1) (0, 0)).2 ∧ (rs.getD (i - 1) (0, 0)).1 + (rs.getD (i - 1) (0, 0)).2 ≤ l0.length := fun h => inv.sz (i - 1) (by omega)
    have hsu := sizes_take_succ rs i hlt2
    have hle := sizes_take_le rs (i + 1)
    have hcov : ∀ k, covB rs (i + 1) k = (covB rs i k || (decide ((rs.getD i (0, 0)).1 ≤ k) && decide (k < (rs.getD i (0, 0)).1 + (rs.getD i (0, 0)).2))) := fun _ => rfl
    generalize hst : (rs.getD i (0, 0)).1 = st at *
    generalize hse : (rs.getD i (0, 0)).2 = se at *
    (repeat (first | with_reducible refine run_seq ?_ | with_reducible refine run_reg ?_ | with_reducible refine run_block ?_ | with_reducible refine run_blk ?_ | with_reducible refine run_skip ?_ | with_reducible refine run_exit rfl ?_ | with_reducible refine run_drw ?_ | with_reducible refine run_condT ?_ | with_reducible refine run_ret' ?_ | with_reducible refine run_end' ?_ | simp only [go_sem, ↓reduceIte, Nat.reduceAdd, Nat.reduceEqDiff, Nat.reduceBEq, reduceCtorEq, Int.reduceBEq, Int.reduceBNe, Int.reduceLT, Int.reduceLE, hi, if_pos c1, Int.toNat_natCast, er]))
    refine boxT fun p w5 hp hs5 hatp o5 => ?_
    (repeat (first | with_reducible refine run_seq ?_ | with_reducible refine run_reg ?_ | with_reducible refine run_block ?_ | with_reducible refine run_blk ?_ | with_reducible refine run_skip ?_ | with_reducible refine run_exit rfl ?_ | with_reducible refine run_drw ?_ | with_reducible refine run_condT ?_ | with_reducible refine run_ret' ?_ | with_reducible refine run_end' ?_ | simp only [go_sem, ↓reduceIte, Nat.reduceAdd, Nat.reduceEqDiff, Nat.reduceBEq, reduceCtorEq, Int.reduceBEq, Int.reduceBNe, Int.reduceLT, Int.reduceLE]))
    refine stNT hatp rfl (by simp) ?_ fun w6 hs6 hatp o6 => ?_
    · intro u hu
      rcases List.mem_cons.1 hu with rfl | hu
      · rfl
      · rcases List.mem_cons.1 hu with rfl | hu
        · rfl
        · cases hu
    rw [setL_two] at hatp
    have hpq : p ≠ q := by have := hat.lt; omega
    have hpe : p ≠ e := by have := hate.lt; omega
    have hat := (hat.keep0 o5).keep o6 (by simp; exact fun e => hpq e.symm)
    have hate := (hate.keep0 o5).keep o6 (by simp; exact fun e => hpe e.symm)
    have o6 : Only [q] w4 w6 := (ho.same o5.of_nil).trans o6 fun y hy => by
      rcases List.mem_cons.1 hy with rfl | hy
      · have := ho.size; omega
      · cases hy
    have h6 := h4.keep o6 (by simp; simp at hqS; omega)
    have a1 : IntKind.i64.wrap ((st : Int) + se) = ((st + se : Nat) : Int) := i64_of_nat (st + se) (by omega)
    have d1 : decide ((se : Int) < 1) = false := decide_eq_false (by omega)
    have d2 : decide ((st : Int) < 0) = false := decide_eq_false (by omega)
    have d3 : decide ((l0.length : Int) < ((st + se : Nat) : Int)) = false := decide_eq_false (by omega)
    have hb0 : ∀ y, y ∈ [p, e] → y < w6.drew.heap.size := fun y hy => by
      rcases List.mem_cons.1 hy with rfl | hy
      · exact hatp.lt
      · rcases List.mem_cons.1 hy with rfl | hy
        · exact hate.lt
        · cases hy
    simp only [go_sem, ↓reduceIte, Nat.reduceAdd, Nat.reduceEqDiff, Nat.reduceBEq, reduceCtorEq, Int.reduceBEq, Int.reduceBNe, Int.reduceLT, Int.reduceLE]
    refine run_seq ?_
    refine run_cut (50 :: 51 :: 52 :: 53 :: 54 :: 55 :: 56 :: 57 :: 58 :: 59 :: 60 :: 61 :: 62 :: 63 :: 64 :: 65 :: 66 :: 67 :: 68 :: 69 :: 70 :: 71 :: 72 :: 73 :: 74 :: 75 :: 76 :: 77 :: 78 :: 79 :: 80 :: 81 :: 82 :: 83 :: 84 :: 85 :: 86 :: 87 :: 88 :: 89 :: []) (fun _ w' => At w' q (bools l0.length (covB rs i)) ∧ At w' p [.int .i64 (st : Int), .int .i64 (se : Int)] ∧ Only [q] w4 w') ?_ ?_
    · intro kx hk
      (repeat (first | with_reducible refine run_seq ?_ | with_reducible refine run_reg ?_ | with_reducible refine run_block ?_ | with_reducible refine run_blk ?_ | with_reducible refine run_skip ?_ | with_reducible refine run_exit rfl ?_ | with_reducible refine run_drw ?_ | with_reducible refine run_condT ?_ | with_reducible refine run_ret' ?_ | with_reducible refine run_end' ?_ | simp only [go_sem, ↓reduceIte, Nat.reduceAdd, Nat.reduceEqDiff, Nat.reduceBEq, reduceCtorEq, Int.reduceBEq, Int.reduceBNe, Int.reduceLT, Int.reduceLE]))
      refine run_drg [p, e] ?_
      (repeat (first | with_reducible refine run_seq ?_ | with_reducible refine run_reg ?_ | with_reducible refine run_block ?_ | with_reducible refine run_blk ?_ | with_reducible refine run_skip ?_ | with_reducible refine run_exit rfl ?_ | with_reducible refine run_drw ?_ | with_reducible refine run_condT ?_ | with_reducible refine run_ret' ?_ | with_reducible refine run_end' ?_ | simp only [go_sem, ↓reduceIte, Nat.reduceAdd, Nat.reduceEqDiff, Nat.reduceBEq, reduceCtorEq, Int.reduceBEq, Int.reduceBNe, Int.reduceLT, Int.reduceLE, hatp.cell, d1, d2, a1]))
      refine callS1 (Entries_m (h6.keep0 (Only.drew _ _))) (.inr ⟨SB.refl _ _, fun y hy => ⟨hb0 y hy, by simp⟩⟩) fun w7 o7 => ?_
      have hat7 := (hat.keep0 (Only.drew _ _)).keep0 o7
      have hatp7 := (hatp.keep0 (Only.drew _ _)).keep0 o7
      have o7 : Only [q] w4 w7 := (o6.nil (Only.drew _ _)).nil o7
      by_cases hi0 : 0 < i
      case pos =>
        obtain ⟨z3a, z3b⟩ := z3 hi0
        have hgap := hgap hi0 hlt2
        have b1 : IntKind.i64.wrap ((i : Int) - 1) = ((i - 1 : Nat) : Int) := by rw [IntWalk.i64_in _ (by omega)]; omega
        have b2 : (0 : Int) ≤ ((i - 1 : Nat) : Int) ∧ ((i - 1 : Nat) : Int) < (rs.length : Int) := ⟨by omega, by omega⟩
        generalize hps : (rs.getD (i - 1) (0, 0)).1 = ps at *
        generalize hpe2 : (rs.getD (i - 1) (0, 0)).2 = pe at *
        have a2 : IntKind.i64.wrap ((ps : Int) + pe) = ((ps + pe : Nat) : Int) := i64_of_nat (ps + pe) (by omega)
        have d4 : decide ((st : Int) ≤ ((ps + pe : Nat) : Int)) = false := decide_eq_false (by omega)
        have d5 : decide ((0 : Int) < (i : Int)) = true := decide_eq_true (by omega)
        (repeat (first | with_reducible refine run_seq ?_ | with_reducible refine run_reg ?_ | with_reducible refine run_block ?_ | with_reducible refine run_blk ?_ | with_reducible refine run_skip ?_ | with_reducible refine run_exit rfl ?_ | with_reducible refine run_drw ?_ | with_reducible refine run_condT ?_ | with_reducible refine run_ret' ?_ | with_reducible refine run_end' ?_ | simp only [go_sem, ↓reduceIte, Nat.reduceAdd, Nat.reduceEqDiff, Nat.reduceBEq, reduceCtorEq, Int.reduceBEq, Int.reduceBNe, Int.reduceLT, Int.reduceLE, MT.entries, d3, hi, d5, b1, if_pos b2, Int.toNat_natCast, hatp.cell, hate.cell, y1, y2, a2, d4]))
        refine hk _ _ ?_ ⟨hat7, hatp7, o7⟩
        (repeat (first | with_reducible exact Keeps.refl _ _ | with_reducible exact Keeps.ovr _ _ _ | refine Keeps.put ?_ rfl _ | exact Keeps.refl _ _ | exact Keeps.ovr _ _ _ | refine Keeps.ovr2 ?_ rfl _))
      case neg =>
        have d5 : decide ((0 : Int) < (i : Int)) = false := decide_eq_false (by omega)
        (repeat (first | with_reducible refine run_seq ?_ | with_reducible refine run_reg ?_ | with_reducible refine run_block ?_ | with_reducible refine run_blk ?_ | with_reducible refine run_skip ?_ | with_reducible refine run_exit rfl ?_ | with_reducible refine run_drw ?_ | with_reducible refine run_condT ?_ | with_reducible refine run_ret' ?_ | with_reducible refine run_end' ?_ | simp only [go_sem, ↓reduceIte, Nat.reduceAdd, Nat.reduceEqDiff, Nat.reduceBEq, reduceCtorEq, Int.reduceBEq, Int.reduceBNe, Int.reduceLT, Int.reduceLE, MT.entries, d3, hi, d5]))
        refine hk _ _ ?_ ⟨hat7, hatp7, o7⟩
        (repeat (first | with_reducible exact Keeps.refl _ _ | with_reducible exact Keeps.ovr _ _ _ | refine Keeps.put ?_ rfl _ | exact Keeps.refl _ _ | exact Keeps.ovr _ _ _ | refine Keeps.ovr2 ?_ rfl _))
    rintro g7 w7 ⟨hat7, hatp7, o7⟩
    (repeat (first | with_reducible refine run_seq ?_ | with_reducible refine run_reg ?_ | with_reducible refine run_block ?_ | with_reducible refine run_blk ?_ | with_reducible refine run_skip ?_ | with_reducible refine run_exit rfl ?_ | with_reducible refine run_drw ?_ | with_reducible refine run_condT ?_ | with_reducible refine run_ret' ?_ | with_reducible refine run_end' ?_ | simp only [go_sem, ↓reduceIte, Nat.reduceAdd, Nat.reduceEqDiff, Nat.reduceBEq, reduceCtorEq, Int.reduceBEq, Int.reduceBNe, Int.reduceLT, Int.reduceLE, hatp7.cell]))
    refine run_loop (16 :: 92 :: 93 :: 94 :: 95 :: 96 :: 97 :: 98 :: 99 :: 100 :: 101 :: 102 :: 103 :: []) (fun g2 w' => ∃ k : Nat, g2 16 = .int .i64 k ∧ st ≤ k ∧ k ≤ st + se ∧ At w' q (bools l0.length fun j => covB rs i j || (decide (st ≤ j) && decide (j < k))) ∧ At w' p [.int .i64 (st : Int), .int .i64 (se : Int)] ∧ Only [q] w4 w') (fun g2 _ => upTo (st + se) 16 g2)
      ⟨st, by simp only [go_sem, ↓reduceIte, Nat.reduceAdd, Nat.reduceEqDiff, Nat.reduceBEq, reduceCtorEq, Int.reduceBEq, Int.reduceBNe, Int.reduceLT, Int.reduceLE], by omega, by omega, ?_, hatp7, o7⟩ fun g2 w8 hI2 hnext2 => ?_
    · rw [bools_congr (g := covB rs i) fun k _ => ?_]
      · exact hat7
      · by_cases h : st ≤ k
        · have : ¬ k < st := by omega
          simp [this]
        · simp [h]
    obtain ⟨k, hk, hk1, hk2, hat8, hatp8, o8⟩ := hI2
    (repeat (first | with_reducible refine run_seq ?_ | with_reducible refine run_reg ?_ | with_reducible refine run_block ?_ | with_reducible refine run_blk ?_ | with_reducible refine run_skip ?_ | with_reducible refine run_exit rfl ?_ | with_reducible refine run_drw ?_ | with_reducible refine run_condT ?_ | with_reducible refine run_ret' ?_ | with_reducible refine run_end' ?_ | simp only [go_sem, ↓reduceIte, Nat.reduceAdd, Nat.reduceEqDiff, Nat.reduceBEq, reduceCtorEq, Int.reduceBEq, Int.reduceBNe, Int.reduceLT, Int.reduceLE, hk, hatp8.cell, a1]))
    refine condT (fun hlt3 => ?_) (fun hge3 => ?_)
    · have hlt3 : k < st + se := by have : (k : Int) < ((st + se : Nat) : Int) := by simpa using hlt3
                                    omega
      have c3 : (0 : Int) ≤ (k : Int) ∧ (k : Int) < (l0.length : Int) := ⟨by omega, by omega⟩
      (repeat (first | with_reducible refine run_seq ?_ | with_reducible refine run_reg ?_ | with_reducible refine run_block ?_ | with_reducible refine run_blk ?_ | with_reducible refine run_skip ?_ | with_reducible refine run_exit rfl ?_ | with_reducible refine run_drw ?_ | with_reducible refine run_condT ?_ | with_reducible refine run_ret' ?_ | with_reducible refine run_end' ?_ | simp only [go_sem, ↓reduceIte, Nat.reduceAdd, Nat.reduceEqDiff, Nat.reduceBEq, reduceCtorEq, Int.reduceBEq, Int.reduceBNe, Int.reduceLT, Int.reduceLE, hk, if_pos c3, Int.toNat_natCast, Nat.mul_one]))
      refine stT hat8 (by rw [bools_len]; omega) rfl fun w9 hs9 hat9 o9 => ?_
      rw [bools_set] at hat9
      have hatp9 := hatp8.keep o9 (by simp; exact hpq)
      have o9 := o8.same o9
      (repeat (first | with_reducible refine run_seq ?_ | with_reducible refine run_reg ?_ | with_reducible refine run_block ?_ | with_reducible refine run_blk ?_ | with_reducible refine run_skip ?_ | with_reducible refine run_exit rfl ?_ | with_reducible refine run_drw ?_ | with_reducible refine run_condT ?_ | with_reducible refine run_ret' ?_ | with_reducible refine run_end' ?_ | simp only [go_sem, ↓reduceIte, Nat.reduceAdd, Nat.reduceEqDiff, Nat.reduceBEq, reduceCtorEq, Int.reduceBEq, Int.reduceBNe, Int.reduceLT, Int.reduceLE, hk, i64_succ k (by omega)]))
      refine hnext2 _ _ ?_ ⟨k + 1, ?_, by omega, by omega, ?_, hatp9, o9⟩ ?_
      · (repeat (first | with_reducible exact Keeps.refl _ _ | with_reducible exact Keeps.ovr _ _ _ | refine Keeps.put ?_ rfl _ | exact Keeps.refl _ _ | exact Keeps.ovr _ _ _ | refine Keeps.ovr2 ?_ rfl _))
      · simp only [go_sem, ↓reduceIte, Nat.reduceAdd, Nat.reduceEqDiff, Nat.reduceBEq, reduceCtorEq, Int.reduceBEq, Int.reduceBNe, Int.reduceLT, Int.reduceLE]
      · rw [bools_congr (g := fun j => (covB rs i j || (decide (st ≤ j) && decide (j < k))) || decide (j = k)) fun j _ => ?_]
        · exact hat9
        · by_cases hj : j = k
          · subst hj; simp [hk1]
          · have : (j < k + 1) = (j < k) := propext ⟨fun _ => by omega, fun _ => by omega⟩
            simp [hj, this]
      · rw [upTo_int hk, upTo_int (k := .i64) (i := k + 1) (by simp only [go_sem, ↓reduceIte, Nat.reduceAdd, Nat.reduceEqDiff, Nat.reduceBEq, reduceCtorEq, Int.reduceBEq, Int.reduceBNe, Int.reduceLT, Int.reduceLE])]; omega
    · have hge3 : k = st + se := by have : ¬ (k : Int) < ((st + se : Nat) : Int) := by simpa using hge3
                                    omega
      subst hge3
      have hadd : IntKind.i64.wrap (((sizes (rs.take i) : Nat) : Int) + (se : Nat)) = ((sizes (rs.take (i + 1)) : Nat) : Int) := by rw [hsu, IntWalk.i64_in _ (by omega)]; omega
      (repeat (first | with_reducible refine run_seq ?_ | with_reducible refine run_reg ?_ | with_reducible refine run_block ?_ | with_reducible refine run_blk ?_ | with_reducible refine run_skip ?_ | with_reducible refine run_exit rfl ?_ | with_reducible refine run_drw ?_ | with_reducible refine run_condT ?_ | with_reducible refine run_ret' ?_ | with_reducible refine run_end' ?_ | simp only [go_sem, ↓reduceIte, Nat.reduceAdd, Nat.reduceEqDiff, Nat.reduceBEq, reduceCtorEq, Int.reduceBEq, Int.reduceBNe, Int.reduceLT, Int.reduceLE, h13, hatp8.cell, hadd, hi, i64_succ i (by omega)]))
      refine hnext _ _ ?_ ⟨i + 1, ?_, hlt2, ?_, ?_, o8⟩ ?_
      · (repeat (first | with_reducible exact Keeps.refl _ _ | with_reducible exact Keeps.ovr _ _ _ | refine Keeps.put ?_ rfl _ | exact Keeps.refl _ _ | exact Keeps.ovr _ _ _ | refine Keeps.ovr2 ?_ rfl _))
      · simp only [go_sem, ↓reduceIte, Nat.reduceAdd, Nat.reduceEqDiff, Nat.reduceBEq, reduceCtorEq, Int.reduceBEq, Int.reduceBNe, Int.reduceLT, Int.reduceLE]
      · simp only [go_sem, ↓reduceIte, Nat.reduceAdd, Nat.reduceEqDiff, Nat.reduceBEq, reduceCtorEq, Int.reduceBEq, Int.reduceBNe, Int.reduceLT, Int.reduceLE]
      · rw [bools_congr (g := fun j => covB rs i j || (decide (st ≤ j) && decide (j < st + se))) fun j _ => hcov j]; exact hat8
      · rw [upTo_int hi, upTo_int (k := .i64) (i := i + 1) (by simp only [go_sem, ↓reduceIte, Nat.reduceAdd, Nat.reduceEqDiff, Nat.reduceBEq, reduceCtorEq, Int.reduceBEq, Int.reduceBNe, Int.reduceLT, Int.reduceLE])]; omega
  · have hge : ¬ i < rs.length := by simpa using hge
    have hir : i = rs.length := by omega
    subst hir
    rw [List.take_length, hsz] at h13
    have h5 := h4.keep ho (by simp; simp at hqS; omega)
    have hcv : ∀ k, k < l0.length → covB rs rs.length k = decide (((l0.getD k 0 : Nat) : Int) = x) := fun k hk => by
      have h1 := inv.cov k hk
      have h2 := covB_iff rs k rs.length
      have h3 : MT.is (some (wd', l0)) x k = decide (((l0.getD k 0 : Nat) : Int) = x) := rfl
      rw [← h3]
      cases hb : MT.is (some (wd', l0)) x k with
      | true => exact h2.2 (h1.1 hb)
      | false =>
        cases hb2 : covB rs rs.length k with
        | false => rfl
        | true => rw [h1.2 (h2.1 hb2)] at hb; cases hb
    have o5 : Only [] w w' := o4.same5 ho (by simp; exact hqw)
    (repeat (first | with_reducible refine run_seq ?_ | with_reducible refine run_reg ?_ | with_reducible refine run_block ?_ | with_reducible refine run_blk ?_ | with_reducible refine run_skip ?_ | with_reducible refine run_exit rfl ?_ | with_reducible refine run_drw ?_ | with_reducible refine run_condT ?_ | with_reducible refine run_ret' ?_ | with_reducible refine run_end' ?_ | simp only [go_sem, ↓reduceIte, Nat.reduceAdd, Nat.reduceEqDiff, Nat.reduceBEq, reduceCtorEq, Int.reduceBEq, Int.reduceBNe, Int.reduceLT, Int.reduceLE]))
    refine run_loop (17 :: 108 :: 109 :: 110 :: 111 :: 112 :: 113 :: 114 :: 115 :: 116 :: 117 :: 118 :: 119 :: 120 :: 121 :: 122 :: 123 :: []) (fun g2 w8 => ∃ k : Nat, g2 17 = .int .i64 k ∧ k ≤ l0.length ∧ Only [] w' w8) (fun g2 _ => upTo l0.length 17 g2) ⟨0, by simp only [go_sem, ↓reduceIte, Nat.reduceAdd, Nat.reduceEqDiff, Nat.reduceBEq, reduceCtorEq, Int.reduceBEq, Int.reduceBNe, Int.reduceLT, Int.reduceLE]; rfl, by omega, Only.refl _ _⟩ fun g2 w8 hI2 hnext2 => ?_
    obtain ⟨k, hk, hk1, o8⟩ := hI2
    (repeat (first | with_reducible refine run_seq ?_ | with_reducible refine run_reg ?_ | with_reducible refine run_block ?_ | with_reducible refine run_blk ?_ | with_reducible refine run_skip ?_ | with_reducible refine run_exit rfl ?_ | with_reducible refine run_drw ?_ | with_reducible refine run_condT ?_ | with_reducible refine run_ret' ?_ | with_reducible refine run_end' ?_ | simp only [go_sem, ↓reduceIte, Nat.reduceAdd, Nat.reduceEqDiff, Nat.reduceBEq, reduceCtorEq, Int.reduceBEq, Int.reduceBNe, Int.reduceLT, Int.reduceLE, hk]))
    refine condT (fun hlt3 => ?_) (fun hge3 => ?_)
    · have hlt3 : k < l0.length := by simpa using hlt3
      have c3 : (0 : Int) ≤ (k : Int) ∧ (k : Int) < (l0.length : Int) := ⟨by omega, by omega⟩
      have hat8 := hat.keep0 o8
      have hg := bools_get (covB rs rs.length) hlt3
      have hgt : MT.get (some (wd', l0)) (k : Int) = ((l0.getD k 0 : Nat) : Int) := by simp only [MT.get, hasB_of hlt3, if_true, Int.toNat_natCast]
      rw [hcv k hlt3] at hg
      (repeat (first | with_reducible refine run_seq ?_ | with_reducible refine run_reg ?_ | with_reducible refine run_block ?_ | with_reducible refine run_blk ?_ | with_reducible refine run_skip ?_ | with_reducible refine run_exit rfl ?_ | with_reducible refine run_drw ?_ | with_reducible refine run_condT ?_ | with_reducible refine run_ret' ?_ | with_reducible refine run_end' ?_ | simp only [go_sem, ↓reduceIte, Nat.reduceAdd, Nat.reduceEqDiff, Nat.reduceBEq, reduceCtorEq, Int.reduceBEq, Int.reduceBNe, Int.reduceLT, Int.reduceLE]))
      refine run_drg [q] ?_
      (repeat (first | with_reducible refine run_seq ?_ | with_reducible refine run_reg ?_ | with_reducible refine run_block ?_ | with_reducible refine run_blk ?_ | with_reducible refine run_skip ?_ | with_reducible refine run_exit rfl ?_ | with_reducible refine run_drw ?_ | with_reducible refine run_condT ?_ | with_reducible refine run_ret' ?_ | with_reducible refine run_end' ?_ | simp only [go_sem, ↓reduceIte, Nat.reduceAdd, Nat.reduceEqDiff, Nat.reduceBEq, reduceCtorEq, Int.reduceBEq, Int.reduceBNe, Int.reduceLT, Int.reduceLE, hk, if_pos c3, Int.toNat_natCast, Nat.mul_one, hat8.cell, hg]))
      refine callS1 (Get_m ((h5.keep0 o8).keep0 (Only.drew _ _)) k) (.inr ⟨SB.refl _ _, fun y hy => ⟨?_, by simp⟩⟩) fun w9 o9 => ?_
      · rcases List.mem_cons.1 hy with rfl | hy
        · exact hat8.lt
        · cases hy
      rw [hgt]
      have tb : ∀ a : Nat, ((decide (((a : Nat) : Int) = x) == (((a : Nat) : Int) == x)) != true) = false := fun a => by
        by_cases h : ((a : Nat) : Int) = x <;> simp [h]
      (repeat (first | with_reducible refine run_seq ?_ | with_reducible refine run_reg ?_ | with_reducible refine run_block ?_ | with_reducible refine run_blk ?_ | with_reducible refine run_skip ?_ | with_reducible refine run_exit rfl ?_ | with_reducible refine run_drw ?_ | with_reducible refine run_condT ?_ | with_reducible refine run_ret' ?_ | with_reducible refine run_end' ?_ | simp only [go_sem, ↓reduceIte, Nat.reduceAdd, Nat.reduceEqDiff, Nat.reduceBEq, reduceCtorEq, Int.reduceBEq, Int.reduceBNe, Int.reduceLT, Int.reduceLE, tb, hk, i64_succ k (by omega)]))
      refine hnext2 _ _ ?_ ⟨k + 1, ?_, hlt3, (o8.nil (Only.drew _ _)).nil o9⟩ ?_
      · (repeat (first | with_reducible exact Keeps.refl _ _ | with_reducible exact Keeps.ovr _ _ _ | refine Keeps.put ?_ rfl _ | exact Keeps.refl _ _ | exact Keeps.ovr _ _ _ | refine Keeps.ovr2 ?_ rfl _))
      · simp only [go_sem, ↓reduceIte, Nat.reduceAdd, Nat.reduceEqDiff, Nat.reduceBEq, reduceCtorEq, Int.reduceBEq, Int.reduceBNe, Int.reduceLT, Int.reduceLE]
      · rw [upTo_int hk, upTo_int (k := .i64) (i := k + 1) (by simp only [go_sem, ↓reduceIte, Nat.reduceAdd, Nat.reduceEqDiff, Nat.reduceBEq, reduceCtorEq, Int.reduceBEq, Int.reduceBNe, Int.reduceLT, Int.reduceLE])]; omega
    · (repeat (first | with_reducible refine run_seq ?_ | with_reducible refine run_reg ?_ | with_reducible refine run_block ?_ | with_reducible refine run_blk ?_ | with_reducible refine run_skip ?_ | with_reducible refine run_exit rfl ?_ | with_reducible refine run_drw ?_ | with_reducible refine run_condT ?_ | with_reducible refine run_ret' ?_ | with_reducible refine run_end' ?_ | simp only [go_sem, ↓reduceIte, Nat.reduceAdd, Nat.reduceEqDiff, Nat.reduceBEq, reduceCtorEq, Int.reduceBEq, Int.reduceBNe, Int.reduceLT, Int.reduceLE]))
      refine run_loop (18 :: 19 :: 124 :: 125 :: 126 :: 127 :: 128 :: 129 :: 130 :: 131 :: 132 :: []) (fun g3 w9 => ∃ c : Nat, g3 19 = .int .i64 c ∧ c ≤ 256 ∧ g3 18 = .int .i64 (sumC l0 c : Nat) ∧ Only [] w8 w9) (fun g3 _ => upTo 256 19 g3) ⟨0, by simp only [go_sem, ↓reduceIte, Nat.reduceAdd, Nat.reduceEqDiff, Nat.reduceBEq, reduceCtorEq, Int.reduceBEq, Int.reduceBNe, Int.reduceLT, Int.reduceLE]; rfl, by omega, by simp only [go_sem, ↓reduceIte, Nat.reduceAdd, Nat.reduceEqDiff, Nat.reduceBEq, reduceCtorEq, Int.reduceBEq, Int.reduceBNe, Int.reduceLT, Int.reduceLE]; rfl, Only.refl _ _⟩ fun g3 w9 hI3 hnext3 => ?_
      obtain ⟨c, hc, hc1, h18, o9⟩ := hI3
      have h9 := (h5.keep0 o8).keep0 o9
      (repeat (first | with_reducible refine run_seq ?_ | with_reducible refine run_reg ?_ | with_reducible refine run_block ?_ | with_reducible refine run_blk ?_ | with_reducible refine run_skip ?_ | with_reducible refine run_exit rfl ?_ | with_reducible refine run_drw ?_ | with_reducible refine run_condT ?_ | with_reducible refine run_ret' ?_ | with_reducible refine run_end' ?_ | simp only [go_sem, ↓reduceIte, Nat.reduceAdd, Nat.reduceEqDiff, Nat.reduceBEq, reduceCtorEq, Int.reduceBEq, Int.reduceBNe, Int.reduceLT, Int.reduceLE, hc]))
      refine condT (fun hlt4 => ?_) (fun hge4 => ?_)
      · have hlt4 : c < 256 := by have : (c : Int) < 256 := by simpa using hlt4
                                  omega
        have hadd : IntKind.i64.wrap (((sumC l0 c : Nat) : Int) + (MT.count (some (wd', l0)) (c : Int) : Nat)) = ((sumC l0 (c + 1) : Nat) : Int) := by
          have h1 : sumC l0 (c + 1) = sumC l0 c + MT.count (some (wd', l0)) (c : Int) := rfl
          have h2 := sumC_le l0 (c + 1)
          rw [IntWalk.i64_in _ (by omega)]; omega
        (repeat (first | with_reducible refine run_seq ?_ | with_reducible refine run_reg ?_ | with_reducible refine run_block ?_ | with_reducible refine run_blk ?_ | with_reducible refine run_skip ?_ | with_reducible refine run_exit rfl ?_ | with_reducible refine run_drw ?_ | with_reducible refine run_condT ?_ | with_reducible refine run_ret' ?_ | with_reducible refine run_end' ?_ | simp only [go_sem, ↓reduceIte, Nat.reduceAdd, Nat.reduceEqDiff, Nat.reduceBEq, reduceCtorEq, Int.reduceBEq, Int.reduceBNe, Int.reduceLT, Int.reduceLE, hc, h18]))
        refine callT1 (Count_m h9 (c : Int)) fun w10 o10 => ?_
        (repeat (first | with_reducible refine run_seq ?_ | with_reducible refine run_reg ?_ | with_reducible refine run_block ?_ | with_reducible refine run_blk ?_ | with_reducible refine run_skip ?_ | with_reducible refine run_exit rfl ?_ | with_reducible refine run_drw ?_ | with_reducible refine run_condT ?_ | with_reducible refine run_ret' ?_ | with_reducible refine run_end' ?_ | simp only [go_sem, ↓reduceIte, Nat.reduceAdd, Nat.reduceEqDiff, Nat.reduceBEq, reduceCtorEq, Int.reduceBEq, Int.reduceBNe, Int.reduceLT, Int.reduceLE, hadd, hc, i64_succ c (by omega)]))
        refine hnext3 _ _ ?_ ⟨c + 1, ?_, hlt4, ?_, o9.same o10⟩ ?_
        · (repeat (first | with_reducible exact Keeps.refl _ _ | with_reducible exact Keeps.ovr _ _ _ | refine Keeps.put ?_ rfl _ | exact Keeps.refl _ _ | exact Keeps.ovr _ _ _ | refine Keeps.ovr2 ?_ rfl _))
        · simp only [go_sem, ↓reduceIte, Nat.reduceAdd, Nat.reduceEqDiff, Nat.reduceBEq, reduceCtorEq, Int.reduceBEq, Int.reduceBNe, Int.reduceLT, Int.reduceLE]
        · simp only [go_sem, ↓reduceIte, Nat.reduceAdd, Nat.reduceEqDiff, Nat.reduceBEq, reduceCtorEq, Int.reduceBEq, Int.reduceBNe, Int.reduceLT, Int.reduceLE]
        · rw [upTo_int hc, upTo_int (k := .i64) (i := c + 1) (by simp only [go_sem, ↓reduceIte, Nat.reduceAdd, Nat.reduceEqDiff, Nat.reduceBEq, reduceCtorEq, Int.reduceBEq, Int.reduceBNe, Int.reduceLT, Int.reduceLE])]; omega
      · have hge4 : c = 256 := by have : ¬ (c : Int) < 256 := by simpa using hge4
                                  omega
        subst hge4
        rw [sumC_all l0 256 hel] at h18
        (repeat (first | with_reducible refine run_seq ?_ | with_reducible refine run_reg ?_ | with_reducible refine run_block ?_ | with_reducible refine run_blk ?_ | with_reducible refine run_skip ?_ | with_reducible refine run_exit rfl ?_ | with_reducible refine run_drw ?_ | with_reducible refine run_condT ?_ | with_reducible refine run_ret' ?_ | with_reducible refine run_end' ?_ | simp only [go_sem, ↓reduceIte, Nat.reduceAdd, Nat.reduceEqDiff, Nat.reduceBEq, reduceCtorEq, Int.reduceBEq, Int.reduceBNe, Int.reduceLT, Int.reduceLE, h13, h18]))
        refine callT1 (Count_m h9 x) fun w10 o10 => ?_
        (repeat (first | with_reducible refine run_seq ?_ | with_reducible refine run_reg ?_ | with_reducible refine run_block ?_ | with_reducible refine run_blk ?_ | with_reducible refine run_skip ?_ | with_reducible refine run_exit rfl ?_ | with_reducible refine run_drw ?_ | with_reducible refine run_condT ?_ | with_reducible refine run_ret' ?_ | with_reducible refine run_end' ?_ | simp only [go_sem, ↓reduceIte, Nat.reduceAdd, Nat.reduceEqDiff, Nat.reduceBEq, reduceCtorEq, Int.reduceBEq, Int.reduceBNe, Int.reduceLT, Int.reduceLE, beq_self_eq_true, h13, h18]))
        refine callT1 (Entries_m (h9.keep0 o10)) fun w11 o11 => ?_
        (repeat (first | with_reducible refine run_seq ?_ | with_reducible refine run_reg ?_ | with_reducible refine run_block ?_ | with_reducible refine run_blk ?_ | with_reducible refine run_skip ?_ | with_reducible refine run_exit rfl ?_ | with_reducible refine run_drw ?_ | with_reducible refine run_condT ?_ | with_reducible refine run_ret' ?_ | with_reducible refine run_end' ?_ | simp only [go_sem, ↓reduceIte, Nat.reduceAdd, Nat.reduceEqDiff, Nat.reduceBEq, reduceCtorEq, Int.reduceBEq, Int.reduceBNe, Int.reduceLT, Int.reduceLE, MT.entries, beq_self_eq_true]))
        refine callT1 (law_alive _) fun w12 o12 => ?_
        (repeat (first | with_reducible refine run_seq ?_ | with_reducible refine run_reg ?_ | with_reducible refine run_block ?_ | with_reducible refine run_blk ?_ | with_reducible refine run_skip ?_ | with_reducible refine run_exit rfl ?_ | with_reducible refine run_drw ?_ | with_reducible refine run_condT ?_ | with_reducible refine run_ret' ?_ | with_reducible refine run_end' ?_ | simp only [go_sem, ↓reduceIte, Nat.reduceAdd, Nat.reduceEqDiff, Nat.reduceBEq, reduceCtorEq, Int.reduceBEq, Int.reduceBNe, Int.reduceLT, Int.reduceLE]))
        exact ((((o5.same o8).same o9).same o10).same o11).same o12
end Go.Proofs.Ythalhkhjacjhgaa
