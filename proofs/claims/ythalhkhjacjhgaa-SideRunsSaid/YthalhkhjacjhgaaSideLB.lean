/- The laws' own functions: Same, looks, great, made. -/
import Derived.Test.YthalhkhjacjhgaaSideLA
namespace Go.Proofs.Ythalhkhjacjhgaa
set_option linter.unusedSimpArgs false
set_option linter.unusedVariables false
set_option maxRecDepth 8000

theorem upTo_i {n t : Nat} {g : Env} {k : IntKind} {i : Int} (h : g t = .int k i) : upTo n t g = ((n : Int) - i).toNat := by unfold upTo; rw [h]

theorem newT_get {h0 : Nat} {w : World} {a : Option Addr} {S : List Nat} {wd : Nat} {l : List Nat} (h : NewT h0 w a S (some (wd, l))) : ∃ b g, a = some ⟨b, 0, none⟩ ∧ S = [b, g] ∧ STab w b g l.length wd l := h.tab
theorem newT_nil {h0 : Nat} {w : World} {a : Option Addr} {S : List Nat} (h : NewT h0 w a S none) : a = none := by
  have := h.some
  cases a with
  | none => rfl
  | some x => cases this

theorem law_Same {w : World} {a u : Option Addr} {S T : List Nat} {m : MT} (h1 : Tab w a S m) (hs : a.isSome = m.isSome) (h2 : RT w u T m) : Cs Try.prog 32 [.pointer a, .pointer u] w fun r w' => r = .bool true ∧ Only [] w w' := by
  have hmax := h1.max
  refine enter_law01_Same rfl ?_
  unfold x_law01_Same
  (repeat (first | with_reducible refine run_seq ?_ | with_reducible refine run_reg ?_ | with_reducible refine run_block ?_ | with_reducible refine run_blk ?_ | with_reducible refine run_skip ?_ | with_reducible refine run_exit rfl ?_ | with_reducible refine run_drw ?_ | with_reducible refine run_condT ?_ | with_reducible refine run_ret' ?_ | with_reducible refine run_end' ?_ | simp only [go_sem, ↓reduceIte, Nat.reduceAdd, Nat.reduceEqDiff, Nat.reduceBEq, reduceCtorEq, Int.reduceBEq, Int.reduceBNe, Int.reduceLT, Int.reduceLE]))
  refine callT1 (Entries_m h1) fun w1 o1 => ?_
  (repeat (first | with_reducible refine run_seq ?_ | with_reducible refine run_reg ?_ | with_reducible refine run_block ?_ | with_reducible refine run_blk ?_ | with_reducible refine run_skip ?_ | with_reducible refine run_exit rfl ?_ | with_reducible refine run_drw ?_ | with_reducible refine run_condT ?_ | with_reducible refine run_ret' ?_ | with_reducible refine run_end' ?_ | simp only [go_sem, ↓reduceIte, Nat.reduceAdd, Nat.reduceEqDiff, Nat.reduceBEq, reduceCtorEq, Int.reduceBEq, Int.reduceBNe, Int.reduceLT, Int.reduceLE]))
  refine callT1 (rEntries (h2.keep0 o1)) fun w2 o2 => ?_
  have o2 := o1.same o2
  (repeat (first | with_reducible refine run_seq ?_ | with_reducible refine run_reg ?_ | with_reducible refine run_block ?_ | with_reducible refine run_blk ?_ | with_reducible refine run_skip ?_ | with_reducible refine run_exit rfl ?_ | with_reducible refine run_drw ?_ | with_reducible refine run_condT ?_ | with_reducible refine run_ret' ?_ | with_reducible refine run_end' ?_ | simp only [go_sem, ↓reduceIte, Nat.reduceAdd, Nat.reduceEqDiff, Nat.reduceBEq, reduceCtorEq, Int.reduceBEq, Int.reduceBNe, Int.reduceLT, Int.reduceLE, bne_self_eq_false]))
  refine callT1 (Width_m (h1.keep0 o2)) fun w3 o3 => ?_
  have o3 := o2.same o3
  (repeat (first | with_reducible refine run_seq ?_ | with_reducible refine run_reg ?_ | with_reducible refine run_block ?_ | with_reducible refine run_blk ?_ | with_reducible refine run_skip ?_ | with_reducible refine run_exit rfl ?_ | with_reducible refine run_drw ?_ | with_reducible refine run_condT ?_ | with_reducible refine run_ret' ?_ | with_reducible refine run_end' ?_ | simp only [go_sem, ↓reduceIte, Nat.reduceAdd, Nat.reduceEqDiff, Nat.reduceBEq, reduceCtorEq, Int.reduceBEq, Int.reduceBNe, Int.reduceLT, Int.reduceLE]))
  refine callT1 (rWidth (h2.keep0 o3)) fun w4 o4 => ?_
  have o4 := o3.same o4
  have key : ∀ (b : Bool), a.isSome = b → u.isSome = b → (eqPO false (.pointer a) (.pointer none) = some (.bool (!b)) ∧ eqPO false (.pointer u) (.pointer none) = some (.bool (!b))) := by
    intro b ha hu
    subst ha
    cases a <;> cases u <;> first | exact ⟨rfl, rfl⟩ | cases hu
  have hu : u.isSome = m.isSome := by
    match m, h2 with
    | none, h2 => rw [h2.1]; rfl
    | some (wd, l), ⟨b, g, e, _⟩ => rw [e]; rfl
  obtain ⟨k1, k2⟩ := key m.isSome hs hu
  (repeat (first | with_reducible refine run_seq ?_ | with_reducible refine run_reg ?_ | with_reducible refine run_block ?_ | with_reducible refine run_blk ?_ | with_reducible refine run_skip ?_ | with_reducible refine run_exit rfl ?_ | with_reducible refine run_drw ?_ | with_reducible refine run_condT ?_ | with_reducible refine run_ret' ?_ | with_reducible refine run_end' ?_ | simp only [go_sem, ↓reduceIte, Nat.reduceAdd, Nat.reduceEqDiff, Nat.reduceBEq, reduceCtorEq, Int.reduceBEq, Int.reduceBNe, Int.reduceLT, Int.reduceLE, bne_self_eq_false, beq_self_eq_true, k1, k2]))
  refine run_loop (5 :: 25 :: 26 :: 27 :: 28 :: 29 :: 30 :: 31 :: 32 :: 33 :: 34 :: 35 :: 36 :: 37 :: []) (fun g' w' => ∃ (i : Int), g' 5 = .int .i64 i ∧ -1 ≤ i ∧ i ≤ m.entries + 1 ∧ Only [] w w') (fun g' _ => upTo (m.entries + 1) 5 g')
    ⟨-1, by simp only [go_sem, ↓reduceIte, Nat.reduceAdd, Nat.reduceEqDiff, Nat.reduceBEq, reduceCtorEq, Int.reduceBEq, Int.reduceBNe, Int.reduceLT, Int.reduceLE], by omega, by omega, o4⟩ fun g' w' hI hnext => ?_
  obtain ⟨i, hi, hi1, hi2, ho⟩ := hI
  (repeat (first | with_reducible refine run_seq ?_ | with_reducible refine run_reg ?_ | with_reducible refine run_block ?_ | with_reducible refine run_blk ?_ | with_reducible refine run_skip ?_ | with_reducible refine run_exit rfl ?_ | with_reducible refine run_drw ?_ | with_reducible refine run_condT ?_ | with_reducible refine run_ret' ?_ | with_reducible refine run_end' ?_ | simp only [go_sem, ↓reduceIte, Nat.reduceAdd, Nat.reduceEqDiff, Nat.reduceBEq, reduceCtorEq, Int.reduceBEq, Int.reduceBNe, Int.reduceLT, Int.reduceLE, hi]))
  refine callT1 (rEntries (h2.keep0 ho)) fun w5 o5 => ?_
  have o5 := ho.same o5
  (repeat (first | with_reducible refine run_seq ?_ | with_reducible refine run_reg ?_ | with_reducible refine run_block ?_ | with_reducible refine run_blk ?_ | with_reducible refine run_skip ?_ | with_reducible refine run_exit rfl ?_ | with_reducible refine run_drw ?_ | with_reducible refine run_condT ?_ | with_reducible refine run_ret' ?_ | with_reducible refine run_end' ?_ | simp only [go_sem, ↓reduceIte, Nat.reduceAdd, Nat.reduceEqDiff, Nat.reduceBEq, reduceCtorEq, Int.reduceBEq, Int.reduceBNe, Int.reduceLT, Int.reduceLE, hi]))
  refine condT (fun hlt => ?_) (fun hge => ?_)
  · have hlt : i ≤ m.entries := by simpa using hlt
    (repeat (first | with_reducible refine run_seq ?_ | with_reducible refine run_reg ?_ | with_reducible refine run_block ?_ | with_reducible refine run_blk ?_ | with_reducible refine run_skip ?_ | with_reducible refine run_exit rfl ?_ | with_reducible refine run_drw ?_ | with_reducible refine run_condT ?_ | with_reducible refine run_ret' ?_ | with_reducible refine run_end' ?_ | simp only [go_sem, ↓reduceIte, Nat.reduceAdd, Nat.reduceEqDiff, Nat.reduceBEq, reduceCtorEq, Int.reduceBEq, Int.reduceBNe, Int.reduceLT, Int.reduceLE, hi]))
    refine callT1 (Get_m (h1.keep0 o5) i) fun w6 o6 => ?_
    have o6 := o5.same o6
    (repeat (first | with_reducible refine run_seq ?_ | with_reducible refine run_reg ?_ | with_reducible refine run_block ?_ | with_reducible refine run_blk ?_ | with_reducible refine run_skip ?_ | with_reducible refine run_exit rfl ?_ | with_reducible refine run_drw ?_ | with_reducible refine run_condT ?_ | with_reducible refine run_ret' ?_ | with_reducible refine run_end' ?_ | simp only [go_sem, ↓reduceIte, Nat.reduceAdd, Nat.reduceEqDiff, Nat.reduceBEq, reduceCtorEq, Int.reduceBEq, Int.reduceBNe, Int.reduceLT, Int.reduceLE, hi]))
    refine callT1 (rGet (h2.keep0 o6) i) fun w7 o7 => ?_
    have o7 := o6.same o7
    have hw : IntKind.i64.wrap (i + 1) = i + 1 := IntWalk.i64_in _ (by omega)
    (repeat (first | with_reducible refine run_seq ?_ | with_reducible refine run_reg ?_ | with_reducible refine run_block ?_ | with_reducible refine run_blk ?_ | with_reducible refine run_skip ?_ | with_reducible refine run_exit rfl ?_ | with_reducible refine run_drw ?_ | with_reducible refine run_condT ?_ | with_reducible refine run_ret' ?_ | with_reducible refine run_end' ?_ | simp only [go_sem, ↓reduceIte, Nat.reduceAdd, Nat.reduceEqDiff, Nat.reduceBEq, reduceCtorEq, Int.reduceBEq, Int.reduceBNe, Int.reduceLT, Int.reduceLE, bne_self_eq_false, hi, hw]))
    refine hnext _ _ ?_ ⟨i + 1, ?_, by omega, by omega, o7⟩ ?_
    · (repeat (first | with_reducible exact Keeps.refl _ _ | with_reducible exact Keeps.ovr _ _ _ | refine Keeps.put ?_ rfl _ | exact Keeps.refl _ _ | exact Keeps.ovr _ _ _ | refine Keeps.ovr2 ?_ rfl _))
    · simp only [go_sem, ↓reduceIte, Nat.reduceAdd, Nat.reduceEqDiff, Nat.reduceBEq, reduceCtorEq, Int.reduceBEq, Int.reduceBNe, Int.reduceLT, Int.reduceLE]
    · rw [upTo_i hi, upTo_i (k := .i64) (i := i + 1) (by simp only [go_sem, ↓reduceIte, Nat.reduceAdd, Nat.reduceEqDiff, Nat.reduceBEq, reduceCtorEq, Int.reduceBEq, Int.reduceBNe, Int.reduceLT, Int.reduceLE])]; omega
  · (repeat (first | with_reducible refine run_seq ?_ | with_reducible refine run_reg ?_ | with_reducible refine run_block ?_ | with_reducible refine run_blk ?_ | with_reducible refine run_skip ?_ | with_reducible refine run_exit rfl ?_ | with_reducible refine run_drw ?_ | with_reducible refine run_condT ?_ | with_reducible refine run_ret' ?_ | with_reducible refine run_end' ?_ | simp only [go_sem, ↓reduceIte, Nat.reduceAdd, Nat.reduceEqDiff, Nat.reduceBEq, reduceCtorEq, Int.reduceBEq, Int.reduceBNe, Int.reduceLT, Int.reduceLE]))
    exact o5

theorem law_looks {w : World} {a u : Option Addr} {S T : List Nat} {m : MT} (h1 : Tab w a S m) (h2 : RT w u T m) (v : Int) : Cs Try.prog 37 [.pointer a, .pointer u, .int .i64 v] w fun r w' => r = .bool true ∧ Only [] w w' := by
  have hmax := h1.max
  have hrl := m.runs_len v
  refine enter_law01_looks rfl ?_
  unfold x_law01_looks
  (repeat (first | with_reducible refine run_seq ?_ | with_reducible refine run_reg ?_ | with_reducible refine run_block ?_ | with_reducible refine run_blk ?_ | with_reducible refine run_skip ?_ | with_reducible refine run_exit rfl ?_ | with_reducible refine run_drw ?_ | with_reducible refine run_condT ?_ | with_reducible refine run_ret' ?_ | with_reducible refine run_end' ?_ | simp only [go_sem, ↓reduceIte, Nat.reduceAdd, Nat.reduceEqDiff, Nat.reduceBEq, reduceCtorEq, Int.reduceBEq, Int.reduceBNe, Int.reduceLT, Int.reduceLE]))
  refine callT1 (Count_m h1 v) fun w1 o1 => ?_
  (repeat (first | with_reducible refine run_seq ?_ | with_reducible refine run_reg ?_ | with_reducible refine run_block ?_ | with_reducible refine run_blk ?_ | with_reducible refine run_skip ?_ | with_reducible refine run_exit rfl ?_ | with_reducible refine run_drw ?_ | with_reducible refine run_condT ?_ | with_reducible refine run_ret' ?_ | with_reducible refine run_end' ?_ | simp only [go_sem, ↓reduceIte, Nat.reduceAdd, Nat.reduceEqDiff, Nat.reduceBEq, reduceCtorEq, Int.reduceBEq, Int.reduceBNe, Int.reduceLT, Int.reduceLE]))
  refine callT1 (rCount (h2.keep0 o1) v) fun w2 o2 => ?_
  have o2 := o1.same o2
  (repeat (first | with_reducible refine run_seq ?_ | with_reducible refine run_reg ?_ | with_reducible refine run_block ?_ | with_reducible refine run_blk ?_ | with_reducible refine run_skip ?_ | with_reducible refine run_exit rfl ?_ | with_reducible refine run_drw ?_ | with_reducible refine run_condT ?_ | with_reducible refine run_ret' ?_ | with_reducible refine run_end' ?_ | simp only [go_sem, ↓reduceIte, Nat.reduceAdd, Nat.reduceEqDiff, Nat.reduceBEq, reduceCtorEq, Int.reduceBEq, Int.reduceBNe, Int.reduceLT, Int.reduceLE, beq_self_eq_true]))
  refine callT (Runs_m (h1.keep0 o2) v) ?_
  rintro s w3 ⟨hs, o3⟩
  have o3 := o2.same o3
  (repeat (first | with_reducible refine run_seq ?_ | with_reducible refine run_reg ?_ | with_reducible refine run_block ?_ | with_reducible refine run_blk ?_ | with_reducible refine run_skip ?_ | with_reducible refine run_exit rfl ?_ | with_reducible refine run_drw ?_ | with_reducible refine run_condT ?_ | with_reducible refine run_ret' ?_ | with_reducible refine run_end' ?_ | simp only [go_sem, ↓reduceIte, Nat.reduceAdd, Nat.reduceEqDiff, Nat.reduceBEq, reduceCtorEq, Int.reduceBEq, Int.reduceBNe, Int.reduceLT, Int.reduceLE]))
  refine callT (rRuns (h2.keep0 o3) v) ?_
  rintro t w4 ⟨ht, o4⟩
  (repeat (first | with_reducible refine run_seq ?_ | with_reducible refine run_reg ?_ | with_reducible refine run_block ?_ | with_reducible refine run_blk ?_ | with_reducible refine run_skip ?_ | with_reducible refine run_exit rfl ?_ | with_reducible refine run_drw ?_ | with_reducible refine run_condT ?_ | with_reducible refine run_ret' ?_ | with_reducible refine run_end' ?_ | simp only [go_sem, ↓reduceIte, Nat.reduceAdd, Nat.reduceEqDiff, Nat.reduceBEq, reduceCtorEq, Int.reduceBEq, Int.reduceBNe, Int.reduceLT, Int.reduceLE]))
  refine callT1 (sameRuns (hs.keep0 o4) ht (by omega)) fun w5 o5 => ?_
  (repeat (first | with_reducible refine run_seq ?_ | with_reducible refine run_reg ?_ | with_reducible refine run_block ?_ | with_reducible refine run_blk ?_ | with_reducible refine run_skip ?_ | with_reducible refine run_exit rfl ?_ | with_reducible refine run_drw ?_ | with_reducible refine run_condT ?_ | with_reducible refine run_ret' ?_ | with_reducible refine run_end' ?_ | simp only [go_sem, ↓reduceIte, Nat.reduceAdd, Nat.reduceEqDiff, Nat.reduceBEq, reduceCtorEq, Int.reduceBEq, Int.reduceBNe, Int.reduceLT, Int.reduceLE]))
  exact (o3.same o4).same o5

/-- the acts of an argument -/
def ActsAt (h0 : Nat) (w : World) (v : Value) (l : List Act4) : Prop := (v = .slice none 0 0 ∧ l = []) ∨
  ∃ (a : Addr) (cap : Nat), v = .slice (some a) l.length cap ∧ (0 < l.length → a.block < h0) ∧ ∀ i, i < l.length → cellsAt w (a.add (i * 4)) 4 = some (actV (l.getD i (0, 0, 0, 0)))
theorem add_block (a : Addr) (i : Nat) : (a.add i).block = a.block := by unfold Addr.add; split <;> rfl
theorem ActsAt.keep {h0 : Nat} {w w' : World} {v : Value} {l : List Act4} {S : List Nat} (h : ActsAt h0 w v l) (hw : h0 ≤ w.heap.size) (k : Only S w w') (hs : ∀ x, x ∈ S → h0 ≤ x) : ActsAt h0 w' v l := by
  rcases h with h | ⟨a, cap, h1, h2, h3⟩
  · exact .inl h
  · refine .inr ⟨a, cap, h1, h2, fun i hi => ?_⟩
    rw [cellsAt_heap (w := w) (w' := w') (p := a.add (i * 4)) (by rw [add_block]; have := h2 (by omega); exact k.block _ (by omega) fun hx => by have := hs _ hx; omega)]
    exact h3 i hi
theorem ActsAt.keep0 {w w' : World} {v : Value} {l : List Act4} {h0 : Nat} (h : ActsAt h0 w v l) (hw : h0 ≤ w.heap.size) (k : Only [] w w') : ActsAt h0 w' v l := h.keep hw k (by simp)
theorem ActsAt.cases {h0 : Nat} {w : World} {v : Value} {l : List Act4} (h : ActsAt h0 w v l) : ∃ (a : Option Addr) (cap : Nat), v = .slice a l.length cap ∧ ∀ i, i < l.length → ∃ p, a = some p ∧ cellsAt w (p.add (i * 4)) 4 = some (actV (l.getD i (0, 0, 0, 0))) := by
  rcases h with ⟨h1, rfl⟩ | ⟨a, cap, h1, h2, h3⟩
  · exact ⟨none, 0, h1, fun i hi => absurd hi (by simp)⟩
  · exact ⟨some a, cap, h1, fun i hi => ⟨a, rfl, h3 i hi⟩⟩

theorem law_great {h0 : Nat} {w w' : World} {v : Value} {l : List Act4} (h : ActsAt h0 w v l) : Cs Try.prog 14 [v] w' fun r w2 => r = .bool (decide (80 < l.length)) ∧ w2 = w' := by
  obtain ⟨a, cap, rfl, _⟩ := h.cases
  refine enter_law01_great rfl ?_
  unfold x_law01_great
  (repeat (first | with_reducible refine run_seq ?_ | with_reducible refine run_reg ?_ | with_reducible refine run_block ?_ | with_reducible refine run_blk ?_ | with_reducible refine run_skip ?_ | with_reducible refine run_exit rfl ?_ | with_reducible refine run_drw ?_ | with_reducible refine run_condT ?_ | with_reducible refine run_ret' ?_ | with_reducible refine run_end' ?_ | simp only [go_sem, ↓reduceIte, Nat.reduceAdd, Nat.reduceEqDiff, Nat.reduceBEq, reduceCtorEq, Int.reduceBEq, Int.reduceBNe, Int.reduceLT, Int.reduceLE]))
  by_cases hl : 80 < l.length
  · have : (80 : Int) < (l.length : Int) := by omega
    simp [hl, this]
  · have : ¬ (80 : Int) < (l.length : Int) := by omega
    simp [hl, this]

def madeM (n wd : Int) (l : List Act4) : MT := l.foldl MT.act (newM n wd)
theorem MT.act_some (m : MT) (x : Act4) : (m.act x).isSome = m.isSome := by
  obtain ⟨k, A, B, C⟩ := x
  cases m with
  | none => simp only [MT.act]; split; · rfl
            · split; · rfl
              · split; · rfl
                · split <;> rfl
  | some m =>
    simp only [MT.act]
    split
    · simp only [MT.setM]; split <;> rfl
    · split
      · simp only [MT.fillM]; split <;> rfl
      · split
        · simp only [MT.swapM]; split <;> rfl
        · split
          · simp only [MT.addM]; split <;> rfl
          · rfl
theorem foldl_some (l : List Act4) (m : MT) : (l.foldl MT.act m).isSome = m.isSome := by
  induction l generalizing m with
  | nil => rfl
  | cons x l ih => rw [List.foldl_cons, ih, MT.act_some]
theorem foldl_take_succ (l : List Act4) (m : MT) (i : Nat) (h : i < l.length) : (l.take (i + 1)).foldl MT.act m = MT.act ((l.take i).foldl MT.act m) (l.getD i (0, 0, 0, 0)) := by
  have e : l.getD i (0, 0, 0, 0) = l[i] := by simp [h]
  rw [List.take_succ_eq_append_getElem h, List.foldl_append, e]; rfl

theorem law_made_great {w : World} {v : Value} {l : List Act4} {h0 : Nat} (hl : ActsAt h0 w v l) (n wd : Int) (h80 : 80 < l.length) :
    Cs Try.prog 13 [.int .i64 n, .int .i64 wd, v] w fun r w' => r = .tuple #[.pointer none, .pointer none] ∧ Only [] w w' := by
  refine enter_law01_made rfl ?_
  unfold x_law01_made
  (repeat (first | with_reducible refine run_seq ?_ | with_reducible refine run_reg ?_ | with_reducible refine run_block ?_ | with_reducible refine run_blk ?_ | with_reducible refine run_skip ?_ | with_reducible refine run_exit rfl ?_ | with_reducible refine run_drw ?_ | with_reducible refine run_condT ?_ | with_reducible refine run_ret' ?_ | with_reducible refine run_end' ?_ | simp only [go_sem, ↓reduceIte, Nat.reduceAdd, Nat.reduceEqDiff, Nat.reduceBEq, reduceCtorEq, Int.reduceBEq, Int.reduceBNe, Int.reduceLT, Int.reduceLE]))
  refine callT0 (law_great hl) ?_
  (repeat (first | with_reducible refine run_seq ?_ | with_reducible refine run_reg ?_ | with_reducible refine run_block ?_ | with_reducible refine run_blk ?_ | with_reducible refine run_skip ?_ | with_reducible refine run_exit rfl ?_ | with_reducible refine run_drw ?_ | with_reducible refine run_condT ?_ | with_reducible refine run_ret' ?_ | with_reducible refine run_end' ?_ | simp only [go_sem, ↓reduceIte, Nat.reduceAdd, Nat.reduceEqDiff, Nat.reduceBEq, reduceCtorEq, Int.reduceBEq, Int.reduceBNe, Int.reduceLT, Int.reduceLE, decide_eq_true h80]))
  exact Only.refl _ _

theorem law_made {w : World} {v : Value} {l : List Act4} {h0 : Nat} (hl : ActsAt h0 w v l) (hh : h0 ≤ w.heap.size) (n wd : Int) (h80 : ¬ 80 < l.length) :
    Cs Try.prog 13 [.int .i64 n, .int .i64 wd, v] w fun r w' => ∃ a u S T, r = .tuple #[.pointer a, .pointer u] ∧ NewT w.heap.size w' a S (madeM n wd l) ∧ RT w' u T (madeM n wd l) ∧ (∀ x, x ∈ T → w.heap.size ≤ x) ∧ Dj S T ∧ Only [] w w' := by
  refine enter_law01_made rfl ?_
  unfold x_law01_made
  (repeat (first | with_reducible refine run_seq ?_ | with_reducible refine run_reg ?_ | with_reducible refine run_block ?_ | with_reducible refine run_blk ?_ | with_reducible refine run_skip ?_ | with_reducible refine run_exit rfl ?_ | with_reducible refine run_drw ?_ | with_reducible refine run_condT ?_ | with_reducible refine run_ret' ?_ | with_reducible refine run_end' ?_ | simp only [go_sem, ↓reduceIte, Nat.reduceAdd, Nat.reduceEqDiff, Nat.reduceBEq, reduceCtorEq, Int.reduceBEq, Int.reduceBNe, Int.reduceLT, Int.reduceLE]))
  refine callT0 (law_great hl) ?_
  (repeat (first | with_reducible refine run_seq ?_ | with_reducible refine run_reg ?_ | with_reducible refine run_block ?_ | with_reducible refine run_blk ?_ | with_reducible refine run_skip ?_ | with_reducible refine run_exit rfl ?_ | with_reducible refine run_drw ?_ | with_reducible refine run_condT ?_ | with_reducible refine run_ret' ?_ | with_reducible refine run_end' ?_ | simp only [go_sem, ↓reduceIte, Nat.reduceAdd, Nat.reduceEqDiff, Nat.reduceBEq, reduceCtorEq, Int.reduceBEq, Int.reduceBNe, Int.reduceLT, Int.reduceLE, decide_eq_false h80]))
  refine callT (New_m w n wd) ?_
  rintro r w1 ⟨a, S, rfl, hN, o1⟩
  (repeat (first | with_reducible refine run_seq ?_ | with_reducible refine run_reg ?_ | with_reducible refine run_block ?_ | with_reducible refine run_blk ?_ | with_reducible refine run_skip ?_ | with_reducible refine run_exit rfl ?_ | with_reducible refine run_drw ?_ | with_reducible refine run_condT ?_ | with_reducible refine run_ret' ?_ | with_reducible refine run_end' ?_ | simp only [go_sem, ↓reduceIte, Nat.reduceAdd, Nat.reduceEqDiff, Nat.reduceBEq, reduceCtorEq, Int.reduceBEq, Int.reduceBNe, Int.reduceLT, Int.reduceLE]))
  refine callT (rNew w1 n wd) ?_
  rintro r w2 ⟨u, T, rfl, ⟨hR, hT⟩, o2⟩
  have hS := hN.tab.lt
  have hd : Dj S T := fun x hx ht => by have := hS x hx; have := hT x ht; omega
  have hT' : ∀ x, x ∈ T → w.heap.size ≤ x := fun x hx => Nat.le_trans o1.size (hT x hx)
  obtain ⟨sa, cap, rfl, hc⟩ := hl.cases
  (repeat (first | with_reducible refine run_seq ?_ | with_reducible refine run_reg ?_ | with_reducible refine run_block ?_ | with_reducible refine run_blk ?_ | with_reducible refine run_skip ?_ | with_reducible refine run_exit rfl ?_ | with_reducible refine run_drw ?_ | with_reducible refine run_condT ?_ | with_reducible refine run_ret' ?_ | with_reducible refine run_end' ?_ | simp only [go_sem, ↓reduceIte, Nat.reduceAdd, Nat.reduceEqDiff, Nat.reduceBEq, reduceCtorEq, Int.reduceBEq, Int.reduceBNe, Int.reduceLT, Int.reduceLE]))
  refine run_loop (12 :: 27 :: 28 :: 29 :: 30 :: 31 :: 32 :: 33 :: 34 :: 35 :: 36 :: 37 :: 38 :: 39 :: []) (fun g' w' => ∃ (i : Nat), g' 12 = .int .i64 i ∧ i ≤ l.length ∧ Tab w' a S ((l.take i).foldl MT.act (newM n wd)) ∧ RT w' u T ((l.take i).foldl MT.act (newM n wd)) ∧ Only [] w w') (fun g' _ => upTo l.length 12 g')
    ⟨0, by simp only [go_sem, ↓reduceIte, Nat.reduceAdd, Nat.reduceEqDiff, Nat.reduceBEq, reduceCtorEq, Int.reduceBEq, Int.reduceBNe, Int.reduceLT, Int.reduceLE]; rfl, by omega, hN.tab.keep0 o2, hR, o1.same o2⟩ fun g' w' hI hnext => ?_
  obtain ⟨i, hi, hin, h1, h2, ho⟩ := hI
  (repeat (first | with_reducible refine run_seq ?_ | with_reducible refine run_reg ?_ | with_reducible refine run_block ?_ | with_reducible refine run_blk ?_ | with_reducible refine run_skip ?_ | with_reducible refine run_exit rfl ?_ | with_reducible refine run_drw ?_ | with_reducible refine run_condT ?_ | with_reducible refine run_ret' ?_ | with_reducible refine run_end' ?_ | simp only [go_sem, ↓reduceIte, Nat.reduceAdd, Nat.reduceEqDiff, Nat.reduceBEq, reduceCtorEq, Int.reduceBEq, Int.reduceBNe, Int.reduceLT, Int.reduceLE, hi]))
  refine condT (fun hlt => ?_) (fun hge => ?_)
  · have hlt : i < l.length := by simpa using hlt
    have c1 : (0 : Int) ≤ (i : Int) ∧ (i : Int) < (l.length : Int) := ⟨by omega, by omega⟩
    rcases hl.keep0 hh ho with ⟨_, rfl⟩ | ⟨p, cap', e1, e2, e3⟩
    · simp at hlt
    cases e1
    have e4 := e3 i hlt
    (repeat (first | with_reducible refine run_seq ?_ | with_reducible refine run_reg ?_ | with_reducible refine run_block ?_ | with_reducible refine run_blk ?_ | with_reducible refine run_skip ?_ | with_reducible refine run_exit rfl ?_ | with_reducible refine run_drw ?_ | with_reducible refine run_condT ?_ | with_reducible refine run_ret' ?_ | with_reducible refine run_end' ?_ | simp only [go_sem, ↓reduceIte, Nat.reduceAdd, Nat.reduceEqDiff, Nat.reduceBEq, reduceCtorEq, Int.reduceBEq, Int.reduceBNe, Int.reduceLT, Int.reduceLE, hi, if_pos c1, Int.toNat_natCast, e4]))
    refine callT (play (l.getD i (0, 0, 0, 0)) h1 h2 hd) ?_
    rintro r w5 ⟨rfl, g1, g2, o5⟩
    (repeat (first | with_reducible refine run_seq ?_ | with_reducible refine run_reg ?_ | with_reducible refine run_block ?_ | with_reducible refine run_blk ?_ | with_reducible refine run_skip ?_ | with_reducible refine run_exit rfl ?_ | with_reducible refine run_drw ?_ | with_reducible refine run_condT ?_ | with_reducible refine run_ret' ?_ | with_reducible refine run_end' ?_ | simp only [go_sem, ↓reduceIte, Nat.reduceAdd, Nat.reduceEqDiff, Nat.reduceBEq, reduceCtorEq, Int.reduceBEq, Int.reduceBNe, Int.reduceLT, Int.reduceLE, hi, i64_succ i (by omega)]))
    refine hnext _ _ ?_ ⟨i + 1, ?_, hlt, by rw [foldl_take_succ l _ i hlt]; exact g1, by rw [foldl_take_succ l _ i hlt]; exact g2, ho.same5 o5 fun x hx => ?_⟩ ?_
    · (repeat (first | with_reducible exact Keeps.refl _ _ | with_reducible exact Keeps.ovr _ _ _ | refine Keeps.put ?_ rfl _ | exact Keeps.refl _ _ | exact Keeps.ovr _ _ _ | refine Keeps.ovr2 ?_ rfl _))
    · simp only [go_sem, ↓reduceIte, Nat.reduceAdd, Nat.reduceEqDiff, Nat.reduceBEq, reduceCtorEq, Int.reduceBEq, Int.reduceBNe, Int.reduceLT, Int.reduceLE]
    · rcases List.mem_append.1 hx with hx | hx
      · exact hN.new x hx
      · exact hT' x hx
    · rw [upTo_int hi, upTo_int (k := .i64) (i := i + 1) (by simp only [go_sem, ↓reduceIte, Nat.reduceAdd, Nat.reduceEqDiff, Nat.reduceBEq, reduceCtorEq, Int.reduceBEq, Int.reduceBNe, Int.reduceLT, Int.reduceLE])]; omega
  · have hge : ¬ i < l.length := by simpa using hge
    have : i = l.length := by omega
    subst this
    rw [List.take_length] at h1 h2
    (repeat (first | with_reducible refine run_seq ?_ | with_reducible refine run_reg ?_ | with_reducible refine run_block ?_ | with_reducible refine run_blk ?_ | with_reducible refine run_skip ?_ | with_reducible refine run_exit rfl ?_ | with_reducible refine run_drw ?_ | with_reducible refine run_condT ?_ | with_reducible refine run_ret' ?_ | with_reducible refine run_end' ?_ | simp only [go_sem, ↓reduceIte, Nat.reduceAdd, Nat.reduceEqDiff, Nat.reduceBEq, reduceCtorEq, Int.reduceBEq, Int.reduceBNe, Int.reduceLT, Int.reduceLE]))
    exact ⟨a, u, S, T, rfl, ⟨h1, by rw [hN.some, madeM, foldl_some], hN.new⟩, h2, hT', hd, ho⟩
end Go.Proofs.Ythalhkhjacjhgaa
