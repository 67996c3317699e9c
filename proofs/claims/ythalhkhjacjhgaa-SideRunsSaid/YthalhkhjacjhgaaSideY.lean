/- Side tables: Same, Merge. -/
import Derived.Test.YthalhkhjacjhgaaSideX
namespace Go.Proofs.Ythalhkhjacjhgaa
set_option linter.unusedSimpArgs false
set_option linter.unusedVariables false
set_option maxRecDepth 8000

theorem Same_m {w : World} {a b : Option Addr} {S T : List Nat} {m k : MT} (h1 : Tab w a S m) (h2 : Tab w b T k) : Cs Try.prog 38 [.pointer a, .pointer b] w fun r w' => r = .bool (m.same k) ∧ Only [] w w' := by
  refine enter_side_Same rfl ?_
  unfold x_side_Same
  cases hal : m.alike k with
  | false =>
    have hs : m.same k = false := by
      match m, k with
      | none, _ => rfl
      | some _, none => rfl
      | some (wd, l), some (wd', l') =>
        simp only [MT.alike, Bool.and_eq_false_iff, decide_eq_false_iff_not] at hal
        simp only [MT.same, Bool.and_eq_false_iff, decide_eq_false_iff_not]
        rcases hal with h | h
        · exact .inr fun e => h (by rw [e])
        · exact .inl h
    (repeat (first | with_reducible refine run_seq ?_ | with_reducible refine run_reg ?_ | with_reducible refine run_block ?_ | with_reducible refine run_blk ?_ | with_reducible refine run_skip ?_ | with_reducible refine run_exit rfl ?_ | with_reducible refine run_drw ?_ | with_reducible refine run_condT ?_ | with_reducible refine run_ret' ?_ | with_reducible refine run_end' ?_ | simp only [go_sem, ↓reduceIte, Nat.reduceAdd, Nat.reduceEqDiff, Nat.reduceBEq, reduceCtorEq, Int.reduceBEq, Int.reduceBNe, Int.reduceLT, Int.reduceLE]))
    refine run_drg [] ?_
    (repeat (first | with_reducible refine run_seq ?_ | with_reducible refine run_reg ?_ | with_reducible refine run_block ?_ | with_reducible refine run_blk ?_ | with_reducible refine run_skip ?_ | with_reducible refine run_exit rfl ?_ | with_reducible refine run_drw ?_ | with_reducible refine run_condT ?_ | with_reducible refine run_ret' ?_ | with_reducible refine run_end' ?_ | simp only [go_sem, ↓reduceIte, Nat.reduceAdd, Nat.reduceEqDiff, Nat.reduceBEq, reduceCtorEq, Int.reduceBEq, Int.reduceBNe, Int.reduceLT, Int.reduceLE]))
    refine callS1 (alike_m (h1.keep0 (Only.drew _ _)) (h2.keep0 (Only.drew _ _)) hal) (.inr ⟨SB.refl _ _, fun x hx => by cases hx⟩) fun w1 ho => ?_
    (repeat (first | with_reducible refine run_seq ?_ | with_reducible refine run_reg ?_ | with_reducible refine run_block ?_ | with_reducible refine run_blk ?_ | with_reducible refine run_skip ?_ | with_reducible refine run_exit rfl ?_ | with_reducible refine run_drw ?_ | with_reducible refine run_condT ?_ | with_reducible refine run_ret' ?_ | with_reducible refine run_end' ?_ | simp only [go_sem, ↓reduceIte, Nat.reduceAdd, Nat.reduceEqDiff, Nat.reduceBEq, reduceCtorEq, Int.reduceBEq, Int.reduceBNe, Int.reduceLT, Int.reduceLE, hs]))
    exact ho.drew_left
  | true =>
    match m, k, h1, h2, hal with
    | some (wd, l), some (wd', l'), ⟨b1, g1, e1, e2, h3⟩, ⟨b2, g2, e3, e4, h4⟩, hal =>
      subst e1 e2 e3 e4
      obtain ⟨hll, hww⟩ : l.length = l'.length ∧ wd = wd' := by simpa [MT.alike] using hal
      obtain ⟨ws, cap, rest, f1, f2, f3, _⟩ := h3.mem
      obtain ⟨us, cap', rest', q1, q2, q3, _⟩ := h4.mem
      have hlu : ws.length = us.length := by rw [f1.len, q1.len, hll, hww]
      have n2 := h3.n2
      have hb : ws.length ≤ 4096 := by rw [f1.len]; rcases h3.hw with rfl | rfl | rfl | rfl <;> omega
      (repeat (first | with_reducible refine run_seq ?_ | with_reducible refine run_reg ?_ | with_reducible refine run_block ?_ | with_reducible refine run_blk ?_ | with_reducible refine run_skip ?_ | with_reducible refine run_exit rfl ?_ | with_reducible refine run_drw ?_ | with_reducible refine run_condT ?_ | with_reducible refine run_ret' ?_ | with_reducible refine run_end' ?_ | simp only [go_sem, ↓reduceIte, Nat.reduceAdd, Nat.reduceEqDiff, Nat.reduceBEq, reduceCtorEq, Int.reduceBEq, Int.reduceBNe, Int.reduceLT, Int.reduceLE]))
      refine run_drg [b1, b2] ?_
      (repeat (first | with_reducible refine run_seq ?_ | with_reducible refine run_reg ?_ | with_reducible refine run_block ?_ | with_reducible refine run_blk ?_ | with_reducible refine run_skip ?_ | with_reducible refine run_exit rfl ?_ | with_reducible refine run_drw ?_ | with_reducible refine run_condT ?_ | with_reducible refine run_ret' ?_ | with_reducible refine run_end' ?_ | simp only [go_sem, ↓reduceIte, Nat.reduceAdd, Nat.reduceEqDiff, Nat.reduceBEq, reduceCtorEq, Int.reduceBEq, Int.reduceBNe, Int.reduceLT, Int.reduceLE]))
      refine callS1 (alike_m (Tab.mk h3.drew) (Tab.mk h4.drew) hal) (.inr ⟨SB.refl _ _, fun x hx => ⟨?_, by simp⟩⟩) fun w1 ho => ?_
      · rcases List.mem_cons.1 hx with rfl | hx
        · exact f2.lt
        · rcases List.mem_cons.1 hx with rfl | hx
          · exact q2.lt
          · cases hx
      (repeat (first | with_reducible refine run_seq ?_ | with_reducible refine run_reg ?_ | with_reducible refine run_block ?_ | with_reducible refine run_blk ?_ | with_reducible refine run_skip ?_ | with_reducible refine run_exit rfl ?_ | with_reducible refine run_drw ?_ | with_reducible refine run_condT ?_ | with_reducible refine run_ret' ?_ | with_reducible refine run_end' ?_ | simp only [go_sem, ↓reduceIte, Nat.reduceAdd, Nat.reduceEqDiff, Nat.reduceBEq, reduceCtorEq, Int.reduceBEq, Int.reduceBNe, Int.reduceLT, Int.reduceLE, f2.cell, q2.cell]))
      refine callS1 (equalWords (f3.drew.keep0 ho) (q3.drew.keep0 ho) hlu hb) (.inr ⟨(SB.refl _ _).only ho fun x hx => ⟨?_, by simp⟩, fun x hx => ⟨?_, by simp⟩⟩) fun w2 ho2 => ?_
      · rcases List.mem_cons.1 hx with rfl | hx
        · exact f2.lt
        · rcases List.mem_cons.1 hx with rfl | hx
          · exact q2.lt
          · cases hx
      · refine Nat.lt_of_lt_of_le ?_ ho.size
        rcases List.mem_cons.1 hx with rfl | hx
        · exact f2.lt
        · rcases List.mem_cons.1 hx with rfl | hx
          · exact q2.lt
          · cases hx
      (repeat (first | with_reducible refine run_seq ?_ | with_reducible refine run_reg ?_ | with_reducible refine run_block ?_ | with_reducible refine run_blk ?_ | with_reducible refine run_skip ?_ | with_reducible refine run_exit rfl ?_ | with_reducible refine run_drw ?_ | with_reducible refine run_condT ?_ | with_reducible refine run_ret' ?_ | with_reducible refine run_end' ?_ | simp only [go_sem, ↓reduceIte, Nat.reduceAdd, Nat.reduceEqDiff, Nat.reduceBEq, reduceCtorEq, Int.reduceBEq, Int.reduceBNe, Int.reduceLT, Int.reduceLE]))
      refine ⟨?_, (ho.same ho2).drew_left⟩
      subst hww
      have : (ws = us) ↔ l = l' := ⟨fun e => by subst e; exact f1.inj' q1 h3.hw hll, fun e => by subst e; exact f1.inj q1⟩
      simp [MT.same, this]

theorem mrg_lt {op : Int} {a b n : Nat} (ha : a < n) (hb : b < n) : mrg op a b < n := by
  unfold mrg; split
  · omega
  · split <;> omega

theorem Merge_m {w : World} {a b : Option Addr} {S T : List Nat} {m k : MT} (h1 : Tab w a S m) (h2 : Tab w b T k) (op : Int) : Cs Try.prog 35 [.pointer a, .pointer b, .int .i64 op] w fun r w' => ∃ a' S', r = .tuple #[.pointer a', .int .i64 (errOf (m.merge k op))] ∧ NewT w.heap.size w' a' S' (m.merge k op) ∧ Only [] w w' := by
  refine enter_side_Merge rfl ?_
  unfold x_side_Merge
  have bad : ∀ w', Only [] w w' → ¬ (m.alike k = true ∧ 0 ≤ op ∧ op ≤ 2) → ∃ a S, Value.tuple #[.pointer none, .int .i64 1] = .tuple #[.pointer a, .int .i64 (errOf (m.merge k op))] ∧ NewT w.heap.size w' a S (m.merge k op) ∧ Only [] w w' := fun w' ho hb => by
    have : m.merge k op = none := by
      match m, k with
      | none, _ => rfl
      | some _, none => rfl
      | some (wd, l), some (wd', l') => simp only [MT.merge]; rw [if_neg hb]
    rw [this]
    exact ⟨none, [], rfl, .none _ _, ho⟩
  cases hal : m.alike k with
  | false =>
    (repeat (first | with_reducible refine run_seq ?_ | with_reducible refine run_reg ?_ | with_reducible refine run_block ?_ | with_reducible refine run_blk ?_ | with_reducible refine run_skip ?_ | with_reducible refine run_exit rfl ?_ | with_reducible refine run_drw ?_ | with_reducible refine run_condT ?_ | with_reducible refine run_ret' ?_ | with_reducible refine run_end' ?_ | simp only [go_sem, ↓reduceIte, Nat.reduceAdd, Nat.reduceEqDiff, Nat.reduceBEq, reduceCtorEq, Int.reduceBEq, Int.reduceBNe, Int.reduceLT, Int.reduceLE]))
    refine callT1 (alike_m h1 h2 hal) fun w1 ho => ?_
    (repeat (first | with_reducible refine run_seq ?_ | with_reducible refine run_reg ?_ | with_reducible refine run_block ?_ | with_reducible refine run_blk ?_ | with_reducible refine run_skip ?_ | with_reducible refine run_exit rfl ?_ | with_reducible refine run_drw ?_ | with_reducible refine run_condT ?_ | with_reducible refine run_ret' ?_ | with_reducible refine run_end' ?_ | simp only [go_sem, ↓reduceIte, Nat.reduceAdd, Nat.reduceEqDiff, Nat.reduceBEq, reduceCtorEq, Int.reduceBEq, Int.reduceBNe, Int.reduceLT, Int.reduceLE]))
    exact bad _ ho (by rw [hal]; simp)
  | true =>
    (repeat (first | with_reducible refine run_seq ?_ | with_reducible refine run_reg ?_ | with_reducible refine run_block ?_ | with_reducible refine run_blk ?_ | with_reducible refine run_skip ?_ | with_reducible refine run_exit rfl ?_ | with_reducible refine run_drw ?_ | with_reducible refine run_condT ?_ | with_reducible refine run_ret' ?_ | with_reducible refine run_end' ?_ | simp only [go_sem, ↓reduceIte, Nat.reduceAdd, Nat.reduceEqDiff, Nat.reduceBEq, reduceCtorEq, Int.reduceBEq, Int.reduceBNe, Int.reduceLT, Int.reduceLE]))
    refine callT1 (alike_m h1 h2 hal) fun w1 ho => ?_
    by_cases c1 : op < 0
    · (repeat (first | with_reducible refine run_seq ?_ | with_reducible refine run_reg ?_ | with_reducible refine run_block ?_ | with_reducible refine run_blk ?_ | with_reducible refine run_skip ?_ | with_reducible refine run_exit rfl ?_ | with_reducible refine run_drw ?_ | with_reducible refine run_condT ?_ | with_reducible refine run_ret' ?_ | with_reducible refine run_end' ?_ | simp only [go_sem, ↓reduceIte, Nat.reduceAdd, Nat.reduceEqDiff, Nat.reduceBEq, reduceCtorEq, Int.reduceBEq, Int.reduceBNe, Int.reduceLT, Int.reduceLE, decide_eq_true c1]))
      exact bad _ ho (by omega)
    by_cases c2 : 2 < op
    · (repeat (first | with_reducible refine run_seq ?_ | with_reducible refine run_reg ?_ | with_reducible refine run_block ?_ | with_reducible refine run_blk ?_ | with_reducible refine run_skip ?_ | with_reducible refine run_exit rfl ?_ | with_reducible refine run_drw ?_ | with_reducible refine run_condT ?_ | with_reducible refine run_ret' ?_ | with_reducible refine run_end' ?_ | simp only [go_sem, ↓reduceIte, Nat.reduceAdd, Nat.reduceEqDiff, Nat.reduceBEq, reduceCtorEq, Int.reduceBEq, Int.reduceBNe, Int.reduceLT, Int.reduceLE, decide_eq_false c1, decide_eq_true c2]))
      exact bad _ ho (by omega)
    (repeat (first | with_reducible refine run_seq ?_ | with_reducible refine run_reg ?_ | with_reducible refine run_block ?_ | with_reducible refine run_blk ?_ | with_reducible refine run_skip ?_ | with_reducible refine run_exit rfl ?_ | with_reducible refine run_drw ?_ | with_reducible refine run_condT ?_ | with_reducible refine run_ret' ?_ | with_reducible refine run_end' ?_ | simp only [go_sem, ↓reduceIte, Nat.reduceAdd, Nat.reduceEqDiff, Nat.reduceBEq, reduceCtorEq, Int.reduceBEq, Int.reduceBNe, Int.reduceLT, Int.reduceLE, decide_eq_false c1, decide_eq_false c2]))
    match m, k, h1, h2, hal with
    | some (wd, l), some (wd', l'), ⟨b1, g1, e1, e2, h3⟩, ⟨b2, g2, e3, e4, h4⟩, hal =>
      subst e1 e2 e3 e4
      obtain ⟨hll, hww⟩ : l.length = l'.length ∧ wd = wd' := by simpa [MT.alike] using hal
      subst hww
      have hm : MT.merge (some (wd, l)) (some (wd, l')) op = some (wd, mixN op l l' l.length) := by
        simp only [MT.merge]; rw [if_pos ⟨hal, by omega, by omega⟩]
      rw [hm]
      have h3 := h3.keep ho (by simp) (by simp)
      have h4 := h4.keep ho (by simp) (by simp)
      have n2 := h3.n2
      refine callT (Clone_m (Tab.mk h3)) ?_
      rintro r w2 ⟨a', S', rfl, hN, ho2⟩
      obtain ⟨b3, g3, e5, e6, h5⟩ := hN.tab
      subst e5 e6
      obtain ⟨kk, cap, f2⟩ := h5.head
      have hb3 : w.heap.size ≤ b3 ∧ w.heap.size ≤ g3 := ⟨Nat.le_trans ho.size (hN.new b3 (by simp)), Nat.le_trans ho.size (hN.new g3 (by simp))⟩
      obtain ⟨_, _, d1⟩ := h3.head
      obtain ⟨_, _, d2⟩ := h4.head
      have i3 : b1 < w1.heap.size ∧ g1 < w1.heap.size := ⟨(Tab.mk h3).lt b1 (by simp), (Tab.mk h3).lt g1 (by simp)⟩
      have i4 : b2 < w1.heap.size ∧ g2 < w1.heap.size := ⟨(Tab.mk h4).lt b2 (by simp), (Tab.mk h4).lt g2 (by simp)⟩
      have i5 : w1.heap.size ≤ b3 ∧ w1.heap.size ≤ g3 := ⟨hN.new b3 (by simp), hN.new g3 (by simp)⟩
      (repeat (first | with_reducible refine run_seq ?_ | with_reducible refine run_reg ?_ | with_reducible refine run_block ?_ | with_reducible refine run_blk ?_ | with_reducible refine run_skip ?_ | with_reducible refine run_exit rfl ?_ | with_reducible refine run_drw ?_ | with_reducible refine run_condT ?_ | with_reducible refine run_ret' ?_ | with_reducible refine run_end' ?_ | simp only [go_sem, ↓reduceIte, Nat.reduceAdd, Nat.reduceEqDiff, Nat.reduceBEq, reduceCtorEq, Int.reduceBEq, Int.reduceBNe, Int.reduceLT, Int.reduceLE, f2.cell]))
      refine run_loop (9 :: 10 :: 11 :: 30 :: 31 :: 32 :: 33 :: 34 :: 35 :: 36 :: 37 :: 38 :: 39 :: 40 :: 41 :: 42 :: 43 :: 44 :: 45 :: 46 :: 47 :: 48 :: 49 :: 50 :: 51 :: 52 :: 53 :: 54 :: 55 :: 56 :: 57 :: 58 :: 59 :: 60 :: 61 :: 62 :: 63 :: []) (fun g' w' => ∃ (i : Nat), g' 30 = .int .i64 i ∧ i ≤ l.length ∧ STab w' b3 g3 l.length wd (mixN op l l' i) ∧ Only [g3] w2 w') (fun g' _ => upTo l.length 30 g')
        ⟨0, by simp only [go_sem, ↓reduceIte, Nat.reduceAdd, Nat.reduceEqDiff, Nat.reduceBEq, reduceCtorEq, Int.reduceBEq, Int.reduceBNe, Int.reduceLT, Int.reduceLE]; rfl, by omega, h5, Only.refl _ _⟩ fun g'' w' hI hnext => ?_
      obtain ⟨i, hi, hin, h6, ho6⟩ := hI
      (repeat (first | with_reducible refine run_seq ?_ | with_reducible refine run_reg ?_ | with_reducible refine run_block ?_ | with_reducible refine run_blk ?_ | with_reducible refine run_skip ?_ | with_reducible refine run_exit rfl ?_ | with_reducible refine run_drw ?_ | with_reducible refine run_condT ?_ | with_reducible refine run_ret' ?_ | with_reducible refine run_end' ?_ | simp only [go_sem, ↓reduceIte, Nat.reduceAdd, Nat.reduceEqDiff, Nat.reduceBEq, reduceCtorEq, Int.reduceBEq, Int.reduceBNe, Int.reduceLT, Int.reduceLE, hi]))
      refine condT (fun hlt => ?_) (fun hge => ?_)
      · have hlt : i < l.length := by simpa using hlt
        have h3' := (h3.keep ho2 (by simp) (by simp)).keep ho6 (by simp; omega) (by simp; omega)
        have h4' := (h4.keep ho2 (by simp) (by simp)).keep ho6 (by simp; omega) (by simp; omega)
        have x1 := h3.el i
        have x2 := h4.el i
        have fin : ∀ (ρ' : Env) (w5 : World), STab w5 b3 g3 l.length wd ((mixN op l l' i).set i (mrg op (l.getD i 0) (l'.getD i 0))) → Only [g3] w2 w5 → ρ' 30 = .int .i64 ((i + 1 : Nat) : Int) → (∃ (i : Nat), ρ' 30 = .int .i64 i ∧ i ≤ l.length ∧ STab w5 b3 g3 l.length wd (mixN op l l' i) ∧ Only [g3] w2 w5) ∧ upTo l.length 30 ρ' < upTo l.length 30 g'' := fun ρ' w5 h7 ho7 h8 => by
          refine ⟨⟨i + 1, h8, hlt, h7, ho7⟩, ?_⟩
          rw [upTo_int hi, upTo_int h8]; omega
        have x3 := mrg_lt (op := op) x1 x2
        have hmv : ((mrg op (l.getD i 0) (l'.getD i 0) : Nat) : Int) = if op = 0 then max ((l.getD i 0 : Nat) : Int) (l'.getD i 0 : Nat) else if op = 1 then min ((l.getD i 0 : Nat) : Int) (l'.getD i 0 : Nat) else max (((l.getD i 0 : Nat) : Int) - (l'.getD i 0 : Nat)) 0 := by
          unfold mrg; split
          · omega
          · split <;> omega
        (repeat (first | with_reducible refine run_seq ?_ | with_reducible refine run_reg ?_ | with_reducible refine run_block ?_ | with_reducible refine run_blk ?_ | with_reducible refine run_skip ?_ | with_reducible refine run_exit rfl ?_ | with_reducible refine run_drw ?_ | with_reducible refine run_condT ?_ | with_reducible refine run_ret' ?_ | with_reducible refine run_end' ?_ | simp only [go_sem, ↓reduceIte, Nat.reduceAdd, Nat.reduceEqDiff, Nat.reduceBEq, reduceCtorEq, Int.reduceBEq, Int.reduceBNe, Int.reduceLT, Int.reduceLE, hi]))
        refine callT1 (get_tab h3' hlt) fun w3 ho3 => ?_
        (repeat (first | with_reducible refine run_seq ?_ | with_reducible refine run_reg ?_ | with_reducible refine run_block ?_ | with_reducible refine run_blk ?_ | with_reducible refine run_skip ?_ | with_reducible refine run_exit rfl ?_ | with_reducible refine run_drw ?_ | with_reducible refine run_condT ?_ | with_reducible refine run_ret' ?_ | with_reducible refine run_end' ?_ | simp only [go_sem, ↓reduceIte, Nat.reduceAdd, Nat.reduceEqDiff, Nat.reduceBEq, reduceCtorEq, Int.reduceBEq, Int.reduceBNe, Int.reduceLT, Int.reduceLE, hi]))
        refine callT1 (get_tab (h4'.keep ho3 (by simp) (by simp)) (show i < l'.length by omega)) fun w4 ho4 => ?_
        have h7 := (h6.keep ho3 (by simp) (by simp)).keep ho4 (by simp) (by simp)
        have hsm : 2 ^ wd ≤ 256 := by rcases h3.hw with rfl | rfl | rfl | rfl <;> decide
        generalize hxx : l.getD i 0 = x at *
        generalize hyy : l'.getD i 0 = y at *
        generalize hmm : mrg op x y = z at *
        by_cases o0 : op = 0
        · have t0 : (op == 0) = true := by simp [o0]
          rw [if_pos o0] at hmv
          (repeat (first | with_reducible refine run_seq ?_ | with_reducible refine run_reg ?_ | with_reducible refine run_block ?_ | with_reducible refine run_blk ?_ | with_reducible refine run_skip ?_ | with_reducible refine run_exit rfl ?_ | with_reducible refine run_drw ?_ | with_reducible refine run_condT ?_ | with_reducible refine run_ret' ?_ | with_reducible refine run_end' ?_ | simp only [go_sem, ↓reduceIte, Nat.reduceAdd, Nat.reduceEqDiff, Nat.reduceBEq, reduceCtorEq, Int.reduceBEq, Int.reduceBNe, Int.reduceLT, Int.reduceLE, hi, t0, ← hmv]))
          refine callT (put_tab h7 hlt x3) ?_
          rintro r w5 ⟨rfl, h8, ho8⟩
          (repeat (first | with_reducible refine run_seq ?_ | with_reducible refine run_reg ?_ | with_reducible refine run_block ?_ | with_reducible refine run_blk ?_ | with_reducible refine run_skip ?_ | with_reducible refine run_exit rfl ?_ | with_reducible refine run_drw ?_ | with_reducible refine run_condT ?_ | with_reducible refine run_ret' ?_ | with_reducible refine run_end' ?_ | simp only [go_sem, ↓reduceIte, Nat.reduceAdd, Nat.reduceEqDiff, Nat.reduceBEq, reduceCtorEq, Int.reduceBEq, Int.reduceBNe, Int.reduceLT, Int.reduceLE, hi, i64_succ i (by omega)]))
          refine hnext _ _ ?_ ?_ ?_
          · (repeat (first | with_reducible exact Keeps.refl _ _ | with_reducible exact Keeps.ovr _ _ _ | refine Keeps.put ?_ rfl _ | exact Keeps.refl _ _ | exact Keeps.ovr _ _ _ | refine Keeps.ovr2 ?_ rfl _))
          · exact (fin _ _ h8 ((ho6.same (ho3.same ho4).of_nil).same ho8) (by simp only [go_sem, ↓reduceIte, Nat.reduceAdd, Nat.reduceEqDiff, Nat.reduceBEq, reduceCtorEq, Int.reduceBEq, Int.reduceBNe, Int.reduceLT, Int.reduceLE])).1
          · exact (fin _ _ h8 ((ho6.same (ho3.same ho4).of_nil).same ho8) (by simp only [go_sem, ↓reduceIte, Nat.reduceAdd, Nat.reduceEqDiff, Nat.reduceBEq, reduceCtorEq, Int.reduceBEq, Int.reduceBNe, Int.reduceLT, Int.reduceLE])).2
        · have t0 : (op == 0) = false := by simp [o0]
          rw [if_neg o0] at hmv
          by_cases o1 : op = 1
          · have t1 : (op == 1) = true := by simp [o1]
            rw [if_pos o1] at hmv
            (repeat (first | with_reducible refine run_seq ?_ | with_reducible refine run_reg ?_ | with_reducible refine run_block ?_ | with_reducible refine run_blk ?_ | with_reducible refine run_skip ?_ | with_reducible refine run_exit rfl ?_ | with_reducible refine run_drw ?_ | with_reducible refine run_condT ?_ | with_reducible refine run_ret' ?_ | with_reducible refine run_end' ?_ | simp only [go_sem, ↓reduceIte, Nat.reduceAdd, Nat.reduceEqDiff, Nat.reduceBEq, reduceCtorEq, Int.reduceBEq, Int.reduceBNe, Int.reduceLT, Int.reduceLE, hi, t0, t1, ← hmv]))
            refine callT (put_tab h7 hlt x3) ?_
            rintro r w5 ⟨rfl, h8, ho8⟩
            (repeat (first | with_reducible refine run_seq ?_ | with_reducible refine run_reg ?_ | with_reducible refine run_block ?_ | with_reducible refine run_blk ?_ | with_reducible refine run_skip ?_ | with_reducible refine run_exit rfl ?_ | with_reducible refine run_drw ?_ | with_reducible refine run_condT ?_ | with_reducible refine run_ret' ?_ | with_reducible refine run_end' ?_ | simp only [go_sem, ↓reduceIte, Nat.reduceAdd, Nat.reduceEqDiff, Nat.reduceBEq, reduceCtorEq, Int.reduceBEq, Int.reduceBNe, Int.reduceLT, Int.reduceLE, hi, i64_succ i (by omega)]))
            refine hnext _ _ ?_ ?_ ?_
            · (repeat (first | with_reducible exact Keeps.refl _ _ | with_reducible exact Keeps.ovr _ _ _ | refine Keeps.put ?_ rfl _ | exact Keeps.refl _ _ | exact Keeps.ovr _ _ _ | refine Keeps.ovr2 ?_ rfl _))
            · exact (fin _ _ h8 ((ho6.same (ho3.same ho4).of_nil).same ho8) (by simp only [go_sem, ↓reduceIte, Nat.reduceAdd, Nat.reduceEqDiff, Nat.reduceBEq, reduceCtorEq, Int.reduceBEq, Int.reduceBNe, Int.reduceLT, Int.reduceLE])).1
            · exact (fin _ _ h8 ((ho6.same (ho3.same ho4).of_nil).same ho8) (by simp only [go_sem, ↓reduceIte, Nat.reduceAdd, Nat.reduceEqDiff, Nat.reduceBEq, reduceCtorEq, Int.reduceBEq, Int.reduceBNe, Int.reduceLT, Int.reduceLE])).2
          · have t1 : (op == 1) = false := by simp [o1]
            rw [if_neg o1] at hmv
            have hsub : IntKind.i64.wrap ((x : Int) - y) = x - y := IntWalk.i64_in _ (by omega)
            (repeat (first | with_reducible refine run_seq ?_ | with_reducible refine run_reg ?_ | with_reducible refine run_block ?_ | with_reducible refine run_blk ?_ | with_reducible refine run_skip ?_ | with_reducible refine run_exit rfl ?_ | with_reducible refine run_drw ?_ | with_reducible refine run_condT ?_ | with_reducible refine run_ret' ?_ | with_reducible refine run_end' ?_ | simp only [go_sem, ↓reduceIte, Nat.reduceAdd, Nat.reduceEqDiff, Nat.reduceBEq, reduceCtorEq, Int.reduceBEq, Int.reduceBNe, Int.reduceLT, Int.reduceLE, hi, t0, t1, hsub, ← hmv]))
            refine callT (put_tab h7 hlt x3) ?_
            rintro r w5 ⟨rfl, h8, ho8⟩
            (repeat (first | with_reducible refine run_seq ?_ | with_reducible refine run_reg ?_ | with_reducible refine run_block ?_ | with_reducible refine run_blk ?_ | with_reducible refine run_skip ?_ | with_reducible refine run_exit rfl ?_ | with_reducible refine run_drw ?_ | with_reducible refine run_condT ?_ | with_reducible refine run_ret' ?_ | with_reducible refine run_end' ?_ | simp only [go_sem, ↓reduceIte, Nat.reduceAdd, Nat.reduceEqDiff, Nat.reduceBEq, reduceCtorEq, Int.reduceBEq, Int.reduceBNe, Int.reduceLT, Int.reduceLE, hi, i64_succ i (by omega)]))
            refine hnext _ _ ?_ ?_ ?_
            · (repeat (first | with_reducible exact Keeps.refl _ _ | with_reducible exact Keeps.ovr _ _ _ | refine Keeps.put ?_ rfl _ | exact Keeps.refl _ _ | exact Keeps.ovr _ _ _ | refine Keeps.ovr2 ?_ rfl _))
            · exact (fin _ _ h8 ((ho6.same (ho3.same ho4).of_nil).same ho8) (by simp only [go_sem, ↓reduceIte, Nat.reduceAdd, Nat.reduceEqDiff, Nat.reduceBEq, reduceCtorEq, Int.reduceBEq, Int.reduceBNe, Int.reduceLT, Int.reduceLE])).1
            · exact (fin _ _ h8 ((ho6.same (ho3.same ho4).of_nil).same ho8) (by simp only [go_sem, ↓reduceIte, Nat.reduceAdd, Nat.reduceEqDiff, Nat.reduceBEq, reduceCtorEq, Int.reduceBEq, Int.reduceBNe, Int.reduceLT, Int.reduceLE])).2
      · have hge : ¬ i < l.length := by simpa using hge
        have : i = l.length := by omega
        subst this
        (repeat (first | with_reducible refine run_seq ?_ | with_reducible refine run_reg ?_ | with_reducible refine run_block ?_ | with_reducible refine run_blk ?_ | with_reducible refine run_skip ?_ | with_reducible refine run_exit rfl ?_ | with_reducible refine run_drw ?_ | with_reducible refine run_condT ?_ | with_reducible refine run_ret' ?_ | with_reducible refine run_end' ?_ | simp only [go_sem, ↓reduceIte, Nat.reduceAdd, Nat.reduceEqDiff, Nat.reduceBEq, reduceCtorEq, Int.reduceBEq, Int.reduceBNe, Int.reduceLT, Int.reduceLE]))
        exact ⟨_, _, rfl, .mk' h6 hb3.1 hb3.2, (ho.same ho2).same5 ho6 (by simp; omega)⟩
end Go.Proofs.Ythalhkhjacjhgaa
