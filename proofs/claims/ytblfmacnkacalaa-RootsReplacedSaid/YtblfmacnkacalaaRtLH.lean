/- The law RootsReplaced, walked. -/
import Derived.Test.YtblfmacnkacalaaRtLG
namespace Go.Proofs.Ytblfmacnkacalaa
set_option linter.unusedSimpArgs false
set_option linter.unusedVariables false
set_option maxRecDepth 8000

theorem count_V {s : MS} (h : s.Ok) {F : List Int} (h0 : F.contains 0 = false) : ((filled s).countP fun x => F.contains x.2) = s.V.countP fun x => F.contains x := by
  have e1 : ((filled s).countP fun x => F.contains x.2) = ((filled s).map (·.2)).countP fun x => F.contains x := by rw [List.countP_map]; rfl
  rw [e1, filled_vals h, List.countP_filter]
  apply List.countP_congr
  intro x _
  simp only [Bool.and_eq_true, bne_iff_ne, ne_eq]
  constructor
  · exact fun h => h.1
  · intro hx
    refine ⟨hx, fun e => ?_⟩
    rw [e, h0] at hx; cases hx
theorem goodL_no0 {F T : List Int} (h : goodL F T = true) : F.contains 0 = false := by
  cases e : F.contains 0 with
  | false => rfl
  | true =>
    rw [List.contains_iff_mem] at e
    obtain ⟨j, hj, ej⟩ := List.mem_iff_getElem.1 e
    have := ((goodL_spec h).2 j hj).1
    simp [hj, ej] at this
theorem contains_at {F : List Int} {x : Int} (h : F.contains x = true) : ∃ k, k < F.length ∧ F.getD k 0 = x := by
  rw [List.contains_iff_mem] at h
  obtain ⟨j, hj, ej⟩ := List.mem_iff_getElem.1 h
  exact ⟨j, hj, by simp [hj, ej]⟩
theorem contains_get {F : List Int} {k : Nat} (h : k < F.length) : F.contains (F.getD k 0) = true := by
  rw [List.contains_iff_mem, List.getD_eq_getElem?_getD, List.getElem?_eq_getElem h]; simp
theorem repl_hit {F T : List Int} (h : goodL F T = true) {k : Nat} (hk : k < F.length) : repl F T (F.getD k 0) = T.getD k 0 :=
  repl_at hk (by have := (goodL_spec h).1; omega) rfl fun j hj => by have := goodL_inc h k j hj hk; omega
theorem contains_repl {F T : List Int} (h : goodL F T = true) {x : Int} (hx : T.contains x = false) : T.contains (repl F T x) = F.contains x := by
  cases e : F.contains x with
  | false => rw [repl_not e]; exact hx
  | true =>
    obtain ⟨k, hk, rfl⟩ := contains_at e
    rw [repl_hit h hk]
    exact contains_get (by have := (goodL_spec h).1; omega)
theorem repl_back {F T : List Int} (h : goodL F T = true) (h' : goodL T F = true) {x : Int} (hx : T.contains x = false) : repl T F (repl F T x) = x := by
  cases e : F.contains x with
  | false => rw [repl_not e, repl_not hx]
  | true =>
    obtain ⟨k, hk, rfl⟩ := contains_at e
    rw [repl_hit h hk, repl_hit h' (by have := (goodL_spec h).1; omega)]
/-- is a list strictly increasing up to k? -/
def incU (T : List Int) (k : Nat) : Bool := (List.range k).all fun j => decide (j = 0) || decide (T.getD (j - 1) 0 < T.getD j 0)
theorem incU_succ (T : List Int) (k : Nat) (hk : 0 < k) : incU T (k + 1) = (incU T k && decide (T.getD (k - 1) 0 < T.getD k 0)) := by
  unfold incU
  rw [List.range_succ, List.all_append, List.all_cons, List.all_nil, Bool.and_true, decide_eq_false (show ¬ k = 0 by omega), Bool.false_or]
theorem goodL_swap {F T : List Int} (h : goodL F T = true) (hi : incU T T.length = true) : goodL T F = true := by
  obtain ⟨h1, h2⟩ := goodL_spec h
  refine goodL_of h1.symm fun i hi' => ?_
  have h3 := h2 i (by omega)
  unfold incU at hi
  simp only [List.all_eq_true, List.mem_range] at hi
  have h4 := hi i hi'
  unfold okI
  rw [decide_eq_true h3.2.1, decide_eq_true h3.1]
  simpa using h4
/-- none of the first i is in T -/
def noT (V T : List Int) (i : Nat) : Bool := (V.take i).all fun x => !T.contains x
theorem noT_succ {V T : List Int} {i : Nat} (hi : i < V.length) : noT V T (i + 1) = (noT V T i && !T.contains (V.getD i 0)) := by
  unfold noT
  rw [List.take_succ_eq_append_getElem hi, List.all_append]
  simp [hi]
theorem cntV_succ {V F : List Int} {i : Nat} (hi : i < V.length) : (V.take (i + 1)).countP (fun x => F.contains x) = (V.take i).countP (fun x => F.contains x) + (if F.contains (V.getD i 0) = true then 1 else 0) := by
  rw [List.take_succ_eq_append_getElem hi, List.countP_append]
  simp [hi, List.countP_cons]
theorem map_shape (s : MS) (f : Int → Int) : (s.map f).M = s.M ∧ (s.map f).Q.length = s.Q.length := ⟨rfl, by simp [MS.map]⟩

theorem replaced_walk {w : World} {v v2 v3 : Value} {l : List A7} {F T : List Int} (n : Int) (hl : ActsAt w.heap.size w v l) (hF : RdH w.heap.size w v2 F) (hT : RdH w.heap.size w v3 T) : Cs Try.prog 5 [.int .i64 n, v, v2, v3] w fun r w' => r = .bool true ∧ Only [] w w' := by
  refine enter_law03_RootsReplaced rfl ?_
  unfold x_law03_RootsReplaced
  obtain ⟨D1, hF1, hD1⟩ := hF
  obtain ⟨D2, hT1, hD2⟩ := hT
  obtain ⟨a2, c2, rfl⟩ := hF1.val
  obtain ⟨a3, c3, rfl⟩ := hT1.val
  (repeat (first | with_reducible refine run_seq ?_ | with_reducible refine run_reg ?_ | with_reducible refine run_block ?_ | with_reducible refine run_blk ?_ | with_reducible refine run_skip ?_ | with_reducible refine run_exit rfl ?_ | with_reducible refine run_drw ?_ | with_reducible refine run_condT ?_ | with_reducible refine run_ret' ?_ | with_reducible refine run_end' ?_ | simp only [go_sem, ↓reduceIte, Nat.reduceAdd, Nat.reduceEqDiff, Nat.reduceBEq, reduceCtorEq, Int.reduceBEq, Int.reduceBNe, Int.reduceLT, Int.reduceLE]))
  refine callT (law_made hl (Nat.le_refl _) n) ?_
  rintro r w2 ⟨ho2, ⟨rfl, _⟩ | ⟨hg, a, b, fp, rp, s, rfl, hs, ht, hnew⟩⟩
  · (repeat (first | with_reducible refine run_seq ?_ | with_reducible refine run_reg ?_ | with_reducible refine run_block ?_ | with_reducible refine run_blk ?_ | with_reducible refine run_skip ?_ | with_reducible refine run_exit rfl ?_ | with_reducible refine run_drw ?_ | with_reducible refine run_condT ?_ | with_reducible refine run_ret' ?_ | with_reducible refine run_end' ?_ | simp only [go_sem, ↓reduceIte, Nat.reduceAdd, Nat.reduceEqDiff, Nat.reduceBEq, reduceCtorEq, Int.reduceBEq, Int.reduceBNe, Int.reduceLT, Int.reduceLE]))
    refine callT1 (law_alive w2) fun w' ho => ?_
    (repeat (first | with_reducible refine run_seq ?_ | with_reducible refine run_reg ?_ | with_reducible refine run_block ?_ | with_reducible refine run_blk ?_ | with_reducible refine run_skip ?_ | with_reducible refine run_exit rfl ?_ | with_reducible refine run_drw ?_ | with_reducible refine run_condT ?_ | with_reducible refine run_ret' ?_ | with_reducible refine run_end' ?_ | simp only [go_sem, ↓reduceIte, Nat.reduceAdd, Nat.reduceEqDiff, Nat.reduceBEq, reduceCtorEq, Int.reduceBEq, Int.reduceBNe, Int.reduceLT, Int.reduceLE]))
    exact ho2.nil ho
  by_cases b1 : 60 < F.length
  · (repeat (first | with_reducible refine run_seq ?_ | with_reducible refine run_reg ?_ | with_reducible refine run_block ?_ | with_reducible refine run_blk ?_ | with_reducible refine run_skip ?_ | with_reducible refine run_exit rfl ?_ | with_reducible refine run_drw ?_ | with_reducible refine run_condT ?_ | with_reducible refine run_ret' ?_ | with_reducible refine run_end' ?_ | simp only [go_sem, ↓reduceIte, Nat.reduceAdd, Nat.reduceEqDiff, Nat.reduceBEq, reduceCtorEq, Int.reduceBEq, Int.reduceBNe, Int.reduceLT, Int.reduceLE, decide_eq_true (show (60 : Int) < (F.length : Int) by omega)]))
    refine callT1 (law_alive w2) fun w' ho => ?_
    (repeat (first | with_reducible refine run_seq ?_ | with_reducible refine run_reg ?_ | with_reducible refine run_block ?_ | with_reducible refine run_blk ?_ | with_reducible refine run_skip ?_ | with_reducible refine run_exit rfl ?_ | with_reducible refine run_drw ?_ | with_reducible refine run_condT ?_ | with_reducible refine run_ret' ?_ | with_reducible refine run_end' ?_ | simp only [go_sem, ↓reduceIte, Nat.reduceAdd, Nat.reduceEqDiff, Nat.reduceBEq, reduceCtorEq, Int.reduceBEq, Int.reduceBNe, Int.reduceLT, Int.reduceLE]))
    exact ho2.nil ho
  by_cases b2 : 60 < T.length
  · (repeat (first | with_reducible refine run_seq ?_ | with_reducible refine run_reg ?_ | with_reducible refine run_block ?_ | with_reducible refine run_blk ?_ | with_reducible refine run_skip ?_ | with_reducible refine run_exit rfl ?_ | with_reducible refine run_drw ?_ | with_reducible refine run_condT ?_ | with_reducible refine run_ret' ?_ | with_reducible refine run_end' ?_ | simp only [go_sem, ↓reduceIte, Nat.reduceAdd, Nat.reduceEqDiff, Nat.reduceBEq, reduceCtorEq, Int.reduceBEq, Int.reduceBNe, Int.reduceLT, Int.reduceLE, decide_eq_false (show ¬ (60 : Int) < (F.length : Int) by omega), decide_eq_true (show (60 : Int) < (T.length : Int) by omega)]))
    refine callT1 (law_alive w2) fun w' ho => ?_
    (repeat (first | with_reducible refine run_seq ?_ | with_reducible refine run_reg ?_ | with_reducible refine run_block ?_ | with_reducible refine run_blk ?_ | with_reducible refine run_skip ?_ | with_reducible refine run_exit rfl ?_ | with_reducible refine run_drw ?_ | with_reducible refine run_condT ?_ | with_reducible refine run_ret' ?_ | with_reducible refine run_end' ?_ | simp only [go_sem, ↓reduceIte, Nat.reduceAdd, Nat.reduceEqDiff, Nat.reduceBEq, reduceCtorEq, Int.reduceBEq, Int.reduceBNe, Int.reduceLT, Int.reduceLE]))
    exact ho2.nil ho
  have hok : s.Ok := by obtain ⟨_, _, _, _, _, _, _, _, _, k⟩ := ht.p; exact k.ok
  have hV := V_le hok
  have hlt := ht.lt
  have hz2 := ho2.size
  (repeat (first | with_reducible refine run_seq ?_ | with_reducible refine run_reg ?_ | with_reducible refine run_block ?_ | with_reducible refine run_blk ?_ | with_reducible refine run_skip ?_ | with_reducible refine run_exit rfl ?_ | with_reducible refine run_drw ?_ | with_reducible refine run_condT ?_ | with_reducible refine run_ret' ?_ | with_reducible refine run_end' ?_ | simp only [go_sem, ↓reduceIte, Nat.reduceAdd, Nat.reduceEqDiff, Nat.reduceBEq, reduceCtorEq, Int.reduceBEq, Int.reduceBNe, Int.reduceLT, Int.reduceLE, decide_eq_false (show ¬ (60 : Int) < (F.length : Int) by omega), decide_eq_false (show ¬ (60 : Int) < (T.length : Int) by omega)]))
  refine callT (law_all ht) ?_
  rintro v4 w4 ⟨ho4, f4, hs4, hf4⟩
  obtain ⟨a4, c4, rfl⟩ := hs4.val
  have ht4 := ht.keep0 ho4
  have o4 := ho2.nil ho4
  have hz4 := o4.size
  have hF4 := hF1.keep0 o4
  have hT4 := hT1.keep0 o4
  have d1 : ∀ y, y ∈ D1 → y ∉ fp := fun y hy h => by have := hD1 y hy; have := hnew y (by simp [h]); omega
  have d2 : ∀ y, y ∈ D2 → y ∉ fp := fun y hy h => by have := hD2 y hy; have := hnew y (by simp [h]); omega
  (repeat (first | with_reducible refine run_seq ?_ | with_reducible refine run_reg ?_ | with_reducible refine run_block ?_ | with_reducible refine run_blk ?_ | with_reducible refine run_skip ?_ | with_reducible refine run_exit rfl ?_ | with_reducible refine run_drw ?_ | with_reducible refine run_condT ?_ | with_reducible refine run_ret' ?_ | with_reducible refine run_end' ?_ | simp only [go_sem, ↓reduceIte, Nat.reduceAdd, Nat.reduceEqDiff, Nat.reduceBEq, reduceCtorEq, Int.reduceBEq, Int.reduceBNe, Int.reduceLT, Int.reduceLE]))
  refine callT (Replace_m ht4.p hF4 hT4 (fun y hy => ⟨d1 y hy, by have := hD1 y hy; omega⟩) (fun y hy => ⟨d2 y hy, by have := hD2 y hy; omega⟩) (by omega) (by omega)) ?_
  rintro r w5 ⟨rfl, hp5, ho5, hz5⟩
  have hr5 : RR w5 (some b) rp (some s) := ht4.r.keep ho5 fun y hy hy2 => ht.d y hy2 hy
  have hs45 : Sl w5 1 (.slice a4 s.V.length c4) s.V.length (ints s.V) f4 := hs4.keep ho5 fun y hy hy2 => by have := hf4 y hy; have := hlt y (by simp [hy2]); omega
  have hF5 := hF4.keep ho5 d1
  have hT5 := hT4.keep ho5 d2
  have o5 : Only [] w w5 := o4.trans ho5 fun y hy => .inr (by have := hnew y (by simp [hy]); omega)
  cases hgood : goodL F T with
  | false =>
    have hrep : replO (some s) F T = ((0, 1), some s) := by unfold replO; rw [hgood]; rfl
    rw [hrep] at hp5 ⊢
    (repeat (first | with_reducible refine run_seq ?_ | with_reducible refine run_reg ?_ | with_reducible refine run_block ?_ | with_reducible refine run_blk ?_ | with_reducible refine run_skip ?_ | with_reducible refine run_exit rfl ?_ | with_reducible refine run_drw ?_ | with_reducible refine run_condT ?_ | with_reducible refine run_ret' ?_ | with_reducible refine run_end' ?_ | simp only [go_sem, ↓reduceIte, Nat.reduceAdd, Nat.reduceEqDiff, Nat.reduceBEq, reduceCtorEq, Int.reduceBEq, Int.reduceBNe, Int.reduceLT, Int.reduceLE]))
    refine callT (law_all2 hp5 hr5 rfl rfl) ?_
    rintro v6 w6 ⟨ho6, f6, hs6, hf6⟩
    (repeat (first | with_reducible refine run_seq ?_ | with_reducible refine run_reg ?_ | with_reducible refine run_block ?_ | with_reducible refine run_blk ?_ | with_reducible refine run_skip ?_ | with_reducible refine run_exit rfl ?_ | with_reducible refine run_drw ?_ | with_reducible refine run_condT ?_ | with_reducible refine run_ret' ?_ | with_reducible refine run_end' ?_ | simp only [go_sem, ↓reduceIte, Nat.reduceAdd, Nat.reduceEqDiff, Nat.reduceBEq, reduceCtorEq, Int.reduceBEq, Int.reduceBNe, Int.reduceLT, Int.reduceLE, bne_int_true (show ¬ (1 : Int) = 0 by omega), beq_int_true (rfl : (0 : Int) = 0)]))
    refine callT (law_ints (hs45.keep0 ho6).rd hs6.rd (by omega)) ?_
    rintro r w7 ⟨rfl, ho7⟩
    (repeat (first | with_reducible refine run_seq ?_ | with_reducible refine run_reg ?_ | with_reducible refine run_block ?_ | with_reducible refine run_blk ?_ | with_reducible refine run_skip ?_ | with_reducible refine run_exit rfl ?_ | with_reducible refine run_drw ?_ | with_reducible refine run_condT ?_ | with_reducible refine run_ret' ?_ | with_reducible refine run_end' ?_ | simp only [go_sem, ↓reduceIte, Nat.reduceAdd, Nat.reduceEqDiff, Nat.reduceBEq, reduceCtorEq, Int.reduceBEq, Int.reduceBNe, Int.reduceLT, Int.reduceLE, decide_eq_true (rfl : s.V = s.V)]))
    refine callT1 (law_alive w7) fun w8 ho8 => ?_
    (repeat (first | with_reducible refine run_seq ?_ | with_reducible refine run_reg ?_ | with_reducible refine run_block ?_ | with_reducible refine run_blk ?_ | with_reducible refine run_skip ?_ | with_reducible refine run_exit rfl ?_ | with_reducible refine run_drw ?_ | with_reducible refine run_condT ?_ | with_reducible refine run_ret' ?_ | with_reducible refine run_end' ?_ | simp only [go_sem, ↓reduceIte, Nat.reduceAdd, Nat.reduceEqDiff, Nat.reduceBEq, reduceCtorEq, Int.reduceBEq, Int.reduceBNe, Int.reduceLT, Int.reduceLE]))
    exact ((o5.nil ho6).nil ho7).nil ho8
  | true =>
    have hno0 := goodL_no0 hgood
    have hlen := (goodL_spec hgood).1
    have hrep : replO (some s) F T = ((((s.V.countP fun x => F.contains x : Nat) : Int), 0), some (s.map (repl F T))) := by rw [← count_V hok hno0]; unfold replO; rw [hgood]; rfl
    rw [hrep] at hp5 ⊢
    have hV5 : (s.map (repl F T)).V = s.V.map (repl F T) := map_V _ _
    (repeat (first | with_reducible refine run_seq ?_ | with_reducible refine run_reg ?_ | with_reducible refine run_block ?_ | with_reducible refine run_blk ?_ | with_reducible refine run_skip ?_ | with_reducible refine run_exit rfl ?_ | with_reducible refine run_drw ?_ | with_reducible refine run_condT ?_ | with_reducible refine run_ret' ?_ | with_reducible refine run_end' ?_ | simp only [go_sem, ↓reduceIte, Nat.reduceAdd, Nat.reduceEqDiff, Nat.reduceBEq, reduceCtorEq, Int.reduceBEq, Int.reduceBNe, Int.reduceLT, Int.reduceLE]))
    refine callT (law_all2 hp5 hr5 rfl (by simp [MS.map])) ?_
    rintro v6 w6 ⟨ho6, f6, hs6, hf6⟩
    rw [hV5, List.length_map] at hs6
    obtain ⟨a6, c6, rfl⟩ := hs6.val
    have o6 := o5.nil ho6
    have kold := hs45.keep0 ho6
    have hF6 := hF5.keep0 ho6
    have hT6 := hT5.keep0 ho6
    have hcl := List.countP_le_length (p := fun x => F.contains x) (l := s.V)
    (repeat (first | with_reducible refine run_seq ?_ | with_reducible refine run_reg ?_ | with_reducible refine run_block ?_ | with_reducible refine run_blk ?_ | with_reducible refine run_skip ?_ | with_reducible refine run_exit rfl ?_ | with_reducible refine run_drw ?_ | with_reducible refine run_condT ?_ | with_reducible refine run_ret' ?_ | with_reducible refine run_end' ?_ | simp only [go_sem, ↓reduceIte, Nat.reduceAdd, Nat.reduceEqDiff, Nat.reduceBEq, reduceCtorEq, Int.reduceBEq, Int.reduceBNe, Int.reduceLT, Int.reduceLE, bne_int_false (rfl : (0 : Int) = 0)]))
    refine run_loop (8 :: 15 :: 16 :: 17 :: 18 :: 19 :: 67 :: 68 :: 69 :: 70 :: 71 :: 72 :: 73 :: 74 :: 75 :: 76 :: 77 :: 78 :: 79 :: 80 :: 81 :: 82 :: 83 :: 84 :: 85 :: 86 :: 87 :: 88 :: 89 :: 90 :: 91 :: 92 :: 93 :: 94 :: 95 :: 96 :: 97 :: 98 :: 99 :: 100 :: 101 :: 102 :: 103 :: 104 :: 105 :: 106 :: 107 :: 108 :: 109 :: 110 :: 111 :: 112 :: 113 :: 114 :: 115 :: []) (fun g w' => ∃ (i : Nat), g 17 = .int .i64 i ∧ g 15 = .int .i64 (((s.V.take i).countP fun x => F.contains x : Nat) : Int) ∧ g 16 = .bool (noT s.V T i) ∧ i ≤ s.V.length ∧ Only [] w6 w') (fun g _ => upTo s.V.length 17 g)
      ⟨0, by simp only [go_sem, ↓reduceIte, Nat.reduceAdd, Nat.reduceEqDiff, Nat.reduceBEq, reduceCtorEq, Int.reduceBEq, Int.reduceBNe, Int.reduceLT, Int.reduceLE]; rfl, by simp only [go_sem, ↓reduceIte, Nat.reduceAdd, Nat.reduceEqDiff, Nat.reduceBEq, reduceCtorEq, Int.reduceBEq, Int.reduceBNe, Int.reduceLT, Int.reduceLE]; rfl, by simp only [go_sem, ↓reduceIte, Nat.reduceAdd, Nat.reduceEqDiff, Nat.reduceBEq, reduceCtorEq, Int.reduceBEq, Int.reduceBNe, Int.reduceLT, Int.reduceLE]; rfl, by omega, Only.refl _ _⟩ fun g w7 hI hnext => ?_
    obtain ⟨i, h17, h15, h16, hi, ho7⟩ := hI
    (repeat (first | with_reducible refine run_seq ?_ | with_reducible refine run_reg ?_ | with_reducible refine run_block ?_ | with_reducible refine run_blk ?_ | with_reducible refine run_skip ?_ | with_reducible refine run_exit rfl ?_ | with_reducible refine run_drw ?_ | with_reducible refine run_condT ?_ | with_reducible refine run_ret' ?_ | with_reducible refine run_end' ?_ | simp only [go_sem, ↓reduceIte, Nat.reduceAdd, Nat.reduceEqDiff, Nat.reduceBEq, reduceCtorEq, Int.reduceBEq, Int.reduceBNe, Int.reduceLT, Int.reduceLE, h17]))
    refine condT (fun hlt7 => ?_) (fun hge7 => ?_)
    · have hlt7 : i < s.V.length := by simpa using hlt7
      obtain ⟨po, hpo, hco⟩ := (kold.keep0 ho7).rd.get hlt7
      cases hpo
      have e1 : (0 : Int) ≤ (i : Int) ∧ (i : Int) < (s.V.length : Int) := ⟨by omega, by omega⟩
      have hcnt := cntV_succ (F := F) hlt7
      have hfr := noT_succ (T := T) hlt7
      have hcl2 := List.countP_le_length (p := fun x => F.contains x) (l := s.V.take i)
      rw [List.length_take] at hcl2
      have hvx : ∀ w', Only [] w7 w' → ∃ p, some po = some p ∧ w'.cell? (p.add i) = some (.int .i64 (s.V.getD i 0)) := fun w' ho => (kold.keep0 (ho7.nil ho)).rd.get hlt7
      have hnow : (s.V.map (repl F T)).getD i 0 = repl F T (s.V.getD i 0) := by simp [hlt7]
      generalize hx : s.V.getD i 0 = x at *
      generalize hn : (s.V.take i).countP (fun x => F.contains x) = n0 at *
      generalize hfr0 : noT s.V T i = fr0 at *
      (repeat (first | with_reducible refine run_seq ?_ | with_reducible refine run_reg ?_ | with_reducible refine run_block ?_ | with_reducible refine run_blk ?_ | with_reducible refine run_skip ?_ | with_reducible refine run_exit rfl ?_ | with_reducible refine run_drw ?_ | with_reducible refine run_condT ?_ | with_reducible refine run_ret' ?_ | with_reducible refine run_end' ?_ | simp only [go_sem, ↓reduceIte, Nat.reduceAdd, Nat.reduceEqDiff, Nat.reduceBEq, reduceCtorEq, Int.reduceBEq, Int.reduceBNe, Int.reduceLT, Int.reduceLE, h17, if_pos e1, Int.toNat_natCast, Nat.mul_one, hco]))
      refine run_loop (15 :: 16 :: 18 :: 19 :: 77 :: 78 :: 79 :: 80 :: 81 :: 82 :: 83 :: 84 :: 85 :: 86 :: 87 :: 88 :: 89 :: 90 :: 91 :: 92 :: 93 :: 94 :: 95 :: 96 :: 97 :: 98 :: 99 :: 100 :: 101 :: 102 :: 103 :: 104 :: 105 :: 106 :: 107 :: 108 :: 109 :: []) (fun g2 w' => ∃ (k n : Nat), g2 19 = .int .i64 k ∧ g2 15 = .int .i64 n ∧ g2 16 = .bool (fr0 && !(T.take k).contains x) ∧ k ≤ F.length ∧ Only [] w7 w' ∧
          ((F.take k).contains x = false ∧ g2 18 = .int .i64 x ∧ n = n0 ∨ (F.take k).contains x = true ∧ g2 18 = .int .i64 (repl F T x) ∧ n = n0 + 1)) (fun g2 _ => upTo F.length 19 g2)
        ⟨0, n0, by simp only [go_sem, ↓reduceIte, Nat.reduceAdd, Nat.reduceEqDiff, Nat.reduceBEq, reduceCtorEq, Int.reduceBEq, Int.reduceBNe, Int.reduceLT, Int.reduceLE]; rfl, by simp only [go_sem, ↓reduceIte, Nat.reduceAdd, Nat.reduceEqDiff, Nat.reduceBEq, reduceCtorEq, Int.reduceBEq, Int.reduceBNe, Int.reduceLT, Int.reduceLE, h15], by simp only [go_sem, ↓reduceIte, Nat.reduceAdd, Nat.reduceEqDiff, Nat.reduceBEq, reduceCtorEq, Int.reduceBEq, Int.reduceBNe, Int.reduceLT, Int.reduceLE, h16]; simp, by omega, Only.refl _ _, .inl ⟨by simp, by simp only [go_sem, ↓reduceIte, Nat.reduceAdd, Nat.reduceEqDiff, Nat.reduceBEq, reduceCtorEq, Int.reduceBEq, Int.reduceBNe, Int.reduceLT, Int.reduceLE], rfl⟩⟩ fun g2 w8 hI hnext2 => ?_
      obtain ⟨k, n1, h19, h15', h16', hk, ho8, hcase⟩ := hI
      (repeat (first | with_reducible refine run_seq ?_ | with_reducible refine run_reg ?_ | with_reducible refine run_block ?_ | with_reducible refine run_blk ?_ | with_reducible refine run_skip ?_ | with_reducible refine run_exit rfl ?_ | with_reducible refine run_drw ?_ | with_reducible refine run_condT ?_ | with_reducible refine run_ret' ?_ | with_reducible refine run_end' ?_ | simp only [go_sem, ↓reduceIte, Nat.reduceAdd, Nat.reduceEqDiff, Nat.reduceBEq, reduceCtorEq, Int.reduceBEq, Int.reduceBNe, Int.reduceLT, Int.reduceLE, h19]))
      refine condT (fun hlt8 => ?_) (fun hge8 => ?_)
      · have hlt8 : k < F.length := by simpa using hlt8
        obtain ⟨po', hpo', hco'⟩ := hvx w8 ho8
        cases hpo'
        obtain ⟨pF, hpF, hcF⟩ := (hF6.keep0 (ho7.nil ho8)).get hlt8
        cases hpF
        obtain ⟨pT, hpT, hcT⟩ := (hT6.keep0 (ho7.nil ho8)).get (i := k) (by omega)
        cases hpT
        have e2 : (0 : Int) ≤ (k : Int) ∧ (k : Int) < (F.length : Int) := ⟨by omega, by omega⟩
        have e3 : (0 : Int) ≤ (k : Int) ∧ (k : Int) < (T.length : Int) := ⟨by omega, by omega⟩
        have htT := take_contains_succ (xs := T) (i := k) (y := x) (by omega)
        have htF := take_contains_succ (xs := F) (i := k) (y := x) hlt8
        -- how fresh goes on
        have hfresh : ∀ bb : Bool, bb = decide (x = T.getD k 0) → (fr0 && !(T.take (k + 1)).contains x) = (if (fr0 && !(T.take k).contains x) = true then !bb else false) := by
          intro bb hbb
          rw [htT, hbb]
          cases fr0 <;> cases (T.take k).contains x <;> simp
        by_cases hxe : x = F.getD k 0
        · have hno : (F.take k).contains x = false := by
            cases e : (F.take k).contains x with
            | false => rfl
            | true =>
              rw [List.contains_iff_mem] at e
              obtain ⟨j, hj, ej⟩ := List.mem_iff_getElem.1 e
              have hjk : j < k := by rw [List.length_take] at hj; omega
              have := goodL_inc hgood k j hjk hlt8
              simp only [List.getElem_take] at ej
              have ej' : F.getD j 0 = x := by simp [show j < F.length by omega, ej]
              omega
          obtain ⟨h18, rfl⟩ : g2 18 = .int .i64 x ∧ n1 = n0 := by
            rcases hcase with ⟨_, h1, h2⟩ | ⟨h1, _⟩
            · exact ⟨h1, h2⟩
            · rw [hno] at h1; cases h1
          have hrx : repl F T x = T.getD k 0 := by rw [hxe]; exact repl_hit hgood hlt8
          have hct : (F.take (k + 1)).contains x = true := by rw [htF]; simp [hxe]
          have hw : IntKind.i64.wrap ((n1 : Int) + 1) = ((n1 + 1 : Nat) : Int) := i64_succ n1 (by omega)
          cases hf0 : (fr0 && !(T.take k).contains x) with
          | false =>
            rw [hf0] at h16'
            have hfn := hfresh _ rfl
            rw [hf0] at hfn
            (repeat (first | with_reducible refine run_seq ?_ | with_reducible refine run_reg ?_ | with_reducible refine run_block ?_ | with_reducible refine run_blk ?_ | with_reducible refine run_skip ?_ | with_reducible refine run_exit rfl ?_ | with_reducible refine run_drw ?_ | with_reducible refine run_condT ?_ | with_reducible refine run_ret' ?_ | with_reducible refine run_end' ?_ | simp only [go_sem, ↓reduceIte, Nat.reduceAdd, Nat.reduceEqDiff, Nat.reduceBEq, reduceCtorEq, Int.reduceBEq, Int.reduceBNe, Int.reduceLT, Int.reduceLE, h19, h17, h15', h16', if_pos e1, if_pos e2, if_pos e3, Int.toNat_natCast, Nat.mul_one, hco', hcF, hcT, beq_int_true hxe, hw, i64_succ k (by omega)]))
            refine hnext2 _ _ ?_ ⟨k + 1, n1 + 1, ?_, ?_, ?_, by omega, (ho8.nil (Only.drew [] _)).nil (Only.drew [] _), .inr ⟨hct, ?_, rfl⟩⟩ ?_
            · (repeat (first | with_reducible exact Keeps.refl _ _ | with_reducible exact Keeps.ovr _ _ _ | refine Keeps.put ?_ rfl _ | exact Keeps.refl _ _ | exact Keeps.ovr _ _ _ | refine Keeps.ovr2 ?_ rfl _))
            · simp only [go_sem, ↓reduceIte, Nat.reduceAdd, Nat.reduceEqDiff, Nat.reduceBEq, reduceCtorEq, Int.reduceBEq, Int.reduceBNe, Int.reduceLT, Int.reduceLE]
            · simp only [go_sem, ↓reduceIte, Nat.reduceAdd, Nat.reduceEqDiff, Nat.reduceBEq, reduceCtorEq, Int.reduceBEq, Int.reduceBNe, Int.reduceLT, Int.reduceLE]
            · rw [hfn]; simp only [go_sem, ↓reduceIte, Nat.reduceAdd, Nat.reduceEqDiff, Nat.reduceBEq, reduceCtorEq, Int.reduceBEq, Int.reduceBNe, Int.reduceLT, Int.reduceLE] <;> rfl
            · rw [hrx]; simp only [go_sem, ↓reduceIte, Nat.reduceAdd, Nat.reduceEqDiff, Nat.reduceBEq, reduceCtorEq, Int.reduceBEq, Int.reduceBNe, Int.reduceLT, Int.reduceLE]
            · rw [upTo_int h19, upTo_int (k := .i64) (i := k + 1) (by simp only [go_sem, ↓reduceIte, Nat.reduceAdd, Nat.reduceEqDiff, Nat.reduceBEq, reduceCtorEq, Int.reduceBEq, Int.reduceBNe, Int.reduceLT, Int.reduceLE])]; omega
          | true =>
            rw [hf0] at h16'
            by_cases hxt : x = T.getD k 0
            · have hfn := hfresh true (decide_eq_true hxt).symm
              rw [hf0] at hfn
              (repeat (first | with_reducible refine run_seq ?_ | with_reducible refine run_reg ?_ | with_reducible refine run_block ?_ | with_reducible refine run_blk ?_ | with_reducible refine run_skip ?_ | with_reducible refine run_exit rfl ?_ | with_reducible refine run_drw ?_ | with_reducible refine run_condT ?_ | with_reducible refine run_ret' ?_ | with_reducible refine run_end' ?_ | simp only [go_sem, ↓reduceIte, Nat.reduceAdd, Nat.reduceEqDiff, Nat.reduceBEq, reduceCtorEq, Int.reduceBEq, Int.reduceBNe, Int.reduceLT, Int.reduceLE, h19, h17, h15', h16', if_pos e1, if_pos e2, if_pos e3, Int.toNat_natCast, Nat.mul_one, hco', hcF, hcT, beq_int_true hxe, bne_int_false hxt, hw, i64_succ k (by omega)]))
              refine hnext2 _ _ ?_ ⟨k + 1, n1 + 1, ?_, ?_, ?_, by omega, (ho8.nil (Only.drew [] _)).nil (Only.drew [] _), .inr ⟨hct, ?_, rfl⟩⟩ ?_
              · (repeat (first | with_reducible exact Keeps.refl _ _ | with_reducible exact Keeps.ovr _ _ _ | refine Keeps.put ?_ rfl _ | exact Keeps.refl _ _ | exact Keeps.ovr _ _ _ | refine Keeps.ovr2 ?_ rfl _))
              · simp only [go_sem, ↓reduceIte, Nat.reduceAdd, Nat.reduceEqDiff, Nat.reduceBEq, reduceCtorEq, Int.reduceBEq, Int.reduceBNe, Int.reduceLT, Int.reduceLE]
              · simp only [go_sem, ↓reduceIte, Nat.reduceAdd, Nat.reduceEqDiff, Nat.reduceBEq, reduceCtorEq, Int.reduceBEq, Int.reduceBNe, Int.reduceLT, Int.reduceLE]
              · rw [hfn]; simp only [go_sem, ↓reduceIte, Nat.reduceAdd, Nat.reduceEqDiff, Nat.reduceBEq, reduceCtorEq, Int.reduceBEq, Int.reduceBNe, Int.reduceLT, Int.reduceLE] <;> rfl
              · rw [hrx]; simp only [go_sem, ↓reduceIte, Nat.reduceAdd, Nat.reduceEqDiff, Nat.reduceBEq, reduceCtorEq, Int.reduceBEq, Int.reduceBNe, Int.reduceLT, Int.reduceLE]
              · rw [upTo_int h19, upTo_int (k := .i64) (i := k + 1) (by simp only [go_sem, ↓reduceIte, Nat.reduceAdd, Nat.reduceEqDiff, Nat.reduceBEq, reduceCtorEq, Int.reduceBEq, Int.reduceBNe, Int.reduceLT, Int.reduceLE])]; omega
            · have hfn := hfresh false (decide_eq_false hxt).symm
              rw [hf0] at hfn
              (repeat (first | with_reducible refine run_seq ?_ | with_reducible refine run_reg ?_ | with_reducible refine run_block ?_ | with_reducible refine run_blk ?_ | with_reducible refine run_skip ?_ | with_reducible refine run_exit rfl ?_ | with_reducible refine run_drw ?_ | with_reducible refine run_condT ?_ | with_reducible refine run_ret' ?_ | with_reducible refine run_end' ?_ | simp only [go_sem, ↓reduceIte, Nat.reduceAdd, Nat.reduceEqDiff, Nat.reduceBEq, reduceCtorEq, Int.reduceBEq, Int.reduceBNe, Int.reduceLT, Int.reduceLE, h19, h17, h15', h16', if_pos e1, if_pos e2, if_pos e3, Int.toNat_natCast, Nat.mul_one, hco', hcF, hcT, beq_int_true hxe, bne_int_true hxt, hw, i64_succ k (by omega)]))
              refine hnext2 _ _ ?_ ⟨k + 1, n1 + 1, ?_, ?_, ?_, by omega, (ho8.nil (Only.drew [] _)).nil (Only.drew [] _), .inr ⟨hct, ?_, rfl⟩⟩ ?_
              · (repeat (first | with_reducible exact Keeps.refl _ _ | with_reducible exact Keeps.ovr _ _ _ | refine Keeps.put ?_ rfl _ | exact Keeps.refl _ _ | exact Keeps.ovr _ _ _ | refine Keeps.ovr2 ?_ rfl _))
              · simp only [go_sem, ↓reduceIte, Nat.reduceAdd, Nat.reduceEqDiff, Nat.reduceBEq, reduceCtorEq, Int.reduceBEq, Int.reduceBNe, Int.reduceLT, Int.reduceLE]
              · simp only [go_sem, ↓reduceIte, Nat.reduceAdd, Nat.reduceEqDiff, Nat.reduceBEq, reduceCtorEq, Int.reduceBEq, Int.reduceBNe, Int.reduceLT, Int.reduceLE]
              · rw [hfn]; simp only [go_sem, ↓reduceIte, Nat.reduceAdd, Nat.reduceEqDiff, Nat.reduceBEq, reduceCtorEq, Int.reduceBEq, Int.reduceBNe, Int.reduceLT, Int.reduceLE] <;> rfl
              · rw [hrx]; simp only [go_sem, ↓reduceIte, Nat.reduceAdd, Nat.reduceEqDiff, Nat.reduceBEq, reduceCtorEq, Int.reduceBEq, Int.reduceBNe, Int.reduceLT, Int.reduceLE]
              · rw [upTo_int h19, upTo_int (k := .i64) (i := k + 1) (by simp only [go_sem, ↓reduceIte, Nat.reduceAdd, Nat.reduceEqDiff, Nat.reduceBEq, reduceCtorEq, Int.reduceBEq, Int.reduceBNe, Int.reduceLT, Int.reduceLE])]; omega
        · have hct : (F.take (k + 1)).contains x = (F.take k).contains x := by rw [htF, decide_eq_false hxe, Bool.or_false]
          have hcase' : ∀ ρ' : Env, ρ' 18 = g2 18 → ((F.take (k + 1)).contains x = false ∧ ρ' 18 = .int .i64 x ∧ n1 = n0 ∨ (F.take (k + 1)).contains x = true ∧ ρ' 18 = .int .i64 (repl F T x) ∧ n1 = n0 + 1) := fun ρ' h => by rw [h, hct]; exact hcase
          cases hf0 : (fr0 && !(T.take k).contains x) with
          | false =>
            rw [hf0] at h16'
            have hfn := hfresh _ rfl
            rw [hf0] at hfn
            (repeat (first | with_reducible refine run_seq ?_ | with_reducible refine run_reg ?_ | with_reducible refine run_block ?_ | with_reducible refine run_blk ?_ | with_reducible refine run_skip ?_ | with_reducible refine run_exit rfl ?_ | with_reducible refine run_drw ?_ | with_reducible refine run_condT ?_ | with_reducible refine run_ret' ?_ | with_reducible refine run_end' ?_ | simp only [go_sem, ↓reduceIte, Nat.reduceAdd, Nat.reduceEqDiff, Nat.reduceBEq, reduceCtorEq, Int.reduceBEq, Int.reduceBNe, Int.reduceLT, Int.reduceLE, h19, h17, h15', h16', if_pos e1, if_pos e2, if_pos e3, Int.toNat_natCast, Nat.mul_one, hco', hcF, hcT, beq_int_false hxe, i64_succ k (by omega)]))
            refine hnext2 _ _ ?_ ⟨k + 1, n1, ?_, ?_, ?_, by omega, (ho8.nil (Only.drew [] _)).nil (Only.drew [] _), hcase' _ ?_⟩ ?_
            · (repeat (first | with_reducible exact Keeps.refl _ _ | with_reducible exact Keeps.ovr _ _ _ | refine Keeps.put ?_ rfl _ | exact Keeps.refl _ _ | exact Keeps.ovr _ _ _ | refine Keeps.ovr2 ?_ rfl _))
            · simp only [go_sem, ↓reduceIte, Nat.reduceAdd, Nat.reduceEqDiff, Nat.reduceBEq, reduceCtorEq, Int.reduceBEq, Int.reduceBNe, Int.reduceLT, Int.reduceLE]
            · simp only [go_sem, ↓reduceIte, Nat.reduceAdd, Nat.reduceEqDiff, Nat.reduceBEq, reduceCtorEq, Int.reduceBEq, Int.reduceBNe, Int.reduceLT, Int.reduceLE, h15']
            · rw [hfn]; simp only [go_sem, ↓reduceIte, Nat.reduceAdd, Nat.reduceEqDiff, Nat.reduceBEq, reduceCtorEq, Int.reduceBEq, Int.reduceBNe, Int.reduceLT, Int.reduceLE] <;> rfl
            · simp only [go_sem, ↓reduceIte, Nat.reduceAdd, Nat.reduceEqDiff, Nat.reduceBEq, reduceCtorEq, Int.reduceBEq, Int.reduceBNe, Int.reduceLT, Int.reduceLE]
            · rw [upTo_int h19, upTo_int (k := .i64) (i := k + 1) (by simp only [go_sem, ↓reduceIte, Nat.reduceAdd, Nat.reduceEqDiff, Nat.reduceBEq, reduceCtorEq, Int.reduceBEq, Int.reduceBNe, Int.reduceLT, Int.reduceLE])]; omega
          | true =>
            rw [hf0] at h16'
            by_cases hxt : x = T.getD k 0
            · have hfn := hfresh true (decide_eq_true hxt).symm
              rw [hf0] at hfn
              (repeat (first | with_reducible refine run_seq ?_ | with_reducible refine run_reg ?_ | with_reducible refine run_block ?_ | with_reducible refine run_blk ?_ | with_reducible refine run_skip ?_ | with_reducible refine run_exit rfl ?_ | with_reducible refine run_drw ?_ | with_reducible refine run_condT ?_ | with_reducible refine run_ret' ?_ | with_reducible refine run_end' ?_ | simp only [go_sem, ↓reduceIte, Nat.reduceAdd, Nat.reduceEqDiff, Nat.reduceBEq, reduceCtorEq, Int.reduceBEq, Int.reduceBNe, Int.reduceLT, Int.reduceLE, h19, h17, h15', h16', if_pos e1, if_pos e2, if_pos e3, Int.toNat_natCast, Nat.mul_one, hco', hcF, hcT, beq_int_false hxe, bne_int_false hxt, i64_succ k (by omega)]))
              refine hnext2 _ _ ?_ ⟨k + 1, n1, ?_, ?_, ?_, by omega, (ho8.nil (Only.drew [] _)).nil (Only.drew [] _), hcase' _ ?_⟩ ?_
              · (repeat (first | with_reducible exact Keeps.refl _ _ | with_reducible exact Keeps.ovr _ _ _ | refine Keeps.put ?_ rfl _ | exact Keeps.refl _ _ | exact Keeps.ovr _ _ _ | refine Keeps.ovr2 ?_ rfl _))
              · simp only [go_sem, ↓reduceIte, Nat.reduceAdd, Nat.reduceEqDiff, Nat.reduceBEq, reduceCtorEq, Int.reduceBEq, Int.reduceBNe, Int.reduceLT, Int.reduceLE]
              · simp only [go_sem, ↓reduceIte, Nat.reduceAdd, Nat.reduceEqDiff, Nat.reduceBEq, reduceCtorEq, Int.reduceBEq, Int.reduceBNe, Int.reduceLT, Int.reduceLE, h15']
              · rw [hfn]; simp only [go_sem, ↓reduceIte, Nat.reduceAdd, Nat.reduceEqDiff, Nat.reduceBEq, reduceCtorEq, Int.reduceBEq, Int.reduceBNe, Int.reduceLT, Int.reduceLE] <;> rfl
              · simp only [go_sem, ↓reduceIte, Nat.reduceAdd, Nat.reduceEqDiff, Nat.reduceBEq, reduceCtorEq, Int.reduceBEq, Int.reduceBNe, Int.reduceLT, Int.reduceLE]
              · rw [upTo_int h19, upTo_int (k := .i64) (i := k + 1) (by simp only [go_sem, ↓reduceIte, Nat.reduceAdd, Nat.reduceEqDiff, Nat.reduceBEq, reduceCtorEq, Int.reduceBEq, Int.reduceBNe, Int.reduceLT, Int.reduceLE])]; omega
            · have hfn := hfresh false (decide_eq_false hxt).symm
              rw [hf0] at hfn
              (repeat (first | with_reducible refine run_seq ?_ | with_reducible refine run_reg ?_ | with_reducible refine run_block ?_ | with_reducible refine run_blk ?_ | with_reducible refine run_skip ?_ | with_reducible refine run_exit rfl ?_ | with_reducible refine run_drw ?_ | with_reducible refine run_condT ?_ | with_reducible refine run_ret' ?_ | with_reducible refine run_end' ?_ | simp only [go_sem, ↓reduceIte, Nat.reduceAdd, Nat.reduceEqDiff, Nat.reduceBEq, reduceCtorEq, Int.reduceBEq, Int.reduceBNe, Int.reduceLT, Int.reduceLE, h19, h17, h15', h16', if_pos e1, if_pos e2, if_pos e3, Int.toNat_natCast, Nat.mul_one, hco', hcF, hcT, beq_int_false hxe, bne_int_true hxt, i64_succ k (by omega)]))
              refine hnext2 _ _ ?_ ⟨k + 1, n1, ?_, ?_, ?_, by omega, (ho8.nil (Only.drew [] _)).nil (Only.drew [] _), hcase' _ ?_⟩ ?_
              · (repeat (first | with_reducible exact Keeps.refl _ _ | with_reducible exact Keeps.ovr _ _ _ | refine Keeps.put ?_ rfl _ | exact Keeps.refl _ _ | exact Keeps.ovr _ _ _ | refine Keeps.ovr2 ?_ rfl _))
              · simp only [go_sem, ↓reduceIte, Nat.reduceAdd, Nat.reduceEqDiff, Nat.reduceBEq, reduceCtorEq, Int.reduceBEq, Int.reduceBNe, Int.reduceLT, Int.reduceLE]
              · simp only [go_sem, ↓reduceIte, Nat.reduceAdd, Nat.reduceEqDiff, Nat.reduceBEq, reduceCtorEq, Int.reduceBEq, Int.reduceBNe, Int.reduceLT, Int.reduceLE, h15']
              · rw [hfn]; simp only [go_sem, ↓reduceIte, Nat.reduceAdd, Nat.reduceEqDiff, Nat.reduceBEq, reduceCtorEq, Int.reduceBEq, Int.reduceBNe, Int.reduceLT, Int.reduceLE] <;> rfl
              · simp only [go_sem, ↓reduceIte, Nat.reduceAdd, Nat.reduceEqDiff, Nat.reduceBEq, reduceCtorEq, Int.reduceBEq, Int.reduceBNe, Int.reduceLT, Int.reduceLE]
              · rw [upTo_int h19, upTo_int (k := .i64) (i := k + 1) (by simp only [go_sem, ↓reduceIte, Nat.reduceAdd, Nat.reduceEqDiff, Nat.reduceBEq, reduceCtorEq, Int.reduceBEq, Int.reduceBNe, Int.reduceLT, Int.reduceLE])]; omega
      · have : k = F.length := by have : ¬ (k < F.length) := by simpa using hge8
                                  omega
        subst this
        rw [List.take_length] at hcase
        rw [hlen, List.take_length] at h16'
        have hw18 : g2 18 = .int .i64 (repl F T x) ∧ n1 = n0 + (if F.contains x = true then 1 else 0) := by
          rcases hcase with ⟨h1, h2, h3⟩ | ⟨h1, h2, h3⟩
          · exact ⟨by rw [h2, repl_not h1], by rw [h1, h3]; simp⟩
          · exact ⟨h2, by rw [h1, h3]; simp⟩
        obtain ⟨pn, hpn, hcn⟩ := (hs6.keep0 (ho7.nil ho8)).rd.get (i := i) (by simpa using hlt7)
        cases hpn
        rw [hnow] at hcn
        (repeat (first | with_reducible refine run_seq ?_ | with_reducible refine run_reg ?_ | with_reducible refine run_block ?_ | with_reducible refine run_blk ?_ | with_reducible refine run_skip ?_ | with_reducible refine run_exit rfl ?_ | with_reducible refine run_drw ?_ | with_reducible refine run_condT ?_ | with_reducible refine run_ret' ?_ | with_reducible refine run_end' ?_ | simp only [go_sem, ↓reduceIte, Nat.reduceAdd, Nat.reduceEqDiff, Nat.reduceBEq, reduceCtorEq, Int.reduceBEq, Int.reduceBNe, Int.reduceLT, Int.reduceLE, h17, hw18.1, if_pos e1, Int.toNat_natCast, Nat.mul_one, hcn, bne_int_false (rfl : repl F T x = repl F T x), i64_succ i (by omega)]))
        refine hnext _ _ ?_ ⟨i + 1, ?_, ?_, ?_, by omega, ho7.nil ho8⟩ ?_
        · (repeat (first | with_reducible exact Keeps.refl _ _ | with_reducible exact Keeps.ovr _ _ _ | refine Keeps.put ?_ rfl _ | exact Keeps.refl _ _ | exact Keeps.ovr _ _ _ | refine Keeps.ovr2 ?_ rfl _))
        · simp only [go_sem, ↓reduceIte, Nat.reduceAdd, Nat.reduceEqDiff, Nat.reduceBEq, reduceCtorEq, Int.reduceBEq, Int.reduceBNe, Int.reduceLT, Int.reduceLE]
        · rw [hcnt, ← hw18.2]; simp only [go_sem, ↓reduceIte, Nat.reduceAdd, Nat.reduceEqDiff, Nat.reduceBEq, reduceCtorEq, Int.reduceBEq, Int.reduceBNe, Int.reduceLT, Int.reduceLE, h15']
        · rw [hfr]; simp only [go_sem, ↓reduceIte, Nat.reduceAdd, Nat.reduceEqDiff, Nat.reduceBEq, reduceCtorEq, Int.reduceBEq, Int.reduceBNe, Int.reduceLT, Int.reduceLE, h16']
        · rw [upTo_int h17, upTo_int (k := .i64) (i := i + 1) (by simp only [go_sem, ↓reduceIte, Nat.reduceAdd, Nat.reduceEqDiff, Nat.reduceBEq, reduceCtorEq, Int.reduceBEq, Int.reduceBNe, Int.reduceLT, Int.reduceLE])]; omega
    · have : i = s.V.length := by have : ¬ (i < s.V.length) := by simpa using hge7
                                  omega
      subst this
      rw [List.take_length] at h15
      have o7 := o6.nil ho7
      have hT7 := hT6.keep0 ho7
      have hF7 := hF6.keep0 ho7
      (repeat (first | with_reducible refine run_seq ?_ | with_reducible refine run_reg ?_ | with_reducible refine run_block ?_ | with_reducible refine run_blk ?_ | with_reducible refine run_skip ?_ | with_reducible refine run_exit rfl ?_ | with_reducible refine run_drw ?_ | with_reducible refine run_condT ?_ | with_reducible refine run_ret' ?_ | with_reducible refine run_end' ?_ | simp only [go_sem, ↓reduceIte, Nat.reduceAdd, Nat.reduceEqDiff, Nat.reduceBEq, reduceCtorEq, Int.reduceBEq, Int.reduceBNe, Int.reduceLT, Int.reduceLE]))
      refine run_loop (16 :: 20 :: 116 :: 117 :: 118 :: 119 :: 120 :: 121 :: 122 :: 123 :: 124 :: 125 :: 126 :: 127 :: 128 :: 129 :: 130 :: 131 :: 132 :: 133 :: 134 :: []) (fun g2 w' => ∃ (k : Nat), g2 20 = .int .i64 k ∧ g2 16 = .bool (noT s.V T s.V.length && incU T k) ∧ 1 ≤ k ∧ (k ≤ T.length ∨ k = 1) ∧ Only [] w7 w') (fun g2 _ => upTo (T.length + 1) 20 g2)
        ⟨1, by simp only [go_sem, ↓reduceIte, Nat.reduceAdd, Nat.reduceEqDiff, Nat.reduceBEq, reduceCtorEq, Int.reduceBEq, Int.reduceBNe, Int.reduceLT, Int.reduceLE]; rfl, by simp only [go_sem, ↓reduceIte, Nat.reduceAdd, Nat.reduceEqDiff, Nat.reduceBEq, reduceCtorEq, Int.reduceBEq, Int.reduceBNe, Int.reduceLT, Int.reduceLE, h16]; simp [incU], by omega, .inr rfl, Only.refl _ _⟩ fun g2 w8 hI hnext2 => ?_
      obtain ⟨k, h20, h16', hk1, hk, ho8⟩ := hI
      (repeat (first | with_reducible refine run_seq ?_ | with_reducible refine run_reg ?_ | with_reducible refine run_block ?_ | with_reducible refine run_blk ?_ | with_reducible refine run_skip ?_ | with_reducible refine run_exit rfl ?_ | with_reducible refine run_drw ?_ | with_reducible refine run_condT ?_ | with_reducible refine run_ret' ?_ | with_reducible refine run_end' ?_ | simp only [go_sem, ↓reduceIte, Nat.reduceAdd, Nat.reduceEqDiff, Nat.reduceBEq, reduceCtorEq, Int.reduceBEq, Int.reduceBNe, Int.reduceLT, Int.reduceLE, h20]))
      refine condT (fun hlt8 => ?_) (fun hge8 => ?_)
      · have hlt8 : k < T.length := by simpa using hlt8
        obtain ⟨pT, hpT, hcT⟩ := (hT7.keep0 ho8).get hlt8
        cases hpT
        obtain ⟨pT', hpT', hcT'⟩ := (hT7.keep0 ho8).get (i := k - 1) (by omega)
        cases hpT'
        have e3 : (0 : Int) ≤ (k : Int) ∧ (k : Int) < (T.length : Int) := ⟨by omega, by omega⟩
        have e4 : (0 : Int) ≤ ((k - 1 : Nat) : Int) ∧ ((k - 1 : Nat) : Int) < (T.length : Int) := ⟨by omega, by omega⟩
        have e5 : IntKind.i64.wrap ((k : Int) - 1) = ((k - 1 : Nat) : Int) := by rw [show ((k : Int) - 1) = ((k - 1 : Nat) : Int) by omega, i64_of_nat _ (by omega)]
        have hin := incU_succ T k (by omega)
        cases hf0 : (noT s.V T s.V.length && incU T k) with
        | false =>
          rw [hf0] at h16'
          (repeat (first | with_reducible refine run_seq ?_ | with_reducible refine run_reg ?_ | with_reducible refine run_block ?_ | with_reducible refine run_blk ?_ | with_reducible refine run_skip ?_ | with_reducible refine run_exit rfl ?_ | with_reducible refine run_drw ?_ | with_reducible refine run_condT ?_ | with_reducible refine run_ret' ?_ | with_reducible refine run_end' ?_ | simp only [go_sem, ↓reduceIte, Nat.reduceAdd, Nat.reduceEqDiff, Nat.reduceBEq, reduceCtorEq, Int.reduceBEq, Int.reduceBNe, Int.reduceLT, Int.reduceLE, h20, h16', i64_succ k (by omega)]))
          refine hnext2 _ _ ?_ ⟨k + 1, ?_, ?_, by omega, .inl (by omega), ho8.nil (Only.drew [] _)⟩ ?_
          · (repeat (first | with_reducible exact Keeps.refl _ _ | with_reducible exact Keeps.ovr _ _ _ | refine Keeps.put ?_ rfl _ | exact Keeps.refl _ _ | exact Keeps.ovr _ _ _ | refine Keeps.ovr2 ?_ rfl _))
          · simp only [go_sem, ↓reduceIte, Nat.reduceAdd, Nat.reduceEqDiff, Nat.reduceBEq, reduceCtorEq, Int.reduceBEq, Int.reduceBNe, Int.reduceLT, Int.reduceLE]
          · rw [hin, ← Bool.and_assoc, hf0]; simp only [go_sem, ↓reduceIte, Nat.reduceAdd, Nat.reduceEqDiff, Nat.reduceBEq, reduceCtorEq, Int.reduceBEq, Int.reduceBNe, Int.reduceLT, Int.reduceLE]; rfl
          · rw [upTo_int h20, upTo_int (k := .i64) (i := k + 1) (by simp only [go_sem, ↓reduceIte, Nat.reduceAdd, Nat.reduceEqDiff, Nat.reduceBEq, reduceCtorEq, Int.reduceBEq, Int.reduceBNe, Int.reduceLT, Int.reduceLE])]; omega
        | true =>
          rw [hf0] at h16'
          by_cases hinc : T.getD (k - 1) 0 < T.getD k 0
          · (repeat (first | with_reducible refine run_seq ?_ | with_reducible refine run_reg ?_ | with_reducible refine run_block ?_ | with_reducible refine run_blk ?_ | with_reducible refine run_skip ?_ | with_reducible refine run_exit rfl ?_ | with_reducible refine run_drw ?_ | with_reducible refine run_condT ?_ | with_reducible refine run_ret' ?_ | with_reducible refine run_end' ?_ | simp only [go_sem, ↓reduceIte, Nat.reduceAdd, Nat.reduceEqDiff, Nat.reduceBEq, reduceCtorEq, Int.reduceBEq, Int.reduceBNe, Int.reduceLT, Int.reduceLE, h20, h16', e5, if_pos e3, if_pos e4, Int.toNat_natCast, Nat.mul_one, hcT, hcT', decide_eq_true hinc, i64_succ k (by omega)]))
            refine hnext2 _ _ ?_ ⟨k + 1, ?_, ?_, by omega, .inl (by omega), ho8.nil (Only.drew [] _)⟩ ?_
            · (repeat (first | with_reducible exact Keeps.refl _ _ | with_reducible exact Keeps.ovr _ _ _ | refine Keeps.put ?_ rfl _ | exact Keeps.refl _ _ | exact Keeps.ovr _ _ _ | refine Keeps.ovr2 ?_ rfl _))
            · simp only [go_sem, ↓reduceIte, Nat.reduceAdd, Nat.reduceEqDiff, Nat.reduceBEq, reduceCtorEq, Int.reduceBEq, Int.reduceBNe, Int.reduceLT, Int.reduceLE]
            · rw [hin, ← Bool.and_assoc, hf0, decide_eq_true hinc]; simp only [go_sem, ↓reduceIte, Nat.reduceAdd, Nat.reduceEqDiff, Nat.reduceBEq, reduceCtorEq, Int.reduceBEq, Int.reduceBNe, Int.reduceLT, Int.reduceLE]; rfl
            · rw [upTo_int h20, upTo_int (k := .i64) (i := k + 1) (by simp only [go_sem, ↓reduceIte, Nat.reduceAdd, Nat.reduceEqDiff, Nat.reduceBEq, reduceCtorEq, Int.reduceBEq, Int.reduceBNe, Int.reduceLT, Int.reduceLE])]; omega
          · (repeat (first | with_reducible refine run_seq ?_ | with_reducible refine run_reg ?_ | with_reducible refine run_block ?_ | with_reducible refine run_blk ?_ | with_reducible refine run_skip ?_ | with_reducible refine run_exit rfl ?_ | with_reducible refine run_drw ?_ | with_reducible refine run_condT ?_ | with_reducible refine run_ret' ?_ | with_reducible refine run_end' ?_ | simp only [go_sem, ↓reduceIte, Nat.reduceAdd, Nat.reduceEqDiff, Nat.reduceBEq, reduceCtorEq, Int.reduceBEq, Int.reduceBNe, Int.reduceLT, Int.reduceLE, h20, h16', e5, if_pos e3, if_pos e4, Int.toNat_natCast, Nat.mul_one, hcT, hcT', decide_eq_false hinc, i64_succ k (by omega)]))
            refine hnext2 _ _ ?_ ⟨k + 1, ?_, ?_, by omega, .inl (by omega), ho8.nil (Only.drew [] _)⟩ ?_
            · (repeat (first | with_reducible exact Keeps.refl _ _ | with_reducible exact Keeps.ovr _ _ _ | refine Keeps.put ?_ rfl _ | exact Keeps.refl _ _ | exact Keeps.ovr _ _ _ | refine Keeps.ovr2 ?_ rfl _))
            · simp only [go_sem, ↓reduceIte, Nat.reduceAdd, Nat.reduceEqDiff, Nat.reduceBEq, reduceCtorEq, Int.reduceBEq, Int.reduceBNe, Int.reduceLT, Int.reduceLE]
            · rw [hin, ← Bool.and_assoc, hf0, decide_eq_false hinc]; simp only [go_sem, ↓reduceIte, Nat.reduceAdd, Nat.reduceEqDiff, Nat.reduceBEq, reduceCtorEq, Int.reduceBEq, Int.reduceBNe, Int.reduceLT, Int.reduceLE]; rfl
            · rw [upTo_int h20, upTo_int (k := .i64) (i := k + 1) (by simp only [go_sem, ↓reduceIte, Nat.reduceAdd, Nat.reduceEqDiff, Nat.reduceBEq, reduceCtorEq, Int.reduceBEq, Int.reduceBNe, Int.reduceLT, Int.reduceLE])]; omega
      · have hge8 : ¬ (k < T.length) := by simpa using hge8
        have hinc : incU T k = true → incU T T.length = true := by
          intro h
          rcases hk with h1 | h1
          · have : k = T.length := by omega
            rw [← this]; exact h
          · have : T.length = 0 ∨ T.length = 1 := by omega
            rcases this with h2 | h2 <;> simp [incU, h2]
        have o8 := o7.nil ho8
        have hp8 := ((hp5.keep0 ho6).keep0 ho7).keep0 ho8
        have hr8 := ((hr5.keep0 ho6).keep0 ho7).keep0 ho8
        cases hf0 : (noT s.V T s.V.length && incU T k) with
        | false =>
          rw [hf0] at h16'
          (repeat (first | with_reducible refine run_seq ?_ | with_reducible refine run_reg ?_ | with_reducible refine run_block ?_ | with_reducible refine run_blk ?_ | with_reducible refine run_skip ?_ | with_reducible refine run_exit rfl ?_ | with_reducible refine run_drw ?_ | with_reducible refine run_condT ?_ | with_reducible refine run_ret' ?_ | with_reducible refine run_end' ?_ | simp only [go_sem, ↓reduceIte, Nat.reduceAdd, Nat.reduceEqDiff, Nat.reduceBEq, reduceCtorEq, Int.reduceBEq, Int.reduceBNe, Int.reduceLT, Int.reduceLE, h16', h15, beq_int_true (rfl : (((s.V.countP fun x => F.contains x) : Nat) : Int) = (((s.V.countP fun x => F.contains x) : Nat) : Int))]))
          refine callT1 (law_alive w8) fun w9 ho9 => ?_
          (repeat (first | with_reducible refine run_seq ?_ | with_reducible refine run_reg ?_ | with_reducible refine run_block ?_ | with_reducible refine run_blk ?_ | with_reducible refine run_skip ?_ | with_reducible refine run_exit rfl ?_ | with_reducible refine run_drw ?_ | with_reducible refine run_condT ?_ | with_reducible refine run_ret' ?_ | with_reducible refine run_end' ?_ | simp only [go_sem, ↓reduceIte, Nat.reduceAdd, Nat.reduceEqDiff, Nat.reduceBEq, reduceCtorEq, Int.reduceBEq, Int.reduceBNe, Int.reduceLT, Int.reduceLE]))
          exact o8.nil ho9
        | true =>
          rw [hf0] at h16'
          simp only [Bool.and_eq_true] at hf0
          obtain ⟨hno, hin⟩ := hf0
          have hgood' := goodL_swap hgood (hinc hin)
          have hnoT : ∀ x, x ∈ s.V → T.contains x = false := by
            intro x hx
            unfold noT at hno
            rw [List.take_length] at hno
            have := List.all_eq_true.1 hno x hx
            simpa using this
          have hT8 := hT7.keep0 ho8
          have hF8 := hF7.keep0 ho8
          have hok5 := hok.map (repl F T)
          have hcount : (((filled (s.map (repl F T))).countP fun x => T.contains x.2 : Nat)) = s.V.countP fun x => F.contains x := by
            rw [count_V hok5 (goodL_no0 hgood'), hV5, List.countP_map]
            apply List.countP_congr
            intro x hx
            simp only [Function.comp]
            rw [contains_repl hgood (hnoT x hx)]
          have hrep2 : replO (some (s.map (repl F T))) T F = ((((s.V.countP fun x => F.contains x : Nat) : Int), 0), some ((s.map (repl F T)).map (repl T F))) := by rw [← hcount]; unfold replO; rw [hgood']; rfl
          have hVback : ((s.map (repl F T)).map (repl T F)).V = s.V := by
            rw [map_V, hV5, List.map_map]
            conv => rhs; rw [← List.map_id s.V]
            apply List.map_congr_left
            intro x hx
            exact repl_back hgood hgood' (hnoT x hx)
          have hz8 := o8.size
          (repeat (first | with_reducible refine run_seq ?_ | with_reducible refine run_reg ?_ | with_reducible refine run_block ?_ | with_reducible refine run_blk ?_ | with_reducible refine run_skip ?_ | with_reducible refine run_exit rfl ?_ | with_reducible refine run_drw ?_ | with_reducible refine run_condT ?_ | with_reducible refine run_ret' ?_ | with_reducible refine run_end' ?_ | simp only [go_sem, ↓reduceIte, Nat.reduceAdd, Nat.reduceEqDiff, Nat.reduceBEq, reduceCtorEq, Int.reduceBEq, Int.reduceBNe, Int.reduceLT, Int.reduceLE, h16']))
          refine callT (Replace_m hp8 hT8 hF8 (fun y hy => ⟨d2 y hy, by have := hD2 y hy; omega⟩) (fun y hy => ⟨d1 y hy, by have := hD1 y hy; omega⟩) (by omega) (by omega)) ?_
          rintro r w9 ⟨rfl, hp9, ho9, _⟩
          rw [hrep2] at hp9 ⊢
          have hr9 : RR w9 (some b) rp (some s) := hr8.keep ho9 fun y hy hy2 => ht.d y hy2 hy
          have o9 : Only [] w w9 := o8.trans ho9 fun y hy => .inr (by have := hnew y (by simp [hy]); omega)
          have kold9 : Sl w9 1 (.slice a4 s.V.length c4) s.V.length (ints s.V) f4 := ((kold.keep0 ho7).keep0 ho8).keep ho9 fun y hy hy2 => by have := hf4 y hy; have := hlt y (by simp [hy2]); omega
          (repeat (first | with_reducible refine run_seq ?_ | with_reducible refine run_reg ?_ | with_reducible refine run_block ?_ | with_reducible refine run_blk ?_ | with_reducible refine run_skip ?_ | with_reducible refine run_exit rfl ?_ | with_reducible refine run_drw ?_ | with_reducible refine run_condT ?_ | with_reducible refine run_ret' ?_ | with_reducible refine run_end' ?_ | simp only [go_sem, ↓reduceIte, Nat.reduceAdd, Nat.reduceEqDiff, Nat.reduceBEq, reduceCtorEq, Int.reduceBEq, Int.reduceBNe, Int.reduceLT, Int.reduceLE, h15, bne_int_false (rfl : (((s.V.countP fun x => F.contains x) : Nat) : Int) = (((s.V.countP fun x => F.contains x) : Nat) : Int)), bne_int_false (rfl : (0 : Int) = 0)]))
          refine callT (law_all2 hp9 hr9 rfl (by simp [MS.map])) ?_
          rintro v10 w10 ⟨ho10, f10, hs10, hf10⟩
          rw [hVback] at hs10
          (repeat (first | with_reducible refine run_seq ?_ | with_reducible refine run_reg ?_ | with_reducible refine run_block ?_ | with_reducible refine run_blk ?_ | with_reducible refine run_skip ?_ | with_reducible refine run_exit rfl ?_ | with_reducible refine run_drw ?_ | with_reducible refine run_condT ?_ | with_reducible refine run_ret' ?_ | with_reducible refine run_end' ?_ | simp only [go_sem, ↓reduceIte, Nat.reduceAdd, Nat.reduceEqDiff, Nat.reduceBEq, reduceCtorEq, Int.reduceBEq, Int.reduceBNe, Int.reduceLT, Int.reduceLE]))
          refine callT (law_ints hs10.rd (kold9.keep0 ho10).rd (by omega)) ?_
          rintro r w11 ⟨rfl, ho11⟩
          (repeat (first | with_reducible refine run_seq ?_ | with_reducible refine run_reg ?_ | with_reducible refine run_block ?_ | with_reducible refine run_blk ?_ | with_reducible refine run_skip ?_ | with_reducible refine run_exit rfl ?_ | with_reducible refine run_drw ?_ | with_reducible refine run_condT ?_ | with_reducible refine run_ret' ?_ | with_reducible refine run_end' ?_ | simp only [go_sem, ↓reduceIte, Nat.reduceAdd, Nat.reduceEqDiff, Nat.reduceBEq, reduceCtorEq, Int.reduceBEq, Int.reduceBNe, Int.reduceLT, Int.reduceLE, decide_eq_true (rfl : s.V = s.V), h15, beq_int_true (rfl : (((s.V.countP fun x => F.contains x) : Nat) : Int) = (((s.V.countP fun x => F.contains x) : Nat) : Int))]))
          refine callT1 (law_alive w11) fun w12 ho12 => ?_
          (repeat (first | with_reducible refine run_seq ?_ | with_reducible refine run_reg ?_ | with_reducible refine run_block ?_ | with_reducible refine run_blk ?_ | with_reducible refine run_skip ?_ | with_reducible refine run_exit rfl ?_ | with_reducible refine run_drw ?_ | with_reducible refine run_condT ?_ | with_reducible refine run_ret' ?_ | with_reducible refine run_end' ?_ | simp only [go_sem, ↓reduceIte, Nat.reduceAdd, Nat.reduceEqDiff, Nat.reduceBEq, reduceCtorEq, Int.reduceBEq, Int.reduceBNe, Int.reduceLT, Int.reduceLE]))
          exact ((o9.nil ho10).nil ho11).nil ho12
end Go.Proofs.Ytblfmacnkacalaa
