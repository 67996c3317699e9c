/- Roots: the iterator over all places. -/
import Derived.Test.YtblfmacnkacalaaRtC
namespace Go.Proofs.Ytblfmacnkacalaa
set_option linter.unusedSimpArgs false
set_option linter.unusedVariables false
set_option maxRecDepth 8000

/-! ### Rows on the way -/
/-- the first i elements turned -/
def stg (f : Int → Int) (L : List Int) (i : Nat) : List Int := (L.take i).map f ++ L.drop i
theorem stg_length (f : Int → Int) (L : List Int) (i : Nat) : (stg f L i).length = L.length := by simp only [stg, List.length_append, List.length_map, List.length_take, List.length_drop]; omega
theorem stg_zero (f : Int → Int) (L : List Int) : stg f L 0 = L := by simp [stg]
theorem stg_end (f : Int → Int) (L : List Int) : stg f L L.length = L.map f := by simp [stg]
theorem stg_get (f : Int → Int) {L : List Int} {i : Nat} (h : i < L.length) : (stg f L i).getD i 0 = L.getD i 0 := by
  simp only [stg, List.getD_eq_getElem?_getD]
  rw [List.getElem?_append_right (by simp; omega), List.length_map, List.length_take, Nat.min_eq_left (by omega), Nat.sub_self]
  simp
theorem stg_set (f : Int → Int) {L : List Int} {i : Nat} (h : i < L.length) : (stg f L i).set i (f (L.getD i 0)) = stg f L (i + 1) := by
  have hl : ((L.take i).map f).length = i := by simp; omega
  unfold stg
  rw [List.set_append_right _ _ (by omega), hl, Nat.sub_self, List.drop_eq_getElem_cons h, List.set_cons_zero, List.take_succ_eq_append_getElem h, List.map_append, List.append_assoc]
  simp [h]
theorem stg_skip (f : Int → Int) (hf : f 0 = 0) {L : List Int} {i : Nat} (h : i < L.length) (h0 : L.getD i 0 = 0) : stg f L i = stg f L (i + 1) := by
  rw [← stg_set f h, h0, hf]
  apply List.ext_getElem (by simp)
  intro k h1 h2
  rw [List.getElem_set]
  split
  · rename_i e; subst e
    have := stg_get f h
    rw [h0] at this
    simp only [List.getD_eq_getElem?_getD, List.getElem?_eq_getElem h1, Option.getD_some] at this
    exact this
  · rfl

def rowL (s : MS) : Nat → List Int
  | 0 => s.S
  | 1 => s.G
  | _ => s.Q
def pick3 {α : Type} (a b c : α) : Nat → α
  | 0 => a
  | 1 => b
  | _ => c
def pl (k i : Nat) : PT := if k = 0 then (0, ((i / 16 : Nat) : Int), ((i % 16 : Nat) : Int)) else ((k : Int), 0, (i : Int))
/-- what is not empty in a row -/
def fl (k : Nat) (L : List Int) : List (PT × Int) := (((List.range L.length).map (pl k)).zip L).filter fun x => x.2 != 0
theorem fl_nil (k : Nat) : fl k [] = [] := rfl
theorem fl_succ (k : Nat) {L : List Int} {i : Nat} (h : i < L.length) : fl k (L.take (i + 1)) = fl k (L.take i) ++ (if L.getD i 0 = 0 then [] else [(pl k i, L.getD i 0)]) := by
  have e : L.take (i + 1) = L.take i ++ [L.getD i 0] := by rw [List.take_succ_eq_append_getElem h]; simp [h]
  have hl : (L.take i).length = i := by simp; omega
  unfold fl
  rw [e, List.length_append, hl]
  simp only [List.length_singleton]
  rw [List.range_succ, List.map_append, List.zip_append (by simp [hl]), List.filter_append]
  congr 1
  by_cases h0 : L.getD i 0 = 0
  · rw [if_pos h0]; simp only [List.map_cons, List.map_nil, List.zip_cons_cons, List.zip_nil_right]; rw [List.filter_cons]; simp only [h0]; rfl
  · rw [if_neg h0]; simp only [List.map_cons, List.map_nil, List.zip_cons_cons, List.zip_nil_right]; rw [List.filter_cons, if_pos (by simpa using h0)]; rfl
theorem fl_length (k : Nat) (L : List Int) : (fl k L).length ≤ L.length := by
  unfold fl
  refine Nat.le_trans (List.length_filter_le _ _) ?_
  simp
theorem filled_rows {s : MS} (h : s.Ok) : filled s = fl 0 s.S ++ (fl 1 s.G ++ fl 2 s.Q) := by
  unfold filled everyS MS.V fl
  rw [List.zip_append (by simp [h.ls, h.lg]), List.zip_append (by simp [h.ls]), List.filter_append, List.filter_append, List.append_assoc, h.ls, h.lg]
  congr 1
/-- what has come ahead of row k -/
def flB (s : MS) (k : Nat) : List (PT × Int) := (if 0 < k then fl 0 s.S else []) ++ ((if 1 < k then fl 1 s.G else []) ++ (if 2 < k then fl 2 s.Q else []))
theorem flB_succ (s : MS) {k : Nat} (h : k < 3) : flB s (k + 1) = flB s k ++ fl k (rowL s k) := by
  have : k = 0 ∨ k = 1 ∨ k = 2 := by omega
  rcases this with rfl | rfl | rfl <;> simp [flB, rowL]
theorem flB_length (s : MS) (k : Nat) : (flB s k).length ≤ s.S.length + (s.G.length + s.Q.length) := by
  unfold flB
  simp only [List.length_append]
  refine Nat.add_le_add ?_ (Nat.add_le_add ?_ ?_)
  · split
    · exact fl_length _ _
    · simp
  · split
    · exact fl_length _ _
    · simp
  · split
    · exact fl_length _ _
    · simp
/-- row t when row k has come to i -/
def stR (f : Int → Int) (s : MS) (k i t : Nat) : List Int := if t < k then (rowL s t).map f else if t = k then stg f (rowL s t) i else rowL s t
theorem stR_length (f : Int → Int) (s : MS) (k i t : Nat) : (stR f s k i t).length = (rowL s t).length := by
  unfold stR; split
  · simp
  · split
    · exact stg_length _ _ _
    · rfl
theorem stR_start (f : Int → Int) (s : MS) (t : Nat) : stR f s 0 0 t = rowL s t := by
  unfold stR; rw [if_neg (by omega)]; split
  · exact stg_zero _ _
  · rfl
theorem stR_next (f : Int → Int) (s : MS) (k t : Nat) : stR f s k (rowL s k).length t = stR f s (k + 1) 0 t := by
  unfold stR
  by_cases h1 : t < k
  · rw [if_pos h1, if_pos (by omega)]
  · rw [if_neg h1]
    by_cases h2 : t = k
    · subst h2; rw [if_pos rfl, if_pos (by omega), stg_end]
    · rw [if_neg h2, if_neg (by omega)]
      split
      · exact (stg_zero _ _).symm
      · rfl
theorem stR_end (f : Int → Int) (s : MS) {t : Nat} (h : t < 3) : stR f s 3 0 t = (rowL s t).map f := by unfold stR; rw [if_pos h]

/-- the three rows in memory, on the way -/
def Rows (w : World) (s : MS) (f : Int → Int) (vs vg vq : Value) (fs fg fq : List Nat) (k i : Nat) : Prop :=
  ∀ t, t < 3 → Sl w 1 (pick3 vs vg vq t) (rowL s t).length (ints (stR f s k i t)) (pick3 fs fg fq t)
theorem PMs.rows {w : World} {b : Nat} {s : MS} {vs vg vq : Value} {fs fg fq : List Nat} (h : PMs w b s vs vg vq fs fg fq) (f : Int → Int) : Rows w s f vs vg vq fs fg fq 0 0 := by
  intro t ht
  rw [stR_start]
  have : t = 0 ∨ t = 1 ∨ t = 2 := by omega
  rcases this with rfl | rfl | rfl
  · have := h.h0; rw [← h.ok.ls] at this; exact this
  · have := h.h1; rw [← h.ok.lg] at this; exact this
  · exact h.h2
theorem PMs.ofRows {w w' : World} {b : Nat} {s : MS} {f : Int → Int} {vs vg vq : Value} {fs fg fq : List Nat} (h : PMs w b s vs vg vq fs fg fq) (hb : At w' b [.int .i64 s.M, vs, vg, vq]) (hr : Rows w' s f vs vg vq fs fg fq 3 0) : PMs w' b (s.map f) vs vg vq fs fg fq := by
  have r0 := hr 0 (by omega); have r1 := hr 1 (by omega); have r2 := hr 2 (by omega)
  rw [stR_end f s (by omega)] at r0 r1 r2
  refine ⟨⟨h.ok.m1, h.ok.m4, by have := h.ok.ls; simpa [MS.map] using this, by have := h.ok.lg; simpa [MS.map] using this, by have := h.ok.lq; simpa [MS.map] using this⟩, h.nd, hb, ?_, ?_, ?_⟩
  · have := h.ok.ls; show Sl w' 1 vs (16 * s.M) _ fs; rw [← this]; exact r0
  · have := h.ok.lg; rw [← this]; exact r1
  · show Sl w' 1 vq (s.Q.map f).length _ fq; rw [List.length_map]; exact r2
theorem Rows.keep0 {w w' : World} {s : MS} {f : Int → Int} {vs vg vq : Value} {fs fg fq : List Nat} {k i : Nat} (h : Rows w s f vs vg vq fs fg fq k i) (ho : Only [] w w') : Rows w' s f vs vg vq fs fg fq k i := fun t ht => (h t ht).keep0 ho
theorem pick3_mem {fs fg fq : List Nat} {t x : Nat} (h : x ∈ pick3 fs fg fq t) : x ∈ fs ++ (fg ++ fq) := by
  unfold pick3 at h
  split at h <;> simp [h]
theorem nd_pick {b : Nat} {fs fg fq : List Nat} {t u x : Nat} (h : (b :: (fs ++ (fg ++ fq))).Nodup) (ht : t < 3) (hu : u < 3) (hne : t ≠ u) (hx : x ∈ pick3 fs fg fq t) (hy : x ∈ pick3 fs fg fq u) : False := by
  simp only [List.nodup_cons, List.mem_append, not_or, List.nodup_append] at h
  obtain ⟨_, _, ⟨_, _, n7⟩, n8⟩ := h
  have h1 : t = 0 ∨ t = 1 ∨ t = 2 := by omega
  have h2 : u = 0 ∨ u = 1 ∨ u = 2 := by omega
  rcases h1 with rfl | rfl | rfl <;> rcases h2 with rfl | rfl | rfl <;> simp only [pick3] at hx hy
  · exact hne rfl
  · exact n8 x hx x (.inl hy) rfl
  · exact n8 x hx x (.inr hy) rfl
  · exact n8 x hy x (.inl hx) rfl
  · exact hne rfl
  · exact n7 x hx x hy rfl
  · exact n8 x hy x (.inr hx) rfl
  · exact n7 x hy x hx rfl
  · exact hne rfl
/-- the row that the iterator is in: a block; its cells -/
theorem Rows.at {w : World} {s : MS} {f : Int → Int} {vs vg vq : Value} {fs fg fq : List Nat} {k i : Nat} (h : Rows w s f vs vg vq fs fg fq k i) (hk : k < 3) (hi : i < (rowL s k).length) :
    ∃ g cap ys, pick3 vs vg vq k = .slice (some ⟨g, 0, none⟩) (rowL s k).length cap ∧ pick3 fs fg fq k = [g] ∧ At w g (ints (stg f (rowL s k) i) ++ ys) ∧ (ints (stg f (rowL s k) i) ++ ys).length = cap := by
  have h0 := h k hk
  rcases h0.2 with ⟨_, h1, _⟩ | ⟨g, cap, ys, T, h1, h2, h3, h4, h5⟩
  · omega
  · have e : stR f s k i k = stg f (rowL s k) i := by unfold stR; rw [if_neg (by omega), if_pos rfl]
    rw [e] at h3 h4
    exact ⟨g, cap, ys, h1, h2, ⟨T, h3⟩, by simpa using h4⟩
/-- a step in the row -/
theorem Rows.step {b : Nat} {w w' : World} {s : MS} {f : Int → Int} {vs vg vq : Value} {fs fg fq : List Nat} {k i g cap : Nat} {ys : List Value} (hnd : (b :: (fs ++ (fg ++ fq))).Nodup) (h : Rows w s f vs vg vq fs fg fq k i) (hk : k < 3) (hi : i < (rowL s k).length)
    (hv : pick3 vs vg vq k = .slice (some ⟨g, 0, none⟩) (rowL s k).length cap) (hfp : pick3 fs fg fq k = [g]) (hc : (ints (stg f (rowL s k) i) ++ ys).length = cap)
    (hat : At w' g ((ints (stg f (rowL s k) i) ++ ys).set i (.int .i64 (f ((rowL s k).getD i 0))))) (ho : ∀ x, x ∈ fs ++ (fg ++ fq) → x ≠ g → w'.heap[x]? = w.heap[x]?) : Rows w' s f vs vg vq fs fg fq k (i + 1) := by
  intro t ht
  by_cases e : t = k
  · subst e
    rw [ints_set ys (by rw [stg_length]; exact hi), stg_set f hi] at hat
    rw [hv, hfp]
    have e1 : stR f s t (i + 1) t = stg f (rowL s t) (i + 1) := by unfold stR; rw [if_neg (by omega), if_pos rfl]
    rw [e1]
    refine Sl.mk1 hat (by rw [ints_length, stg_length]) ?_
    rw [← hc]; simp [ints_length, stg_length]
  · have h0 := h t ht
    have e1 : stR f s k (i + 1) t = stR f s k i t := by unfold stR; simp [e]
    rw [e1]
    refine ⟨h0.1, ?_⟩
    rcases h0.2 with h1 | ⟨g', cap', ys', T, h1, h2, h3, h4⟩
    · exact .inl h1
    · refine .inr ⟨g', cap', ys', T, h1, h2, ?_, h4⟩
      rw [ho g' (pick3_mem (t := t) (by rw [h2]; simp)) (fun e2 => nd_pick hnd ht hk e (x := g') (by rw [h2]; simp) (by rw [hfp, e2]; simp))]
      exact h3
theorem Rows.skip {w : World} {s : MS} {f : Int → Int} {vs vg vq : Value} {fs fg fq : List Nat} {k i : Nat} (h : Rows w s f vs vg vq fs fg fq k i) (hf : f 0 = 0) (hi : i < (rowL s k).length) (h0 : (rowL s k).getD i 0 = 0) : Rows w s f vs vg vq fs fg fq k (i + 1) := by
  intro t ht
  have e : stR f s k (i + 1) t = stR f s k i t := by
    unfold stR
    by_cases e : t = k
    · subst e; rw [if_neg (by omega), if_pos rfl, if_neg (by omega), if_pos rfl, stg_skip f hf hi h0]
    · simp [e]
  rw [e]; exact h t ht
theorem Rows.next {w : World} {s : MS} {f : Int → Int} {vs vg vq : Value} {fs fg fq : List Nat} {k : Nat} (h : Rows w s f vs vg vq fs fg fq k (rowL s k).length) : Rows w s f vs vg vq fs fg fq (k + 1) 0 := by
  intro t ht; rw [← stR_next]; exact h t ht

theorem tdiv16 (n : Nat) (h : n ≤ 4611686018427387904) : IntKind.i64.wrap ((n : Int).tdiv 16) = ((n / 16 : Nat) : Int) := by
  rw [Int.tdiv_eq_ediv_of_nonneg (by omega), show ((n : Int) / 16) = ((n / 16 : Nat) : Int) by omega, i64_of_nat _ (by omega)]
theorem tmod16 (n : Nat) : ((n : Int).tmod 16) = ((n % 16 : Nat) : Int) := by
  rw [Int.tmod_eq_emod_of_nonneg (by omega)]; omega
theorem setL_three (x y z a b c : Value) : setL [x, y, z] 0 [a, b, c] = [a, b, c] := Eq.trans rfl rfl
theorem divO_16 (v : Value) : divO 16 v = some v := Eq.trans rfl rfl

theorem all1_m {w : World} {l rb b : Nat} {s : MS} {vs vg vq : Value} {fs fg fq : List Nat} (hp : PMs w b s vs vg vq fs fg fq) (hrb : At w rb [.pointer (some ⟨b, 0, none⟩)]) (f : Int → Int) (hf0 : f 0 = 0)
    (J : List (PT × Int) → List Nat → World → Prop) (B : List Nat) (hB : ∀ x, x ∈ B → x < w.heap.size) (hJ0 : J [] [] w) (hJk : ∀ pre F w1 w2, J pre F w1 → Only [] w1 w2 → J pre F w2)
    (hY : ∀ pre F k i g xs w1, k < 3 → i < (rowL s k).length → J pre F w1 → (∀ x, x ∈ F → w.heap.size ≤ x) → pre.length ≤ 300 → w.heap.size ≤ w1.heap.size → Only B w w1 → g ∈ pick3 fs fg fq k → At w1 g xs → xs[i]? = some (.int .i64 ((rowL s k).getD i 0)) → (rowL s k).getD i 0 ≠ 0 →
      Ys Try.prog l [.agg ⟨plV (pl k i)⟩, .pointer (some ⟨g, i, none⟩)] w1 fun r w2 => r = .bool true ∧ (∃ F', J (pre ++ [(pl k i, (rowL s k).getD i 0)]) F' w2 ∧ ∀ x, x ∈ F' → x ∈ F ∨ w1.heap.size ≤ x) ∧ Only (B ++ F) w1 w2 ∧ At w2 g (xs.set i (.int .i64 (f ((rowL s k).getD i 0)))) ∧
        ∀ g', g' ∈ fs ++ (fg ++ fq) → g' ≠ g → w2.heap[g']? = w1.heap[g']?) :
    Cs Try.prog 50 [.func (.yield l) #[] #[], .pointer (some ⟨rb, 0, none⟩)] w fun _ w' => (∃ F, J (filled s) F w' ∧ ∀ x, x ∈ F → w.heap.size ≤ x) ∧ Only B w w' ∧ Rows w' s f vs vg vq fs fg fq 3 0 := by
  refine enter_roots_Roots_all_1 rfl ?_
  unfold x_roots_Roots_all_1
  (repeat (first | with_reducible refine run_seq ?_ | with_reducible refine run_reg ?_ | with_reducible refine run_block ?_ | with_reducible refine run_blk ?_ | with_reducible refine run_skip ?_ | with_reducible refine run_exit rfl ?_ | with_reducible refine run_drw ?_ | with_reducible refine run_condT ?_ | with_reducible refine run_ret' ?_ | with_reducible refine run_end' ?_ | simp only [go_sem, ↓reduceIte, Nat.reduceAdd, Nat.reduceEqDiff, Nat.reduceBEq, reduceCtorEq, Int.reduceBEq, Int.reduceBNe, Int.reduceLT, Int.reduceLE]))
  refine run_drt [rb, b] ?_
  have hok := hp.ok
  have hlen : ∀ k, (rowL s k).length ≤ 64 := by
    intro k
    have h1 := hok.ls; have h2 := hok.lg; have h3 := hok.lq; have h4 := hok.m4
    unfold rowL; split <;> omega
  (repeat (first | with_reducible refine run_seq ?_ | with_reducible refine run_reg ?_ | with_reducible refine run_block ?_ | with_reducible refine run_blk ?_ | with_reducible refine run_skip ?_ | with_reducible refine run_exit rfl ?_ | with_reducible refine run_drw ?_ | with_reducible refine run_condT ?_ | with_reducible refine run_ret' ?_ | with_reducible refine run_end' ?_ | simp only [go_sem, ↓reduceIte, Nat.reduceAdd, Nat.reduceEqDiff, Nat.reduceBEq, reduceCtorEq, Int.reduceBEq, Int.reduceBNe, Int.reduceLT, Int.reduceLE, hrb.cell, hp.hb.cell]))
  have hone : ∀ t, t < 3 → oneC (pick3 vs vg vq t) = true := by
    intro t ht
    obtain ⟨a, c, e⟩ := (hp.rows f t ht).val
    rw [e]; rfl
  have one0 : oneC vs = true := hone 0 (by omega)
  have one1 : oneC vg = true := hone 1 (by omega)
  have one2 : oneC vq = true := hone 2 (by omega)
  rw [fillL_one one0 rfl]
  (repeat (first | with_reducible refine run_seq ?_ | with_reducible refine run_reg ?_ | with_reducible refine run_block ?_ | with_reducible refine run_blk ?_ | with_reducible refine run_skip ?_ | with_reducible refine run_exit rfl ?_ | with_reducible refine run_drw ?_ | with_reducible refine run_condT ?_ | with_reducible refine run_ret' ?_ | with_reducible refine run_end' ?_ | simp only [go_sem, ↓reduceIte, Nat.reduceAdd, Nat.reduceEqDiff, Nat.reduceBEq, reduceCtorEq, Int.reduceBEq, Int.reduceBNe, Int.reduceLT, Int.reduceLE]))
  rw [fillL_one one1 rfl]
  (repeat (first | with_reducible refine run_seq ?_ | with_reducible refine run_reg ?_ | with_reducible refine run_block ?_ | with_reducible refine run_blk ?_ | with_reducible refine run_skip ?_ | with_reducible refine run_exit rfl ?_ | with_reducible refine run_drw ?_ | with_reducible refine run_condT ?_ | with_reducible refine run_ret' ?_ | with_reducible refine run_end' ?_ | simp only [go_sem, ↓reduceIte, Nat.reduceAdd, Nat.reduceEqDiff, Nat.reduceBEq, reduceCtorEq, Int.reduceBEq, Int.reduceBNe, Int.reduceLT, Int.reduceLE]))
  rw [fillL_one one2 rfl]
  (repeat (first | with_reducible refine run_seq ?_ | with_reducible refine run_reg ?_ | with_reducible refine run_block ?_ | with_reducible refine run_blk ?_ | with_reducible refine run_skip ?_ | with_reducible refine run_exit rfl ?_ | with_reducible refine run_drw ?_ | with_reducible refine run_condT ?_ | with_reducible refine run_ret' ?_ | with_reducible refine run_end' ?_ | simp only [go_sem, ↓reduceIte, Nat.reduceAdd, Nat.reduceEqDiff, Nat.reduceBEq, reduceCtorEq, Int.reduceBEq, Int.reduceBNe, Int.reduceLT, Int.reduceLE]))
  refine bslS fun g19 w1 hg19 hs1 hat1 ho1 => ?_
  have hd : w.drew.heap.size = w.heap.size := rfl
  have hO1 : Only [] w w1 := Only.drew_left ho1
  refine ⟨.inr ((SB.refl _ _).only ho1 (fun x hx => by
    simp only [List.mem_cons, List.not_mem_nil, or_false] at hx
    rcases hx with rfl | rfl
    · exact ⟨hrb.lt, by simp⟩
    · exact ⟨hp.hb.lt, by simp⟩)), ?_⟩
  (repeat (first | with_reducible refine run_seq ?_ | with_reducible refine run_reg ?_ | with_reducible refine run_block ?_ | with_reducible refine run_blk ?_ | with_reducible refine run_skip ?_ | with_reducible refine run_exit rfl ?_ | with_reducible refine run_drw ?_ | with_reducible refine run_condT ?_ | with_reducible refine run_ret' ?_ | with_reducible refine run_end' ?_ | simp only [go_sem, ↓reduceIte, Nat.reduceAdd, Nat.reduceEqDiff, Nat.reduceBEq, reduceCtorEq, Int.reduceBEq, Int.reduceBNe, Int.reduceLT, Int.reduceLE]))
  have hsz : w.heap.size ≤ g19 := by omega
  have hg19B : g19 ∉ B := fun hx => by have := hB _ hx; omega
  have upTo3 : ∀ {t : Nat} {g : Env} {i : Nat}, g t = .int .i64 i → upTo 3 t g = 3 - i := fun h => upTo_int h
  refine run_loop (3 :: 4 :: 5 :: 6 :: 21 :: 22 :: 23 :: 24 :: 25 :: 26 :: 27 :: 28 :: 29 :: 30 :: 31 :: 32 :: 33 :: 34 :: 35 :: 36 :: 37 :: 38 :: 39 :: 40 :: 41 :: 42 :: 43 :: 44 :: 45 :: 46 :: 47 :: 48 :: 49 :: 50 :: 51 :: 52 :: 53 :: 54 :: 55 :: 56 :: 57 :: []) (fun g w' => ∃ k : Nat, g 21 = .int .i64 k ∧ k ≤ 3 ∧ (∃ F, J (flB s k) F w' ∧ g19 ∉ F ∧ ∀ x, x ∈ F → w.heap.size ≤ x) ∧ Only B w w' ∧ Rows w' s f vs vg vq fs fg fq k 0 ∧ At w' g19 [vs, vg, vq]) (fun g _ => upTo 3 21 g)
    ⟨0, by simp only [go_sem, ↓reduceIte, Nat.reduceAdd, Nat.reduceEqDiff, Nat.reduceBEq, reduceCtorEq, Int.reduceBEq, Int.reduceBNe, Int.reduceLT, Int.reduceLE]; rfl, by omega, ⟨[], hJk _ _ _ _ (by simpa [flB] using hJ0) hO1, by simp, by simp⟩, hO1.of_nil, (hp.rows f).keep0 hO1, hat1⟩ fun g w2 hI hnext => ?_
  obtain ⟨k, h21, hk, ⟨F0, hJ, hF0, hFl0⟩, ho, hR, hat⟩ := hI
  have e3 : ((3 : Nat) : Int) = 3 := rfl
  (repeat (first | with_reducible refine run_seq ?_ | with_reducible refine run_reg ?_ | with_reducible refine run_block ?_ | with_reducible refine run_blk ?_ | with_reducible refine run_skip ?_ | with_reducible refine run_exit rfl ?_ | with_reducible refine run_drw ?_ | with_reducible refine run_condT ?_ | with_reducible refine run_ret' ?_ | with_reducible refine run_end' ?_ | simp only [go_sem, ↓reduceIte, Nat.reduceAdd, Nat.reduceEqDiff, Nat.reduceBEq, reduceCtorEq, Int.reduceBEq, Int.reduceBNe, Int.reduceLT, Int.reduceLE, h21, e3]))
  refine condT (fun hlt => ?_) (fun hge => ?_)
  rotate_left
  · have : k = 3 := by have : ¬ ((k : Int) < 3) := by simpa using hge
                       omega
    subst this
    (repeat (first | with_reducible refine run_seq ?_ | with_reducible refine run_reg ?_ | with_reducible refine run_block ?_ | with_reducible refine run_blk ?_ | with_reducible refine run_skip ?_ | with_reducible refine run_exit rfl ?_ | with_reducible refine run_drw ?_ | with_reducible refine run_condT ?_ | with_reducible refine run_ret' ?_ | with_reducible refine run_end' ?_ | simp only [go_sem, ↓reduceIte, Nat.reduceAdd, Nat.reduceEqDiff, Nat.reduceBEq, reduceCtorEq, Int.reduceBEq, Int.reduceBNe, Int.reduceLT, Int.reduceLE]))
    refine ⟨⟨F0, ?_, hFl0⟩, ho, hR⟩
    rw [filled_rows hok]
    simpa [flB] using hJ
  have hlt : k < 3 := by have : (k : Int) < 3 := by simpa using hlt
                         omega
  have hget : [vs, vg, vq][k]? = some (pick3 vs vg vq k) := by
    have : k = 0 ∨ k = 1 ∨ k = 2 := by omega
    rcases this with rfl | rfl | rfl <;> rfl
  have c1 : (0 : Int) ≤ (k : Int) ∧ (k : Int) < 3 := ⟨by omega, by omega⟩
  obtain ⟨a4, c4, hv4⟩ := (hR k hlt).val
  have hl64 := hlen k
  (repeat (first | with_reducible refine run_seq ?_ | with_reducible refine run_reg ?_ | with_reducible refine run_blk ?_ | with_reducible refine run_skip ?_ | with_reducible refine run_exit rfl ?_ | with_reducible refine run_drw ?_ | with_reducible refine run_condT ?_ | with_reducible refine run_ret' ?_ | with_reducible refine run_end' ?_ | simp only [go_sem, ↓reduceIte, Nat.reduceAdd, Nat.reduceEqDiff, Nat.reduceBEq, reduceCtorEq, Int.reduceBEq, Int.reduceBNe, Int.reduceLT, Int.reduceLE, h21, e3, if_pos c1, Int.toNat_natCast, Nat.mul_one, hat.cell, hget, hv4]))
  refine run_block ?_
  (repeat (first | with_reducible refine run_seq ?_ | with_reducible refine run_reg ?_ | with_reducible refine run_blk ?_ | with_reducible refine run_skip ?_ | with_reducible refine run_exit rfl ?_ | with_reducible refine run_drw ?_ | with_reducible refine run_condT ?_ | with_reducible refine run_ret' ?_ | with_reducible refine run_end' ?_ | simp only [go_sem, ↓reduceIte, Nat.reduceAdd, Nat.reduceEqDiff, Nat.reduceBEq, reduceCtorEq, Int.reduceBEq, Int.reduceBNe, Int.reduceLT, Int.reduceLE, h21, e3, if_pos c1, Int.toNat_natCast, Nat.mul_one, hat.cell, hget, hv4]))
  refine run_block ?_
  refine run_loop (5 :: 6 :: 28 :: 29 :: 30 :: 31 :: 32 :: 33 :: 34 :: 35 :: 36 :: 37 :: 38 :: 39 :: 40 :: 41 :: 42 :: 43 :: 44 :: 45 :: 46 :: 47 :: 48 :: 49 :: 50 :: 51 :: 52 :: 53 :: 54 :: 55 :: 56 :: []) (fun g' w' => ∃ i : Nat, g' 28 = .int .i64 i ∧ i ≤ (rowL s k).length ∧ (∃ F, J (flB s k ++ fl k ((rowL s k).take i)) F w' ∧ g19 ∉ F ∧ ∀ x, x ∈ F → w.heap.size ≤ x) ∧ Only B w w' ∧ Rows w' s f vs vg vq fs fg fq k i ∧ At w' g19 [vs, vg, vq]) (fun g' _ => upTo (rowL s k).length 28 g')
    ⟨0, by simp only [go_sem, ↓reduceIte, Nat.reduceAdd, Nat.reduceEqDiff, Nat.reduceBEq, reduceCtorEq, Int.reduceBEq, Int.reduceBNe, Int.reduceLT, Int.reduceLE]; rfl, by omega, ⟨F0, by simpa [fl_nil] using hJ, hF0, hFl0⟩, ho, hR, hat⟩ fun g' w3 hI hnext' => ?_
  obtain ⟨i, h28, hi, ⟨F, hJ3, hF, hFl⟩, ho3, hR3, hat3⟩ := hI
  (repeat (first | with_reducible refine run_seq ?_ | with_reducible refine run_reg ?_ | with_reducible refine run_block ?_ | with_reducible refine run_blk ?_ | with_reducible refine run_skip ?_ | with_reducible refine run_exit rfl ?_ | with_reducible refine run_drw ?_ | with_reducible refine run_condT ?_ | with_reducible refine run_ret' ?_ | with_reducible refine run_end' ?_ | simp only [go_sem, ↓reduceIte, Nat.reduceAdd, Nat.reduceEqDiff, Nat.reduceBEq, reduceCtorEq, Int.reduceBEq, Int.reduceBNe, Int.reduceLT, Int.reduceLE, h28]))
  refine condT (fun hilt => ?_) (fun hige => ?_)
  rotate_left
  · have : i = (rowL s k).length := by have : ¬ (i < (rowL s k).length) := by simpa using hige
                                       omega
    subst this
    (repeat (first | with_reducible refine run_seq ?_ | with_reducible refine run_reg ?_ | with_reducible refine run_block ?_ | with_reducible refine run_blk ?_ | with_reducible refine run_skip ?_ | with_reducible refine run_exit rfl ?_ | with_reducible refine run_drw ?_ | with_reducible refine run_condT ?_ | with_reducible refine run_ret' ?_ | with_reducible refine run_end' ?_ | simp only [go_sem, ↓reduceIte, Nat.reduceAdd, Nat.reduceEqDiff, Nat.reduceBEq, reduceCtorEq, Int.reduceBEq, Int.reduceBNe, Int.reduceLT, Int.reduceLE, h21, i64_succ k (by omega)]))
    refine hnext _ w3 ?_ ⟨k + 1, ?_, by omega, ?_, ho3, hR3.next, hat3⟩ ?_
    · (repeat (first | with_reducible exact Keeps.refl _ _ | with_reducible exact Keeps.ovr _ _ _ | refine Keeps.put ?_ rfl _ | exact Keeps.refl _ _ | exact Keeps.ovr _ _ _ | refine Keeps.ovr2 ?_ rfl _))
    · simp only [go_sem, ↓reduceIte, Nat.reduceAdd, Nat.reduceEqDiff, Nat.reduceBEq, reduceCtorEq, Int.reduceBEq, Int.reduceBNe, Int.reduceLT, Int.reduceLE]
    · rw [flB_succ s hlt]; rw [List.take_length] at hJ3; exact ⟨F, hJ3, hF, hFl⟩
    · rw [upTo3 h21, upTo3 (i := k + 1) (by simp only [go_sem, ↓reduceIte, Nat.reduceAdd, Nat.reduceEqDiff, Nat.reduceBEq, reduceCtorEq, Int.reduceBEq, Int.reduceBNe, Int.reduceLT, Int.reduceLE])]; omega
  have hilt : i < (rowL s k).length := by simpa using hilt
  (repeat (first | with_reducible refine run_seq ?_ | with_reducible refine run_reg ?_ | with_reducible refine run_blk ?_ | with_reducible refine run_skip ?_ | with_reducible refine run_exit rfl ?_ | with_reducible refine run_drw ?_ | with_reducible refine run_condT ?_ | with_reducible refine run_ret' ?_ | with_reducible refine run_end' ?_ | simp only [go_sem, ↓reduceIte, Nat.reduceAdd, Nat.reduceEqDiff, Nat.reduceBEq, reduceCtorEq, Int.reduceBEq, Int.reduceBNe, Int.reduceLT, Int.reduceLE, h28, h21]))
  refine run_block ?_
  (repeat (first | with_reducible refine run_seq ?_ | with_reducible refine run_reg ?_ | with_reducible refine run_blk ?_ | with_reducible refine run_skip ?_ | with_reducible refine run_exit rfl ?_ | with_reducible refine run_drw ?_ | with_reducible refine run_condT ?_ | with_reducible refine run_ret' ?_ | with_reducible refine run_end' ?_ | simp only [go_sem, ↓reduceIte, Nat.reduceAdd, Nat.reduceEqDiff, Nat.reduceBEq, reduceCtorEq, Int.reduceBEq, Int.reduceBNe, Int.reduceLT, Int.reduceLE, h28, h21]))
  rw [fillL_one rfl rfl]
  (repeat (first | with_reducible refine run_seq ?_ | with_reducible refine run_reg ?_ | with_reducible refine run_block ?_ | with_reducible refine run_blk ?_ | with_reducible refine run_skip ?_ | with_reducible refine run_exit rfl ?_ | with_reducible refine run_drw ?_ | with_reducible refine run_condT ?_ | with_reducible refine run_ret' ?_ | with_reducible refine run_end' ?_ | simp only [go_sem, ↓reduceIte, Nat.reduceAdd, Nat.reduceEqDiff, Nat.reduceBEq, reduceCtorEq, Int.reduceBEq, Int.reduceBNe, Int.reduceLT, Int.reduceLE]))
  rw [fillL_one rfl rfl]
  (repeat (first | with_reducible refine run_seq ?_ | with_reducible refine run_reg ?_ | with_reducible refine run_block ?_ | with_reducible refine run_blk ?_ | with_reducible refine run_skip ?_ | with_reducible refine run_exit rfl ?_ | with_reducible refine run_drw ?_ | with_reducible refine run_condT ?_ | with_reducible refine run_ret' ?_ | with_reducible refine run_end' ?_ | simp only [go_sem, ↓reduceIte, Nat.reduceAdd, Nat.reduceEqDiff, Nat.reduceBEq, reduceCtorEq, Int.reduceBEq, Int.reduceBNe, Int.reduceLT, Int.reduceLE]))
  refine boxT fun q w4 hq hs4 hat4 ho4 => ?_
  (repeat (first | with_reducible refine run_seq ?_ | with_reducible refine run_reg ?_ | with_reducible refine run_block ?_ | with_reducible refine run_blk ?_ | with_reducible refine run_skip ?_ | with_reducible refine run_exit rfl ?_ | with_reducible refine run_drw ?_ | with_reducible refine run_condT ?_ | with_reducible refine run_ret' ?_ | with_reducible refine run_end' ?_ | simp only [go_sem, ↓reduceIte, Nat.reduceAdd, Nat.reduceEqDiff, Nat.reduceBEq, reduceCtorEq, Int.reduceBEq, Int.reduceBNe, Int.reduceLT, Int.reduceLE]))
  refine stNT hat4 rfl (by simp) (by simp [oneC]) fun w5 hs5 hat5 ho5 => ?_
  rw [setL_three] at hat5
  have hO5 : Only [] w3 w5 := ho4.trans ho5 fun x hx => .inr (by simp only [List.mem_singleton] at hx; omega)
  simp only [go_sem, ↓reduceIte, Nat.reduceAdd, Nat.reduceEqDiff, Nat.reduceBEq, reduceCtorEq, Int.reduceBEq, Int.reduceBNe, Int.reduceLT, Int.reduceLE]
  refine run_seq ?_
  refine run_cut (34 :: 35 :: 36 :: 37 :: 38 :: 39 :: 40 :: 41 :: []) (fun _ w' => Only [] w3 w' ∧ At w' q (plV (pl k i))) (fun kk hkk => ?_) (fun g6 w6 hJ6 => ?_)
  · by_cases hk0 : k = 0
    · subst hk0
      have b0 : ((0 : Nat) : Int) = 0 := rfl
      (repeat (first | with_reducible refine run_seq ?_ | with_reducible refine run_reg ?_ | with_reducible refine run_block ?_ | with_reducible refine run_blk ?_ | with_reducible refine run_skip ?_ | with_reducible refine run_exit rfl ?_ | with_reducible refine run_drw ?_ | with_reducible refine run_condT ?_ | with_reducible refine run_ret' ?_ | with_reducible refine run_end' ?_ | simp only [go_sem, ↓reduceIte, Nat.reduceAdd, Nat.reduceEqDiff, Nat.reduceBEq, reduceCtorEq, Int.reduceBEq, Int.reduceBNe, Int.reduceLT, Int.reduceLE, h21, h28, beq_int_true b0, divO_16, tdiv16 i (by omega), tmod16 i]))
      refine stT hat5 (by simp) rfl fun w6 hs6 hat6 ho6 => ?_
      (repeat (first | with_reducible refine run_seq ?_ | with_reducible refine run_reg ?_ | with_reducible refine run_block ?_ | with_reducible refine run_blk ?_ | with_reducible refine run_skip ?_ | with_reducible refine run_exit rfl ?_ | with_reducible refine run_drw ?_ | with_reducible refine run_condT ?_ | with_reducible refine run_ret' ?_ | with_reducible refine run_end' ?_ | simp only [go_sem, ↓reduceIte, Nat.reduceAdd, Nat.reduceEqDiff, Nat.reduceBEq, reduceCtorEq, Int.reduceBEq, Int.reduceBNe, Int.reduceLT, Int.reduceLE]))
      refine stT hat6 (by simp) rfl fun w7 hs7 hat7 ho7 => ?_
      (repeat (first | with_reducible refine run_seq ?_ | with_reducible refine run_reg ?_ | with_reducible refine run_block ?_ | with_reducible refine run_blk ?_ | with_reducible refine run_skip ?_ | with_reducible refine run_exit rfl ?_ | with_reducible refine run_drw ?_ | with_reducible refine run_condT ?_ | with_reducible refine run_ret' ?_ | with_reducible refine run_end' ?_ | simp only [go_sem, ↓reduceIte, Nat.reduceAdd, Nat.reduceEqDiff, Nat.reduceBEq, reduceCtorEq, Int.reduceBEq, Int.reduceBNe, Int.reduceLT, Int.reduceLE]))
      refine hkk _ w7 (by (repeat (first | with_reducible exact Keeps.refl _ _ | with_reducible exact Keeps.ovr _ _ _ | refine Keeps.put ?_ rfl _ | exact Keeps.refl _ _ | exact Keeps.ovr _ _ _ | refine Keeps.ovr2 ?_ rfl _))) ⟨(hO5.trans ho6 fun x hx => .inr ?_).trans ho7 fun x hx => .inr ?_, hat7⟩
      · simp only [List.mem_singleton] at hx; omega
      · simp only [List.mem_singleton] at hx; omega
    · (repeat (first | with_reducible refine run_seq ?_ | with_reducible refine run_reg ?_ | with_reducible refine run_block ?_ | with_reducible refine run_blk ?_ | with_reducible refine run_skip ?_ | with_reducible refine run_exit rfl ?_ | with_reducible refine run_drw ?_ | with_reducible refine run_condT ?_ | with_reducible refine run_ret' ?_ | with_reducible refine run_end' ?_ | simp only [go_sem, ↓reduceIte, Nat.reduceAdd, Nat.reduceEqDiff, Nat.reduceBEq, reduceCtorEq, Int.reduceBEq, Int.reduceBNe, Int.reduceLT, Int.reduceLE, h21, h28, beq_int_false (show ¬ (k : Int) = 0 by omega)]))
      refine hkk _ w5 (by (repeat (first | with_reducible exact Keeps.refl _ _ | with_reducible exact Keeps.ovr _ _ _ | refine Keeps.put ?_ rfl _ | exact Keeps.refl _ _ | exact Keeps.ovr _ _ _ | refine Keeps.ovr2 ?_ rfl _))) ⟨hO5, ?_⟩
      have : pl k i = ((k : Int), 0, (i : Int)) := by unfold pl; rw [if_neg hk0]
      rw [this]; exact hat5
  obtain ⟨hO6, hat6⟩ := hJ6
  have hR6 := hR3.keep0 hO6
  obtain ⟨g, cap, ys, hv, hfp, hrow, hcap⟩ := hR6.at hlt hilt
  rw [hv4] at hv
  cases hv
  have hgI : (ints (stg f (rowL s k) i) ++ ys)[i]? = some (.int .i64 ((rowL s k).getD i 0)) := by
    rw [ints_get ys (by rw [stg_length]; exact hilt), stg_get f hilt]
  have hcs : cellsAt w6 ⟨q, 0, none⟩ 3 = some (plV (pl k i)) := cellsAt_at hat6 0 3 (by simp [plV])
  have c2 : (0 : Int) ≤ (i : Int) ∧ (i : Int) < ((rowL s k).length : Int) := ⟨by omega, by omega⟩
  have ho6 : Only B w w6 := ho3.nil hO6
  have hat19 := hat3.keep0 hO6
  have hpl : (flB s k ++ fl k ((rowL s k).take i)).length ≤ 300 := by
    rw [List.length_append]
    have h1 := flB_length s k
    have h2 := fl_length k ((rowL s k).take i)
    have h3 : ((rowL s k).take i).length ≤ 64 := by rw [List.length_take]; omega
    have h4 : s.S.length ≤ 64 := hlen 0
    have h5 : s.G.length ≤ 64 := hlen 1
    have h6 : s.Q.length ≤ 64 := hlen 2
    omega
  refine run_seq ?_
  refine run_drt [g, q] ?_
  by_cases hz : (rowL s k).getD i 0 = 0
  · (repeat (first | with_reducible refine run_seq ?_ | with_reducible refine run_reg ?_ | with_reducible refine run_block ?_ | with_reducible refine run_blk ?_ | with_reducible refine run_skip ?_ | with_reducible refine run_exit rfl ?_ | with_reducible refine run_drw ?_ | with_reducible refine run_condT ?_ | with_reducible refine run_ret' ?_ | with_reducible refine run_end' ?_ | simp only [go_sem, ↓reduceIte, Nat.reduceAdd, Nat.reduceEqDiff, Nat.reduceBEq, reduceCtorEq, Int.reduceBEq, Int.reduceBNe, Int.reduceLT, Int.reduceLE, h21, h28, if_pos c2, Int.toNat_natCast, Nat.mul_one, hrow.cell, hgI, bne_int_false hz, hcs, i64_succ i (by omega)]))
    refine hnext' _ w6.drew ?_ ⟨i + 1, ?_, by omega, ?_, ho6.nil (Only.drew [] _), (hR6.keep0 (Only.drew [] _)).skip hf0 hilt hz, hat19⟩ ?_
    · (repeat (first | with_reducible exact Keeps.refl _ _ | with_reducible exact Keeps.ovr _ _ _ | refine Keeps.put ?_ rfl _ | exact Keeps.refl _ _ | exact Keeps.ovr _ _ _ | refine Keeps.ovr2 ?_ rfl _))
    · simp only [go_sem, ↓reduceIte, Nat.reduceAdd, Nat.reduceEqDiff, Nat.reduceBEq, reduceCtorEq, Int.reduceBEq, Int.reduceBNe, Int.reduceLT, Int.reduceLE]
    · rw [fl_succ k hilt, if_pos hz, List.append_nil]; exact ⟨F, hJk _ _ _ _ hJ3 (hO6.nil (Only.drew [] _)), hF, hFl⟩
    · rw [upTo_int h28, upTo_int (k := .i64) (i := i + 1) (by simp only [go_sem, ↓reduceIte, Nat.reduceAdd, Nat.reduceEqDiff, Nat.reduceBEq, reduceCtorEq, Int.reduceBEq, Int.reduceBNe, Int.reduceLT, Int.reduceLE])]; omega
  · (repeat (first | with_reducible refine run_seq ?_ | with_reducible refine run_reg ?_ | with_reducible refine run_block ?_ | with_reducible refine run_blk ?_ | with_reducible refine run_skip ?_ | with_reducible refine run_exit rfl ?_ | with_reducible refine run_drw ?_ | with_reducible refine run_condT ?_ | with_reducible refine run_ret' ?_ | with_reducible refine run_end' ?_ | simp only [go_sem, ↓reduceIte, Nat.reduceAdd, Nat.reduceEqDiff, Nat.reduceBEq, reduceCtorEq, Int.reduceBEq, Int.reduceBNe, Int.reduceLT, Int.reduceLE, h21, h28, if_pos c2, Int.toNat_natCast, Nat.mul_one, hrow.cell, hgI, bne_int_true hz, hcs]))
    refine yieldS (hY (flB s k ++ fl k ((rowL s k).take i)) F k i g _ w6.drew hlt hilt (hJk _ _ _ _ hJ3 (hO6.nil (Only.drew [] _))) hFl hpl (by have := ho6.size; exact this) (ho6.nil (Only.drew [] _)) (by rw [hfp]; simp) hrow hgI hz) ?_
    rintro v w7 ⟨rfl, ⟨F', hJ7, hF'⟩, hO7, hat7, hoth⟩
    have hd6 : w6.drew.heap.size = w6.heap.size := rfl
    have h19lt := hat19.lt
    have hz6 := ho6.size
    have hF19 : g19 ∉ F' := fun hx => (hF' _ hx).elim hF (fun h => by omega)
    have hFl' : ∀ x, x ∈ F' → w.heap.size ≤ x := fun x hx => (hF' x hx).elim (hFl x) (fun h => by omega)
    refine ⟨.inl rfl, ?_⟩
    (repeat (first | with_reducible refine run_seq ?_ | with_reducible refine run_reg ?_ | with_reducible refine run_block ?_ | with_reducible refine run_blk ?_ | with_reducible refine run_skip ?_ | with_reducible refine run_exit rfl ?_ | with_reducible refine run_drw ?_ | with_reducible refine run_condT ?_ | with_reducible refine run_ret' ?_ | with_reducible refine run_end' ?_ | simp only [go_sem, ↓reduceIte, Nat.reduceAdd, Nat.reduceEqDiff, Nat.reduceBEq, reduceCtorEq, Int.reduceBEq, Int.reduceBNe, Int.reduceLT, Int.reduceLE, h28, i64_succ i (by omega)]))
    refine hnext' _ w7 ?_ ⟨i + 1, ?_, by omega, ?_, (ho6.nil (Only.drew [] _)).trans hO7 (fun x hx => (List.mem_append.1 hx).imp id (hFl x)), ?_, (hat19.drew).keep hO7 (by simp only [List.mem_append, not_or]; exact ⟨hg19B, hF⟩)⟩ ?_
    · (repeat (first | with_reducible exact Keeps.refl _ _ | with_reducible exact Keeps.ovr _ _ _ | refine Keeps.put ?_ rfl _ | exact Keeps.refl _ _ | exact Keeps.ovr _ _ _ | refine Keeps.ovr2 ?_ rfl _))
    · simp only [go_sem, ↓reduceIte, Nat.reduceAdd, Nat.reduceEqDiff, Nat.reduceBEq, reduceCtorEq, Int.reduceBEq, Int.reduceBNe, Int.reduceLT, Int.reduceLE]
    · rw [fl_succ k hilt, if_neg hz, ← List.append_assoc]; exact ⟨F', hJ7, hF19, hFl'⟩
    · exact (hR6.keep0 (Only.drew [] _)).step hp.nd hlt hilt hv4 hfp hcap hat7 hoth
    · rw [upTo_int h28, upTo_int (k := .i64) (i := i + 1) (by simp only [go_sem, ↓reduceIte, Nat.reduceAdd, Nat.reduceEqDiff, Nat.reduceBEq, reduceCtorEq, Int.reduceBEq, Int.reduceBNe, Int.reduceLT, Int.reduceLE])]; omega
end Go.Proofs.Ytblfmacnkacalaa
