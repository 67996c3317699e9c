/- The keys of a set, sorted. -/
import Derived.Test.YtgcofabdialaaaaGreatSlG
import Derived.Test.YtgcofabdialaaaaGreatLay
import Derived.Shelf.Slices.In.SortNone
namespace Go.Proofs.YtgcofabdialaaaaGreat
set_option linter.unusedSimpArgs false
set_option linter.unusedVariables false
set_option maxRecDepth 8000

def sortI (zs : List Int) : List Int := zs.mergeSort fun x y => decide (x ≤ y)
theorem sortI_len (zs : List Int) : (sortI zs).length = zs.length := by simp [sortI]
theorem Sl.oneC' {w : World} {sz : Nat} {v : Value} {n : Nat} {xs : List Value} {fp : List Nat} (h : Sl w sz v n xs fp) : oneC v = true := by
  obtain ⟨a, c, rfl⟩ := h.val; rfl
theorem putCells_ints {zs ss : List Int} {ys : List Value} (hl : ss.length = zs.length) : Go.Sort.putCells (Value.int .i64) 0 ss.toArray ⟨ints zs ++ ys⟩ = ⟨ints ss ++ ys⟩ := by
  apply Array.ext'
  unfold Go.Sort.putCells
  rw [Array.toList_mapIdx]
  apply List.ext_getElem?
  intro i
  rw [List.getElem?_mapIdx]
  by_cases hi : i < ss.length
  · have e1 : (ints zs ++ ys)[i]? = some (.int .i64 (zs.getD i 0)) := ints_append_get ys (by omega)
    have e2 : (ints ss ++ ys)[i]? = some (.int .i64 (ss.getD i 0)) := ints_append_get ys hi
    rw [e1, e2]
    simp only [Option.map_some, Nat.zero_le, true_and, Nat.zero_add, List.size_toArray, if_pos hi, Nat.sub_zero]
    simp [hi]
  · have e1 : (ints zs ++ ys)[i]? = (ints ss ++ ys)[i]? := by
      rw [List.getElem?_append_right (by rw [ints_length]; omega), List.getElem?_append_right (by rw [ints_length]; omega), ints_length, ints_length, hl]
    rw [← e1]
    cases (ints zs ++ ys)[i]? with
    | none => rfl
    | some v => simp [hi]
theorem hSort {w : World} {g cap : Nat} {zs : List Int} {ys : List Value} (h : At w g (ints zs ++ ys)) (hsz : zs.length ≤ 1000000) : Cs Tryz.prog 187 [.slice (some ⟨g, 0, none⟩) zs.length cap] w fun v w' => v = .tuple #[] ∧ Only [g] w w' ∧ At w' g (ints (sortI zs) ++ ys) := by
  have hlt := h.lt
  have hH : Go.Sort.Holds (Value.int .i64) w g 0 zs.toArray := by
    intro j hj
    have hj' : j < zs.length := by simpa using hj
    refine ⟨?_, h.free _⟩
    rw [Nat.zero_add, h.cell, ints_append_get ys hj']
    simp [hj']
  have hc := Any.slices_Sort_int lays189 g 0 cap zs w hH hlt (by omega)
  refine Calls.mono (show Calls Tryz.prog 187 #[.slice (some ⟨g, 0, none⟩) zs.length cap] w _ from hc) ?_
  rintro e w' ⟨rfl, n, os, rfl⟩
  obtain ⟨T, hT⟩ := h
  have hsz0 : (Go.Sort.putRow (Value.int .i64) (Go.Sort.ahead w n) g 0 (zs.mergeSort fun x y => decide (x ≤ y)).toArray).heap.size = w.heap.size := by simp [Go.Sort.ahead]
  refine ⟨_, rfl, rfl, ⟨rfl, rfl, rfl, by simp only [Go.Sort.grow, Array.size_append]; omega, fun k hk hn => ?_⟩, T, ?_⟩
  · simp only [List.mem_singleton] at hn
    simp only [Go.Sort.grow]
    rw [Array.getElem?_append_left (by rw [hsz0]; exact hk)]
    simp only [Go.Sort.putRow, Go.Sort.mapBlock, Go.Sort.ahead, Array.getElem?_modify, if_neg (Ne.symm hn)]
  · simp only [Go.Sort.grow]
    rw [Array.getElem?_append_left (by rw [hsz0]; exact hlt)]
    simp only [Go.Sort.putRow, Go.Sort.mapBlock, Go.Sort.ahead, Array.getElem?_modify, if_true, hT, Option.map_some, Go.Sort.onCells]
    show some (Obj.cells (Go.Sort.putCells (Value.int .i64) 0 (sortI zs).toArray ⟨ints zs ++ ys⟩) T (0, 0)) = _
    rw [putCells_ints (sortI_len zs)]
theorem hSortN {w : World} (p : Option Addr) (cap : Nat) : Cs Tryz.prog 187 [.slice p 0 cap] w fun v w' => v = .tuple #[] ∧ w' = w := by
  have hc := Any.slices_Sort_int_none lays189 p cap w
  refine Calls.mono (show Calls Tryz.prog 187 #[.slice p 0 cap] w _ from hc) ?_
  rintro e w' ⟨rfl, rfl⟩
  exact ⟨_, rfl, rfl, rfl⟩

def IM.keys (m : IM) : List Int := m.map (·.1)
theorem filter_perm {m : IM} (hn : (m.map (·.1)).Nodup) {p : Int × Value} (hp : p ∈ m) : m.Perm (p :: m.filter fun q => q.1 != p.1) := by
  induction m with
  | nil => cases hp
  | cons x m ih =>
    simp only [List.map_cons, List.nodup_cons] at hn
    rcases List.mem_cons.1 hp with rfl | hp
    · have : (p :: m).filter (fun q => q.1 != p.1) = m := by
        rw [List.filter_cons, if_neg (by simp)]
        apply List.filter_eq_self.2
        intro q hq
        simp only [bne_iff_ne, ne_eq]
        intro e
        exact hn.1 (by rw [← e]; exact List.mem_map.2 ⟨q, hq, rfl⟩)
      rw [this]
    · have hne : x.1 ≠ p.1 := fun e => hn.1 (by rw [e]; exact List.mem_map.2 ⟨p, hp, rfl⟩)
      rw [List.filter_cons, if_pos (by simpa using hne)]
      exact ((ih hn.2 hp).cons x).trans (List.Perm.swap p x _)
theorem filter_nodup {m : IM} (hn : (m.map (·.1)).Nodup) (f : Int × Value → Bool) : ((m.filter f).map (·.1)).Nodup := List.Sublist.nodup (List.Sublist.map _ List.filter_sublist) hn

/-- a range over a function, its parts under names -/
theorem run_rngE {P : Program} {f : FX} {kx : List XI} {ρ : Env} {w : World} {R : Value → World → Prop} {g : Operand} {ps : List Nat} {xa xb : XCode} {it : Nat} {caps : List Value} (hro : f.ro = none) (hds : f.ds = []) (hg : ev ρ g = .func (.func it) #[] ⟨caps⟩) (hok : okF P it = true)
    (h : ∀ ρ' ps' xa' xb', ρ' = ρ → ps' = ps → xa' = xa → xb' = xb → ∀ D l w1, D = w.heap.size → l = w.heap.size + 1 → w1.heap.size = w.heap.size + 2 → Only [] w w1 → w1.heap[D]? = some (.deferred (some [])) → LoopAt P f l w1 ρ' ps' xa' xb' .ready D →
      Cs P it (.func (.yield l) #[] #[] :: caps) w1 fun _ w2 => LoopAt P f l w2 ρ' ps' xa' xb' .ready D ∧
        ∀ w3, w3.heap.size = w2.heap.size → Only [l] w2 w3 → Run P { f with ds := [{ target := .collected D, args := #[] }] } kx ρ w3 R) :
    Run P f (.code (.rng g ps xa xb) :: kx) ρ w R := run_rng hro hds hg hok (h ρ ps xa xb rfl rfl rfl rfl)
theorem ys_runE {P : Program} {f : FX} {l : Nat} {ρ ρ' : Env} {w : World} {ps ps' : List Nat} {xa xb xa' xb' : XCode} {D : Nat} {args : List Value} {K : Value → World → Prop} (e1 : ρ' = ρ) (e2 : ps' = ps) (e3 : xa' = xa) (e4 : xb' = xb) (hf : f.ok P) (hl : LoopAt P f l w ρ' ps' xa' xb' .ready D) (hn : ps.length = args.length)
    (h : Run P { f with ro := some l, ds := [] } [.code xa, .bgn, .code xb] (putL ρ ps args) w K) : Ys P l args w K := by
  subst e1; subst e2; subst e3; subst e4
  exact ys_run hf hl hn h
theorem hAppendSeq {w : World} {q b : Nat} {m : IM} (hq : At w q [.map (some b)]) (hm : MpAt w b m) (hlen : m.length ≤ 100000) :
    Cs Tryz.prog 222 [.slice none 0 0, .func (.func 188) #[] #[.pointer (some ⟨q, 0, none⟩)]] w fun v w' => Only [] w w' ∧ ∃ xs fp, Sl w' 1 v xs.length (ints xs) fp ∧ (∀ x, x ∈ fp → w.heap.size ≤ x) ∧ xs.Perm m.keys := by
  refine enter_slices_AppendSeq___int_int_ rfl ?_
  unfold x_slices_AppendSeq___int_int_
  have hqlt := hq.lt
  have hblt := hm.lt
  (repeat (first | with_reducible refine run_seq ?_ | with_reducible refine run_reg ?_ | with_reducible refine run_block ?_ | with_reducible refine run_blk ?_ | with_reducible refine run_skip ?_ | with_reducible refine run_exit rfl ?_ | with_reducible refine run_drw ?_ | with_reducible refine run_condT ?_ | with_reducible refine run_ret' ?_ | with_reducible refine run_end' ?_ | simp only [go_sem, ↓reduceIte, Nat.reduceAdd, Nat.reduceEqDiff, Nat.reduceBEq, reduceCtorEq, Int.reduceBEq, Int.reduceBNe, Int.reduceLT, Int.reduceLE]))
  refine boxT fun q3 w1 hq3 hs1 hat1 ho1 => ?_
  (repeat (first | with_reducible refine run_seq ?_ | with_reducible refine run_reg ?_ | with_reducible refine run_block ?_ | with_reducible refine run_blk ?_ | with_reducible refine run_skip ?_ | with_reducible refine run_exit rfl ?_ | with_reducible refine run_drw ?_ | with_reducible refine run_condT ?_ | with_reducible refine run_ret' ?_ | with_reducible refine run_end' ?_ | simp only [go_sem, ↓reduceIte, Nat.reduceAdd, Nat.reduceEqDiff, Nat.reduceBEq, reduceCtorEq, Int.reduceBEq, Int.reduceBNe, Int.reduceLT, Int.reduceLE]))
  refine run_rngE (it := 188) (caps := [.pointer (some ⟨q, 0, none⟩)]) rfl rfl (by simp only [go_sem, ↓reduceIte, Nat.reduceAdd, Nat.reduceEqDiff, Nat.reduceBEq, reduceCtorEq, Int.reduceBEq, Int.reduceBNe, Int.reduceLT, Int.reduceLE]) (by kernel_rfl) fun ρ' ps' xa' xb' q1 q2 q5 q6 D l w3 hD hl hs3 ho3 hdef hloop => ?_
  have hO3 : Only [] w w3 := ho1.nil ho3
  refine Cs.mono (R := fun _ w4 => LoopAt Tryz.prog fx_slices_AppendSeq___int_int_ l w4 ρ' ps' xa' xb' .ready D ∧ w4.heap[D]? = some (.deferred (some [])) ∧ ∃ v xs F, At w4 q3 [v] ∧ Sl w4 1 v xs.length (ints xs) F ∧ (∀ x, x ∈ F → w3.heap.size ≤ x) ∧ xs.Perm m.keys ∧ Only [q3, l] w3 w4) ?_ ?_
  · -- the iterator
    refine enter_maps_Keys_barrier_set_int_struct____1 rfl ?_
    unfold x_maps_Keys_barrier_set_int_struct____1
    (repeat (first | with_reducible refine run_seq ?_ | with_reducible refine run_reg ?_ | with_reducible refine run_block ?_ | with_reducible refine run_blk ?_ | with_reducible refine run_skip ?_ | with_reducible refine run_exit rfl ?_ | with_reducible refine run_drw ?_ | with_reducible refine run_condT ?_ | with_reducible refine run_ret' ?_ | with_reducible refine run_end' ?_ | simp only [go_sem, ↓reduceIte, Nat.reduceAdd, Nat.reduceEqDiff, Nat.reduceBEq, reduceCtorEq, Int.reduceBEq, Int.reduceBNe, Int.reduceLT, Int.reduceLE, (hq.keep0 hO3).cell]))
    refine rangeT Tryz.underlying75 (hm.keep0 hO3) fun r w5 hr hs5 hit5 ho5 => ?_
    (repeat (first | with_reducible refine run_seq ?_ | with_reducible refine run_reg ?_ | with_reducible refine run_block ?_ | with_reducible refine run_blk ?_ | with_reducible refine run_skip ?_ | with_reducible refine run_exit rfl ?_ | with_reducible refine run_drw ?_ | with_reducible refine run_condT ?_ | with_reducible refine run_ret' ?_ | with_reducible refine run_end' ?_ | simp only [go_sem, ↓reduceIte, Nat.reduceAdd, Nat.reduceEqDiff, Nat.reduceBEq, reduceCtorEq, Int.reduceBEq, Int.reduceBNe, Int.reduceLT, Int.reduceLE]))
    refine run_loop (3 :: 6 :: 7 :: 8 :: 9 :: 10 :: 11 :: 12 :: 13 :: []) (fun _ w' => ∃ (left : IM) (v : Value) (xs : List Int) (F : List Nat), ItAt w' r b m left ∧ (left.map (·.1)).Nodup ∧ LoopAt Tryz.prog fx_slices_AppendSeq___int_int_ l w' ρ' ps' xa' xb' .ready D ∧ w'.heap[D]? = some (.deferred (some [])) ∧ At w' q3 [v] ∧ Sl w' 1 v xs.length (ints xs) F ∧ (∀ x, x ∈ F → w5.heap.size ≤ x) ∧ (xs ++ left.map (·.1)).Perm m.keys ∧ Only [q3, l] w3 w') (fun _ w' => itLeft w' r b)
      ⟨m, _, [], [], hit5, hm.nodup, hloop.keep ho5 (by simp), ?_, (hat1.keep0 ho3).keep0 ho5, Sl.nil1 w5, by simp, by simp [IM.keys], ho5.of_nil⟩ fun g w' hI hnext => ?_
    · rw [ho5.block D (Array.getElem?_eq_some_iff.1 hdef).1 (by simp)]; exact hdef
    obtain ⟨left, v, xs, F, hit, hnd, k1, k2, k4, k5, hFl, hperm, hO⟩ := hI
    have l1 := k1.lt
    have l2 := (Array.getElem?_eq_some_iff.1 k2).1
    have l4 := k4.lt
    have lr := hit.ltr
    have hFo : ∀ x, x ∈ F → x ≠ l ∧ x ≠ q3 ∧ x ≠ D ∧ x ≠ r ∧ x ≠ b := fun x hx => by have := hFl x hx; exact ⟨by omega, by omega, by omega, by omega, by omega⟩
    have hlen2 : xs.length + left.length = m.length := by
      have := hperm.length_eq
      simpa [IM.keys] using this
    (repeat (first | with_reducible refine run_seq ?_ | with_reducible refine run_reg ?_ | with_reducible refine run_block ?_ | with_reducible refine run_blk ?_ | with_reducible refine run_skip ?_ | with_reducible refine run_exit rfl ?_ | with_reducible refine run_drw ?_ | with_reducible refine run_condT ?_ | with_reducible refine run_ret' ?_ | with_reducible refine run_end' ?_ | simp only [go_sem, ↓reduceIte, Nat.reduceAdd, Nat.reduceEqDiff, Nat.reduceBEq, reduceCtorEq, Int.reduceBEq, Int.reduceBNe, Int.reduceLT, Int.reduceLE]))
    refine nextT hit (fun h0 => ?_) (fun p w6 hp hs6 ho6 hit6 hen6 => ?_)
    · subst h0
      (repeat (first | with_reducible refine run_seq ?_ | with_reducible refine run_reg ?_ | with_reducible refine run_block ?_ | with_reducible refine run_blk ?_ | with_reducible refine run_skip ?_ | with_reducible refine run_exit rfl ?_ | with_reducible refine run_drw ?_ | with_reducible refine run_condT ?_ | with_reducible refine run_ret' ?_ | with_reducible refine run_end' ?_ | simp only [go_sem, ↓reduceIte, Nat.reduceAdd, Nat.reduceEqDiff, Nat.reduceBEq, reduceCtorEq, Int.reduceBEq, Int.reduceBNe, Int.reduceLT, Int.reduceLE]))
      exact ⟨k1, k2, v, xs, F, k4, k5, fun x hx => by have := hFl x hx; omega, by simpa using hperm, hO⟩
    · (repeat (first | with_reducible refine run_seq ?_ | with_reducible refine run_reg ?_ | with_reducible refine run_block ?_ | with_reducible refine run_blk ?_ | with_reducible refine run_skip ?_ | with_reducible refine run_exit rfl ?_ | with_reducible refine run_drw ?_ | with_reducible refine run_condT ?_ | with_reducible refine run_ret' ?_ | with_reducible refine run_end' ?_ | simp only [go_sem, ↓reduceIte, Nat.reduceAdd, Nat.reduceEqDiff, Nat.reduceBEq, reduceCtorEq, Int.reduceBEq, Int.reduceBNe, Int.reduceLT, Int.reduceLE]))
      refine entryT hen6 ?_
      have k16 := k1.keep ho6 (by simp; omega)
      have k46 := k4.keep ho6 (by simp; omega)
      have k56 := k5.keep ho6 (fun x hx => by simpa using (hFo x hx).2.2.2.1)
      have k26 : w6.heap[D]? = some (.deferred (some [])) := by rw [ho6.block D l2 (by simp; omega)]; exact k2
      (repeat (first | with_reducible refine run_seq ?_ | with_reducible refine run_reg ?_ | with_reducible refine run_block ?_ | with_reducible refine run_blk ?_ | with_reducible refine run_skip ?_ | with_reducible refine run_exit rfl ?_ | with_reducible refine run_drw ?_ | with_reducible refine run_condT ?_ | with_reducible refine run_ret' ?_ | with_reducible refine run_end' ?_ | simp only [go_sem, ↓reduceIte, Nat.reduceAdd, Nat.reduceEqDiff, Nat.reduceBEq, reduceCtorEq, Int.reduceBEq, Int.reduceBNe, Int.reduceLT, Int.reduceLE]))
      refine yieldT (R := fun u w9 => u = .bool true ∧ LoopAt Tryz.prog fx_slices_AppendSeq___int_int_ l w9 ρ' ps' xa' xb' .ready D ∧ ∃ v' F', At w9 q3 [v'] ∧ Sl w9 1 v' (xs ++ [p.1]).length (ints (xs ++ [p.1])) F' ∧ (∀ x, x ∈ F' → x ∈ F ∨ w6.heap.size ≤ x) ∧ Only ([q3, l] ++ F) w6 w9) ?_ ?_
      · refine ys_runE q1 q2 q5 q6 ok_slices_AppendSeq___int_int_ k16 rfl ?_
        (repeat (first | with_reducible refine run_seq ?_ | with_reducible refine run_reg ?_ | with_reducible refine run_block ?_ | with_reducible refine run_blk ?_ | with_reducible refine run_skip ?_ | with_reducible refine run_exit rfl ?_ | with_reducible refine run_drw ?_ | with_reducible refine run_condT ?_ | with_reducible refine run_ret' ?_ | with_reducible refine run_end' ?_ | simp only [go_sem, ↓reduceIte, Nat.reduceAdd, Nat.reduceEqDiff, Nat.reduceBEq, reduceCtorEq, Int.reduceBEq, Int.reduceBNe, Int.reduceLT, Int.reduceLE]))
        refine run_bgn (l := l) rfl k16 fun w7 hs7 ho7 hl7 => ?_
        have hq3l : q3 ≠ l := by omega
        have k47 := k46.keep ho7 (by simpa using hq3l)
        have k57 := k56.keep ho7 (fun x hx => by simpa using (hFo x hx).1)
        (repeat (first | with_reducible refine run_seq ?_ | with_reducible refine run_reg ?_ | with_reducible refine run_block ?_ | with_reducible refine run_blk ?_ | with_reducible refine run_skip ?_ | with_reducible refine run_exit rfl ?_ | with_reducible refine run_drw ?_ | with_reducible refine run_condT ?_ | with_reducible refine run_ret' ?_ | with_reducible refine run_end' ?_ | simp only [go_sem, ↓reduceIte, Nat.reduceAdd, Nat.reduceEqDiff, Nat.reduceBEq, reduceCtorEq, Int.reduceBEq, Int.reduceBNe, Int.reduceLT, Int.reduceLE, k47.cell]))
        rw [fillL_one rfl rfl]
        (repeat (first | with_reducible refine run_seq ?_ | with_reducible refine run_reg ?_ | with_reducible refine run_block ?_ | with_reducible refine run_blk ?_ | with_reducible refine run_skip ?_ | with_reducible refine run_exit rfl ?_ | with_reducible refine run_drw ?_ | with_reducible refine run_condT ?_ | with_reducible refine run_ret' ?_ | with_reducible refine run_end' ?_ | simp only [go_sem, ↓reduceIte, Nat.reduceAdd, Nat.reduceEqDiff, Nat.reduceBEq, reduceCtorEq, Int.reduceBEq, Int.reduceBNe, Int.reduceLT, Int.reduceLE]))
        refine bslT fun q8 w8 hq8 hs8 hat8 ho8 => ?_
        (repeat (first | with_reducible refine run_seq ?_ | with_reducible refine run_reg ?_ | with_reducible refine run_block ?_ | with_reducible refine run_blk ?_ | with_reducible refine run_skip ?_ | with_reducible refine run_exit rfl ?_ | with_reducible refine run_drw ?_ | with_reducible refine run_condT ?_ | with_reducible refine run_ret' ?_ | with_reducible refine run_end' ?_ | simp only [go_sem, ↓reduceIte, Nat.reduceAdd, Nat.reduceEqDiff, Nat.reduceBEq, reduceCtorEq, Int.reduceBEq, Int.reduceBNe, Int.reduceLT, Int.reduceLE]))
        refine appT (k57.keep0 ho8) (SrcIs.at hat8 rfl) (by simp [oneC]) (by omega) (by omega) ?_
        intro v' w9 F' hs9 hF' ho9 _
        have hq3F : q3 ∉ F := fun hx => (hFo q3 hx).2.1 rfl
        have k49 := (k47.keep0 ho8).keep ho9 hq3F
        (repeat (first | with_reducible refine run_seq ?_ | with_reducible refine run_reg ?_ | with_reducible refine run_block ?_ | with_reducible refine run_blk ?_ | with_reducible refine run_skip ?_ | with_reducible refine run_exit rfl ?_ | with_reducible refine run_drw ?_ | with_reducible refine run_condT ?_ | with_reducible refine run_ret' ?_ | with_reducible refine run_end' ?_ | simp only [go_sem, ↓reduceIte, Nat.reduceAdd, Nat.reduceEqDiff, Nat.reduceBEq, reduceCtorEq, Int.reduceBEq, Int.reduceBNe, Int.reduceLT, Int.reduceLE]))
        refine stT k49 (by simp) hs9.oneC' fun w10 hs10 hat10 ho10 => ?_
        (repeat (first | with_reducible refine run_seq ?_ | with_reducible refine run_reg ?_ | with_reducible refine run_block ?_ | with_reducible refine run_blk ?_ | with_reducible refine run_skip ?_ | with_reducible refine run_exit rfl ?_ | with_reducible refine run_drw ?_ | with_reducible refine run_condT ?_ | with_reducible refine run_ret' ?_ | with_reducible refine run_end' ?_ | simp only [go_sem, ↓reduceIte, Nat.reduceAdd, Nat.reduceEqDiff, Nat.reduceBEq, reduceCtorEq, Int.reduceBEq, Int.reduceBNe, Int.reduceLT, Int.reduceLE]))
        have hF'm : ∀ x, x ∈ F' → x ∈ F ∨ w6.heap.size ≤ x := by
          intro x hx
          rcases hF' with rfl | rfl
          · exact .inl hx
          · simp only [List.mem_singleton] at hx; right; omega
        have hF'o : ∀ x, x ∈ F' → x ≠ l ∧ x ≠ q3 := fun x hx => (hF'm x hx).elim (fun h => ⟨(hFo x h).1, (hFo x h).2.1⟩) (fun h => ⟨by omega, by omega⟩)
        have hlF : l ∉ F := fun hx => (hFo l hx).1 rfl
        have hl10 := (((hl7.keep ho8 (by simp)).keep ho9 hlF).keep ho10 (by simpa using fun e : l = q3 => hq3l e.symm))
        refine run_endR (l := l) rfl hl10 fun w11 hs11 ho11 hl11 => ?_
        have hO' : Only ([q3, l] ++ F) w6 w11 := by
          refine ((((ho7.mono ?_).same ho8.of_nil).same (ho9.mono ?_)).same (ho10.mono ?_)).same (ho11.mono ?_)
          · intro x hx; simp only [List.mem_singleton] at hx; subst hx; exact .inl (by simp)
          · intro x hx; exact .inl (by simp [hx])
          · intro x hx; simp only [List.mem_singleton] at hx; subst hx; exact .inl (by simp)
          · intro x hx; simp only [List.mem_singleton] at hx; subst hx; exact .inl (by simp)
        refine ⟨rfl, hl11, v', F', hat10.keep ho11 (by simpa using hq3l), ?_, hF'm, hO'⟩
        have := (hs9.keep ho10 (fun x hx => by simpa using (hF'o x hx).2)).keep ho11 (fun x hx => by simpa using (hF'o x hx).1)
        rw [ints_append, List.length_append]
        exact this
      · rintro u w9 ⟨rfl, k19, v', F', k49, k59, hF', ho9⟩
        (repeat (first | with_reducible refine run_seq ?_ | with_reducible refine run_reg ?_ | with_reducible refine run_block ?_ | with_reducible refine run_blk ?_ | with_reducible refine run_skip ?_ | with_reducible refine run_exit rfl ?_ | with_reducible refine run_drw ?_ | with_reducible refine run_condT ?_ | with_reducible refine run_ret' ?_ | with_reducible refine run_end' ?_ | simp only [go_sem, ↓reduceIte, Nat.reduceAdd, Nat.reduceEqDiff, Nat.reduceBEq, reduceCtorEq, Int.reduceBEq, Int.reduceBNe, Int.reduceLT, Int.reduceLE]))
        have hz6 : w6.heap.size = w'.heap.size := hs6
        have off : ∀ x, x ≠ q3 → x ≠ l → x < w5.heap.size → x ∉ [q3, l] ++ F := fun x h1 h2 h3 hx => by
          rcases List.mem_append.1 hx with h | h
          · simp only [List.mem_cons, List.not_mem_nil, or_false] at h; omega
          · have := hFl x h; omega
        have hz5 := hO.size
        refine hnext _ w9 ?_ ⟨left.filter (fun q => q.1 != p.1), v', xs ++ [p.1], F', hit6.keep ho9 (off r (by omega) (by omega) (by omega)) (off b (by omega) (by omega) (by omega)), filter_nodup hnd _, k19, ?_, k49, k59, ?_, ?_, ?_⟩ ?_
        · (repeat (first | with_reducible exact Keeps.refl _ _ | with_reducible exact Keeps.ovr _ _ _ | refine Keeps.put ?_ rfl _ | exact Keeps.refl _ _ | exact Keeps.ovr _ _ _ | refine Keeps.ovr2 ?_ rfl _))
        · rw [ho9.block D (by omega) (off D (by omega) (by omega) (by omega))]; exact k26
        · intro x hx
          rcases hF' x hx with h | h
          · exact hFl x h
          · have := hit.map.lt
            have h1 := (Array.getElem?_eq_some_iff.1 k2).1
            have h2 : w5.heap.size ≤ w'.heap.size := by omega
            omega
        · have h1 := (filter_perm hnd hp).map (·.1)
          have h2 : (xs ++ [p.1] ++ (left.filter fun q => q.1 != p.1).map (·.1)).Perm (xs ++ left.map (·.1)) := by
            rw [List.append_assoc]
            exact (List.Perm.append_left xs h1).symm
          exact h2.trans hperm
        · refine (hO.trans ho6 fun x hx => .inr ?_).trans ho9 fun x hx => ?_
          · simp only [List.mem_singleton] at hx; omega
          · rcases List.mem_append.1 hx with h | h
            · exact .inl h
            · exact .inr (by have := hFl x h; omega)
        · have e1 := (hit6.keep ho9 (off r (by omega) (by omega) (by omega)) (off b (by omega) (by omega) (by omega))).left
          rw [e1, hit.left]
          have := (filter_perm hnd hp).length_eq
          simp only [List.length_cons] at this
          omega
  · rintro _ w4 ⟨k1, k2, v, xs, F, k4, k5, hFl, hperm, hO4⟩
    refine ⟨k1, fun w5 hs5 ho5 => ?_⟩
    have hq3l : q3 ≠ l := by omega
    have hz3 := hO3.size
    have hFo : ∀ x, x ∈ F → x ≠ l ∧ x ≠ q3 ∧ x ≠ D := fun x hx => by have := hFl x hx; exact ⟨by omega, by omega, by omega⟩
    have k45 := k4.keep ho5 (by simpa using hq3l)
    have k55 := k5.keep ho5 (fun x hx => by simpa using (hFo x hx).1)
    have hD5 : w5.heap[D]? = some (.deferred (some [])) := by rw [ho5.block D (Array.getElem?_eq_some_iff.1 k2).1 (by simp; omega)]; exact k2
    (repeat (first | with_reducible refine run_seq ?_ | with_reducible refine run_reg ?_ | with_reducible refine run_block ?_ | with_reducible refine run_blk ?_ | with_reducible refine run_skip ?_ | with_reducible refine run_exit rfl ?_ | with_reducible refine run_drw ?_ | with_reducible refine run_condT ?_ | with_reducible refine run_ret' ?_ | with_reducible refine run_end' ?_ | simp only [go_sem, ↓reduceIte, Nat.reduceAdd, Nat.reduceEqDiff, Nat.reduceBEq, reduceCtorEq, Int.reduceBEq, Int.reduceBNe, Int.reduceLT, Int.reduceLE, k45.cell]))
    refine run_retM' hD5 fun w6 hs6 ho6 => ?_
    (repeat (first | with_reducible refine run_seq ?_ | with_reducible refine run_reg ?_ | with_reducible refine run_block ?_ | with_reducible refine run_blk ?_ | with_reducible refine run_skip ?_ | with_reducible refine run_exit rfl ?_ | with_reducible refine run_drw ?_ | with_reducible refine run_condT ?_ | with_reducible refine run_ret' ?_ | with_reducible refine run_end' ?_ | simp only [go_sem, ↓reduceIte, Nat.reduceAdd, Nat.reduceEqDiff, Nat.reduceBEq, reduceCtorEq, Int.reduceBEq, Int.reduceBNe, Int.reduceLT, Int.reduceLE]))
    have hO6 : Only [] w w6 := by
      refine ((hO3.trans hO4 fun x hx => .inr ?_).trans ho5 fun x hx => .inr ?_).trans ho6 fun x hx => .inr ?_
      · simp only [List.mem_cons, List.not_mem_nil, or_false] at hx; omega
      · simp only [List.mem_singleton] at hx; omega
      · simp only [List.mem_singleton] at hx; omega
    exact ⟨hO6, xs, F, k55.keep ho6 (fun x hx => by simpa using (hFo x hx).2.2), fun x hx => by have := hFl x hx; omega, hperm⟩
end Go.Proofs.YtgcofabdialaaaaGreat
