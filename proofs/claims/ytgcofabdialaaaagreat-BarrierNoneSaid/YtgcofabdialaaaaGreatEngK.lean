/- The engine, part K: maps with integer keys, as lists of pairs. My own; no program in sight. -/
import Derived.Test.YtgcofabdialaaaaGreatEngJ
import Derived.MapKept
import Derived.Maps.RangeRun
namespace Go.Proofs.YtgcofabdialaaaaGreat
set_option linter.unusedSimpArgs false
set_option linter.unusedVariables false
open Go.MapKept Go.ChangeMaps

abbrev IM := List (Int × Value)
def getM : IM → Int → Option Value
  | [], _ => none
  | p :: m, k => if p.1 = k then some p.2 else getM m k
def putM : IM → Int → Value → IM
  | [], k, v => [(k, v)]
  | p :: m, k, v => if p.1 = k then (k, v) :: m else p :: putM m k v
def delM : IM → Int → IM
  | [], _ => []
  | p :: m, k => if p.1 = k then m else p :: delM m k
theorem M_at : ∀ {m : IM} {j : Nat} {k : Int} {x : Value} (v : Value), (m.map (·.1)).Nodup → m[j]? = some (k, x) → getM m k = some x ∧ putM m k v = m.set j (k, v) ∧ delM m k = m.eraseIdx j
  | [], j, k, x, v, _, h => by simp at h
  | p :: m, 0, k, x, v, _, h => by
    simp only [List.getElem?_cons_zero, Option.some.injEq] at h
    subst h
    simp [getM, putM, delM]
  | p :: m, j + 1, k, x, v, hn, h => by
    simp only [List.getElem?_cons_succ] at h
    simp only [List.map_cons, List.nodup_cons] at hn
    have hne : p.1 ≠ k := fun e => hn.1 (by rw [e]; exact List.mem_map.2 ⟨_, List.mem_of_getElem? h, rfl⟩)
    obtain ⟨h1, h2, h3⟩ := M_at (m := m) (j := j) (x := x) v hn.2 h
    simp [getM, putM, delM, hne, h1, h2, h3]
theorem M_no : ∀ {m : IM} {k : Int} (v : Value), (∀ p, p ∈ m → p.1 ≠ k) → getM m k = none ∧ putM m k v = m ++ [(k, v)] ∧ delM m k = m
  | [], k, v, _ => ⟨rfl, rfl, rfl⟩
  | p :: m, k, v, h => by
    have hne := h p (by simp)
    obtain ⟨h1, h2, h3⟩ := M_no (m := m) v fun q hq => h q (by simp [hq])
    simp [getM, putM, delM, hne, h1, h2, h3]

/-- the entries are the pairs -/
def MEs (es : List MapEntry) (m : IM) : Prop := es.map (fun e => (e.key, e.val)) = m.map fun p => (Value.int .i64 p.1, p.2)
theorem MEs.keys {es : List MapEntry} {m : IM} (h : MEs es m) : es.map (·.key) = (m.map (·.1)).map (Value.int .i64) := by
  have := congrArg (List.map (·.1)) h
  simpa [List.map_map, Function.comp_def] using this
theorem MEs.at {es : List MapEntry} {m : IM} (h : MEs es m) {j : Nat} {e : MapEntry} (he : es[j]? = some e) : ∃ p, m[j]? = some p ∧ e.key = .int .i64 p.1 ∧ e.val = p.2 := by
  have h1 := congrArg (fun l : List (Value × Value) => l[j]?) h
  simp only [List.getElem?_map, he, Option.map_some] at h1
  cases hm : m[j]? with
  | none => simp [hm] at h1
  | some p =>
    simp only [hm, Option.map_some, Option.some.injEq, Prod.mk.injEq] at h1
    exact ⟨p, rfl, h1.1, h1.2⟩
theorem MEs.isKey {es : List MapEntry} {m : IM} (h : MEs es m) : ∀ x ∈ es, IsKey (.int .i64) x.key := by
  intro x hx
  obtain ⟨j, hj, rfl⟩ := List.mem_iff_getElem.1 hx
  obtain ⟨p, _, hk, _⟩ := h.at (List.getElem?_eq_getElem hj)
  rw [hk]; rfl
/-- a map in memory -/
def MpAt (w : World) (b : Nat) (m : IM) : Prop := ∃ (es : Array MapEntry) (clock : Nat), w.heap[b]? = some (.map es clock) ∧ MEs es.toList m ∧ Stamped es clock
theorem MpAt.keep {w w' : World} {b : Nat} {m : IM} {S : List Nat} (h : MpAt w b m) (k : Only S w w') (hd : b ∉ S) : MpAt w' b m := by
  obtain ⟨es, clock, h1, h2⟩ := h
  refine ⟨es, clock, ?_, h2⟩
  rw [k.block b ((Array.getElem?_eq_some_iff.1 h1).1) hd]; exact h1
theorem MpAt.keep0 {w w' : World} {b : Nat} {m : IM} (h : MpAt w b m) (k : Only [] w w') : MpAt w' b m := h.keep k (by simp)
theorem MpAt.lt {w : World} {b : Nat} {m : IM} (h : MpAt w b m) : b < w.heap.size := by
  obtain ⟨es, clock, h1, _⟩ := h; exact (Array.getElem?_eq_some_iff.1 h1).1
theorem MpAt.nodup {w : World} {b : Nat} {m : IM} (h : MpAt w b m) : (m.map (·.1)).Nodup := by
  obtain ⟨es, clock, _, h2, h3⟩ := h
  have := h3.2.2
  rw [h2.keys] at this
  exact (List.pairwise_map.1 this).imp fun h e => h (by rw [e])
theorem only_setBlock {w : World} {b : Nat} {o : Obj} : Only [b] w (setBlock w b o) := by
  refine ⟨rfl, rfl, rfl, by simp [setBlock], fun k hk hn => ?_⟩
  simp only [List.mem_singleton] at hn
  simp [setBlock, Ne.symm hn]
theorem size_setBlock {w : World} {b : Nat} {o : Obj} : (setBlock w b o).heap.size = w.heap.size := by simp [setBlock]

section
variable {P : Program} {t kt et : TypeId} {w : World} {b : Nat} {m : IM} {k : Int}
theorem findM {es : Array MapEntry} (h : MEs es.toList m) (hn : (m.map (·.1)).Nodup) (k : Int) (v : Value) :
    (Instr.findNow (.int .i64) (.int .i64 k) es.toList 0 = some none ∧ (∀ x ∈ es.toList, x.key ≠ .int .i64 k) ∧ getM m k = none ∧ putM m k v = m ++ [(k, v)] ∧ delM m k = m) ∨
      ∃ j e, Instr.findNow (.int .i64) (.int .i64 k) es.toList 0 = some (some (j, e.val)) ∧ es.toList[j]? = some e ∧ e.key = .int .i64 k ∧ getM m k = some e.val ∧ putM m k v = m.set j (k, v) ∧ delM m k = m.eraseIdx j := by
  rcases findNow_spec (d := .int .i64) (k := .int .i64 k) rfl es.toList 0 h.isKey with ⟨h1, h2⟩ | ⟨j, e, h1, h2, h3⟩
  · refine .inl ⟨h1, h2, M_no v fun p hp he => ?_⟩
    obtain ⟨j, hj, rfl⟩ := List.mem_iff_getElem.1 hp
    have hl : es.toList.length = m.length := by simpa [MEs] using congrArg List.length h
    have hj' : j < es.toList.length := by omega
    obtain ⟨p, hp1, hp2, _⟩ := h.at (List.getElem?_eq_getElem hj')
    rw [List.getElem?_eq_getElem hj] at hp1
    cases hp1
    exact h2 _ (List.getElem_mem hj') (by rw [hp2, he])
  · obtain ⟨p, hp1, hp2, hp3⟩ := h.at h2
    rw [h3] at hp2
    have hpk : p.1 = k := by cases hp2; rfl
    refine .inr ⟨j, e, by simpa using h1, h2, h3, ?_⟩
    rw [hp3]
    exact M_at v hn (by rw [hp1, ← hpk])

theorem run_put (ht : P.underlying t = some (.map kt et)) (hd : P.underlying kt = some (.int .i64)) (h : MpAt w b m) (v : Value) :
    ∃ w', (Instr.mapUpdate t (.map (some b)) (.int .i64 k) v).run P w = .ok () w' ∧ w'.heap.size = w.heap.size ∧ MpAt w' b (putM m k v) ∧ Only [b] w w' := by
  have hn := h.nodup
  obtain ⟨es, clock, hb, hm, hs⟩ := h
  have hlt : b < w.heap.size := (Array.getElem?_eq_some_iff.1 hb).1
  have hset : ∀ o : Obj, (setBlock w b o).heap[b]? = some o := fun o => by simp [setBlock, hlt]
  rcases findM hm hn k v with ⟨h1, h2, _, h4, _⟩ | ⟨j, e, h1, h2, h3, _, h5, _⟩
  · refine ⟨setBlock w b (.map (es.push { key := .int .i64 k, val := v, born := clock }) (clock + 1)), ?_, size_setBlock, ⟨_, _, hset _, ?_, stamped_push hs h2⟩, only_setBlock⟩
    · simp [Instr.mapUpdate, run_underlying ht, MapKept.run_getObj_map hb, run_checkKey hd (k := .int .i64 k) rfl, run_findKey hd h1, MapKept.run_setObj_map _ hb, Result.andThen, setBlock]
    · rw [h4]; simp only [MEs, Array.toList_push, List.map_append, List.map_cons, List.map_nil]; rw [show es.toList.map (fun e => (e.key, e.val)) = _ from hm]
  · have hj : es[j]? = some e := by simpa using h2
    refine ⟨setBlock w b (.map (es.modify j fun e => { e with key := .int .i64 k, val := v }) clock), ?_, size_setBlock, ⟨_, _, hset _, ?_, stamped_modify hs j _ (fun _ _ => rfl) (fun e' _ he' => ?_)⟩, only_setBlock⟩
    · simp [Instr.mapUpdate, run_underlying ht, MapKept.run_getObj_map hb, run_checkKey hd (k := .int .i64 k) rfl, run_findKey hd h1, hj, h3, run_keyThatStays (d := .int .i64) (k := .int .i64 k) rfl, MapKept.run_setObj_map _ hb, Result.andThen, setBlock]
    · rw [h5]
      apply List.ext_getElem?
      intro i
      have hi := congrArg (fun l : List (Value × Value) => l[i]?) hm
      simp only [List.getElem?_map, Array.getElem?_toList] at hi
      simp only [List.getElem?_map, Array.getElem?_toList, Array.getElem?_modify, List.getElem?_set]
      by_cases hij : j = i
      · subst hij
        have hjm : j < m.length := by
          obtain ⟨p, hp, _⟩ := hm.at h2
          exact (List.getElem?_eq_some_iff.1 hp).1
        simp [hj, hjm]
      · simp [hij, hi]
    · rw [hj] at he'; cases he'; exact h3.symm

theorem run_look (ht : P.underlying t = some (.map kt et)) (hd : P.underlying kt = some (.int .i64)) {z : Value} (hz : (zeroValue et).run P w = .ok z w) (h : MpAt w b m) (k : Int) (ok : Bool) :
    (Instr.lookup t (.map (some b)) (.int .i64 k) ok).run P w = .ok (if ok then .tuple #[(getM m k).getD z, .bool (getM m k).isSome] else (getM m k).getD z) w := by
  have hn := h.nodup
  obtain ⟨es, clock, hb, hm, hs⟩ := h
  rcases findM hm hn k undef with ⟨h1, _, h3, _⟩ | ⟨j, e, h1, _, _, h4, _⟩
  · simp [Instr.lookup, run_underlying ht, MapKept.run_getObj_map hb, run_checkKey hd (k := .int .i64 k) rfl, run_findKey hd h1, Result.andThen, hz, h3]
  · simp [Instr.lookup, run_underlying ht, MapKept.run_getObj_map hb, run_checkKey hd (k := .int .i64 k) rfl, run_findKey hd h1, Result.andThen, h4]
theorem run_lookN (ht : P.underlying t = some (.map kt et)) (hd : P.underlying kt = some (.int .i64)) {z : Value} (hz : (zeroValue et).run P w = .ok z w) (k : Int) (ok : Bool) :
    (Instr.lookup t (.map none) (.int .i64 k) ok).run P w = .ok (if ok then .tuple #[z, .bool false] else z) w := by
  have h1 : Instr.findNow (.int .i64) (.int .i64 k) [] 0 = some none := rfl
  simp [Instr.lookup, run_underlying ht, run_checkKey hd (k := .int .i64 k) rfl, run_findKey hd h1, Result.andThen, hz]

theorem run_del {ty ku : TypeId} (ht : P.underlying t = some (.map kt et)) (hd : P.underlying kt = some (.int .i64)) (h : MpAt w b m) :
    ∃ w', (Builtin.delete_ #[t, ku] ty #[.map (some b), .int .i64 k]).run P w = .ok (.tuple #[]) w' ∧ w'.heap.size = w.heap.size ∧ MpAt w' b (delM m k) ∧ Only [b] w w' := by
  have hn := h.nodup
  obtain ⟨es, clock, hb, hm, hs⟩ := h
  have hlt : b < w.heap.size := (Array.getElem?_eq_some_iff.1 hb).1
  have hset : ∀ o : Obj, (setBlock w b o).heap[b]? = some o := fun o => by simp [setBlock, hlt]
  rcases findM hm hn k undef with ⟨h1, _, _, _, h4⟩ | ⟨j, e, h1, h2, _, _, _, h5⟩
  · refine ⟨setBlock w b (.map es clock), ?_, size_setBlock, ⟨_, _, hset _, ?_, hs⟩, only_setBlock⟩
    · simp [Builtin.delete_, run_underlying ht, MapKept.run_getObj_map hb, run_checkKey hd (k := .int .i64 k) rfl, run_findKey hd h1, MapKept.run_setObj_map _ hb, Result.andThen, setBlock]
    · rw [h4]; exact hm
  · refine ⟨setBlock w b (.map (es.eraseIdxIfInBounds j) clock), ?_, size_setBlock, ⟨_, _, hset _, ?_, stamped_erase hs j⟩, only_setBlock⟩
    · simp [Builtin.delete_, run_underlying ht, MapKept.run_getObj_map hb, run_checkKey hd (k := .int .i64 k) rfl, run_findKey hd h1, MapKept.run_setObj_map _ hb, Result.andThen, setBlock]
    · rw [h5]
      have hj : j < es.size := by
        have := (List.getElem?_eq_some_iff.1 h2).1
        simpa using this
      have he : (es.eraseIdxIfInBounds j).toList = es.toList.eraseIdx j := by simp [Array.eraseIdxIfInBounds, hj]
      unfold MEs
      rw [he, map_eraseIdx, map_eraseIdx, show es.toList.map (fun e => (e.key, e.val)) = _ from hm]

theorem run_mlen {ty : TypeId} (ht : P.underlying t = some (.map kt et)) (h : MpAt w b m) : (Builtin.len_ #[t] ty #[.map (some b)]).run P w = .ok (.int .i64 m.length) w := by
  obtain ⟨es, clock, hb, hm, hs⟩ := h
  have hl : es.size = m.length := by simpa [MEs] using congrArg List.length hm
  simp [Builtin.len_, run_underlying ht, MapKept.run_getObj_map hb, Result.andThen, goInt, hl]
theorem run_mlenN {ty : TypeId} (ht : P.underlying t = some (.map kt et)) : (Builtin.len_ #[t] ty #[.map none]).run P w = .ok (.int .i64 0) w := by
  simp [Builtin.len_, run_underlying ht, Result.andThen, goInt]
theorem run_mclear {ty : TypeId} (ht : P.underlying t = some (.map kt et)) (h : MpAt w b m) : ∃ w', (Builtin.clear_ #[t] ty #[.map (some b)]).run P w = .ok (.tuple #[]) w' ∧ w'.heap.size = w.heap.size ∧ MpAt w' b [] ∧ Only [b] w w' := by
  obtain ⟨es, clock, hb, hm, hs⟩ := h
  have hlt : b < w.heap.size := (Array.getElem?_eq_some_iff.1 hb).1
  refine ⟨setBlock w b (.map #[] clock), ?_, size_setBlock, ⟨#[], clock, by simp [setBlock, hlt], rfl, stamped_empty _⟩, only_setBlock⟩
  simp [Builtin.clear_, run_underlying ht, MapKept.run_getObj_map hb, MapKept.run_setObj_map _ hb, Result.andThen, setBlock]
theorem run_mkmap : (Instr.makeMap t none).run P w = .ok (.map (some w.heap.size)) (w.alloc (.map #[] 0)) := by
  simp [Instr.makeMap, Result.andThen]
theorem MpAt.alloc (w : World) : MpAt (w.alloc (.map #[] 0)) w.heap.size [] := ⟨#[], 0, heap_alloc_new w _, rfl, stamped_empty 0⟩

/-- a walk through a map, and the pairs that are left -/
def ItAt (w : World) (r b : Nat) (m left : IM) : Prop := ∃ (es : Array MapEntry) (clock since c0 : Nat) (seen : Array Nat), w.heap[b]? = some (.map es clock) ∧ w.heap[r]? = some (.mapIter (some b) since seen c0) ∧
  (∀ x ∈ es.toList, x.born < since) ∧ since ≤ c0 ∧ since ≤ clock ∧ MEs es.toList m ∧ Stamped es clock ∧ MEs (leftOf es seen).toList left
theorem ItAt.keep {w w' : World} {r b : Nat} {m left : IM} {S : List Nat} (h : ItAt w r b m left) (k : Only S w w') (hr : r ∉ S) (hb : b ∉ S) : ItAt w' r b m left := by
  obtain ⟨es, clock, since, c0, seen, h1, h2, h3⟩ := h
  refine ⟨es, clock, since, c0, seen, ?_, ?_, h3⟩
  · rw [k.block b ((Array.getElem?_eq_some_iff.1 h1).1) hb]; exact h1
  · rw [k.block r ((Array.getElem?_eq_some_iff.1 h2).1) hr]; exact h2
theorem ItAt.keep0 {w w' : World} {r b : Nat} {m left : IM} (h : ItAt w r b m left) (k : Only [] w w') : ItAt w' r b m left := h.keep k (by simp) (by simp)
theorem ItAt.ltr {w : World} {r b : Nat} {m left : IM} (h : ItAt w r b m left) : r < w.heap.size := by
  obtain ⟨es, clock, since, c0, seen, h1, h2, h3⟩ := h; exact (Array.getElem?_eq_some_iff.1 h2).1
theorem ItAt.map {w : World} {r b : Nat} {m left : IM} (h : ItAt w r b m left) : MpAt w b m := by
  obtain ⟨es, clock, since, c0, seen, h1, h2, h3, _, _, h4, h5, _⟩ := h; exact ⟨es, clock, h1, h4, h5⟩
theorem run_rangeM (ht : P.underlying t = some (.map kt et)) (h : MpAt w b m) : ∃ w', (Instr.range t (.map (some b))).run P w = .ok (.pointer (some ⟨w.heap.size, 0, none⟩)) w' ∧ w'.heap.size = w.heap.size + 1 ∧ ItAt w' w.heap.size b m m ∧ Only [] w w' := by
  obtain ⟨es, clock, hb, hm, hs⟩ := h
  have hlt : b < w.heap.size := (Array.getElem?_eq_some_iff.1 hb).1
  refine ⟨_, run_range_map w t kt et b es clock ht hb, by simp, ⟨es, clock, clock, clock, #[], ?_, heap_alloc_new w _, hs.1, Nat.le_refl _, Nat.le_refl _, hm, hs, ?_⟩, Only.alloc [] w _⟩
  · rw [heap_alloc_old w _ hlt]; exact hb
  · have : leftOf es #[] = es := by unfold leftOf; simp
    rw [this]; exact hm
theorem MEs.filter {es : List MapEntry} {m : IM} {p : MapEntry → Bool} {q : Int × Value → Bool} (h : MEs es m) (hpq : ∀ (j : Nat) (e : MapEntry) (x : Int × Value), es[j]? = some e → m[j]? = some x → p e = q x) : MEs (es.filter p) (m.filter q) := by
  induction es generalizing m with
  | nil => cases m with
    | nil => rfl
    | cons _ _ => simp [MEs] at h
  | cons e es ih => cases m with
    | nil => simp [MEs] at h
    | cons x m =>
      have h0 := hpq 0 e x rfl rfl
      have h' : MEs es m := by simp only [MEs, List.map_cons, List.cons.injEq] at h; exact h.2
      have hx : (e.key, e.val) = (Value.int .i64 x.1, x.2) := by simp only [MEs, List.map_cons, List.cons.injEq] at h; exact h.1
      have ih' := ih h' fun j e x h1 h2 => hpq (j + 1) e x h1 h2
      rw [List.filter_cons, List.filter_cons, h0]
      cases q x with
      | true => simp only [if_true, MEs, List.map_cons, List.cons.injEq]; exact ⟨hx, ih'⟩
      | false => exact ih'
/-- the entry that a walk's last step gave -/
def EnAt (w : World) (r b : Nat) (p : Int × Value) : Prop := ∃ (es : Array MapEntry) (clock since : Nat) (seen : Array Nat) (e : MapEntry), w.heap[r]? = some (.mapIter (some b) since (seen.push e.born) clock) ∧ w.heap[b]? = some (.map es clock) ∧ e ∈ es.toList ∧ (es.toList.map (·.born)).Nodup ∧ e.key = .int .i64 p.1 ∧ e.val = p.2
theorem run_nextM {ty : TypeId} {r : Nat} {left : IM} (h : ItAt w r b m left) :
    (left = [] ∧ (Instr.next (.pointer (some ⟨r, 0, none⟩)) false ty).run P w = .ok (.tuple #[.bool false]) w) ∨
    ∃ p w', p ∈ left ∧ (Instr.next (.pointer (some ⟨r, 0, none⟩)) false ty).run P w = .ok (.tuple #[.bool true, .int .i64 p.1, p.2]) w' ∧ w'.heap.size = w.heap.size ∧ Only [r] w w' ∧ ItAt w' r b m (left.filter fun q => q.1 != p.1) ∧ EnAt w' r b p := by
  obtain ⟨es, clock, since, c0, seen, h1, h2, h3, h4, hsc, h5, h6, h7⟩ := h
  rcases run_next_at (P := P) w ty r b since c0 seen es clock h2 h1 h3 h4 with ⟨h0, hr⟩ | ⟨e, he, w1, hw1, hr⟩
  · refine .inl ⟨?_, hr⟩
    have hl : (leftOf es seen).size = left.length := by simpa [MEs] using congrArg List.length h7
    exact List.eq_nil_of_length_eq_zero (by omega)
  · obtain ⟨j, hj, hje⟩ := List.mem_iff_getElem.1 he
    have hje' : (leftOf es seen).toList[j]? = some e := by rw [List.getElem?_eq_getElem hj, hje]
    obtain ⟨p, hp1, hp2, hp3⟩ := h7.at hje'
    have hO1 : Only [] w w1 := by rcases hw1 with rfl | rfl; exact Only.refl _ _; exact Only.drew [] _
    have hs1 : w1.heap = w.heap := by rcases hw1 with rfl | rfl <;> rfl
    rw [hp2, hp3] at hr
    have hrlt : r < w.heap.size := (Array.getElem?_eq_some_iff.1 h2).1
    have hbr : b ≠ r := by rintro rfl; rw [h1] at h2; cases h2
    refine .inr ⟨p, _, List.mem_of_getElem? hp1, hr, by simp [setBlock, hs1], ?_, ⟨es, clock, since, clock, seen.push e.born, ?_, ?_, h3, hsc, hsc, h5, h6, ?_⟩, ⟨es, clock, since, seen, e, ?_, ?_, (mem_left he).1, h6.2.1, hp2, hp3⟩⟩
    · exact (hO1.of_nil (T := [r])).same only_setBlock
    · simp [setBlock, Ne.symm hbr, hs1, h1]
    · simp [setBlock, hs1, hrlt]
    · have e1 : (leftOf es (seen.push e.born)).toList = (leftOf es seen).toList.filter fun x => !(x.born == e.born) := by
        unfold leftOf
        simp only [Array.toList_filter, List.filter_filter]
        apply List.filter_congr
        intro x _
        rw [contains_push]
        cases seen.contains x.born <;> cases (x.born == e.born) <;> rfl
      rw [e1]
      refine h7.filter fun i x q hx hq => ?_
      obtain ⟨q', hq1, hq2, _⟩ := h7.at hx
      rw [hq] at hq1
      cases hq1
      have hxm := (mem_left (List.mem_of_getElem? hx)).1
      have hem := (mem_left he).1
      have hxl : x ∈ es.toList := hxm
      -- same birth if and only if the same key
      have hiff : x.born = e.born ↔ q.1 = p.1 := by
        constructor
        · intro hb
          have := born_inj h6.2.1 hxl hem hb
          rw [this, hp2] at hq2
          injection hq2 with _ h
          exact h.symm
        · intro hk
          have hkk : x.key = e.key := by rw [hq2, hp2, hk]
          obtain ⟨ix, hix, rfl⟩ := List.mem_iff_getElem.1 hxl
          obtain ⟨ie, hie, rfl⟩ := List.mem_iff_getElem.1 hem
          have hnd := h6.2.2
          have hi := (List.getElem_inj (h₀ := by simpa using hix) (h₁ := by simpa using hie) hnd).1 (by simpa using hkk)
          subst hi; rfl
      show (!(x.born == e.born)) = !(q.1 == p.1)
      congr 1
      rw [Bool.eq_iff_iff, beq_iff_eq, beq_iff_eq]
      exact hiff
    · simp [setBlock, hs1, hrlt]
    · simp [setBlock, Ne.symm hbr, hs1, h1]
end

section
variable {P : Program} {t kt et : TypeId} {w : World} {b : Nat} {m : IM} {k : Int} {d : Option Nat} {rest : List XO} {ρ : Env} {C : Env → World → Prop}
theorem mkmapT (h : ∀ b w', b = w.heap.size → w'.heap.size = w.heap.size + 1 → MpAt w' b [] → Only [] w w' → VO P rest (putO ρ d (.map (some b))) w' C) : RunT P (Instr.makeMap t none) d rest ρ w C :=
  runT run_mkmap (h _ _ rfl (by simp) (MpAt.alloc w) (Only.alloc [] w _))
theorem mputT (ht : P.underlying t = some (.map kt et)) (hd : P.underlying kt = some (.int .i64)) {v : Value} (h : MpAt w b m) (h2 : ∀ w', w'.heap.size = w.heap.size → MpAt w' b (putM m k v) → Only [b] w w' → VO P rest (putO ρ d undef) w' C) :
    RunUT P (Instr.mapUpdate t (.map (some b)) (.int .i64 k) v) d rest ρ w C := by
  obtain ⟨w', h3, h4, h5, h6⟩ := run_put (k := k) ht hd h v
  exact runUT h3 (h2 w' h4 h5 h6)
theorem lkpT (ht : P.underlying t = some (.map kt et)) (hd : P.underlying kt = some (.int .i64)) {z : Value} (hz : (zeroValue et).run P w = .ok z w) (h : MpAt w b m) (h2 : VO P rest (putO ρ d ((getM m k).getD z)) w C) : RunT P (Instr.lookup t (.map (some b)) (.int .i64 k) false) d rest ρ w C :=
  runT (run_look ht hd hz h k false) h2
theorem lkp2T (ht : P.underlying t = some (.map kt et)) (hd : P.underlying kt = some (.int .i64)) {z : Value} (hz : (zeroValue et).run P w = .ok z w) (h : MpAt w b m) (h2 : VO P rest (putO ρ d (.tuple #[(getM m k).getD z, .bool (getM m k).isSome])) w C) : RunT P (Instr.lookup t (.map (some b)) (.int .i64 k) true) d rest ρ w C :=
  runT (run_look ht hd hz h k true) h2
theorem mdelT {ku : TypeId} (ht : P.underlying t = some (.map kt et)) (hd : P.underlying kt = some (.int .i64)) (h : MpAt w b m) (h2 : ∀ w', w'.heap.size = w.heap.size → MpAt w' b (delM m k) → Only [b] w w' → VO P rest (putO ρ d (.tuple #[])) w' C) :
    RunT P (Builtin.delete_ #[t, ku] 0 #[.map (some b), .int .i64 k]) d rest ρ w C := by
  obtain ⟨w', h3, h4, h5, h6⟩ := run_del (k := k) ht hd h
  exact runT h3 (h2 w' h4 h5 h6)
theorem mlenT (ht : P.underlying t = some (.map kt et)) (h : MpAt w b m) (h2 : VO P rest (putO ρ d (.int .i64 m.length)) w C) : RunT P (Builtin.len_ #[t] 0 #[.map (some b)]) d rest ρ w C := runT (run_mlen ht h) h2
theorem mclearT (ht : P.underlying t = some (.map kt et)) (h : MpAt w b m) (h2 : ∀ w', w'.heap.size = w.heap.size → MpAt w' b [] → Only [b] w w' → VO P rest (putO ρ d (.tuple #[])) w' C) : RunT P (Builtin.clear_ #[t] 0 #[.map (some b)]) d rest ρ w C := by
  obtain ⟨w', h3, h4, h5, h6⟩ := run_mclear (ty := 0) ht h
  exact runT h3 (h2 w' h4 h5 h6)
theorem rangeT (ht : P.underlying t = some (.map kt et)) (h : MpAt w b m) (h2 : ∀ r w', r = w.heap.size → w'.heap.size = w.heap.size + 1 → ItAt w' r b m m → Only [] w w' → VO P rest (putO ρ d (.pointer (some ⟨r, 0, none⟩))) w' C) : RunT P (Instr.range t (.map (some b))) d rest ρ w C := by
  obtain ⟨w', h3, h4, h5, h6⟩ := run_rangeM ht h
  exact runT h3 (h2 _ w' rfl h4 h5 h6)
theorem nextT {r : Nat} {left : IM} (h : ItAt w r b m left) (h1 : left = [] → VO P rest (putO ρ d (.tuple #[.bool false])) w C)
    (h2 : ∀ p w', p ∈ left → w'.heap.size = w.heap.size → Only [r] w w' → ItAt w' r b m (left.filter fun q => q.1 != p.1) → EnAt w' r b p → VO P rest (putO ρ d (.tuple #[.bool true, .int .i64 p.1, p.2])) w' C) : RunT P (Instr.next (.pointer (some ⟨r, 0, none⟩)) false 0) d rest ρ w C := by
  rcases run_nextM (P := P) (ty := 0) h with ⟨h3, h4⟩ | ⟨p, w', h3, h4, h5, h6, h7, h8⟩
  · exact runT h4 (h1 h3)
  · exact runT h4 (h2 p w' h3 h5 h6 h7 h8)
theorem entryT {r : Nat} {p : Int × Value} (h : EnAt w r b p) (h2 : VO P rest (putO ρ d (.tuple #[.int .i64 p.1, p.2])) w C) : RunT P (Instr.entry (.pointer (some ⟨r, 0, none⟩))) d rest ρ w C := by
  obtain ⟨es, clock, since, seen, e, h3, h4, h5, h6, h7, h8⟩ := h
  have := run_entry_at (P := P) w r b since seen es clock e h3 h4 h5 h6
  rw [h7, h8] at this
  exact runT this h2
/-- how many entries a walk has left -/
def itLeft (w : World) (r b : Nat) : Nat := match w.heap[b]?, w.heap[r]? with
  | some (.map es _), some (.mapIter _ _ seen _) => (leftOf es seen).size
  | _, _ => 0
theorem ItAt.left {r : Nat} {left : IM} (h : ItAt w r b m left) : itLeft w r b = left.length := by
  obtain ⟨es, clock, since, c0, seen, h1, h2, _, _, _, _, _, h7⟩ := h
  unfold itLeft
  rw [h1, h2]
  simpa [MEs] using congrArg List.length h7
end
end Go.Proofs.YtgcofabdialaaaaGreat
