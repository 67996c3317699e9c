/- The engine, part G: regions that draw their order, with acting operations in their midst: one order, in which whatever can be taken early is taken early, serves every order. My own; no program in sight. -/
import Derived.Test.YthalhkhjacjhgaaEngF
namespace Go.Proofs.Ythalhkhjacjhgaa
set_option linter.unusedSimpArgs false
set_option linter.unusedVariables false

/-- w' has the blocks of the list L as w has them -/
def SB (L : List Nat) (w w' : World) : Prop := ∀ b, b ∈ L → w'.heap[b]? = w.heap[b]?
theorem SB.refl (L : List Nat) (w : World) : SB L w w := fun _ _ => rfl
theorem SB.trans {L : List Nat} {a b c : World} (h : SB L a b) (k : SB L b c) : SB L a c := fun x hx => (k x hx).trans (h x hx)
theorem cell_of_heap {w w' : World} {a : Addr} (h : w'.heap[a.block]? = w.heap[a.block]?) : w'.cell? a = w.cell? a := by simp [World.cell?, h]

/-- where does an operation read? a list of blocks that holds all of them -/
def readsIn (x : XB) (ρ : Env) (L : List Nat) : Prop := match x with
  | .ld x => match ev ρ x with | .pointer (some p) => p.block ∈ L | _ => False
  | .ldN _ x => match ev ρ x with | .pointer (some p) => p.block ∈ L | _ => False
  | _ => True

theorem cellsAt_heap {w w' : World} {p : Addr} (h : w'.heap[p.block]? = w.heap[p.block]?) (n : Nat) : cellsAt w' p n = cellsAt w p n := by
  unfold cellsAt
  congr 1
  funext i
  apply cell_of_heap
  have : (p.add i).block = p.block := by unfold Addr.add; split <;> rfl
  rw [this]; exact h

theorem val_SB {x : XB} {ρ : Env} {L : List Nat} {w w' : World} (h : SB L w w') (hr : readsIn x ρ L) : val x ρ w' = val x ρ w := by
  cases x <;> simp only [val]
  case ld x =>
    simp only [readsIn] at hr
    unfold cellO
    split at hr
    · rename_i p e; simp only [e]; exact cell_of_heap (h _ hr)
    · exact hr.elim
  case ldN n x =>
    simp only [readsIn] at hr
    unfold cellsO
    split at hr
    · rename_i p e; simp only [e]; rw [cellsAt_heap (h _ hr)]
    · exact hr.elim

/-! ### Every order, with what must hold of the world until the last operation has come -/
section
variable {P : Program} {ops : Array Oper} {Q : Exit → Act → World → Prop} {S : World → Prop} {z : Option Nat}

/-- as long as operation z has not come, the world meets S -/
def got (z : Option Nat) (listed : Array Bool) : Bool := match z with | some k => listed.getD k true | none => false
def Held (S : World → Prop) (z : Option Nat) (listed : Array Bool) (w : World) : Prop := got z listed = false → S w
/-- which operations read; if z has come they all have -/
def Closed (rd : Nat → Bool) (z : Option Nat) (listed : Array Bool) : Prop := got z listed = true → ∀ j, rd j = true → z ≠ some j → listed.getD j true = true

def wpEvery (P : Program) (ops : Array Oper) (Q : Exit → Act → World → Prop) (S : World → Prop) (z : Option Nat) : Nat → Array Bool → Act → World → Prop
  | 0, listed, a, w => Region.ready .any ops listed = [] ∧ Q .normal a w
  | n + 1, listed, a, w => (Region.ready .any ops listed = [] → Q .normal a w) ∧
      ∀ i, i ∈ Region.ready .any ops listed → wpOp P ops Q i (fun a' w' => Held S z (listed.setIfInBounds i true) w' ∧ wpEvery P ops Q S z n (listed.setIfInBounds i true) a' w') a w

theorem wpAny_of_every : ∀ (n : Nat) (listed : Array Bool) (a : Act) (w : World), wpEvery P ops Q S z n listed a w → wpAny P .any ops Q n listed a w
  | 0, _, _, _, h => h
  | n + 1, _, _, _, h => ⟨h.1, fun i hi => wpOp_mono (fun a' w' k => wpAny_of_every n _ a' w' k.2) (h.2 i hi)⟩

theorem listed_keep {listed : Array Bool} {i j : Nat} (h : listed.getD j true = true) : (listed.setIfInBounds i true).getD j true = true := by
  by_cases e : i = j
  · subst e
    by_cases hl : i < listed.size
    · simp [hl]
    · simp [Array.getElem?_eq_none (Nat.not_lt.1 hl)]
  · rw [getD_set_ne true e]; exact h
theorem listed_set (listed : Array Bool) (i : Nat) : (listed.setIfInBounds i true).getD i true = true := by
  by_cases hl : i < listed.size
  · simp [hl]
  · simp [hl]
theorem got_keep {listed : Array Bool} {i : Nat} (h : got z listed = true) : got z (listed.setIfInBounds i true) = true := by
  cases z with
  | none => cases h
  | some k => exact listed_keep h
theorem got_ne {listed : Array Bool} {i : Nat} (h : z ≠ some i) : got z (listed.setIfInBounds i true) = got z listed := by
  cases z with
  | none => rfl
  | some k => exact getD_set_ne true (fun e => h (by rw [e]))
theorem Held.set {listed : Array Bool} {i : Nat} {w : World} (h : Held S z listed w) : Held S z (listed.setIfInBounds i true) w := fun hz => h (by
  cases e : got z listed with
  | false => rfl
  | true => rw [got_keep e] at hz; cases hz)

/-- z waits for whatever reads -/
def WaitsFor (ops : Array Oper) (rd : Nat → Bool) (z : Option Nat) : Prop := ∀ k, z = some k → ∀ o, ops[k]? = some o → ∀ j, rd j = true → j ≠ k → ∃ e, e ∈ o.after ∧ Region.binds .any e = true ∧ e.on = j

theorem Closed.set {rd : Nat → Bool} (hw : WaitsFor ops rd z) {listed : Array Bool} {j : Nat} (h : Closed rd z listed) (hj : j ∈ Region.ready .any ops listed) : Closed rd z (listed.setIfInBounds j true) := by
  intro hz k hk hkz
  obtain ⟨_, o, ho, hall⟩ := mem_ready.1 hj
  by_cases e : z = some j
  · subst e
    obtain ⟨ed, he1, he2, he3⟩ := hw j rfl o ho k hk (fun e => hkz (by rw [e]))
    have := hall ed he1 he2
    rw [he3] at this
    refine listed_keep ?_
    cases hs : listed[k]? with
    | none => simp [hs]
    | some b => simp [hs] at this ⊢; exact this
  · rw [got_ne e] at hz
    exact listed_keep (h hz k hk hkz)

/-- whatever does not act, and may come now, may be taken first -/
theorem wpEvery_first {rd : Nat → Bool} (hwz : WaitsFor ops rd z) {i : Nat} {oi : Oper} {v : Value} {Si : World → Prop} (hi : ops[i]? = some oi) (hiz : z ≠ some i) (hsel : Region.noSelect ops = true)
    (hQ : ∀ c a w, ¬ Q (.panic c) a w) (hSi : (rd i = true ∧ Si = S) ∨ Si = fun _ => True) :
    ∀ (n : Nat) (listed : Array Bool) (a : Act) (w : World), Closed rd z listed → Held S z listed w →
      (∀ j oj, ops[j]? = some oj → j ≠ i → listed.getD j true = false → (∀ e ∈ oj.after, Region.binds .any e = true → e.on ≠ i) → oi.apart ops oj = true) →
      i ∈ Region.ready .any ops listed → YieldsIf P ops Si oi v a → wpEvery P ops Q S z n (listed.setIfInBounds i true) (a.put oi.dst v) w → wpEvery P ops Q S z (n + 1) listed a w := by
  have hQ' : ∀ c a w, Q (.panic c) (a.put oi.dst v) w → Q (.panic c) a w := fun c a w h => absurd h (hQ c _ w)
  -- the world that stands meets what i asks
  have meets : ∀ (listed : Array Bool) (w : World), Closed rd z listed → Held S z listed w → listed.getD i true = false → Si w := by
    intro listed w hc hh hun
    rcases hSi with ⟨hr, rfl⟩ | rfl
    · apply hh
      cases hz : got z listed with
      | false => rfl
      | true => rw [hc hz i hr hiz] at hun; cases hun
    · trivial
  intro n
  induction n with
  | zero =>
    intro listed a w hc hh _ hr hy H
    refine ⟨fun h => (by rw [h] at hr; cases hr), fun j hj => ?_⟩
    by_cases hji : j = i
    · subst hji
      exact hy.wpOp hi (meets listed w hc hh (mem_ready.1 hr).1) ⟨hh.set, H⟩
    · have := ready_mono hj hji
      rw [H.1] at this; cases this
  | succ n ih =>
    intro listed a w hc hh hfree hr hy H
    refine ⟨fun h => (by rw [h] at hr; cases hr), fun j hj => ?_⟩
    by_cases hji : j = i
    · subst hji
      exact hy.wpOp hi (meets listed w hc hh (mem_ready.1 hr).1) ⟨hh.set, H⟩
    · have h1 := H.2 j (ready_mono hj hji)
      obtain ⟨hjun, oj, hoj, hall⟩ := mem_ready.1 hj
      have hun := (mem_ready.1 hr).1
      have hnot : ∀ e ∈ oj.after, Region.binds .any e = true → e.on ≠ i := fun e he hb heq => by
        have h2 := hall e he hb
        rw [heq] at h2
        cases hs : listed[i]? with
        | none => simp [hs] at h2
        | some b => simp [hs] at h2 hun; rw [h2] at hun; cases hun
      have h2 := wpOp_putIf hoj (hfree j oj hoj hji hjun hnot) (fun cs b => Region.noSelect_spec hsel i oi cs b hi) (fun cs b => Region.noSelect_spec hsel j oj cs b hoj) hQ' hy h1
      have hfree' : ∀ k ok, ops[k]? = some ok → k ≠ i → (listed.setIfInBounds j true).getD k true = false → (∀ e ∈ ok.after, Region.binds .any e = true → e.on ≠ i) → oi.apart ops ok = true := by
        intro k ok hk hki hkun hno
        refine hfree k ok hk hki ?_ hno
        cases e : listed.getD k true with
        | false => rfl
        | true => rw [listed_keep e] at hkun; cases hkun
      refine wpOp_mono (fun a' w' h3 => ?_) h2
      obtain ⟨hy', hh', hrest⟩ := h3
      have hcomm : (listed.setIfInBounds i true).setIfInBounds j true = (listed.setIfInBounds j true).setIfInBounds i true := Array.setIfInBounds_comm _ _ (Ne.symm hji)
      rw [hcomm] at hh' hrest
      have hheld : Held S z (listed.setIfInBounds j true) w' := fun hz => hh' (by rw [got_ne hiz]; exact hz)
      exact ⟨hheld, ih (listed.setIfInBounds j true) a' w' (hc.set hwz hj) hheld hfree' (ready_mono hr (Ne.symm hji)) hy' hrest⟩
end

/-- the walk in the one order: pure operations read the region's first world w0, in the blocks of L; behind each acting operation but the last one these blocks are as they were -/
def VS (P : Program) (L : List Nat) (w0 : World) : List XO → Env → World → (Env → World → Prop) → Prop
  | [], ρ, w, C => C ρ w
  | o :: rest, ρ, w, C =>
    if gdOk o.guard ρ then
      (if o.body.pure? then readsIn o.body ρ L ∧ (match val o.body ρ w0 with | some v => VS P L w0 rest (putO ρ o.dst v) w C | none => False)
       else fv P o.body ρ w (fun v w' => (rest = [] ∨ SB L w0 w') ∧ VS P L w0 rest (putO ρ o.dst v) w' C))
    else VS P L w0 rest (putO ρ o.dst undef) w C

/-- does operation i read memory without acting? -/
def rdAt (P : Program) (n : Nat) (ops : Array Oper) (i : Nat) : Bool := match (ops[i]?).bind (trO P n ops) with
  | some x => x.body.pure? && x.body.reads
  | none => false
/-- the order: indices; each either does not act, may come up and touches nobody's temporaries; or is the only one that may come up -/
def orderOk (P : Program) (n : Nat) (ops : Array Oper) : List Nat → Array Bool → Bool
  | [], listed => (Region.ready .any ops listed).isEmpty
  | i :: is, listed =>
    (match (ops[i]?).bind (trO P n ops) with
     | some x => if x.body.pure? then (Region.ready .any ops listed).contains i && Region.free .any ops listed i else decide (Region.ready .any ops listed = [i])
     | none => false) && orderOk P n ops is (listed.setIfInBounds i true)
/-- the last one waits for whatever reads -/
def lastOk (P : Program) (n : Nat) (ops : Array Oper) (z : Nat) : Bool := match ops[z]? with
  | some o => (List.range ops.size).all fun j => !rdAt P n ops j || j == z || o.after.any fun e => Region.binds .any e && e.on == j
  | none => false

section
variable {P : Program} {n : Nat} {ops : Array Oper}

def pureAt (P : Program) (n : Nat) (ops : Array Oper) (i : Nat) : Bool := match (ops[i]?).bind (trO P n ops) with
  | some x => x.body.pure?
  | none => false
theorem lastOk_spec {z : Nat} (h : lastOk P n ops z = true) : WaitsFor ops (rdAt P n ops) (some z) := by
  rintro _ ⟨⟩ o ho j hj hjz
  unfold lastOk at h
  rw [ho] at h
  simp only [List.all_eq_true, List.mem_range] at h
  have hlt : j < ops.size := by
    rcases Nat.lt_or_ge j ops.size with h' | h'
    · exact h'
    · simp [rdAt, Array.getElem?_eq_none h'] at hj
  have := h j hlt
  simp only [hj, Bool.not_true, Bool.false_or, Bool.or_eq_true, beq_iff_eq, hjz, false_or] at this
  obtain ⟨e, he, hb⟩ := Array.any_eq_true'.1 this
  simp only [Bool.and_eq_true, beq_iff_eq] at hb
  exact ⟨e, he, hb.1, hb.2⟩

theorem stepX_of_fv {x : XB} {ρ : Env} {w : World} {K : Value → World → Prop} (hp : x.pure? = false) (h : fv P x ρ w K) : stepX P x ρ w K := by
  unfold stepX; rw [hp]; exact h

theorem val_noread {x : XB} {ρ : Env} (h : x.reads = false) (w w' : World) : val x ρ w = val x ρ w' := by
  cases x <;> first | rfl | cases h

theorem pure_z {i z : Nat} {is : List Nat} (h : (i :: is).getLast? = some z) (hne : is ≠ []) : is.getLast? = some z := by
  cases is with
  | nil => exact absurd rfl hne
  | cons a l => simpa using h

theorem VS_sound {L : List Nat} {w0 : World} {C : Env → World → Prop} {z : Option Nat} (hwz : WaitsFor ops (rdAt P n ops) z) (hsel : Region.noSelect ops = true) : ∀ (is : List Nat) (xs : List XO) (listed : Array Bool),
    is.mapM (fun i => (ops[i]?).bind (trO P n ops)) = some xs → orderOk P n ops is listed = true → is.Nodup → (is = [] ∨ (∃ k, is.getLast? = some k ∧ (z = some k ∨ z = none ∧ pureAt P n ops k = true))) →
    ∀ (ρ : Env) (w : World) (a : Act), Closed (rdAt P n ops) z listed → Held (SB L w0) z listed w → Sim n ρ a → VS P L w0 xs ρ w C → wpEvery P ops (QC n C) (SB L w0) z is.length listed a w
  | [], xs, listed, h, ho, _, _, ρ, w, a, hc, hS, hs, hv => by
    simp at h; subst h
    exact ⟨by simpa [orderOk] using ho, rfl, ρ, hs, hv⟩
  | i :: is, xs, listed, h, ho, hnd, hlast, ρ, w, a, hc, hS, hs, hv => by
    simp only [List.mapM_cons, Option.bind_eq_bind, Option.bind_eq_some_iff, Option.pure_def, Option.some.injEq] at h
    obtain ⟨x, ⟨o, hoi, hx⟩, ys, hy, rfl⟩ := h
    have hy' : is.mapM (fun i => (ops[i]?).bind (trO P n ops)) = some ys := hy
    simp only [orderOk, hoi, Option.bind_some, hx, Bool.and_eq_true] at ho
    obtain ⟨ho1, ho2⟩ := ho
    obtain ⟨h1, h2, h3, h4⟩ := trO_spec hx
    have hw := wanted_eq h2 hs
    simp only [VS] at hv
    obtain ⟨lst, hlz, hlst⟩ : ∃ k, (i :: is).getLast? = some k ∧ (z = some k ∨ z = none ∧ pureAt P n ops k = true) := hlast.resolve_left (by simp)
    have hnd' := (List.nodup_cons.1 hnd)
    have hlast' : is = [] ∨ (∃ k, is.getLast? = some k ∧ (z = some k ∨ z = none ∧ pureAt P n ops k = true)) := by
      by_cases e : is = []
      · exact .inl e
      · exact .inr ⟨lst, pure_z hlz e, hlst⟩
    have ih := VS_sound (L := L) (w0 := w0) (C := C) hwz hsel is ys (listed.setIfInBounds i true) hy' ho2 hnd'.2 hlast'
    have hQ : ∀ c a w, ¬ QC n C (.panic c) a w := by rintro c a w ⟨h, _⟩; cases h
    -- if i is not the last one it is not z
    have hiz : is ≠ [] → z ≠ some i := by
      intro hne he
      have h5 := pure_z hlz hne
      rcases hlst with h6 | ⟨h6, _⟩
      · rw [he] at h6; cases h6
        exact hnd'.1 (List.mem_of_getLast? h5)
      · rw [he] at h6; cases h6
    have hlen : ys = [] ↔ is = [] := by
      constructor
      · intro e; subst e
        cases is with
        | nil => rfl
        | cons j l =>
          simp only [List.mapM_cons, Option.bind_eq_bind, Option.bind_eq_some_iff, Option.pure_def, Option.some.injEq] at hy'
          obtain ⟨_, _, _, _, h⟩ := hy'
          cases h
      · intro e; subst e; simp at hy'; exact hy'
    obtain ⟨dd, op, ty, pos, af, g⟩ := o
    simp only at h1 h2 h3 h4
    cases hp : x.body.pure? with
    | true =>
      rw [hp] at ho1
      simp only [if_true, Bool.and_eq_true] at ho1
      rw [hp] at hv
      simp only [if_true] at hv
      have hir : i ∈ Region.ready .any ops listed := by simpa using ho1.1
      have hun := (mem_ready.1 hir).1
      by_cases hne : is = []
      · -- the last one of all: nothing else may come
        have hiz' : z = some i ∨ z = none := by
          subst hne
          have : i = lst := by simpa using hlz
          subst this
          rcases hlst with h | h
          · exact .inl h
          · exact .inr h.1
        -- only i is left; it is taken when it comes
        have key : ∀ v, (Region.wanted ⟨dd, op, ty, pos, af, g⟩ (yielded ops a.tmps) = true ∧ (execOp (ev ρ) ⟨dd, op, ty, pos, af, g⟩).run P w = .ok (.value v) w) ∨ (Region.wanted ⟨dd, op, ty, pos, af, g⟩ (yielded ops a.tmps) = false ∧ v = undef) →
            VS P L w0 ys (putO ρ x.dst v) w C → wpEvery P ops (QC n C) (SB L w0) z (is.length + 1) listed a w := by
          intro v hyv hv'
          have hend := ih (putO ρ x.dst v) w (a.put dd v) (hc.set hwz hir) hS.set (by rw [h3]; exact sim_putO hs h4 v) hv'
          subst hne
          refine ⟨fun h => (by rw [h] at hir; cases hir), fun j hj => ?_⟩
          have hji : j = i := by
            have h0 := hend.1
            rcases Classical.em (j = i) with e | e
            · exact e
            · have := ready_mono hj e
              rw [h0] at this; cases this
          subst hji
          unfold wpOp
          simp only [hoi]
          rcases hyv with ⟨hw1, hr⟩ | ⟨hw0, rfl⟩
          · rw [if_pos hw1]
            refine .inl ?_
            unfold Oper.wp
            rw [hs.evalFn, hr]
            exact ⟨hS.set, hend⟩
          · rw [if_neg (by rw [hw0]; simp)]
            exact ⟨hS.set, hend⟩
        split at hv
        · rename_i hg
          obtain ⟨hr, hv⟩ := hv
          split at hv
          · rename_i v hvv
            refine key v (.inl ⟨by rw [hw]; exact hg, ?_⟩) hv
            have hSw : SB L w0 w := hS (hiz'.elim (fun e => by rw [e]; exact hun) (fun e => by rw [e]; rfl))
            exact val_sound h1 hp ((val_SB hSw hr).trans hvv) dd ty pos af g
          · exact hv.elim
        · rename_i hg
          exact key undef (.inr ⟨by rw [hw]; simpa using hg, rfl⟩) hv
      · have hiz' := hiz hne
        split at hv
        · rename_i hg
          obtain ⟨hr, hv⟩ := hv
          split at hv
          · rename_i v hvv
            have hrest := ih (putO ρ x.dst v) w (a.put dd v) (hc.set hwz hir) hS.set (by rw [h3]; exact sim_putO hs h4 v) hv
            cases hrd : x.body.reads with
            | true =>
              refine wpEvery_first (v := v) (Si := SB L w0) hwz hoi hiz' hsel hQ (.inl ⟨by simp [rdAt, hoi, hx, hp, hrd], rfl⟩) _ listed a w hc hS (Region.free_spec hoi ho1.2) hir ?_ hrest
              refine .inl ⟨by rw [hw]; exact hg, fun w' hw' => ?_⟩
              rw [hs.evalFn]
              exact val_sound h1 hp ((val_SB hw' hr).trans hvv) dd ty pos af g
            | false =>
              refine wpEvery_first (v := v) (Si := fun _ => True) hwz hoi hiz' hsel hQ (.inr rfl) _ listed a w hc hS (Region.free_spec hoi ho1.2) hir ?_ hrest
              refine .inl ⟨by rw [hw]; exact hg, fun w' _ => ?_⟩
              rw [hs.evalFn]
              exact val_sound h1 hp ((val_noread hrd w' w0).trans hvv) dd ty pos af g
          · exact hv.elim
        · rename_i hg
          have hrest := ih (putO ρ x.dst undef) w (a.put dd undef) (hc.set hwz hir) hS.set (by rw [h3]; exact sim_putO hs h4 undef) hv
          exact wpEvery_first (v := undef) (Si := fun _ => True) hwz hoi hiz' hsel hQ (.inr rfl) _ listed a w hc hS (Region.free_spec hoi ho1.2) hir (.inr ⟨by rw [hw]; simpa using hg, rfl⟩) hrest
    | false =>
      rw [hp] at ho1 hv
      simp only [Bool.false_eq_true, if_false, decide_eq_true_eq] at ho1 hv
      have hir : i ∈ Region.ready .any ops listed := by rw [ho1]; simp
      refine ⟨fun h => (by rw [h] at hir; cases hir), fun j hj => ?_⟩
      have hji : j = i := by rw [ho1] at hj; simpa using hj
      subst hji
      unfold wpOp
      simp only [hoi]
      rw [hw]
      split at hv
      · rename_i hg
        rw [if_pos hg]
        refine .inl (stepX_upon h1 hs (stepX_of_fv hp hv) fun v w' hvv => ?_)
        have hheld : Held (SB L w0) z (listed.setIfInBounds j true) w' := by
          intro hz
          rcases hvv.1 with he | hsb
          · have hne := hlen.1 he
            subst hne
            have : j = lst := by simpa using hlz
            subst this
            rcases hlst with h | ⟨_, h⟩
            · subst h
              rw [show got (some j) (listed.setIfInBounds j true) = true from listed_set listed j] at hz; cases hz
            · simp [pureAt, hoi, hx, hp] at h
          · exact hsb
        refine ⟨hheld, ih _ w' _ (hc.set hwz hir) hheld ?_ hvv.2⟩
        rw [h3]; exact sim_putO hs h4 v
      · rename_i hg
        rw [if_neg hg]
        refine ⟨hS.set, ih _ w _ (hc.set hwz hir) hS.set ?_ hv⟩
        rw [h3]; exact sim_putO hs h4 undef

/-- what the order's last operation must be -/
def lastGood (P : Program) (n : Nat) (ops : Array Oper) (k : Nat) : Bool := pureAt P n ops k || lastOk P n ops k
theorem wp_of_order {id z : Nat} {L : List Nat} {C : Env → World → Prop} {is : List Nat} {xs : List XO} (hm : P.follows .mixedOrders = true) (hsel : Region.noSelect ops = true) (hlen : is.length = ops.size) (hnd : is.Nodup)
    (hlast : is.getLast? = some z) (hz : lastGood P n ops z = true) (h : is.mapM (fun i => (ops[i]?).bind (trO P n ops)) = some xs) (ho : orderOk P n ops is (Array.replicate ops.size false) = true)
    {ρ : Env} {w : World} {a : Act} (hs : Sim n ρ a) (hv : VS P L w.drew xs ρ w.drew C) : (Code.region id ops true).wp P (QC n C) a w := by
  unfold lastGood at hz
  rcases Bool.or_eq_true _ _ ▸ hz with hz | hz
  · refine wp_region_any hm (wpAny_of_every (S := SB L w.drew) (z := none) _ _ _ _ ?_)
    rw [← hlen]
    have := VS_sound (L := L) (w0 := w.drew) (C := C) (z := none) (fun _ h => by cases h) hsel is xs _ h ho hnd (.inr ⟨z, hlast, .inr ⟨rfl, hz⟩⟩) ρ w.drew a (fun h => by cases h) (fun _ => SB.refl _ _) hs hv
    rw [hlen] at this ⊢
    exact this
  · refine wp_region_any hm (wpAny_of_every (S := SB L w.drew) (z := some z) _ _ _ _ ?_)
    rw [← hlen]
    have hz' : z < ops.size := by
      rcases Nat.lt_or_ge z ops.size with h' | h'
      · exact h'
      · simp [lastOk, Array.getElem?_eq_none h'] at hz
    have hc : Closed (rdAt P n ops) (some z) (Array.replicate ops.size false) := fun hh => by simp [got, hz'] at hh
    have := VS_sound (L := L) (w0 := w.drew) (C := C) (z := some z) (lastOk_spec hz) hsel is xs _ h ho hnd (.inr ⟨z, hlast, .inl rfl⟩) ρ w.drew a hc (fun _ => SB.refl _ _) hs hv
    rw [hlen] at this ⊢
    exact this
end

/-! ### Walking a list in the one order -/
section
variable {P : Program} {L : List Nat} {w0 : World} {rest : List XO} {ρ : Env} {w : World} {C : Env → World → Prop} {d : Option Nat}

def AndS (P : Program) (L : List Nat) (w0 : World) (o : Option Value) (d : Option Nat) (rest : List XO) (ρ : Env) (w : World) (C : Env → World → Prop) : Prop := match o with
  | some v => VS P L w0 rest (putO ρ d v) w C
  | none => False
theorem AndS_some (v : Value) : AndS P L w0 (some v) d rest ρ w C = VS P L w0 rest (putO ρ d v) w C := propext Iff.rfl
def BoxS (P : Program) (L : List Nat) (w0 : World) (t : TypeId) (cells : List Value) (d : Option Nat) (rest : List XO) (ρ : Env) (w : World) (C : Env → World → Prop) : Prop :=
  (rest = [] ∨ SB L w0 (w.alloc (.cells ⟨cells⟩ t))) ∧ VS P L w0 rest (putO ρ d (.pointer (some ⟨w.heap.size, 0, none⟩))) (w.alloc (.cells ⟨cells⟩ t)) C
def StS (P : Program) (L : List Nat) (w0 : World) (a v : Value) (d : Option Nat) (rest : List XO) (ρ : Env) (w : World) (C : Env → World → Prop) : Prop :=
  ∃ p, a = .pointer (some p) ∧ oneC v = true ∧ (w.cell? p).isSome = true ∧ w.frozen? p = false ∧ (rest = [] ∨ SB L w0 (w.setCell p v)) ∧ VS P L w0 rest (putO ρ d undef) (w.setCell p v) C
def StNS (P : Program) (L : List Nat) (w0 : World) (n : Nat) (a v : Value) (d : Option Nat) (rest : List XO) (ρ : Env) (w : World) (C : Env → World → Prop) : Prop :=
  ∃ p cs, a = .pointer (some p) ∧ v = .agg cs ∧ cs.size = n ∧ World.mayCells w p cs.toList 0 ∧ (rest = [] ∨ SB L w0 (World.setCells w p cs.toList 0)) ∧ VS P L w0 rest (putO ρ d undef) (World.setCells w p cs.toList 0) C
def CallS (P : Program) (L : List Nat) (w0 : World) (f : FuncId) (args : List Value) (d : Option Nat) (rest : List XO) (ρ : Env) (w : World) (C : Env → World → Prop) : Prop :=
  Cs P f args w fun v w' => (rest = [] ∨ SB L w0 w') ∧ VS P L w0 rest (putO ρ d v) w' C
def GdS (P : Program) (L : List Nat) (w0 : World) (v : Value) (b : Bool) (d : Option Nat) (x : XB) (rest : List XO) (ρ : Env) (w : World) (C : Env → World → Prop) : Prop :=
  if gdV v b then VS P L w0 (⟨d, none, x⟩ :: rest) ρ w C else VS P L w0 rest (putO ρ d undef) w C
theorem VS_guard (s : Nat) (b : Bool) (x : XB) : VS P L w0 (⟨d, some (s, b), x⟩ :: rest) ρ w C = GdS P L w0 (ρ s) b d x rest ρ w C := propext Iff.rfl
theorem GdS_tt (x : XB) : GdS P L w0 (.bool true) true d x rest ρ w C = VS P L w0 (⟨d, none, x⟩ :: rest) ρ w C := propext Iff.rfl
theorem GdS_ff (x : XB) : GdS P L w0 (.bool false) false d x rest ρ w C = VS P L w0 (⟨d, none, x⟩ :: rest) ρ w C := propext Iff.rfl
theorem GdS_tf (x : XB) : GdS P L w0 (.bool true) false d x rest ρ w C = VS P L w0 rest (putO ρ d undef) w C := propext Iff.rfl
theorem GdS_ft (x : XB) : GdS P L w0 (.bool false) true d x rest ρ w C = VS P L w0 rest (putO ρ d undef) w C := propext Iff.rfl
theorem GdS_un (b : Bool) (x : XB) : GdS P L w0 undef b d x rest ρ w C = VS P L w0 rest (putO ρ d undef) w C := propext Iff.rfl
theorem SB.only {L S : List Nat} {w0 w w' : World} (h : SB L w0 w) (k : Only S w w') (hs : ∀ b, b ∈ L → b < w.heap.size ∧ b ∉ S) : SB L w0 w' := fun b hb =>
  (k.block b (hs b hb).1 (hs b hb).2).trans (h b hb)
theorem VS_nil : VS P L w0 [] ρ w C = C ρ w := propext Iff.rfl
theorem VS_mv (x : Operand) : VS P L w0 (⟨d, none, .mv x⟩ :: rest) ρ w C = VS P L w0 rest (putO ρ d (ev ρ x)) w C := propext ⟨fun h => h.2, fun h => ⟨trivial, h⟩⟩
theorem VS_pick (c a b : Operand) : VS P L w0 (⟨d, none, .pick c a b⟩ :: rest) ρ w C = AndS P L w0 (pickO (ev ρ c) (ev ρ a) (ev ρ b)) d rest ρ w C := propext ⟨fun h => h.2, fun h => ⟨trivial, h⟩⟩
theorem VS_nilck (x : Operand) : VS P L w0 (⟨d, none, .nilck x⟩ :: rest) ρ w C = AndS P L w0 (nilckO (ev ρ x)) d rest ρ w C := propext ⟨fun h => h.2, fun h => ⟨trivial, h⟩⟩
def inL (L : List Nat) (v : Value) : Prop := match v with | .pointer (some p) => p.block ∈ L | _ => False
theorem inL_p (L : List Nat) (b o : Nat) : inL L (.pointer (some ⟨b, o, none⟩)) = (b ∈ L) := Eq.trans rfl rfl
theorem VS_ld (x : Operand) : VS P L w0 (⟨d, none, .ld x⟩ :: rest) ρ w C = (inL L (ev ρ x) ∧ AndS P L w0 (cellO w0 (ev ρ x)) d rest ρ w C) := propext Iff.rfl
theorem VS_ldN (n : Nat) (x : Operand) : VS P L w0 (⟨d, none, .ldN n x⟩ :: rest) ρ w C = (inL L (ev ρ x) ∧ AndS P L w0 (cellsO w0 n (ev ρ x)) d rest ρ w C) := propext Iff.rfl
theorem VS_fa (o : Nat) (x : Operand) : VS P L w0 (⟨d, none, .fa o x⟩ :: rest) ρ w C = AndS P L w0 (faO o (ev ρ x)) d rest ρ w C := propext ⟨fun h => h.2, fun h => ⟨trivial, h⟩⟩
theorem VS_fld (o : Nat) (x : Operand) : VS P L w0 (⟨d, none, .fld o x⟩ :: rest) ρ w C = AndS P L w0 (fldO o (ev ρ x)) d rest ρ w C := propext ⟨fun h => h.2, fun h => ⟨trivial, h⟩⟩
theorem VS_fldN (o n : Nat) (x : Operand) : VS P L w0 (⟨d, none, .fldN o n x⟩ :: rest) ρ w C = AndS P L w0 (fldNO o n (ev ρ x)) d rest ρ w C := propext ⟨fun h => h.2, fun h => ⟨trivial, h⟩⟩
theorem VS_ia (s : Nat) (x i : Operand) : VS P L w0 (⟨d, none, .ia s x i⟩ :: rest) ρ w C = AndS P L w0 (iaO s (ev ρ x) (ev ρ i)) d rest ρ w C := propext ⟨fun h => h.2, fun h => ⟨trivial, h⟩⟩
theorem VS_bin (op : BinOp) (x y : Operand) : VS P L w0 (⟨d, none, .bin op x y⟩ :: rest) ρ w C = AndS P L w0 (binO op (ev ρ x) (ev ρ y)) d rest ρ w C := propext ⟨fun h => h.2, fun h => ⟨trivial, h⟩⟩
theorem VS_eqB (n : Bool) (x y : Operand) : VS P L w0 (⟨d, none, .eqB n x y⟩ :: rest) ρ w C = AndS P L w0 (eqBO n (ev ρ x) (ev ρ y)) d rest ρ w C := propext ⟨fun h => h.2, fun h => ⟨trivial, h⟩⟩
theorem VS_eqP (n : Bool) (x y : Operand) : VS P L w0 (⟨d, none, .eqP n x y⟩ :: rest) ρ w C = AndS P L w0 (eqPO n (ev ρ x) (ev ρ y)) d rest ρ w C := propext ⟨fun h => h.2, fun h => ⟨trivial, h⟩⟩
theorem VS_eqS (n : Bool) (x y : Operand) : VS P L w0 (⟨d, none, .eqS n x y⟩ :: rest) ρ w C = AndS P L w0 (eqSO n (ev ρ x) (ev ρ y)) d rest ρ w C := propext ⟨fun h => h.2, fun h => ⟨trivial, h⟩⟩
theorem VS_no (x : Operand) : VS P L w0 (⟨d, none, .no x⟩ :: rest) ρ w C = AndS P L w0 (noO (ev ρ x)) d rest ρ w C := propext ⟨fun h => h.2, fun h => ⟨trivial, h⟩⟩
theorem VS_conv (k : IntKind) (x : Operand) : VS P L w0 (⟨d, none, .conv k x⟩ :: rest) ρ w C = AndS P L w0 (convO k (ev ρ x)) d rest ρ w C := propext ⟨fun h => h.2, fun h => ⟨trivial, h⟩⟩
theorem VS_mkfn (fn : Fn) (a b : Array Operand) : VS P L w0 (⟨d, none, .mkfn fn a b⟩ :: rest) ρ w C = VS P L w0 rest (putO ρ d (.func fn (a.map (ev ρ)) (b.map (ev ρ)))) w C := propext ⟨fun h => h.2, fun h => ⟨trivial, h⟩⟩
theorem VS_slc (s : Nat) (x : Operand) (lo hi : Option Operand) : VS P L w0 (⟨d, none, .slc s x lo hi⟩ :: rest) ρ w C = AndS P L w0 (slcO s (ev ρ x) (lo.map (ev ρ)) (hi.map (ev ρ))) d rest ρ w C := propext ⟨fun h => h.2, fun h => ⟨trivial, h⟩⟩
theorem VS_ext (x : Operand) (i : Nat) : VS P L w0 (⟨d, none, .ext x i⟩ :: rest) ρ w C = AndS P L w0 (extO (ev ρ x) i) d rest ρ w C := propext ⟨fun h => h.2, fun h => ⟨trivial, h⟩⟩
theorem VS_len (x : Operand) : VS P L w0 (⟨d, none, .len x⟩ :: rest) ρ w C = AndS P L w0 (lenO (ev ρ x)) d rest ρ w C := propext ⟨fun h => h.2, fun h => ⟨trivial, h⟩⟩
theorem VS_mnmx (m : Bool) (x y : Operand) : VS P L w0 (⟨d, none, .mnmx m x y⟩ :: rest) ρ w C = AndS P L w0 (mnmxO m (ev ρ x) (ev ρ y)) d rest ρ w C := propext ⟨fun h => h.2, fun h => ⟨trivial, h⟩⟩
theorem VS_box (t : TypeId) (x : Operand) : VS P L w0 (⟨d, none, .box t x⟩ :: rest) ρ w C = BoxS P L w0 t (ev ρ x).cells.toList d rest ρ w C := propext Iff.rfl
theorem VS_alc (t : TypeId) (z : List Value) : VS P L w0 (⟨d, none, .alc t z⟩ :: rest) ρ w C = BoxS P L w0 t z d rest ρ w C := propext Iff.rfl
theorem VS_st (a v : Operand) : VS P L w0 (⟨d, none, .st a v⟩ :: rest) ρ w C = StS P L w0 (ev ρ a) (ev ρ v) d rest ρ w C := propext Iff.rfl
theorem VS_stN (n : Nat) (a v : Operand) : VS P L w0 (⟨d, none, .stN n a v⟩ :: rest) ρ w C = StNS P L w0 n (ev ρ a) (ev ρ v) d rest ρ w C := propext Iff.rfl
def BslS (P : Program) (L : List Nat) (w0 : World) (o : Option (List Value)) (e len : Nat) (d : Option Nat) (rest : List XO) (ρ : Env) (w : World) (C : Env → World → Prop) : Prop :=
  ∃ cs, o = some cs ∧ (rest = [] ∨ SB L w0 (w.alloc (.cells ⟨cs⟩ e))) ∧ VS P L w0 rest (putO ρ d (.slice (some ⟨w.heap.size, 0, none⟩) len len)) (w.alloc (.cells ⟨cs⟩ e)) C
def MksS (P : Program) (L : List Nat) (w0 : World) (e bytes : Nat) (zero : List Value) (l c : Value) (d : Option Nat) (rest : List XO) (ρ : Env) (w : World) (C : Env → World → Prop) : Prop :=
  ∃ (k k' : IntKind) (n m : Nat), l = .int k n ∧ c = .int k' m ∧ n ≤ m ∧ m ≤ 1099511627776 ∧ m * bytes ≤ 1099511627776 ∧ (rest = [] ∨ SB L w0 (w.alloc (.cells ⟨rowZ zero m⟩ e))) ∧ VS P L w0 rest (putO ρ d (.slice (some ⟨w.heap.size, 0, none⟩) n m)) (w.alloc (.cells ⟨rowZ zero m⟩ e)) C
def AppS (P : Program) (L : List Nat) (w0 : World) (sz bytes : Nat) (s x : Value) (d : Option Nat) (rest : List XO) (ρ : Env) (w : World) (C : Env → World → Prop) : Prop :=
  ∃ n xs fp m us, Sl w sz s n xs fp ∧ SrcIs w sz x m us ∧ (∀ u, u ∈ us → oneC u = true) ∧ n + m ≤ 1099511627776 ∧ (n + m) * bytes ≤ 1099511627776 ∧
      ∀ v' w' fp', Sl w' sz v' (n + m) (xs ++ us) fp' → (fp' = fp ∨ fp' = [w.heap.size]) → Only fp w w' → (m = 0 → v' = s) → (rest = [] ∨ SB L w0 w') ∧ VS P L w0 rest (putO ρ d v') w' C
def CallVS (P : Program) (L : List Nat) (w0 : World) (o : Option (Nat × List Value)) (d : Option Nat) (rest : List XO) (ρ : Env) (w : World) (C : Env → World → Prop) : Prop :=
  ∃ g vs, o = some (g, vs) ∧ okF P g = true ∧ Cs P g vs w fun v w' => (rest = [] ∨ SB L w0 w') ∧ VS P L w0 rest (putO ρ d v) w' C
theorem VS_bld (z : List Value) (ps : List (Nat × Nat × Operand)) : VS P L w0 (⟨d, none, .bld z ps⟩ :: rest) ρ w C = AndS P L w0 (aggO (fillL z (ps.map (evP ρ)))) d rest ρ w C := propext ⟨fun h => h.2, fun h => ⟨trivial, h⟩⟩
theorem VS_eqA (n : Bool) (k : Nat) (x y : Operand) : VS P L w0 (⟨d, none, .eqA n k x y⟩ :: rest) ρ w C = AndS P L w0 (eqAO n k (ev ρ x) (ev ρ y)) d rest ρ w C := propext ⟨fun h => h.2, fun h => ⟨trivial, h⟩⟩
theorem VS_bsl (e len : Nat) (z : List Value) (ps : List (Nat × Nat × Operand)) : VS P L w0 (⟨d, none, .bsl e len z ps⟩ :: rest) ρ w C = BslS P L w0 (fillL z (ps.map (evP ρ))) e len d rest ρ w C := propext Iff.rfl
theorem VS_mks (e b : Nat) (z : List Value) (l c : Operand) : VS P L w0 (⟨d, none, .mks e b z l c⟩ :: rest) ρ w C = MksS P L w0 e b z (ev ρ l) (ev ρ c) d rest ρ w C := propext Iff.rfl
theorem VS_app (e b : Nat) (z : List Value) (s x : Operand) : VS P L w0 (⟨d, none, .app e b z s x⟩ :: rest) ρ w C = AppS P L w0 z.length b (ev ρ s) (ev ρ x) d rest ρ w C := propext Iff.rfl
theorem VS_callv (f : Operand) (args : List Operand) : VS P L w0 (⟨d, none, .callv f args⟩ :: rest) ρ w C = CallVS P L w0 (callVals (ev ρ f) (args.map (ev ρ))) d rest ρ w C := propext Iff.rfl
theorem bslS {e len : Nat} {cs : List Value} (h : ∀ g w', g = w.heap.size → w'.heap.size = w.heap.size + 1 → At w' g cs → Only [] w w' → (rest = [] ∨ SB L w0 w') ∧ VS P L w0 rest (putO ρ d (.slice (some ⟨g, 0, none⟩) len len)) w' C) : BslS P L w0 (some cs) e len d rest ρ w C :=
  ⟨cs, rfl, h _ _ rfl (by simp) (At.alloc w cs e) (Only.alloc [] w _)⟩
theorem mksS {e bytes : Nat} {zero : List Value} {k k' : IntKind} {n m : Nat} (hnm : n ≤ m) (h1 : m ≤ 1099511627776) (h2 : m * bytes ≤ 1099511627776)
    (h : ∀ g w', g = w.heap.size → w'.heap.size = w.heap.size + 1 → At w' g (rowZ zero m) → Only [] w w' → (rest = [] ∨ SB L w0 w') ∧ VS P L w0 rest (putO ρ d (.slice (some ⟨g, 0, none⟩) n m)) w' C) : MksS P L w0 e bytes zero (.int k n) (.int k' m) d rest ρ w C :=
  ⟨k, k', n, m, rfl, rfl, hnm, h1, h2, h _ _ rfl (by simp) (At.alloc w _ e) (Only.alloc [] w _)⟩
theorem appS {sz bytes : Nat} {s x : Value} {n m : Nat} {xs us : List Value} {fp : List Nat} (hs : Sl w sz s n xs fp) (hx : SrcIs w sz x m us) (h1 : ∀ u, u ∈ us → oneC u = true) (h2 : n + m ≤ 1099511627776) (h3 : (n + m) * bytes ≤ 1099511627776)
    (h : ∀ v' w' fp', Sl w' sz v' (n + m) (xs ++ us) fp' → (fp' = fp ∨ fp' = [w.heap.size]) → Only fp w w' → (m = 0 → v' = s) → (rest = [] ∨ SB L w0 w') ∧ VS P L w0 rest (putO ρ d v') w' C) : AppS P L w0 sz bytes s x d rest ρ w C :=
  ⟨n, xs, fp, m, us, hs, hx, h1, h2, h3, h⟩
theorem callVS {g : Nat} {vs : List Value} {R : Value → World → Prop} (ho : okF P g = true) (h : Cs P g vs w R) (k : ∀ v w', R v w' → (rest = [] ∨ SB L w0 w') ∧ VS P L w0 rest (putO ρ d v) w' C) : CallVS P L w0 (some (g, vs)) d rest ρ w C :=
  ⟨g, vs, rfl, ho, h.mono k⟩
theorem VS_call (f : Nat) (args : List Operand) : VS P L w0 (⟨d, none, .call f args⟩ :: rest) ρ w C = CallS P L w0 f (args.map (ev ρ)) d rest ρ w C := propext Iff.rfl

theorem boxS {t : TypeId} {cells : List Value} (h : ∀ g w', g = w.heap.size → w'.heap.size = w.heap.size + 1 → At w' g cells → Only [] w w' → (rest = [] ∨ SB L w0 w') ∧ VS P L w0 rest (putO ρ d (.pointer (some ⟨g, 0, none⟩))) w' C) : BoxS P L w0 t cells d rest ρ w C :=
  h _ _ rfl (by simp) (At.alloc w cells t) (Only.alloc [] w _)
theorem stS {b i : Nat} {vs : List Value} {v : Value} (h : At w b vs) (hi : i < vs.length) (hv : oneC v = true)
    (k : ∀ w', w'.heap.size = w.heap.size → At w' b (vs.set i v) → Only [b] w w' → (rest = [] ∨ SB L w0 w') ∧ VS P L w0 rest (putO ρ d undef) w' C) : StS P L w0 (.pointer (some ⟨b, i, none⟩)) v d rest ρ w C :=
  ⟨_, rfl, hv, by rw [h.cell]; simp [hi], h.free i, k _ (by simp) (h.set i v) (Only.setCell w ⟨b, i, none⟩ v)⟩
theorem callS {f : FuncId} {args : List Value} {R : Value → World → Prop} (h : Cs P f args w R) (k : ∀ v w', R v w' → (rest = [] ∨ SB L w0 w') ∧ VS P L w0 rest (putO ρ d v) w' C) : CallS P L w0 f args d rest ρ w C :=
  h.mono k
theorem callS0 {f : FuncId} {args : List Value} {a : Value} (h : Cs P f args w fun v w' => v = a ∧ w' = w) (hs : rest = [] ∨ SB L w0 w) (k : VS P L w0 rest (putO ρ d a) w C) : CallS P L w0 f args d rest ρ w C :=
  h.mono fun v w' e => by rw [e.1, e.2]; exact ⟨hs, k⟩
theorem callS1 {f : FuncId} {args : List Value} {a : Value} {S : List Nat} (h : Cs P f args w fun v w' => v = a ∧ Only S w w') (hs : rest = [] ∨ (SB L w0 w ∧ ∀ b, b ∈ L → b < w.heap.size ∧ b ∉ S)) (k : ∀ w', Only S w w' → VS P L w0 rest (putO ρ d a) w' C) : CallS P L w0 f args d rest ρ w C :=
  h.mono fun v w' e => by rw [e.1]; exact ⟨hs.imp id fun h => h.1.only e.2 h.2, k _ e.2⟩
end

attribute [irreducible] VS AndS BoxS StS StNS CallS GdS BslS MksS AppS CallVS
end Go.Proofs.Ythalhkhjacjhgaa
