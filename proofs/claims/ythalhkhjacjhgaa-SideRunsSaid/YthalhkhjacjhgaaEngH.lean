/- The engine, part H: code, the stack of what is left to do, and its rules. My own; no program in sight. -/
import Derived.Test.YthalhkhjacjhgaaEngG
namespace Go.Proofs.Ythalhkhjacjhgaa
set_option linter.unusedSimpArgs false
set_option linter.unusedVariables false

inductive XCode where
  | skip
  | ret
  | reg (xs : List XO)
  | drw (xs : List XO)
  | drg (xs : List XO)
  | seq (a b : XCode)
  | cond (c : Operand) (a b : XCode)
  | block (id : Nat) (a : XCode)
  | loop (a : XCode)
  | exit (id : Nat)
  deriving Inhabited

/-- the one order, found greedily -/
def greedy (P : Program) (n : Nat) (ops : Array Oper) : Nat → Array Bool → List Nat
  | 0, _ => []
  | f + 1, listed =>
    let rs := Region.ready .any ops listed
    match rs.find? (fun i => Region.free .any ops listed i && (match (ops[i]?).bind (trO P n ops) with | some x => x.body.pure? | none => false)) with
    | some i => i :: greedy P n ops f (listed.setIfInBounds i true)
    | none => match rs with
      | i :: _ => i :: greedy P n ops f (listed.setIfInBounds i true)
      | [] => []

def lastB (P : Program) (n : Nat) (ops : Array Oper) (o : Option Nat) : Bool := match o with | some z => lastGood P n ops z | none => false
theorem lastB_spec {P : Program} {n : Nat} {ops : Array Oper} {o : Option Nat} (h : lastB P n ops o = true) : ∃ z, o = some z ∧ lastGood P n ops z = true := by
  cases o with
  | none => cases h
  | some z => exact ⟨z, rfl, h⟩
def trDraw (P : Program) (n : Nat) (ops : Array Oper) : Option XCode :=
  if P.follows .mixedOrders then
    match ops.toList.mapM (trO P n ops) with
    | none => none
    | some xs =>
      if pureL xs && Region.lexB .any ops then some (.drw xs)
      else if Region.lexTailB .any ops (xs.takeWhile fun x => x.body.pure?).length then some (.drw xs)
      else
        let is := greedy P n ops ops.size (Array.replicate ops.size false)
        if Region.noSelect ops && decide (is.length = ops.size) && orderOk P n ops is (Array.replicate ops.size false) && decide is.Nodup && lastB P n ops is.getLast? then
          (is.mapM fun i => (ops[i]?).bind (trO P n ops)).map .drg
        else none
  else none

def trC (P : Program) (n : Nat) : Code → Option XCode
  | .skip => some .skip
  | .ret => some .ret
  | .region _ ops draw => match draw with
    | true => trDraw P n ops
    | false => (ops.toList.mapM (trO P n ops)).map .reg
  | .seq a b => match trC P n a, trC P n b with | some x, some y => some (.seq x y) | _, _ => none
  | .cond c a b => match trC P n a, trC P n b with | some x, some y => some (.cond c x y) | _, _ => none
  | .block id a => match trC P n a with | some x => some (.block id x) | none => none
  | .loop a => match trC P n a with | some x => some (.loop x) | none => none
  | .exit id => some (.exit id)
  | _ => none

/-- code and compact code belong together -/
def Tr (P : Program) (n : Nat) : Code → XCode → Prop
  | .skip, .skip => True
  | .ret, .ret => True
  | .region _ ops false, .reg xs => ops.toList.mapM (trO P n ops) = some xs
  | .region _ ops true, .drw xs => P.follows .mixedOrders = true ∧ ops.toList.mapM (trO P n ops) = some xs ∧
      ((pureL xs = true ∧ Region.lexB .any ops = true) ∨ ∃ k, pureL (xs.take k) = true ∧ Region.lexTailB .any ops k = true)
  | .region _ ops true, .drg xs => P.follows .mixedOrders = true ∧ Region.noSelect ops = true ∧ ∃ is : List Nat, is.length = ops.size ∧
      is.mapM (fun i => (ops[i]?).bind (trO P n ops)) = some xs ∧ orderOk P n ops is (Array.replicate ops.size false) = true ∧ is.Nodup ∧ ∃ z, is.getLast? = some z ∧ lastGood P n ops z = true
  | .seq a b, .seq x y => Tr P n a x ∧ Tr P n b y
  | .cond c a b, .cond d x y => c = d ∧ Tr P n a x ∧ Tr P n b y
  | .block i a, .block j x => i = j ∧ Tr P n a x
  | .loop a, .loop x => Tr P n a x
  | .exit i, .exit j => i = j
  | _, _ => False

theorem takeWhile_pure (xs : List XO) : pureL (xs.take (xs.takeWhile fun x => x.body.pure?).length) = true := by
  induction xs with
  | nil => rfl
  | cons x xs ih =>
    rw [List.takeWhile_cons]
    split
    · rename_i h; simp only [List.length_cons, List.take_succ_cons, pureL, List.all_cons, h, Bool.true_and]; exact ih
    · rfl

theorem trC_Tr {P : Program} {n : Nat} : ∀ (c : Code) (x : XCode), trC P n c = some x → Tr P n c x
  | .skip, x, h => by cases h; trivial
  | .ret, x, h => by cases h; trivial
  | .region i ops false, x, h => by
    simp only [trC] at h
    obtain ⟨xs, hx, rfl⟩ := Option.map_eq_some_iff.1 h
    exact hx
  | .region i ops true, x, h => by
    simp only [trC, trDraw] at h
    split at h
    · rename_i hm
      split at h
      · cases h
      · rename_i xs hx
        split at h
        · rename_i hb
          cases h
          simp only [Bool.and_eq_true] at hb
          exact ⟨hm, hx, .inl hb⟩
        · split at h
          · rename_i hb
            cases h
            exact ⟨hm, hx, .inr ⟨_, takeWhile_pure xs, hb⟩⟩
          · split at h
            · rename_i hb
              obtain ⟨ys, hy, rfl⟩ := Option.map_eq_some_iff.1 h
              simp only [Bool.and_eq_true, decide_eq_true_eq] at hb
              obtain ⟨⟨⟨⟨b1, b2⟩, b3⟩, b4⟩, b5⟩ := hb
              obtain ⟨z, hz, b5⟩ := lastB_spec b5
              exact ⟨hm, b1, _, b2, hy, b3, b4, z, hz, b5⟩
            · cases h
    · cases h
  | .seq a b, x, h => by
    simp only [trC] at h
    split at h
    · rename_i x y h1 h2; cases h; exact ⟨trC_Tr a x h1, trC_Tr b y h2⟩
    · cases h
  | .cond c a b, x, h => by
    simp only [trC] at h
    split at h
    · rename_i x y h1 h2; cases h; exact ⟨rfl, trC_Tr a x h1, trC_Tr b y h2⟩
    · cases h
  | .block id a, x, h => by
    simp only [trC] at h
    split at h
    · rename_i x h1; cases h; exact ⟨rfl, trC_Tr a x h1⟩
    · cases h
  | .loop a, x, h => by
    simp only [trC] at h
    split at h
    · rename_i x h1; cases h; exact trC_Tr a x h1
    · cases h
  | .exit id, x, h => by cases h; rfl
  | .rangeFunc .., x, h => by cases h
  | .scope .., x, h => by cases h
  | .label .., x, h => by cases h
  | .goto .., x, h => by cases h
  | .refuse .., x, h => by cases h

/-! ### Results -/
inductive XR where
  | t (t : Nat)
  | c (a : Nat)
  | cN (a n : Nat)
  deriving Inhabited
def trR (P : Program) : ResultVar → Option XR
  | .tmp t => some (.t t)
  | .cell a t => match P.underlying t with
    | some d => if aggD d then (P.info? t).map fun i => .cN a i.size else some (.c a)
    | none => none
def resX (r : XR) (ρ : Env) (w : World) : Option Value := match r with
  | .t t => some (ρ t)
  | .c a => cellO w (ρ a)
  | .cN a n => cellsO w n (ρ a)
def tupO (vs : Option (List Value)) : Option Value := match vs with | some vs => some (.tuple ⟨vs⟩) | none => none
def consO (v : Option Value) (vs : Option (List Value)) : Option (List Value) := match v, vs with | some v, some vs => some (v :: vs) | _, _ => none
def resL : List XR → Env → World → Option (List Value)
  | [], _, _ => some []
  | r :: rs, ρ, w => consO (resX r ρ w) (resL rs ρ w)
def retO (rs : List XR) (ρ : Env) (w : World) : Option Value := match rs with
  | [r] => resX r ρ w
  | rs => tupO (resL rs ρ w)

structure FX where
  F : FuncId
  fn : Func
  rs : List XR

def FX.ok (P : Program) (f : FX) : Prop := P.funcs[f.F]? = some f.fn ∧ f.fn.results.toList.mapM (trR P) = some f.rs

inductive XI where
  | code (x : XCode)
  | blk (id : Nat)
  | lp (x : XCode)

def RelI (P : Program) (n : Nat) (i : Item) (x : XI) : Prop := match i, x with
  | .code c, .code x => Tr P n c x
  | .inBlock i, .blk j => i = j
  | .inLoop c, .lp x => Tr P n c x
  | _, _ => False
def RelK (P : Program) (n : Nat) : List Item → List XI → Prop
  | [], [] => True
  | i :: k, x :: kx => RelI P n i x ∧ RelK P n k kx
  | _, _ => False

def base (F : FuncId) : Frame := { (default : Frame) with fn := F, kind := .normal }
def Fin (P : Program) (F : FuncId) (R : Value → World → Prop) (m : Machine) (cs : List Frame) : Prop :=
  ∃ v w' fr, R v w' ∧ Steps P m (lone fr cs w') ∧ fr.fn = F ∧ fr.leaving P w' (.returned v)
theorem Fin.of_steps {P : Program} {F : FuncId} {R : Value → World → Prop} {m m' : Machine} {cs : List Frame} (h : Steps P m m') (k : Fin P F R m' cs) : Fin P F R m cs :=
  let ⟨v, w', fr, h1, h2, h3⟩ := k; ⟨v, w', fr, h1, h.trans h2, h3⟩

/-- from this stack, environment and world on, function f returns, with R of its value and the world -/
def Run (P : Program) (f : FX) (kx : List XI) (ρ : Env) (w : World) (R : Value → World → Prop) : Prop :=
  f.ok P → ∀ (k : List Item) (a : Act) (cs : List Frame), RelK P f.fn.ntmps k kx → Sim f.fn.ntmps ρ a → Fin P f.F R (lone ((base f.F).at a k) cs w) cs

section
variable {P : Program} {f : FX} {kx : List XI} {ρ : Env} {w : World} {R : Value → World → Prop}

theorem relK_cons {n : Nat} {k : List Item} {x : XI} (h : RelK P n k (x :: kx)) : ∃ i k', k = i :: k' ∧ RelI P n i x ∧ RelK P n k' kx := by
  cases k with
  | nil => exact h.elim
  | cons i k' => exact ⟨i, k', rfl, h.1, h.2⟩
theorem relK_code {n : Nat} {k : List Item} {x : XCode} (h : RelK P n k (.code x :: kx)) : ∃ c k', k = .code c :: k' ∧ Tr P n c x ∧ RelK P n k' kx := by
  obtain ⟨i, k', rfl, hi, hk⟩ := relK_cons h
  cases i <;> simp only [RelI] at hi
  exact ⟨_, k', rfl, hi, hk⟩
theorem relK_blk {n id : Nat} {k : List Item} (h : RelK P n k (.blk id :: kx)) : ∃ k', k = .inBlock id :: k' ∧ RelK P n k' kx := by
  obtain ⟨i, k', rfl, hi, hk⟩ := relK_cons h
  cases i <;> simp only [RelI] at hi
  subst hi
  exact ⟨k', rfl, hk⟩
theorem relK_lp {n : Nat} {k : List Item} {x : XCode} (h : RelK P n k (.lp x :: kx)) : ∃ c k', k = .inLoop c :: k' ∧ Tr P n c x ∧ RelK P n k' kx := by
  obtain ⟨i, k', rfl, hi, hk⟩ := relK_cons h
  cases i <;> simp only [RelI] at hi
  exact ⟨_, k', rfl, hi, hk⟩

theorem run_seq {a b : XCode} (h : Run P f (.code a :: .code b :: kx) ρ w R) : Run P f (.code (.seq a b) :: kx) ρ w R := by
  intro hf k ac cs hk hs
  obtain ⟨c, k', rfl, hc, hk'⟩ := relK_code hk
  cases c <;> simp only [Tr] at hc
  case seq c1 c2 => exact Fin.of_steps (.one step_seq) (h hf (.code c1 :: .code c2 :: k') ac cs ⟨hc.1, hc.2, hk'⟩ hs)
theorem run_skip (h : Run P f kx ρ w R) : Run P f (.code .skip :: kx) ρ w R := by
  intro hf k ac cs hk hs
  obtain ⟨c, k', rfl, hc, hk'⟩ := relK_code hk
  cases c <;> simp only [Tr] at hc
  exact Fin.of_steps (.one step_skip) (h hf k' ac cs hk' hs)
theorem run_cond {c : Operand} {a b : XCode} {t : Bool} (hc : ev ρ c = .bool t) (h1 : t = true → Run P f (.code a :: kx) ρ w R) (h0 : t = false → Run P f (.code b :: kx) ρ w R) :
    Run P f (.code (.cond c a b) :: kx) ρ w R := by
  intro hf k ac cs hk hs
  obtain ⟨c', k', rfl, hx, hk'⟩ := relK_code hk
  cases c' <;> simp only [Tr] at hx
  case cond c' c1 c2 =>
    obtain ⟨rfl, hx1, hx2⟩ := hx
    have he : ac.eval c' = .bool t := by rw [hs.eval]; exact hc
    refine Fin.of_steps (.one (step_cond he)) ?_
    cases t with
    | true => exact h1 rfl hf (.code c1 :: k') ac cs ⟨hx1, hk'⟩ hs
    | false => exact h0 rfl hf (.code c2 :: k') ac cs ⟨hx2, hk'⟩ hs
theorem run_block {id : Nat} {a : XCode} (h : Run P f (.code a :: .blk id :: kx) ρ w R) : Run P f (.code (.block id a) :: kx) ρ w R := by
  intro hf k ac cs hk hs
  obtain ⟨c, k', rfl, hc, hk'⟩ := relK_code hk
  cases c <;> simp only [Tr] at hc
  case block i c =>
    obtain ⟨rfl, hc⟩ := hc
    exact Fin.of_steps (.one step_block) (h hf (.code c :: .inBlock i :: k') ac cs ⟨hc, rfl, hk'⟩ hs)
theorem run_blk {id : Nat} (h : Run P f kx ρ w R) : Run P f (.blk id :: kx) ρ w R := by
  intro hf k ac cs hk hs
  obtain ⟨k', rfl, hk'⟩ := relK_blk hk
  exact Fin.of_steps (.one step_inBlock) (h hf k' ac cs hk' hs)

/-- the stack behind an exit -/
def exitX (id : Nat) : List XI → Option (List XI)
  | [] => none
  | .blk i :: k => if i = id then some k else exitX id k
  | _ :: k => exitX id k
theorem exitX_spec {n id : Nat} : ∀ {kx kx' : List XI} {k : List Item}, exitX id kx = some kx' → RelK P n k kx → ∃ k', exitTo id k = some k' ∧ RelK P n k' kx'
  | [], _, _, h, _ => by cases h
  | .blk i :: kx, kx', k, h, hk => by
    obtain ⟨k', rfl, hk'⟩ := relK_blk hk
    simp only [exitX] at h
    split at h
    · rename_i he
      cases h
      exact ⟨k', by simp [exitTo, he], hk'⟩
    · rename_i he
      obtain ⟨k2, h2, h3⟩ := exitX_spec h hk'
      refine ⟨k2, ?_, h3⟩
      simp only [exitTo, beq_iff_eq, if_neg he]; exact h2
  | .code x :: kx, kx', k, h, hk => by
    obtain ⟨c, k', rfl, _, hk'⟩ := relK_code hk
    obtain ⟨k2, h2, h3⟩ := exitX_spec (by simpa [exitX] using h) hk'
    exact ⟨k2, by simpa [exitTo] using h2, h3⟩
  | .lp x :: kx, kx', k, h, hk => by
    obtain ⟨c, k', rfl, _, hk'⟩ := relK_lp hk
    obtain ⟨k2, h2, h3⟩ := exitX_spec (by simpa [exitX] using h) hk'
    exact ⟨k2, by simpa [exitTo] using h2, h3⟩
theorem run_exit {id : Nat} {kx' : List XI} (he : exitX id kx = some kx') (h : Run P f kx' ρ w R) : Run P f (.code (.exit id) :: kx) ρ w R := by
  intro hf k ac cs hk hs
  obtain ⟨c, k', rfl, hc, hk'⟩ := relK_code hk
  cases c <;> simp only [Tr] at hc
  subst hc
  obtain ⟨k2, h2, h3⟩ := exitX_spec he hk'
  exact Fin.of_steps (.one (step_exit h2)) (h hf k2 ac cs h3 hs)

theorem run_lp {x : XCode} (h : Run P f (.code x :: .lp x :: kx) ρ w R) : Run P f (.lp x :: kx) ρ w R := by
  intro hf k ac cs hk hs
  obtain ⟨c, k', rfl, hc, hk'⟩ := relK_lp hk
  exact Fin.of_steps (.one step_inLoop) (h hf (.code c :: .inLoop c :: k') ac cs ⟨hc, hc, hk'⟩ hs)
theorem run_loop1 {x : XCode} (h : Run P f (.code x :: .lp x :: kx) ρ w R) : Run P f (.code (.loop x) :: kx) ρ w R := by
  intro hf k ac cs hk hs
  obtain ⟨c, k', rfl, hc, hk'⟩ := relK_code hk
  cases c <;> simp only [Tr] at hc
  exact Fin.of_steps (.one step_loop) (h hf _ ac cs ⟨hc, hc, hk'⟩ hs)

theorem fin_of_wp {c : Code} {C : Env → World → Prop} {k' : List Item} {a : Act} {cs : List Frame} {n : Nat} (h : c.wp P (QC n C) a w)
    (hn : ∀ ρ' a' w', Sim n ρ' a' → C ρ' w' → Fin P f.F R (lone ((base f.F).at a' k') cs w') cs) : Fin P f.F R (lone ((base f.F).at a (.code c :: k')) cs w) cs := by
  obtain ⟨e, a', w', ⟨rfl, ρ', hs', hc'⟩, harr⟩ := h (base f.F) k' cs
  exact Fin.of_steps harr (hn ρ' a' w' hs' hc')

theorem run_reg {xs : List XO} (h : VO P xs ρ w (fun ρ w => Run P f kx ρ w R)) : Run P f (.code (.reg xs) :: kx) ρ w R := by
  intro hf k ac cs hk hs
  obtain ⟨c, k', rfl, hc, hk'⟩ := relK_code hk
  cases c <;> try (exact hc.elim)
  case region i ops draw =>
    cases draw with
    | true => exact hc.elim
    | false =>
    have hc : ops.toList.mapM (trO P f.fn.ntmps ops) = some xs := hc
    exact fin_of_wp (wp_of_plain hc hs h) fun ρ' a' w' hs' hr => hr hf k' a' cs hk' hs'
theorem run_drw {xs : List XO} (h : VO P xs ρ w.drew (fun ρ w => Run P f kx ρ w R)) : Run P f (.code (.drw xs) :: kx) ρ w R := by
  intro hf k ac cs hk hs
  obtain ⟨c, k', rfl, hc, hk'⟩ := relK_code hk
  cases c <;> try (exact hc.elim)
  case region i ops draw =>
    cases draw with
    | false => exact hc.elim
    | true =>
    obtain ⟨hm, hx, hb⟩ := hc
    rcases hb with ⟨h1, h2⟩ | ⟨m, h1, h2⟩
    · exact fin_of_wp (wp_of_still hm h2 h1 hx hs h) fun ρ' a' w' hs' hr => hr hf k' a' cs hk' hs'
    · exact fin_of_wp (wp_of_tail hm h2 h1 hx hs h) fun ρ' a' w' hs' hr => hr hf k' a' cs hk' hs'
/-- L: blocks that hold whatever the region reads -/
theorem run_drg {xs : List XO} (L : List Nat) (h : VS P L w.drew xs ρ w.drew (fun ρ w => Run P f kx ρ w R)) : Run P f (.code (.drg xs) :: kx) ρ w R := by
  intro hf k ac cs hk hs
  obtain ⟨c, k', rfl, hc, hk'⟩ := relK_code hk
  cases c <;> try (exact hc.elim)
  case region i ops draw =>
    cases draw with
    | false => exact hc.elim
    | true =>
    obtain ⟨hm, hsel, is, hl, hx, ho, hnd, z, hz, hlast⟩ := hc
    exact fin_of_wp (wp_of_order hm hsel hl hnd hz hlast hx ho hs h) fun ρ' a' w' hs' hr => hr hf k' a' cs hk' hs'

/-! ### The end -/
def semR (tmps : Array Value) : ResultVar → Sem Value
  | .tmp t => pure (tmps.getD t undef)
  | .cell ad t => do loadVar t (← asAddr (tmps.getD ad undef))
theorem results_semR (fn : Func) (tmps : Array Value) : results fn tmps = (do let vs ← fn.results.mapM (semR tmps); pure (if h : vs.size = 1 then vs[0] else .tuple vs)) := by
  have e : (fun (r : ResultVar) => (match r with | .tmp t => pure (tmps.getD t undef) | .cell ad t => do loadVar t (← asAddr (tmps.getD ad undef)) : Sem Value)) = semR tmps := by
    funext r; cases r <;> rfl
  rw [← e]
  rfl
theorem resX_run {n : Nat} {r : ResultVar} {x : XR} (h : trR P r = some x) {a : Act} (hs : Sim n ρ a) {v : Value} (hv : resX x ρ w = some v) :
    (semR a.tmps r).run P w = .ok v w := by
  unfold semR
  cases r with
  | tmp t =>
    cases h
    simp only [resX, Option.some.injEq] at hv
    subst hv
    simp [hs.get t]
  | cell ad t =>
    simp only [trR] at h
    split at h
    · rename_i d hd
      split at h
      · rename_i hag
        obtain ⟨i, hi, rfl⟩ := Option.map_eq_some_iff.1 h
        simp only [resX, cellsO] at hv
        split at hv
        · rename_i p e
          unfold aggO at hv
          split at hv
          · rename_i xs hx
            cases hv
            simp only [Sem.run_bind, hs.get ad, e, asAddr, Sem.run_pure, Result.andThen_ok, loadVar, run_isAgg hd, hag, if_true, run_size hi, run_loadCells hx]
          · cases hv
        · cases hv
      · rename_i hag
        cases h
        simp only [resX, cellO] at hv
        split at hv
        · rename_i p e
          simp only [Sem.run_bind, hs.get ad, e, asAddr, Sem.run_pure, Result.andThen_ok, loadVar, run_isAgg hd, Bool.not_eq_true _ ▸ hag, Bool.false_eq_true, if_false, run_load_some hv]
        · cases hv
    · cases h

theorem resL_run {n : Nat} {a : Act} (hs : Sim n ρ a) : ∀ (rs : List ResultVar) (xs : List XR), rs.mapM (trR P) = some xs → ∀ (vs : List Value), resL xs ρ w = some vs →
    (rs.mapM (semR a.tmps)).run P w = .ok vs w
  | [], xs, h, vs, hv => by
    simp at h; subst h
    simp only [resL, Option.some.injEq] at hv
    subst hv
    simp
  | r :: rs, xs, h, vs, hv => by
    simp only [List.mapM_cons, Option.bind_eq_bind, Option.bind_eq_some_iff, Option.pure_def, Option.some.injEq] at h
    obtain ⟨x, hx, ys, hy, rfl⟩ := h
    simp only [resL] at hv
    unfold consO at hv
    split at hv
    · rename_i u us h1 h2
      cases hv
      rw [List.mapM_cons, Sem.run_bind, resX_run hx hs h1]
      simp only [Result.andThen_ok, Sem.run_bind, Sem.run_pure]
      rw [resL_run hs rs ys hy us h2]
      rfl
    · cases hv

theorem retO_run {n : Nat} {a : Act} (hs : Sim n ρ a) {fn : Func} {xs : List XR} (h : fn.results.toList.mapM (trR P) = some xs) {v : Value} (hv : retO xs ρ w = some v) : (results fn a.tmps).run P w = .ok v w := by
  rw [results_semR, Array.mapM_eq_mapM_toList]
  have key : ∀ vs, resL xs ρ w = some vs → (if h : vs.toArray.size = 1 then vs.toArray[0] else .tuple vs.toArray) = v →
      (do let us ← (List.toArray <$> fn.results.toList.mapM (semR a.tmps)); pure (if h : us.size = 1 then us[0] else .tuple us) : Sem Value).run P w = .ok v w := by
    intro vs h1 h2
    rw [Sem.run_bind, Sem.run_map, resL_run hs _ _ h vs h1]
    simp only [Result.andThen_ok, Sem.run_pure]
    rw [h2]
  unfold retO at hv
  split at hv
  · rename_i r
    refine key [v] ?_ rfl
    simp only [resL, hv, consO]
  · rename_i h1
    unfold tupO at hv
    split at hv
    · rename_i vs h2
      cases hv
      refine key vs h2 ?_
      have hne : vs.length ≠ 1 := by
        intro hl
        match xs, vs, hl, h1, h2 with
        | [], [], hl, _, _ => cases hl
        | [], _ :: _, _, _, h2 => simp [resL] at h2
        | [r], _, _, h1, _ => exact h1 r rfl
        | r :: s :: xs, vs, hl, _, h2 =>
          simp only [resL] at h2
          unfold consO at h2
          split at h2
          · rename_i h3
            split at h3
            · cases h3; cases h2; simp at hl
            · cases h3
          · cases h2
      rw [dif_neg (by simpa using hne)]
    · cases hv

theorem fin_ret {m : Machine} {a : Act} {todo : List Item} {cs : List Frame} (hf : f.ok P) (hs : Sim f.fn.ntmps ρ a) {v : Value} (hv : retO f.rs ρ w = some v) (hR : R v w)
    (hst : Steps P m (lone { (base f.F).at a todo with mode := .returning } cs w)) : Fin P f.F R m cs :=
  ⟨v, w, _, hR, hst, rfl, rfl, hs.defers, rfl, f.fn, hf.1, retO_run hs hf.2 hv⟩
theorem run_ret {v : Value} (hv : retO f.rs ρ w = some v) (hR : R v w) : Run P f (.code .ret :: kx) ρ w R := by
  intro hf k ac cs hk hs
  obtain ⟨c, k', rfl, hc, hk'⟩ := relK_code hk
  cases c <;> simp only [Tr] at hc
  exact fin_ret hf hs hv hR (.one step_ret)
theorem run_end {v : Value} (hv : retO f.rs ρ w = some v) (hR : R v w) : Run P f [] ρ w R := by
  intro hf k ac cs hk hs
  cases k with
  | cons i k => exact hk.elim
  | nil => exact fin_ret hf hs hv hR (.one step_end)

/-! ### The beginning -/
def E0 : Env := fun _ => undef
def initE : List Value → Nat → Env
  | [], _ => E0
  | v :: vs, i => put (initE vs (i + 1)) i v
theorem initE_at (vs : List Value) : ∀ (i t : Nat), i ≤ t → initE vs i t = vs.getD (t - i) undef := by
  induction vs with
  | nil => intro i t _; simp [initE, E0]
  | cons v vs ih =>
    intro i t h
    simp only [initE, put_at]
    by_cases e : t = i
    · subst e; simp
    · rw [if_neg e, ih (i + 1) t (by omega), show t - i = (t - (i + 1)) + 1 by omega]; simp

theorem run_calls {c : Code} {x : XCode} {args : List Value} (hf : f.ok P) (hb : f.fn.body = some c) (hx : trC P f.fn.ntmps c = some x) (hn : args.length ≤ f.fn.ntmps)
    (h : Run P f [.code x] (initE args 0) w R) : Cs P f.F args w R := by
  intro cs
  have henter : Frame.enter P f.F ⟨args⟩ .normal = (base f.F).at { tmps := ⟨args⟩ ++ Array.replicate (f.fn.ntmps - args.length) undef, defers := [] } [.code c] := by
    simp [Frame.enter, Frame.at, hf.1, hb, base]
  have hs : Sim f.fn.ntmps (initE args 0) { tmps := ⟨args⟩ ++ Array.replicate (f.fn.ntmps - args.length) undef, defers := [] } := by
    refine ⟨rfl, by simp; omega, fun t => ?_⟩
    rw [initE_at args 0 t (Nat.zero_le _)]
    simp only [Nat.sub_zero, Array.getD_eq_getD_getElem?, List.getD_eq_getElem?_getD]
    rw [Array.getElem?_append]
    by_cases ht : t < args.length
    · simp [ht]
    · rw [if_neg (by simpa using ht), List.getElem?_eq_none (by omega)]
      by_cases h2 : t - args.length < f.fn.ntmps - args.length
      · simp [h2]
      · simp [h2]
  obtain ⟨v, w', fr, h1, h2, h3, h4⟩ := h hf [.code c] _ cs ⟨trC_Tr c x hx, trivial⟩ hs
  rw [← henter] at h2
  exact ⟨.returned v, w', fr, ⟨v, rfl, h1⟩, h2, h3, h4⟩

/-! ### Loops -/
/-- ρ with the slots of W as f has them -/
def ovr (W : List Nat) (g ρ : Env) : Env := fun t => if W.contains t then g t else ρ t
theorem ovr_at (W : List Nat) (g ρ : Env) (t : Nat) : ovr W g ρ t = if W.contains t then g t else ρ t := Eq.trans rfl rfl
/-- outside W the environment is ρ -/
def Keeps (W : List Nat) (ρ ρ' : Env) : Prop := ∀ t, W.contains t = false → ρ' t = ρ t
theorem Keeps.refl (W : List Nat) (ρ : Env) : Keeps W ρ ρ := fun _ _ => rfl
theorem Keeps.ovr (W : List Nat) (g ρ : Env) : Keeps W ρ (ovr W g ρ) := fun t ht => by simp only [ovr_at, ht, Bool.false_eq_true, if_false]
theorem Keeps.put {W : List Nat} {ρ ρ' : Env} (h : Keeps W ρ ρ') {d : Nat} (hd : W.contains d = true) (v : Value) : Keeps W ρ (put ρ' d v) := fun t ht => by
  rw [put_at, if_neg (by intro e; subst e; rw [hd] at ht; cases ht)]; exact h t ht
theorem Keeps.ovr2 {W W' : List Nat} {ρ ρ' : Env} (h : Keeps W ρ ρ') (hs : W'.all (W.contains ·) = true) (g : Env) : Keeps W ρ (Go.Proofs.Ythalhkhjacjhgaa.ovr W' g ρ') := fun t ht => by
  rw [ovr_at]
  split
  · rename_i hc
    have := List.all_eq_true.1 hs t (by simpa using hc)
    rw [ht] at this; cases this
  · exact h t ht
theorem Keeps.eq {W : List Nat} {ρ ρ' : Env} (h : Keeps W ρ ρ') : ρ' = Go.Proofs.Ythalhkhjacjhgaa.ovr W ρ' ρ := by
  funext t
  rw [ovr_at]
  split
  · rfl
  · rename_i hc; exact h t (by simpa using hc)

theorem run_loop {x : XCode} (W : List Nat) (I : Env → World → Prop) (μ : Env → World → Nat) (h0 : I ρ w)
    (step : ∀ (g : Env) (w' : World), I g w' → (∀ ρ' w'', Keeps W ρ ρ' → I ρ' w'' → μ ρ' w'' < μ g w' → Run P f (.lp x :: kx) ρ' w'' R) → Run P f (.code x :: .lp x :: kx) (ovr W g ρ) w' R) :
    Run P f (.code (.loop x) :: kx) ρ w R := by
  have key : ∀ (m : Nat) (g : Env) (w' : World), μ g w' = m → I g w' → Run P f (.code x :: .lp x :: kx) (ovr W g ρ) w' R := by
    intro m
    induction m using Nat.strongRecOn with
    | _ m ih =>
      intro g w' hm hI
      refine step g w' hI fun ρ' w'' hk hI' hlt => ?_
      rw [hk.eq]
      exact run_lp (ih (μ ρ' w'') (hm ▸ hlt) ρ' w'' rfl hI')
  have := run_loop1 (kx := kx) (key (μ ρ w) ρ w rfl h0)
  rwa [← (Keeps.refl W ρ).eq] at this
end
attribute [irreducible] Run
end Go.Proofs.Ythalhkhjacjhgaa
