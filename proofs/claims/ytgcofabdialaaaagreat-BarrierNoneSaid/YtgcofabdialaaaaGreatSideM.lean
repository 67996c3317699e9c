/- Side tables in plain Lean: what each call answers, and the list of entries behind it. No program in sight. -/
import Derived.Test.YtgcofabdialaaaaGreatEngJ
namespace Go.Proofs.YtgcofabdialaaaaGreat
set_option linter.unusedSimpArgs false
set_option linter.unusedVariables false

/-- none: no table; a table has a width and its entries -/
abbrev MT := Option (Nat × List Nat)
def hasB (n : Nat) (i : Int) : Bool := decide (0 ≤ i) && decide (i < n)
def mayB (wd : Nat) (v : Int) : Bool := decide (0 ≤ v) && decide (v ≤ ((2 ^ wd - 1 : Nat) : Int))
def MT.check (m : MT) (i : Int) (vs : List Int) : Int := match m with
  | none => 5
  | some (wd, l) => if hasB l.length i && vs.all (mayB wd) then 0 else 1
def MT.get (m : MT) (i : Int) : Int := match m with
  | none => -1
  | some (_, l) => if hasB l.length i then ((l.getD i.toNat 0 : Nat) : Int) else -1
def MT.setM (m : MT) (i v : Int) : MT := match m with
  | none => none
  | some (wd, l) => if m.check i [v] = 0 then some (wd, l.set i.toNat v.toNat) else some (wd, l)
theorem hasB_nat {n : Nat} {i : Int} (h : hasB n i = true) : ∃ k : Nat, i = k ∧ k < n := by
  simp only [hasB, Bool.and_eq_true, decide_eq_true_eq] at h
  exact ⟨i.toNat, by omega, by omega⟩
theorem hasB_of {n k : Nat} (h : k < n) : hasB n (k : Int) = true := by simp [hasB]; omega
theorem mayB_nat {wd : Nat} {v : Int} (h : mayB wd v = true) : ∃ k : Nat, v = k ∧ k < 2 ^ wd := by
  simp only [mayB, Bool.and_eq_true, decide_eq_true_eq] at h
  have := Nat.two_pow_pos wd
  exact ⟨v.toNat, by omega, by omega⟩
theorem mayB_of {wd k : Nat} (h : k < 2 ^ wd) : mayB wd (k : Int) = true := by
  have := Nat.two_pow_pos wd
  simp only [mayB, Bool.and_eq_true, decide_eq_true_eq]; omega
theorem MT.check_none (i : Int) (vs : List Int) : MT.check none i vs = 5 := rfl
/-- what check has found -/
theorem MT.check_cases {wd : Nat} {l : List Nat} {i : Int} {vs : List Int} : (MT.check (some (wd, l)) i vs = 0 ∧ hasB l.length i = true ∧ vs.all (mayB wd) = true) ∨ (MT.check (some (wd, l)) i vs = 1 ∧ (hasB l.length i && vs.all (mayB wd)) = false) := by
  simp only [MT.check]
  cases h : (hasB l.length i && vs.all (mayB wd)) with
  | true => exact .inl ⟨rfl, (Bool.and_eq_true _ _ ▸ h)⟩
  | false => exact .inr ⟨rfl, rfl⟩

/-- j entries from k on become v -/
def fillN (l : List Nat) (k v : Nat) : Nat → List Nat
  | 0 => l
  | j + 1 => (fillN l k v j).set (k + j) v
theorem fillN_len (l : List Nat) (k v j : Nat) : (fillN l k v j).length = l.length := by
  induction j with
  | zero => rfl
  | succ j ih => simp [fillN, ih]
/-- the first index below n that p holds of -/
def firstI (p : Nat → Bool) : Nat → Option Nat
  | 0 => none
  | n + 1 => match firstI p n with
    | some i => some i
    | none => if p n then some n else none
/-- the last one -/
def lastI (p : Nat → Bool) : Nat → Option Nat
  | 0 => none
  | n + 1 => if p n then some n else lastI p n
theorem firstI_none {p : Nat → Bool} : ∀ {n : Nat}, (∀ j, j < n → p j = false) → firstI p n = none
  | 0, _ => rfl
  | n + 1, h => by simp only [firstI, firstI_none fun j hj => h j (Nat.lt_succ_of_lt hj)]; rw [h n (Nat.lt_succ_self n)]; rfl
theorem firstI_some {p : Nat → Bool} {i : Nat} (hp : p i = true) : ∀ {n : Nat}, i < n → (∀ j, j < i → p j = false) → firstI p n = some i
  | 0, h, _ => absurd h (Nat.not_lt_zero _)
  | n + 1, h, hn => by
    simp only [firstI]
    rcases Nat.lt_or_ge i n with h' | h'
    · rw [firstI_some hp h' hn]
    · have : i = n := by omega
      subst this
      rw [firstI_none hn, hp]; rfl
theorem lastI_none {p : Nat → Bool} : ∀ {n : Nat}, (∀ j, j < n → p j = false) → lastI p n = none
  | 0, _ => rfl
  | n + 1, h => by simp only [lastI]; rw [h n (Nat.lt_succ_self n)]; exact lastI_none fun j hj => h j (Nat.lt_succ_of_lt hj)
theorem lastI_some {p : Nat → Bool} {i : Nat} (hp : p i = true) : ∀ {n : Nat}, i < n → (∀ j, i < j → j < n → p j = false) → lastI p n = some i
  | 0, h, _ => absurd h (Nat.not_lt_zero _)
  | n + 1, h, hn => by
    simp only [lastI]
    rcases Nat.lt_or_ge i n with h' | h'
    · rw [hn n h' (Nat.lt_succ_self n)]; exact lastI_some hp h' fun j h1 h2 => hn j h1 (Nat.lt_succ_of_lt h2)
    · have : i = n := by omega
      subst this; rw [hp]; rfl

def MT.fillE (m : MT) (i size v : Int) : Int := match m with
  | none => 5
  | some (wd, l) => if m.check i [v] = 0 then (if size < 1 ∨ (l.length : Int) - i < size then 1 else 0) else m.check i [v]
def MT.fillM (m : MT) (i size v : Int) : MT := match m with
  | none => none
  | some (wd, l) => if m.fillE i size v = 0 then some (wd, fillN l i.toNat v.toNat size.toNat) else some (wd, l)
/-- Swap: was it changed? -/
def MT.swapB (m : MT) (i old v : Int) : Bool := match m with
  | none => false
  | some (_, l) => decide (m.check i [old, v] = 0) && decide (((l.getD i.toNat 0 : Nat) : Int) = old)
def MT.swapM (m : MT) (i old v : Int) : MT := match m with
  | none => none
  | some (wd, l) => if m.swapB i old v then some (wd, l.set i.toNat v.toNat) else some (wd, l)
def MT.addE (m : MT) (i d : Int) : Int := match m with
  | none => 5
  | some _ => if m.check i [] = 0 then (if d < -255 ∨ 255 < d then 1 else 0) else m.check i []
/-- the entry behind Add -/
def addV (wd x : Nat) (d : Int) : Nat := if x < 2 ^ wd - 1 then (min (max ((x : Int) + d) 0) ((2 ^ wd - 1 : Nat) : Int)).toNat else x
def MT.addR (m : MT) (i d : Int) : Int := match m with
  | none => 0
  | some (wd, l) => if m.addE i d = 0 then ((addV wd (l.getD i.toNat 0) d : Nat) : Int) else 0
def MT.addM (m : MT) (i d : Int) : MT := match m with
  | none => none
  | some (wd, l) => if m.addE i d = 0 then some (wd, l.set i.toNat (addV wd (l.getD i.toNat 0) d)) else some (wd, l)
def optR (o : Option Nat) : Int := match o with | some i => i | none => 0
def optE (o : Option Nat) : Int := match o with | some _ => 0 | none => 4
def MT.nextO (m : MT) (i v : Int) : Option Nat := match m with
  | none => none
  | some (_, l) => firstI (fun k => decide (i ≤ (k : Int)) && decide (((l.getD k 0 : Nat) : Int) = v)) l.length
def MT.lastO (m : MT) (i v : Int) : Option Nat := match m with
  | none => none
  | some (_, l) => lastI (fun k => decide ((k : Int) < i) && decide (((l.getD k 0 : Nat) : Int) = v)) l.length
def MT.err (m : MT) (o : Option Nat) : Int := match m with | none => 5 | some _ => optE o
def MT.entries (m : MT) : Nat := match m with | none => 0 | some (_, l) => l.length
def MT.width (m : MT) : Nat := match m with | none => 0 | some (wd, _) => wd

/-! ### Runs -/
abbrev Runs := List (Nat × Nat)
def bump (rs : Runs) : Runs := rs.set (rs.length - 1) ((rs.getD (rs.length - 1) (0, 0)).1, (rs.getD (rs.length - 1) (0, 0)).2 + 1)
/-- the runs of the indices below n that p holds of -/
def runsN (p : Nat → Bool) : Nat → Runs
  | 0 => []
  | i + 1 => if p i then (if 0 < i ∧ p (i - 1) = true then bump (runsN p i) else runsN p i ++ [(i, 1)]) else runsN p i
/-- how many indices below n p holds of -/
def cntN (p : Nat → Bool) : Nat → Nat
  | 0 => 0
  | i + 1 => cntN p i + (if p i then 1 else 0)
def sizes (rs : Runs) : Nat := (rs.map (·.2)).sum
def MT.is (m : MT) (v : Int) (k : Nat) : Bool := match m with
  | none => false
  | some (_, l) => decide (((l.getD k 0 : Nat) : Int) = v)
def MT.runs (m : MT) (v : Int) : Runs := runsN (m.is v) m.entries
def MT.count (m : MT) (v : Int) : Nat := cntN (m.is v) m.entries
theorem bump_len (rs : Runs) : (bump rs).length = rs.length := by simp [bump]
theorem runsN_len (p : Nat → Bool) (n : Nat) : (runsN p n).length ≤ n := by
  induction n with
  | zero => simp [runsN]
  | succ n ih =>
    simp only [runsN]
    split
    · split
      · rw [bump_len]; omega
      · simp; omega
    · omega
theorem runsN_pos (p : Nat → Bool) (n : Nat) (h : 0 < n) (hp : p (n - 1) = true) : 0 < (runsN p n).length := by
  cases n with
  | zero => omega
  | succ n =>
    simp only [Nat.add_sub_cancel] at hp
    simp only [runsN, hp, if_true]
    split
    · rename_i h2
      rw [bump_len]; exact runsN_pos p n h2.1 h2.2
    · simp
theorem sizes_bump (rs : Runs) (h : 0 < rs.length) : sizes (bump rs) = sizes rs + 1 := by
  rcases List.eq_nil_or_concat rs with rfl | ⟨xs, x, rfl⟩
  · simp at h
  · simp [bump, sizes]
    omega
theorem sizes_runsN (p : Nat → Bool) (n : Nat) : sizes (runsN p n) = cntN p n := by
  induction n with
  | zero => rfl
  | succ n ih =>
    simp only [runsN, cntN]
    split
    · split
      · rename_i h2
        rw [sizes_bump _ (runsN_pos p n h2.1 h2.2), ih]
      · simp [sizes, ← ih]
    · rw [ih]; rfl
theorem cntN_le (p : Nat → Bool) (n : Nat) : cntN p n ≤ n := by
  induction n with
  | zero => exact Nat.le_refl _
  | succ n ih => simp only [cntN]; split <;> omega

/-! ### New, Merge, Same -/
def okW (wd : Int) : Bool := [1, 2, 4, 8].any fun x => wd == x
def newM (n wd : Int) : MT := if 1 ≤ n ∧ n ≤ 4096 ∧ okW wd = true then some (wd.toNat, List.replicate n.toNat 0) else none
def errOf (m : MT) : Int := if m.isSome then 0 else 1
def MT.alike (m k : MT) : Bool := match m, k with
  | some (wd, l), some (wd', l') => decide (l.length = l'.length) && decide (wd = wd')
  | _, _ => false
def mrg (op : Int) (a b : Nat) : Nat := if op = 0 then max a b else if op = 1 then min a b else a - b
def mixN (op : Int) (l l' : List Nat) : Nat → List Nat
  | 0 => l
  | j + 1 => (mixN op l l' j).set j (mrg op (l.getD j 0) (l'.getD j 0))
theorem mixN_len (op : Int) (l l' : List Nat) (j : Nat) : (mixN op l l' j).length = l.length := by
  induction j with
  | zero => rfl
  | succ j ih => simp [mixN, ih]
def MT.merge (m k : MT) (op : Int) : MT := match m, k with
  | some (wd, l), some (_, l') => if m.alike k = true ∧ 0 ≤ op ∧ op ≤ 2 then some (wd, mixN op l l' l.length) else none
  | _, _ => none
def MT.same (m k : MT) : Bool := match m, k with
  | some (wd, l), some (wd', l') => decide (wd = wd') && decide (l = l')
  | _, _ => false

/-! ### The law's calls -/
/-- Kind, A, B, C -/
abbrev Act4 := Int × Int × Int × Int
def MT.act (m : MT) (x : Act4) : MT :=
  if x.1 = 0 then m.setM x.2.1 x.2.2.1
  else if x.1 = 1 then m.fillM x.2.1 x.2.2.1 x.2.2.2
  else if x.1 = 2 then m.swapM x.2.1 x.2.2.1 x.2.2.2
  else if x.1 = 3 then m.addM x.2.1 x.2.2.1
  else m
end Go.Proofs.YtgcofabdialaaaaGreat
