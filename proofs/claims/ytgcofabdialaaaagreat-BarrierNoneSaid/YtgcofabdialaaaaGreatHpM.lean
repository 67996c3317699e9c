/- Heaps in plain Lean, word by word: what each call answers, and what it leaves. No program in sight. -/
import Derived.Test.YtgcofabdialaaaaGreatSideM
import Derived.Test.YtgcofabdialaaaaGreatEngK
namespace Go.Proofs.YtgcofabdialaaaaGreat
set_option linter.unusedSimpArgs false
set_option linter.unusedVariables false

/-- blocks (state, space), words, where objects begin (by pairs of words), pins, places by identity, forwards, births -/
structure HL where
  B : List (Int × Int)
  W : List Int
  st : List Nat
  pn : List Nat
  pl : IM
  fw : IM
  born : Nat
abbrev HO := Option HL
/-- a shape: references, data words, kind -/
abbrev Sh := Int × Int × Int
def shV (s : Sh) : List Value := [.int .i64 s.1, .int .i64 s.2.1, .int .i64 s.2.2]
def validS (s : Sh) : Bool := decide (0 ≤ s.1) && decide (s.1 ≤ 15) && decide (0 ≤ s.2.1) && decide (s.2.1 ≤ 200) && decide (0 ≤ s.2.2) && decide (s.2.2 ≤ 3) && (decide (s.2.2 ≠ 1) || decide (1 ≤ s.1)) && (decide (s.2.2 ≠ 2) || decide (2 ≤ s.1))
def wordsS (s : Sh) : Int := if validS s then (2 + s.1 + s.2.1 + 1) / 2 * 2 else 0
def numS (s : Sh) : Int := s.1 + 16 * s.2.1 + 4096 * s.2.2
def shapeN (n : Int) : Sh := (n.tmod 16, (n.tmod 4096).tdiv 16, n.tdiv 4096)
def spaceB (n : Int) : Bool := decide (0 ≤ n) && decide (n < 8)
def HL.b (s : HL) (i : Int) : Int × Int := s.B.getD i.toNat (0, 0)
def thereO (m : HO) (b : Int) : Bool := match m with | none => false | some s => decide (1 ≤ b) && decide (b < s.B.length)
def blocksO (m : HO) : Nat := match m with | none => 0 | some s => s.B.length
def stateO (m : HO) (b : Int) : Int := match m with | none => -1 | some s => if 0 ≤ b ∧ b < s.B.length then (s.b b).1 else -1
def bspaceO (m : HO) (b : Int) : Int := match m with | none => -1 | some s => if 0 ≤ b ∧ b < s.B.length then (s.b b).2 else -1
def fillB (B : List (Int × Int)) (k : Nat) (x : Int × Int) : Nat → List (Int × Int)
  | 0 => B
  | j + 1 => (fillB B k x j).set (k + j) x
theorem fillB_len (B : List (Int × Int)) (k : Nat) (x : Int × Int) (j : Nat) : (fillB B k x j).length = B.length := by
  induction j with
  | zero => rfl
  | succ j ih => simp [fillB, ih]
/-- claim: the error, and what it leaves -/
def claimE (m : HO) (b many : Int) (first : Int × Int) : Int := match m with
  | none => 5
  | some s => if thereO m b = false ∨ many < 1 ∨ (s.B.length : Int) - b < many ∨ spaceB first.2 = false then 1
    else if ((s.B.drop b.toNat).take many.toNat).any (fun x => x != (0, 0)) then 8 else 0
def claimM (m : HO) (b many : Int) (first more : Int × Int) : HO := match m with
  | none => none
  | some s => if claimE m b many first = 0 then some { s with B := (fillB s.B b.toNat more many.toNat).set b.toNat first } else some s
/-- how many tails follow -/
def tails (B : List (Int × Int)) (b : Nat) : Nat → Nat → Nat
  | 0, n => n
  | f + 1, n => if b + n < B.length ∧ (B.getD (b + n) (0, 0)).1 = 3 then tails B b f (n + 1) else n
def HL.span (s : HL) (b : Nat) : Nat := if (s.B.getD b (0, 0)).1 = 2 then tails s.B b s.B.length 1 else 1
def HL.size (s : HL) (a : Nat) : Int := wordsS (shapeN (s.W.getD (a + 1) 0))
def HL.starts (s : HL) : MT := some (1, s.st)
def HL.pins (s : HL) : MT := some (1, s.pn)
def findO (m : HO) (a : Int) : Int × Int := match m with
  | none => (0, 5)
  | some s => if a < 0 ∨ (s.W.length : Int) ≤ a then (0, 4) else match s.starts.lastO (a / 2 + 1) 1 with
    | none => (0, 4)
    | some i => if 2 * (i : Int) + s.size (2 * i) ≤ a then (0, 4) else (2 * (i : Int), 0)
/-- is some word of these another object's? -/
def takenB (s : HL) (a : Int) (but : Int) (j : Nat) : Bool := (findO (some s) (a + 2 * (j : Int))).2 == 0 && (findO (some s) (a + 2 * (j : Int))).1 != but
def argB (s : HL) (a : Int) : Bool := decide (a < 0) || decide ((s.W.length : Int) ≤ a) || decide (¬ a % 2 = 0)
def wrongB (s : HL) (a words : Int) : Bool := if words ≤ 32 then decide ((s.b (a / 64)).1 ≠ 1) || decide ((a + words - 1) / 64 ≠ a / 64) else decide ((s.b (a / 64)).1 ≠ 2) || decide (a % 64 ≠ 0) || decide ((s.span (a / 64).toNat : Int) ≠ (words + 63) / 64)
def fitsE (s : HL) (a words but : Int) : Int := if argB s a = true then 1 else if wrongB s a words = true then 5 else if (List.range ((words + 1) / 2).toNat).any (takenB s a but) = true then 8 else 0
def placeR (m : HO) (a : Int) (sh : Sh) : Int × Int := match m with
  | none => (0, 5)
  | some s => if validS sh = false then (0, 2) else if fitsE s a (wordsS sh) (-1) ≠ 0 then (0, fitsE s a (wordsS sh) (-1)) else (((s.born + 1 : Nat) : Int), 0)
def placeM (m : HO) (a : Int) (sh : Sh) : HO := match m with
  | none => none
  | some s => if (placeR m a sh).2 = 0 then some { s with W := (s.W.set a.toNat ((s.born + 1 : Nat) : Int)).set (a.toNat + 1) (numS sh), st := s.st.set (a.toNat / 2) 1, pl := putM s.pl ((s.born + 1 : Nat) : Int) (.int .i64 a), born := s.born + 1 } else some s
def hasO (m : HO) (a : Int) : Bool := match m with
  | none => false
  | some s => decide (0 ≤ a) && decide (a % 2 = 0) && decide (s.starts.get (a / 2) = 1)
def objE (m : HO) (a : Int) : Int := match m with
  | none => 5
  | some _ => if hasO m a then 0 else 4
def HL.shapeAt (s : HL) (a : Int) : Sh := shapeN (s.W.getD (a.toNat + 1) 0)
def shapeO (m : HO) (a : Int) : Sh × Int := match m with
  | none => ((0, 0, 0), 5)
  | some s => if objE m a = 0 then (s.shapeAt a, 0) else ((0, 0, 0), objE m a)
def fieldO (m : HO) (a i : Int) (data : Bool) : Int × Int := match m with
  | none => (0, 5)
  | some s => if objE m a ≠ 0 then (0, objE m a) else
    if i < 0 ∨ (bif data then (s.shapeAt a).2.1 else (s.shapeAt a).1) ≤ i then (0, 1) else ((bif data then a + 2 + (s.shapeAt a).1 else a + 2) + i, 0)
def refO (m : HO) (a i : Int) : Int × Int := match m with
  | none => (0, 5)
  | some s => if (fieldO m a i false).2 = 0 then (s.W.getD (fieldO m a i false).1.toNat 0, 0) else (0, (fieldO m a i false).2)
def setRefE (m : HO) (a i to : Int) : Int := match m with
  | none => 5
  | some _ => if (fieldO m a i false).2 ≠ 0 then (fieldO m a i false).2 else if to ≠ 0 ∧ hasO m to = false then 1 else 0
def setRefM (m : HO) (a i to : Int) : HO := match m with
  | none => none
  | some s => if setRefE m a i to = 0 then some { s with W := s.W.set (fieldO m a i false).1.toNat to } else some s
/-- what holds of every heap that was made -/
structure HL.Ok (s : HL) : Prop where
  b2 : 2 ≤ s.B.length
  b64 : s.B.length ≤ 64
  wl : s.W.length = 64 * s.B.length
  sl : s.st.length = 32 * s.B.length
  pl : s.pn.length = 32 * s.B.length
  fit : ∀ i, s.st.getD i 0 = 1 → ∃ r d k : Nat, validS (r, d, k) = true ∧ s.W.getD (2 * i + 1) 0 = numS (r, d, k) ∧ ((2 * i : Nat) : Int) + wordsS (r, d, k) ≤ s.W.length
  dj : ∀ i j, s.st.getD i 0 = 1 → s.st.getD j 0 = 1 → i < j → ((2 * i : Nat) : Int) + s.size (2 * i) ≤ ((2 * j : Nat) : Int)
def newH (n : Int) : HO := if 2 ≤ n ∧ n ≤ 64 then some ⟨List.replicate n.toNat (0, 0), List.replicate (64 * n.toNat) 0, List.replicate (32 * n.toNat) 0, List.replicate (32 * n.toNat) 0, [], [], 0⟩ else none
theorem shape_num {r d k : Nat} (h : validS (r, d, k) = true) : shapeN (numS (r, d, k)) = ((r : Int), (d : Int), (k : Int)) := by
  simp only [validS, Bool.and_eq_true, decide_eq_true_eq] at h
  have h1 : numS (r, d, k) = ((r + 16 * d + 4096 * k : Nat) : Int) := by simp [numS]
  rw [h1]
  simp only [shapeN]
  rw [Int.tmod_eq_emod_of_nonneg (by omega), Int.tmod_eq_emod_of_nonneg (by omega), Int.tdiv_eq_ediv_of_nonneg (by omega), Int.tdiv_eq_ediv_of_nonneg (by omega)]
  have := h.1.1
  refine Prod.ext ?_ (Prod.ext ?_ ?_) <;> simp only <;> omega
theorem words_le {s : Sh} (h : validS s = true) : 2 ≤ wordsS s ∧ wordsS s ≤ 218 ∧ wordsS s % 2 = 0 ∧ 2 + s.1 + s.2.1 ≤ wordsS s := by
  unfold wordsS
  rw [if_pos h]
  simp only [validS, Bool.and_eq_true, decide_eq_true_eq] at h
  omega
theorem words_any (s : Sh) : 0 ≤ wordsS s ∧ wordsS s ≤ 218 ∧ wordsS s % 2 = 0 := by
  cases h : validS s with
  | true => have := words_le h; omega
  | false => unfold wordsS; rw [h]; simp
end Go.Proofs.YtgcofabdialaaaaGreat
