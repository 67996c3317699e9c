/- Roots: the plain model: what each call answers; rows of integers in memory. -/
import Derived.Test.YtblfmacnkacalaaCode
import Derived.Test.YtblfmacnkacalaaEngJ
import Derived.Test.YtblfmacnkacalaaBits
namespace Go.Proofs.Ytblfmacnkacalaa
set_option linter.unusedSimpArgs false
set_option linter.unusedVariables false
set_option maxRecDepth 8000

def ints (xs : List Int) : List Value := xs.map fun (x : Int) => .int .i64 x
theorem ints_length (xs : List Int) : (ints xs).length = xs.length := by simp [ints]
theorem ints_append (xs ys : List Int) : ints (xs ++ ys) = ints xs ++ ints ys := by simp [ints]
theorem ints_get {xs : List Int} {i : Nat} (rest : List Value) (h : i < xs.length) : (ints xs ++ rest)[i]? = some (.int .i64 (xs.getD i 0)) := by
  rw [List.getElem?_append_left (by simpa [ints] using h)]
  simp [ints, h]
theorem ints_set {xs : List Int} {i : Nat} {v : Int} (rest : List Value) (h : i < xs.length) : (ints xs ++ rest).set i (.int .i64 v) = ints (xs.set i v) ++ rest := by
  rw [List.set_append_left _ _ (by simpa [ints] using h)]
  simp [ints, List.map_set]
theorem ints_one {xs : List Int} : ∀ u, u ∈ ints xs → oneC u = true := by
  intro u hu
  simp only [ints, List.mem_map] at hu
  obtain ⟨x, _, rfl⟩ := hu
  rfl
theorem ints_replicate (n : Nat) : ints (List.replicate n 0) = List.replicate n (.int .i64 0) := by simp [ints]
/-- how far slot t is below n -/
def upTo (n : Nat) (t : Nat) (g : Env) : Nat := match g t with | .int _ i => (n - i).toNat | _ => 0
theorem upTo_int {n t : Nat} {g : Env} {k : IntKind} {i : Nat} (h : g t = .int k i) : upTo n t g = n - i := by unfold upTo; rw [h]; show ((n : Int) - i).toNat = _; omega
theorem i64_succ (i : Nat) (h : i ≤ 4611686018427387903) : IntKind.i64.wrap ((i : Int) + 1) = ((i + 1 : Nat) : Int) := i64_of_nat (i + 1) (by omega)
theorem add_block (a : Addr) (i : Nat) : (a.add i).block = a.block := by unfold Addr.add; split <;> rfl
theorem nil_eq : (Value.slice none 0 0 = .slice none 0 0) = True := by simp

theorem Sl.nil1 (w : World) : Sl w 1 (.slice none 0 0) 0 [] [] := ⟨rfl, .inl ⟨rfl, rfl, rfl⟩⟩
theorem Sl.pos {w : World} {v : Value} {n : Nat} {xs : List Value} {fp : List Nat} (h : Sl w 1 v n xs fp) (hn : 0 < n) : ∃ g cap ys, v = .slice (some ⟨g, 0, none⟩) n cap ∧ At w g (xs ++ ys) ∧ fp = [g] ∧ n ≤ cap := by
  rcases h.2 with ⟨_, h0, _⟩ | ⟨g, cap, ys, T, h1, h2, h3, h4, h5⟩
  · omega
  · exact ⟨g, cap, ys, h1, ⟨T, h3⟩, h2, h5⟩
theorem Sl.mk1 {w : World} {g n cap : Nat} {xs ys : List Value} (h : At w g (xs ++ ys)) (h1 : xs.length = n) (h2 : (xs ++ ys).length = cap) : Sl w 1 (.slice (some ⟨g, 0, none⟩) n cap) n xs [g] := by
  obtain ⟨T, h⟩ := h
  refine ⟨by simpa using h1, .inr ⟨g, cap, ys, T, rfl, rfl, h, by simpa using h2, ?_⟩⟩
  simp at h2; omega
theorem Sl.keep {w w' : World} {sz : Nat} {v : Value} {n : Nat} {xs : List Value} {fp S : List Nat} (h : Sl w sz v n xs fp) (k : Only S w w') (hd : ∀ x, x ∈ fp → x ∉ S) : Sl w' sz v n xs fp := by
  refine ⟨h.1, ?_⟩
  rcases h.2 with h1 | ⟨g, cap, ys, T, h1, h2, h3, h4⟩
  · exact .inl h1
  · subst h2
    exact .inr ⟨g, cap, ys, T, h1, rfl, by rw [k.block g (Array.getElem?_eq_some_iff.1 h3).1 (hd g (by simp))]; exact h3, h4⟩
theorem Sl.keep0 {w w' : World} {sz : Nat} {v : Value} {n : Nat} {xs : List Value} {fp : List Nat} (h : Sl w sz v n xs fp) (k : Only [] w w') : Sl w' sz v n xs fp := h.keep k (by simp)
theorem Sl.lt {w : World} {sz : Nat} {v : Value} {n : Nat} {xs : List Value} {fp : List Nat} (h : Sl w sz v n xs fp) : ∀ x, x ∈ fp → x < w.heap.size := by
  rcases h.2 with ⟨_, _, h1⟩ | ⟨g, cap, ys, T, h1, h2, h3, h4⟩
  · subst h1; intro x hx; cases hx
  · subst h2; intro x hx; simp only [List.mem_singleton] at hx; subst hx; exact (Array.getElem?_eq_some_iff.1 h3).1
theorem Sl.val {w : World} {sz : Nat} {v : Value} {n : Nat} {xs : List Value} {fp : List Nat} (h : Sl w sz v n xs fp) : ∃ (a : Option Addr) (cap : Nat), v = .slice a n cap := by
  rcases h.2 with ⟨h1, h2, _⟩ | ⟨g, cap, ys, T, h1, h2, h3, h4⟩
  · subst h2; exact ⟨none, 0, h1⟩
  · exact ⟨_, _, h1⟩
theorem Sl.nodup {w : World} {sz : Nat} {v : Value} {n : Nat} {xs : List Value} {fp : List Nat} (h : Sl w sz v n xs fp) : fp.Nodup := by
  rcases h.2 with ⟨_, _, h1⟩ | ⟨g, cap, ys, T, h1, h2, h3, h4⟩
  · subst h1; simp
  · subst h2; simp
theorem SrcIs.at {w : World} {sz q m c : Nat} {us : List Value} (h : At w q us) (h1 : us.length = m * sz) : SrcIs w sz (.slice (some ⟨q, 0, none⟩) m c) m us :=
  ⟨h1, .inr ⟨_, c, rfl, by rw [cellsAt_at h 0 _ (by omega)]; simp [← h1]⟩⟩
/-- a row as the source of an append -/
theorem Sl.src {w : World} {v : Value} {n : Nat} {xs : List Value} {fp : List Nat} (h : Sl w 1 v n xs fp) : SrcIs w 1 v n xs := by
  refine ⟨h.1, ?_⟩
  rcases h.2 with ⟨h1, h2, _⟩ | ⟨g, cap, ys, T, h1, h2, h3, h4⟩
  · exact .inl ⟨0, h1, h2⟩
  · refine .inr ⟨_, cap, h1, ?_⟩
    have hl := h.1
    rw [cellsAt_at (vs := xs ++ ys) ⟨T, h3⟩ 0 _ (by simp; omega)]
    simp [← hl]

/-! ### The model -/
structure MS where
  M : Nat
  S : List Int
  G : List Int
  Q : List Int
structure MS.Ok (s : MS) : Prop where
  m1 : 1 ≤ s.M
  m4 : s.M ≤ 4
  ls : s.S.length = 16 * s.M
  lg : s.G.length = 16
  lq : s.Q.length ≤ 64
abbrev PT := Int × Int × Int
def plV (p : PT) : List Value := [.int .i64 p.1, .int .i64 p.2.1, .int .i64 p.2.2]
theorem plV_eq (p : PT) : plV p = [.int .i64 p.1, .int .i64 p.2.1, .int .i64 p.2.2] := Eq.trans rfl rfl
theorem plV_one {p : PT} : ∀ u, u ∈ plV p → oneC u = true := by
  intro u hu
  simp only [plV, List.mem_cons, List.not_mem_nil, or_false] at hu
  rcases hu with rfl | rfl | rfl <;> rfl
def seg (s : MS) (p : PT) : Option (Nat × Nat) :=
  if p.1 = 0 ∧ 0 ≤ p.2.1 ∧ p.2.1 < s.M then (if 0 ≤ p.2.2 ∧ p.2.2 < 16 then some (0, (16 * p.2.1 + p.2.2).toNat) else none)
  else if p.1 = 1 ∧ p.2.1 = 0 then (if 0 ≤ p.2.2 ∧ p.2.2 < 16 then some (1, p.2.2.toNat) else none)
  else if p.1 = 2 ∧ p.2.1 = 0 then (if 0 ≤ p.2.2 ∧ p.2.2 < s.Q.length then some (2, p.2.2.toNat) else none)
  else none
def MS.rd (s : MS) : Nat × Nat → Int
  | (0, i) => s.S.getD i 0
  | (1, i) => s.G.getD i 0
  | (_, i) => s.Q.getD i 0
def MS.wr (s : MS) (x : Nat × Nat) (a : Int) : MS := match x with
  | (0, i) => { s with S := s.S.set i a }
  | (1, i) => { s with G := s.G.set i a }
  | (_, i) => { s with Q := s.Q.set i a }
theorem MS.Ok.wr {s : MS} (h : s.Ok) (x : Nat × Nat) (a : Int) : (s.wr x a).Ok := by
  obtain ⟨h1, h2, h3, h4, h5⟩ := h
  unfold MS.wr
  split <;> exact ⟨h1, h2, by simpa using h3, by simpa using h4, by simpa using h5⟩
abbrev MO := Option MS
def getO (m : MO) (p : PT) : Int × Int := match m with
  | none => (0, 5)
  | some s => (match seg s p with | none => (0, 1) | some x => (s.rd x, 0))
def badA (p : PT) (a : Int) : Bool := decide (a < 0) || (decide (a = 0) && decide (p.1 = 2))
def setO (m : MO) (p : PT) (a : Int) : Int × MO := match m with
  | none => (5, none)
  | some s => (match seg s p with | none => (1, some s) | some x => (if badA p a then (1, some s) else (0, some (s.wr x a))))
def pushO (m : MO) (a : Int) : Int × MO := match m with
  | none => (5, none)
  | some s => (if a ≤ 0 then (1, some s) else (if s.Q.length = 64 then (6, some s) else (0, some { s with Q := s.Q ++ [a] })))
def popO (m : MO) : (Int × Int) × MO := match m with
  | none => ((0, 5), none)
  | some s => (match s.Q with | [] => ((0, 4), some s) | a :: q => ((a, 0), some { s with Q := q }))
def newO (n : Int) : MO := if 1 ≤ n ∧ n ≤ 4 then some ⟨n.toNat, List.replicate (16 * n.toNat) 0, List.replicate 16 0, []⟩ else none
theorem newO_ok {n : Int} {s : MS} (h : newO n = some s) : s.Ok := by
  unfold newO at h
  split at h
  · rename_i hn; cases h
    exact ⟨by show 1 ≤ n.toNat; omega, by show n.toNat ≤ 4; omega, by simp, by simp, by simp⟩
  · cases h
def MS.V (s : MS) : List Int := s.S ++ s.G ++ s.Q
/-- all places, in order -/
def everyS (s : MS) : List PT := ((List.range (16 * s.M)).map fun j => ((0 : Int), ((j / 16 : Nat) : Int), ((j % 16 : Nat) : Int))) ++ ((List.range 16).map fun j => ((1 : Int), (0 : Int), ((j : Nat) : Int))) ++ ((List.range s.Q.length).map fun j => ((2 : Int), (0 : Int), ((j : Nat) : Int)))
def everyO : MO → List PT | none => [] | some s => everyS s
def mutO : MO → Int | none => 0 | some s => (s.M : Int)
def queueO : MO → List Int | none => [] | some s => s.Q
def allO : MO → List Int | none => [] | some s => s.V
/-- places that are not empty, with what they are -/
def filled (s : MS) : List (PT × Int) := ((everyS s).zip s.V).filter fun x => x.2 != 0
def placesO : MO → List PT | none => [] | some s => (filled s).map (·.1)
def addNew (acc : List Int) (x : Int) : List Int := if acc.contains x then acc else acc ++ [x]
def leadsO : MO → List Int | none => [] | some s => ((filled s).map (·.2)).foldl addNew []
/-- what Replace makes of an address -/
def repl (f t : List Int) (x : Int) : Int := match f, t with
  | a :: f, b :: t => if x = a then b else repl f t x
  | _, _ => x
def okI (f t : List Int) (i : Nat) : Bool := decide (0 < f.getD i 0) && decide (0 < t.getD i 0) && (decide (i = 0) || decide (f.getD (i - 1) 0 < f.getD i 0))
def goodL (f t : List Int) : Bool := decide (f.length = t.length) && (List.range f.length).all (okI f t)
def MS.map (s : MS) (g : Int → Int) : MS := { s with S := s.S.map g, G := s.G.map g, Q := s.Q.map g }
def replO (m : MO) (f t : List Int) : (Int × Int) × MO := match m with
  | none => ((0, 5), none)
  | some s => if goodL f t then (((((filled s).countP fun x => f.contains x.2 : Nat) : Int), 0), some (s.map (repl f t))) else ((0, 1), some s)

theorem seg_cases {s : MS} {p : PT} {x : Nat × Nat} (h : s.Ok) (e : seg s p = some x) :
    (p.1 = 0 ∧ 0 ≤ p.2.1 ∧ p.2.1 < s.M ∧ 0 ≤ p.2.2 ∧ p.2.2 < 16 ∧ ∃ i, x = (0, i) ∧ (i : Int) = 16 * p.2.1 + p.2.2 ∧ i < s.S.length) ∨
    (p.1 = 1 ∧ p.2.1 = 0 ∧ 0 ≤ p.2.2 ∧ p.2.2 < 16 ∧ ∃ i : Nat, x = (1, i) ∧ (i : Int) = p.2.2 ∧ i < s.G.length) ∨
    (p.1 = 2 ∧ p.2.1 = 0 ∧ 0 ≤ p.2.2 ∧ p.2.2 < s.Q.length ∧ ∃ i : Nat, x = (2, i) ∧ (i : Int) = p.2.2 ∧ i < s.Q.length) := by
  unfold seg at e
  have h3 := h.ls; have h4 := h.lg
  split at e
  · rename_i h1
    split at e
    · rename_i h2; cases e
      exact .inl ⟨h1.1, h1.2.1, h1.2.2, h2.1, h2.2, _, rfl, by omega, by omega⟩
    · cases e
  · split at e
    · rename_i h1
      split at e
      · rename_i h2; cases e
        exact .inr (.inl ⟨h1.1, h1.2, h2.1, h2.2, _, rfl, by omega, by omega⟩)
      · cases e
    · split at e
      · rename_i h1
        split at e
        · rename_i h2; cases e
          exact .inr (.inr ⟨h1.1, h1.2, h2.1, h2.2, _, rfl, by omega, by omega⟩)
        · cases e
      · cases e
end Go.Proofs.Ytblfmacnkacalaa
