/- The engine, part J: small additions. My own; no program in sight. -/
import Derived.Test.YtgcofabdialaaaaGreatEngI
namespace Go.Proofs.YtgcofabdialaaaaGreat
set_option linter.unusedSimpArgs false
set_option linter.unusedVariables false
section
variable {P : Program} {d : Option Nat} {rest : List XO} {ρ : Env} {w : World} {C : Env → World → Prop}
theorem stNT {b i n : Nat} {vs cs : List Value} (h : At w b vs) (hn : cs.length = n) (hi : i + n ≤ vs.length) (h1 : ∀ u, u ∈ cs → oneC u = true)
    (k : ∀ w', w'.heap.size = w.heap.size → At w' b (setL vs i cs) → Only [b] w w' → VO P rest (putO ρ d undef) w' C) : StNT P n (.pointer (some ⟨b, i, none⟩)) (.agg ⟨cs⟩) d rest ρ w C := by
  obtain ⟨T, h⟩ := h
  obtain ⟨k1, k2, k3, k4⟩ := setCells_at (off := i) cs 0 w vs h (by omega) h1
  unfold StNT
  exact ⟨_, _, rfl, rfl, hn, k1, k _ k4 ⟨T, k2⟩ k3⟩
theorem stNS {fl : Bool} {rest : XT} {L : List Nat} {w0 : World} {b i n : Nat} {vs cs : List Value} (h : At w b vs) (hn : cs.length = n) (hi : i + n ≤ vs.length) (h1 : ∀ u, u ∈ cs → oneC u = true)
    (k : ∀ w', w'.heap.size = w.heap.size → At w' b (setL vs i cs) → Only [b] w w' → (fl = true ∨ SB L w0 w') ∧ VT P L w0 rest (putO ρ d undef) w' C) : StNS P fl L w0 n (.pointer (some ⟨b, i, none⟩)) (.agg ⟨cs⟩) d rest ρ w C := by
  obtain ⟨T, h⟩ := h
  obtain ⟨k1, k2, k3, k4⟩ := setCells_at (off := i) cs 0 w vs h (by omega) h1
  obtain ⟨h1, h2⟩ := k _ k4 ⟨T, k2⟩ k3
  unfold StNS
  exact ⟨_, _, rfl, rfl, hn, k1, h1, h2⟩
end
theorem cellsAt_drew (w : World) (p : Addr) (n : Nat) : cellsAt w.drew p n = cellsAt w p n := by unfold cellsAt; simp only [World.cell?_drew]
/-- paths that meet again: J holds where they meet, and but the slots of W are as before -/
theorem run_cut {P : Program} {f : FX} {x : XCode} {kx : List XI} {ρ : Env} {w : World} {R : Value → World → Prop} (W : List Nat) (J : Env → World → Prop)
    (h1 : ∀ k, (∀ ρ' w', Keeps W ρ ρ' → J ρ' w' → Run P f k ρ' w' R) → Run P f (.code x :: k) ρ w R) (h2 : ∀ g w', J g w' → Run P f kx (ovr W g ρ) w' R) : Run P f (.code x :: kx) ρ w R :=
  h1 kx fun ρ' w' hk hj => by rw [hk.eq]; exact h2 ρ' w' hj
theorem bne_tf : (true != false) = true := Eq.trans rfl rfl
theorem bne_ff : (false != false) = false := Eq.trans rfl rfl
theorem bne_tt : (true != true) = false := Eq.trans rfl rfl
theorem bne_ft : (false != true) = true := Eq.trans rfl rfl
theorem beq_tf : (true == false) = false := Eq.trans rfl rfl
theorem beq_ff : (false == false) = true := Eq.trans rfl rfl
theorem beq_tt : (true == true) = true := Eq.trans rfl rfl
theorem beq_ft : (false == true) = false := Eq.trans rfl rfl
attribute [go_sem] cellsAt_drew bne_tf bne_ff bne_tt bne_ft beq_tf beq_ff beq_tt beq_ft
/-- slicing: bounds as numbers -/
theorem slcO_lh {size n cap l h : Nat} {k k' : IntKind} {p : Addr} (h1 : l ≤ h) (h2 : h ≤ cap) (h3 : l < cap) : slcO size (.slice (some p) n cap) (some (.int k (l : Int))) (some (.int k' (h : Int))) = some (.slice (some (p.add (l * size))) (h - l) (cap - l)) := by
  have e1 : (0 : Int) ≤ (h : Int) ∧ (h : Int) ≤ (cap : Int) := by omega
  have e2 : (0 : Int) ≤ (l : Int) ∧ (l : Int) ≤ (h : Int) := by omega
  have e3 : ¬ cap = l := by omega
  simp [slcO, boundO, e1, e2, e3]
theorem slcO_l {size n cap l : Nat} {k : IntKind} {p : Addr} (h1 : l ≤ n) (h3 : l < cap) : slcO size (.slice (some p) n cap) (some (.int k (l : Int))) none = some (.slice (some (p.add (l * size))) (n - l) (cap - l)) := by
  have e2 : (0 : Int) ≤ (l : Int) ∧ (l : Int) ≤ (n : Int) := by omega
  have e3 : ¬ cap = l := by omega
  simp [slcO, boundO, e2, e3]
theorem slcO_all {size n l : Nat} {k : IntKind} {p : Option Addr} (h1 : l = n) : slcO size (.slice p n n) (some (.int k (l : Int))) none = some (.slice p 0 0) := by
  subst h1
  have e2 : (0 : Int) ≤ (l : Int) ∧ (l : Int) ≤ (l : Int) := by omega
  simp [slcO, boundO, e2]
theorem beq_int_true {a b : Int} (h : a = b) : (a == b) = true := by simp [h]
theorem beq_int_false {a b : Int} (h : ¬ a = b) : (a == b) = false := by simp [h]
theorem bne_int_true {a b : Int} (h : ¬ a = b) : (a != b) = true := by simp [h]
theorem bne_int_false {a b : Int} (h : a = b) : (a != b) = false := by simp [h]
theorem setL_two (x y a b : Value) : setL [x, y] 0 [a, b] = [a, b] := Eq.trans rfl rfl
end Go.Proofs.YtgcofabdialaaaaGreat
