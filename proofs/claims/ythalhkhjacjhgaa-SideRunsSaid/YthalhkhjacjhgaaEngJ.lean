/- The engine, part J: small additions. My own; no program in sight. -/
import Derived.Test.YthalhkhjacjhgaaEngI
namespace Go.Proofs.Ythalhkhjacjhgaa
set_option linter.unusedSimpArgs false
set_option linter.unusedVariables false
section
variable {P : Program} {d : Option Nat} {rest : List XO} {ρ : Env} {w : World} {C : Env → World → Prop}
theorem stNT {b i n : Nat} {vs cs : List Value} (h : At w b vs) (hn : cs.length = n) (hi : i + n ≤ vs.length) (h1 : ∀ u, u ∈ cs → oneC u = true)
    (k : ∀ w', w'.heap.size = w.heap.size → At w' b (setL vs i cs) → Only [b] w w' → VO P rest (putO ρ d undef) w' C) : StNT P n (.pointer (some ⟨b, i, none⟩)) (.agg ⟨cs⟩) d rest ρ w C := by
  obtain ⟨T, h⟩ := h
  obtain ⟨k1, k2, k3, k4⟩ := setCells_at (off := i) cs 0 w vs h (by omega) h1
  unfold StNT
  exact ⟨_, _, rfl, rfl, hn, k1, k _ k4 ⟨T, k2⟩ k3⟩
theorem stNS {L : List Nat} {w0 : World} {b i n : Nat} {vs cs : List Value} (h : At w b vs) (hn : cs.length = n) (hi : i + n ≤ vs.length) (h1 : ∀ u, u ∈ cs → oneC u = true)
    (k : ∀ w', w'.heap.size = w.heap.size → At w' b (setL vs i cs) → Only [b] w w' → (rest = [] ∨ SB L w0 w') ∧ VS P L w0 rest (putO ρ d undef) w' C) : StNS P L w0 n (.pointer (some ⟨b, i, none⟩)) (.agg ⟨cs⟩) d rest ρ w C := by
  obtain ⟨T, h⟩ := h
  obtain ⟨k1, k2, k3, k4⟩ := setCells_at (off := i) cs 0 w vs h (by omega) h1
  obtain ⟨h1, h2⟩ := k _ k4 ⟨T, k2⟩ k3
  unfold StNS
  exact ⟨_, _, rfl, rfl, hn, k1, h1, h2⟩
end
theorem cellsAt_drew (w : World) (p : Addr) (n : Nat) : cellsAt w.drew p n = cellsAt w p n := by unfold cellsAt; simp only [World.cell?_drew]
/-- paths that meet again: J holds where they meet, and but the slots of W are as before -/
theorem run_cut {P : Program} {f : FX} {x : XCode} {kx : List XI} {ρ : Env} {w : World} {R : Value → World → Prop} (W : List Nat) (J : Env → World → Prop)
    (h1 : ∀ k, (∀ ρ' w', Keeps W ρ ρ' → J ρ' w' → Run P f k ρ' w' R) → Run P f (.code x :: k) ρ w R) (h2 : ∀ g w', J g w' → Run P f kx (ovr W g ρ) w' R) : Run P f (.code x :: kx) ρ w R :=
  h1 kx fun ρ' w' hk hj => by rw [hk.eq]; exact h2 ρ' w' hj
theorem bne_tf : (true != false) = true := Eq.trans rfl rfl
theorem bne_ff : (false != false) = false := Eq.trans rfl rfl
theorem bne_tt : (true != true) = false := Eq.trans rfl rfl
theorem bne_ft : (false != true) = true := Eq.trans rfl rfl
theorem beq_tf : (true == false) = false := Eq.trans rfl rfl
theorem beq_ff : (false == false) = true := Eq.trans rfl rfl
theorem beq_tt : (true == true) = true := Eq.trans rfl rfl
theorem beq_ft : (false == true) = false := Eq.trans rfl rfl
attribute [go_sem] cellsAt_drew bne_tf bne_ff bne_tt bne_ft beq_tf beq_ff beq_tt beq_ft
theorem setL_two (x y a b : Value) : setL [x, y] 0 [a, b] = [a, b] := Eq.trans rfl rfl
end Go.Proofs.Ythalhkhjacjhgaa
