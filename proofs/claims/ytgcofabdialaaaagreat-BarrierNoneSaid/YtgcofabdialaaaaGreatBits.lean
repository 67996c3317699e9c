/- Bits of packed words: plain laws, no program in sight. My own. -/
import Derived.Test.YtgcofabdialaaaaGreatEngI
namespace Go.Proofs.YtgcofabdialaaaaGreat
set_option linter.unusedSimpArgs false
set_option linter.unusedVariables false

theorem i64_of_nat (n : Nat) (h : n ≤ 4611686018427387904) : IntKind.i64.wrap (n : Int) = n := IntWalk.i64_in _ (by omega)
theorem u64_of_nat (n : Nat) (h : n < 18446744073709551616) : IntKind.u64.wrap (n : Int) = n := IntWalk.u64_in _ (by omega)

theorem ofInt_wrap_i64 (n : Int) : BitVec.ofInt 64 (IntKind.i64.wrap n) = BitVec.ofInt 64 n := by
  apply BitVec.eq_of_toNat_eq
  rw [BitVec.toNat_ofInt, BitVec.toNat_ofInt, IntKind.wrap_i64]
  congr 1
  have e : ((2 : Nat) ^ 64 : Nat) = 18446744073709551616 := by decide
  rw [e]
  omega

theorem ofInt_nat (n : Nat) : BitVec.ofInt 64 (n : Int) = BitVec.ofNat 64 n := by
  apply BitVec.eq_of_toNat_eq
  simp

theorem bitI_i64 (op : BinOp) (a b : Int) : bitI op .i64 a b = IntKind.i64.wrap ((match op with | .and => (BitVec.ofInt 64 a &&& BitVec.ofInt 64 b).toNat | .or => (BitVec.ofInt 64 a ||| BitVec.ofInt 64 b).toNat | .xor => (BitVec.ofInt 64 a ^^^ BitVec.ofInt 64 b).toNat | _ => (BitVec.ofInt 64 a &&& ~~~(BitVec.ofInt 64 b)).toNat : Nat) : Int) := rfl
theorem bitI_u64 (op : BinOp) (a b : Int) : bitI op .u64 a b = IntKind.u64.wrap ((match op with | .and => (BitVec.ofInt 64 a &&& BitVec.ofInt 64 b).toNat | .or => (BitVec.ofInt 64 a ||| BitVec.ofInt 64 b).toNat | .xor => (BitVec.ofInt 64 a ^^^ BitVec.ofInt 64 b).toNat | _ => (BitVec.ofInt 64 a &&& ~~~(BitVec.ofInt 64 b)).toNat : Nat) : Int) := rfl

theorem u64_shl (a k : Nat) (h : a <<< k < 2 ^ 64) : IntKind.u64.wrap ((a : Int) * 2 ^ k) = ((a <<< k : Nat) : Int) := by
  have : ((a : Int) * 2 ^ k) = ((a <<< k : Nat) : Int) := by rw [Nat.shiftLeft_eq, Int.natCast_mul, Int.natCast_pow]; rfl
  rw [this, u64_of_nat _ h]
/-- int(x) & m -/
theorem bitI_and_nat {x m : Nat} (hm : m < 4611686018427387904) : bitI .and .i64 (IntKind.i64.wrap (x : Int)) (m : Int) = ((x &&& m : Nat) : Int) := by
  rw [bitI_i64, ofInt_wrap_i64, ofInt_nat, ofInt_nat]
  have e : (BitVec.ofNat 64 x &&& BitVec.ofNat 64 m).toNat = x &&& m := by
    rw [← BitVec.ofNat_and, BitVec.toNat_ofNat, Nat.mod_eq_of_lt]
    exact Nat.lt_of_le_of_lt Nat.and_le_right (by omega)
  show IntKind.i64.wrap (((BitVec.ofNat 64 x &&& BitVec.ofNat 64 m).toNat : Nat) : Int) = _
  rw [e, i64_of_nat]
  exact Nat.le_trans Nat.and_le_right (by omega)

/-- x | y, x &^ y, at uint64 -/
theorem bitI_or_nat {x y : Nat} (hx : x < 2 ^ 64) (hy : y < 2 ^ 64) : bitI .or .u64 (x : Int) (y : Int) = ((x ||| y : Nat) : Int) := by
  rw [bitI_u64, ofInt_nat, ofInt_nat]
  have e : (BitVec.ofNat 64 x ||| BitVec.ofNat 64 y).toNat = x ||| y := by
    rw [← BitVec.ofNat_or, BitVec.toNat_ofNat, Nat.mod_eq_of_lt (Nat.or_lt_two_pow hx hy)]
  show IntKind.u64.wrap (((BitVec.ofNat 64 x ||| BitVec.ofNat 64 y).toNat : Nat) : Int) = _
  rw [e, u64_of_nat]
  exact Nat.or_lt_two_pow hx hy
/-- x without the bits of y -/
def clr (x y : Nat) : Nat := (BitVec.ofNat 64 x &&& ~~~(BitVec.ofNat 64 y)).toNat
theorem clr_lt (x y : Nat) : clr x y < 2 ^ 64 := (BitVec.ofNat 64 x &&& ~~~(BitVec.ofNat 64 y)).isLt
theorem clr_bit (x y k : Nat) (hx : x < 2 ^ 64) : (clr x y).testBit k = (x.testBit k && !(y.testBit k)) := by
  unfold clr
  rw [BitVec.testBit_toNat, BitVec.getLsbD_and, BitVec.getLsbD_not]
  simp only [BitVec.getLsbD_ofNat]
  by_cases hk : k < 64
  · simp [hk]
  · have : x.testBit k = false := Nat.testBit_lt_two_pow (Nat.lt_of_lt_of_le hx (Nat.pow_le_pow_right (by omega) (by omega)))
    simp [hk, this]
theorem bitI_andNot_nat (x y : Nat) : bitI .andNot .u64 (x : Int) (y : Int) = ((clr x y : Nat) : Int) := by
  rw [bitI_u64, ofInt_nat, ofInt_nat]
  show IntKind.u64.wrap ((clr x y : Nat) : Int) = _
  rw [u64_of_nat]
  exact clr_lt x y

theorem shr_nat (x r : Nat) : ((x : Int)).fdiv (2 ^ r) = ((x >>> r : Nat) : Int) := by
  rw [Nat.shiftRight_eq_div_pow]
  have : ((2 : Int) ^ r) = ((2 ^ r : Nat) : Int) := by simp
  rw [this, Int.fdiv_eq_ediv_of_nonneg _ (Int.natCast_nonneg _)]
  exact (Int.natCast_ediv _ _).symm

/-! ### Rows of entries -/
/-- the widths -/
def Wd (wd : Nat) : Prop := wd = 1 ∨ wd = 2 ∨ wd = 4 ∨ wd = 8
theorem Wd.pos {wd : Nat} (h : Wd wd) : 1 ≤ wd ∧ wd ≤ 8 := by unfold Wd at h; omega
/-- the words hold the entries, and nothing else -/
structure Pk (wd : Nat) (l ws : List Nat) : Prop where
  len : ws.length = (l.length * wd + 63) / 64
  lt : ∀ k, ws.getD k 0 < 2 ^ 64
  el : ∀ i, l.getD i 0 < 2 ^ wd
  bit : ∀ k, (ws.getD (k / 64) 0).testBit (k % 64) = (l.getD (k / wd) 0).testBit (k % wd)

theorem Wd.div {wd i j : Nat} (h : Wd wd) (hj : j < wd) : (i * wd + j) / 64 = i * wd / 64 ∧ (i * wd + j) % 64 = i * wd % 64 + j ∧ (i * wd + j) / wd = i ∧ (i * wd + j) % wd = j ∧ i * wd % 64 + wd ≤ 64 := by
  rcases h with rfl | rfl | rfl | rfl <;> omega

theorem Pk.get {wd i : Nat} {l ws : List Nat} (h : Pk wd l ws) (hw : Wd wd) : ((ws.getD (i * wd / 64) 0) >>> (i * wd % 64)) &&& (2 ^ wd - 1) = l.getD i 0 := by
  apply Nat.eq_of_testBit_eq
  intro j
  rw [Nat.testBit_and, Nat.testBit_shiftRight, Nat.testBit_two_pow_sub_one]
  by_cases hj : j < wd
  · obtain ⟨h1, h2, h3, h4, _⟩ := hw.div (i := i) hj
    have := h.bit (i * wd + j)
    rw [h1, h2, h3, h4] at this
    simp only [hj, decide_true, Bool.and_true]; exact this
  · have : (l.getD i 0).testBit j = false := Nat.testBit_lt_two_pow (Nat.lt_of_lt_of_le (h.el i) (Nat.pow_le_pow_right (by omega) (by omega)))
    rw [this]
    simp [hj]

theorem getD_set (l : List Nat) (i j v : Nat) : (l.set i v).getD j 0 = if i = j ∧ j < l.length then v else l.getD j 0 := by
  simp only [List.getD_eq_getElem?_getD, List.getElem?_set]
  by_cases h : i = j
  · subst h
    by_cases h2 : i < l.length
    · simp [h2]
    · simp [h2]
  · simp [h]

theorem Pk.put {wd i v : Nat} {l ws : List Nat} (h : Pk wd l ws) (hw : Wd wd) (hi : i < l.length) (hv : v < 2 ^ wd) :
    Pk wd (l.set i v) (ws.set (i * wd / 64) (clr (ws.getD (i * wd / 64) 0) ((2 ^ wd - 1) <<< (i * wd % 64)) ||| (v <<< (i * wd % 64)))) := by
  have hw64 : i * wd % 64 + wd ≤ 64 := (hw.div (i := i) (j := 0) (by have := hw.pos; omega)).2.2.2.2
  have hidx : i * wd / 64 < ws.length := by rw [h.len]; rcases hw with rfl | rfl | rfl | rfl <;> omega
  have hvs : v <<< (i * wd % 64) < 2 ^ 64 := by
    rw [Nat.shiftLeft_eq]
    calc v * 2 ^ (i * wd % 64) < 2 ^ wd * 2 ^ (i * wd % 64) := Nat.mul_lt_mul_of_pos_right hv (Nat.two_pow_pos _)
      _ = 2 ^ (wd + i * wd % 64) := by rw [Nat.pow_add]
      _ ≤ 2 ^ 64 := Nat.pow_le_pow_right (by omega) (by omega)
  have hlt : clr (ws.getD (i * wd / 64) 0) ((2 ^ wd - 1) <<< (i * wd % 64)) ||| (v <<< (i * wd % 64)) < 2 ^ 64 := Nat.or_lt_two_pow (clr_lt _ _) hvs
  refine ⟨by simpa using h.len, fun k => ?_, fun k => ?_, fun k => ?_⟩
  · rw [getD_set]; split
    · exact hlt
    · exact h.lt k
  · rw [getD_set]; split
    · exact hv
    · exact h.el k
  · rw [getD_set, getD_set]
    by_cases hk : i * wd / 64 = k / 64
    · rw [if_pos ⟨hk, by omega⟩, Nat.testBit_or, clr_bit _ _ _ (h.lt _), Nat.testBit_shiftLeft, Nat.testBit_shiftLeft, Nat.testBit_two_pow_sub_one]
      have hb := h.bit k
      rw [← hk] at hb
      by_cases he : i = k / wd
      · have hkk : k = i * wd + k % wd := by rw [he, Nat.mul_comm]; exact (Nat.div_add_mod k wd).symm
        have hm : k % wd < wd := Nat.mod_lt _ (by have := hw.pos; omega)
        have hd := (hw.div (i := i) hm).2.1
        rw [← hkk] at hd
        rw [if_pos ⟨he, by omega⟩]
        have e1 : i * wd % 64 ≤ k % 64 := by omega
        have e2 : k % 64 - i * wd % 64 = k % wd := by omega
        simp [e1, e2, hm]
      · rw [if_neg (by intro hc; exact he hc.1), ← hb]
        -- the bit lies outside the field
        have hout : ¬ (i * wd % 64 ≤ k % 64 ∧ k % 64 - i * wd % 64 < wd) := by
          intro hc
          apply he
          rcases hw with rfl | rfl | rfl | rfl <;> omega
        by_cases e1 : i * wd % 64 ≤ k % 64
        · have e2 : ¬ (k % 64 - i * wd % 64 < wd) := fun hc => hout ⟨e1, hc⟩
          have e3 : v.testBit (k % 64 - i * wd % 64) = false := Nat.testBit_lt_two_pow (Nat.lt_of_lt_of_le hv (Nat.pow_le_pow_right (by omega) (by omega)))
          simp [e1, e2, e3]
        · simp [e1]
    · rw [if_neg (by intro hc; exact hk hc.1)]
      have hne : i ≠ k / wd := by
        intro he
        apply hk
        rw [he]
        rcases hw with rfl | rfl | rfl | rfl <;> omega
      rw [if_neg (by intro hc; exact hne hc.1)]
      exact h.bit k

theorem Pk.zero (wd n : Nat) (hw : Wd wd) : Pk wd (List.replicate n 0) (List.replicate ((n * wd + 63) / 64) 0) := by
  have z : ∀ m k, (List.replicate m 0).getD k 0 = 0 := fun m k => by
    simp only [List.getD_eq_getElem?_getD, List.getElem?_replicate]
    split <;> rfl
  refine ⟨by simp, fun k => ?_, fun k => ?_, fun k => ?_⟩
  · rw [z]; omega
  · rw [z]; exact Nat.two_pow_pos _
  · rw [z, z]; simp

/-- equal entries: equal words -/
theorem Pk.inj {wd : Nat} {l ws us : List Nat} (h : Pk wd l ws) (k : Pk wd l us) : ws = us := by
  apply List.ext_getElem
  · rw [h.len, k.len]
  · intro i h1 h2
    apply Nat.eq_of_testBit_eq
    intro j
    have e1 : ws[i] = ws.getD i 0 := by simp [h1]
    have e2 : us[i] = us.getD i 0 := by simp [h2]
    rw [e1, e2]
    by_cases hj : j < 64
    · have a := h.bit (i * 64 + j)
      have b := k.bit (i * 64 + j)
      have d1 : (i * 64 + j) / 64 = i := by omega
      have d2 : (i * 64 + j) % 64 = j := by omega
      rw [d1, d2] at a b
      rw [a, b]
    · rw [Nat.testBit_lt_two_pow (Nat.lt_of_lt_of_le (h.lt i) (Nat.pow_le_pow_right (by omega) (by omega))), Nat.testBit_lt_two_pow (Nat.lt_of_lt_of_le (k.lt i) (Nat.pow_le_pow_right (by omega) (by omega)))]
theorem Pk.inj' {wd : Nat} {l m ws : List Nat} (h : Pk wd l ws) (k : Pk wd m ws) (hw : Wd wd) (hl : l.length = m.length) : l = m := by
  apply List.ext_getElem hl
  intro i h1 h2
  have a := h.get (i := i) hw
  have b := k.get (i := i) hw
  rw [a] at b
  simpa [h1, h2] using b
end Go.Proofs.YtgcofabdialaaaaGreat
