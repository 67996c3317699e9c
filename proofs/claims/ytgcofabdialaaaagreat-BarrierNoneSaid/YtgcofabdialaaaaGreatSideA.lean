/- Side tables: the functions of package side at one entry. -/
import Derived.Test.YtgcofabdialaaaaGreatCode
import Derived.Test.YtgcofabdialaaaaGreatEngJ
import Derived.Test.YtgcofabdialaaaaGreatBits
namespace Go.Proofs.YtgcofabdialaaaaGreat
set_option linter.unusedSimpArgs false
set_option linter.unusedVariables false
set_option maxRecDepth 8000

def u64s (ws : List Nat) : List Value := ws.map fun (x : Nat) => .int .u64 (x : Int)
/-- a table in memory: block b the struct, block g the words -/
structure STab (w : World) (b g n wd : Nat) (l : List Nat) : Prop where
  hw : Wd wd
  len : l.length = n
  n1 : 1 ≤ n
  n2 : n ≤ 4096
  el : ∀ i, l.getD i 0 < 2 ^ wd
  mem : ∃ (ws : List Nat) (cap : Nat) (rest : List Value), Pk wd l ws ∧ At w b [.int .i64 n, .int .i64 wd, .slice (some ⟨g, 0, none⟩) ws.length cap] ∧ At w g (u64s ws ++ rest) ∧ b ≠ g

theorem STab.keep {S : List Nat} {w w' : World} {b g n wd : Nat} {l : List Nat} (h : STab w b g n wd l) (k : Only S w w') (hb : b ∉ S) (hg : g ∉ S) : STab w' b g n wd l :=
  ⟨h.hw, h.len, h.n1, h.n2, h.el, let ⟨ws, cap, rest, h1, h2, h3, h4⟩ := h.mem; ⟨ws, cap, rest, h1, h2.keep k hb, h3.keep k hg, h4⟩⟩

theorem STab.drew {w : World} {b g n wd : Nat} {l : List Nat} (h : STab w b g n wd l) : STab w.drew b g n wd l := h.keep (Only.drew [] w) (by simp) (by simp)

theorem made_nil (w : World) : Cs Tryz.prog 227 [.pointer none] w fun v w' => v = .bool false ∧ w' = w := by
  refine enter_side_Table_made rfl ?_
  unfold x_side_Table_made
  (repeat (first | with_reducible refine run_seq ?_ | with_reducible refine run_reg ?_ | with_reducible refine run_block ?_ | with_reducible refine run_blk ?_ | with_reducible refine run_skip ?_ | with_reducible refine run_exit rfl ?_ | with_reducible refine run_drw ?_ | with_reducible refine run_condT ?_ | with_reducible refine run_ret' ?_ | with_reducible refine run_end' ?_ | simp only [go_sem, ↓reduceIte, Nat.reduceAdd, Nat.reduceEqDiff, Nat.reduceBEq, reduceCtorEq, Int.reduceBEq, Int.reduceBNe, Int.reduceLT, Int.reduceLE]))
theorem made_at (b : Nat) (n : Int) (c : List Value) (w : World) (h : At w b (.int .i64 n :: c)) : Cs Tryz.prog 227 [.pointer (some ⟨b, 0, none⟩)] w fun v w' => v = .bool (decide (0 < n)) ∧ w' = w := by
  refine enter_side_Table_made rfl ?_
  unfold x_side_Table_made
  (repeat (first | with_reducible refine run_seq ?_ | with_reducible refine run_reg ?_ | with_reducible refine run_block ?_ | with_reducible refine run_blk ?_ | with_reducible refine run_skip ?_ | with_reducible refine run_exit rfl ?_ | with_reducible refine run_drw ?_ | with_reducible refine run_condT ?_ | with_reducible refine run_ret' ?_ | with_reducible refine run_end' ?_ | simp only [go_sem, ↓reduceIte, Nat.reduceAdd, Nat.reduceEqDiff, Nat.reduceBEq, reduceCtorEq, Int.reduceBEq, Int.reduceBNe, Int.reduceLT, Int.reduceLE, h.cell]))
theorem made_tab {w : World} {b g n wd : Nat} {l : List Nat} (h : STab w b g n wd l) : Cs Tryz.prog 227 [.pointer (some ⟨b, 0, none⟩)] w fun v w' => v = .bool true ∧ w' = w := by
  obtain ⟨ws, cap, rest, h1, h2, h3, h4⟩ := h.mem
  refine (made_at b n _ w h2).mono ?_
  rintro v w' ⟨rfl, rfl⟩
  have := h.n1
  exact ⟨by simp; omega, rfl⟩
theorem most_tab {w : World} {b g n wd : Nat} {l : List Nat} (h : STab w b g n wd l) : Cs Tryz.prog 230 [.pointer (some ⟨b, 0, none⟩)] w fun v w' => v = .int .i64 ((2 ^ wd - 1 : Nat) : Int) ∧ w' = w := by
  obtain ⟨ws, cap, rest, h1, h2, h3, h4⟩ := h.mem
  have hw := h.hw
  have e1 : IntKind.i64.wrap (IntKind.i64.wrap (1 * 2 ^ (min ((wd : Int).toNat) 64)) - 1) = ((2 ^ wd - 1 : Nat) : Int) := by
    rcases hw with rfl | rfl | rfl | rfl <;> decide
  refine enter_side_Table_most rfl ?_
  unfold x_side_Table_most
  (repeat (first | with_reducible refine run_seq ?_ | with_reducible refine run_reg ?_ | with_reducible refine run_block ?_ | with_reducible refine run_blk ?_ | with_reducible refine run_skip ?_ | with_reducible refine run_exit rfl ?_ | with_reducible refine run_drw ?_ | with_reducible refine run_condT ?_ | with_reducible refine run_ret' ?_ | with_reducible refine run_end' ?_ | simp only [go_sem, ↓reduceIte, Nat.reduceAdd, Nat.reduceEqDiff, Nat.reduceBEq, reduceCtorEq, Int.reduceBEq, Int.reduceBNe, Int.reduceLT, Int.reduceLE, h2.cell, e1]))

theorem u64s_getElem? (ws : List Nat) (rest : List Value) (i : Nat) (h : i < ws.length) : (u64s ws ++ rest)[i]? = some (.int .u64 ((ws.getD i 0 : Nat) : Int)) := by
  rw [List.getElem?_append_left (by simpa [u64s] using h)]
  simp [u64s, h]
theorem tdiv64 (n : Nat) (h : n ≤ 4611686018427387904) : IntKind.i64.wrap ((n : Int).tdiv 64) = ((n / 64 : Nat) : Int) := by
  rw [Int.tdiv_eq_ediv_of_nonneg (by omega), show ((n : Int) / 64) = ((n / 64 : Nat) : Int) by omega, i64_of_nat _ (by omega)]
theorem tmod64 (n : Nat) : ((n : Int).tmod 64) = ((n % 64 : Nat) : Int) := by
  rw [Int.tmod_eq_emod_of_nonneg (by omega)]; omega
/-- what get and put reckon of an entry's place -/
theorem place_facts {n wd i : Nat} (hw : Wd wd) (hn : n ≤ 4096) (hi : i < n) :
    IntKind.i64.wrap ((i : Int) * (wd : Int)) = ((i * wd : Nat) : Int) ∧ IntKind.i64.wrap (((i * wd : Nat) : Int).tdiv 64) = ((i * wd / 64 : Nat) : Int) ∧ (((i * wd : Nat) : Int).tmod 64) = ((i * wd % 64 : Nat) : Int) := by
  have hb : i * wd ≤ 40000 := by rcases hw with rfl | rfl | rfl | rfl <;> omega
  refine ⟨?_, tdiv64 _ (by omega), tmod64 _⟩
  rw [← Int.natCast_mul, i64_of_nat _ (by omega)]

theorem get_tab {w : World} {b g n wd i : Nat} {l : List Nat} (h : STab w b g n wd l) (hi : i < n) : Cs Tryz.prog 198 [.pointer (some ⟨b, 0, none⟩), .int .i64 i] w fun v w' => v = .int .i64 ((l.getD i 0 : Nat) : Int) ∧ Only [] w w' := by
  obtain ⟨ws, cap, rest, h1, h2, h3, h4⟩ := h.mem
  have hw := h.hw
  obtain ⟨e1, e2, e3⟩ := place_facts hw h.n2 hi
  have hk : i * wd / 64 < ws.length := by rw [h1.len, h.len]; rcases hw with rfl | rfl | rfl | rfl <;> omega
  have e4 := u64s_getElem? ws rest _ hk
  have c1 : (0 : Int) ≤ ((i * wd / 64 : Nat) : Int) ∧ ((i * wd / 64 : Nat) : Int) < (ws.length : Int) := ⟨by omega, by omega⟩
  have e5 : (((i * wd / 64 : Nat) : Int)).toNat * 1 = i * wd / 64 := by simp only [Int.toNat_natCast, Nat.mul_one]
  have e6 : min ((((i * wd % 64 : Nat) : Int)).toNat) 64 = i * wd % 64 := by simp only [Int.toNat_natCast]; omega
  have e7 := h1.get (i := i) hw
  have e8 : bitI .and .i64 (IntKind.i64.wrap (((ws.getD (i * wd / 64) 0 : Nat) : Int).fdiv (2 ^ (i * wd % 64)))) ((2 ^ wd - 1 : Nat) : Int) = ((l.getD i 0 : Nat) : Int) := by
    rw [shr_nat, bitI_and_nat, e7]
    rcases hw with rfl | rfl | rfl | rfl <;> decide
  refine enter_side_Table_get rfl ?_
  unfold x_side_Table_get
  (repeat (first | with_reducible refine run_seq ?_ | with_reducible refine run_reg ?_ | with_reducible refine run_block ?_ | with_reducible refine run_blk ?_ | with_reducible refine run_skip ?_ | with_reducible refine run_exit rfl ?_ | with_reducible refine run_drw ?_ | with_reducible refine run_condT ?_ | with_reducible refine run_ret' ?_ | with_reducible refine run_end' ?_ | simp only [go_sem, ↓reduceIte, Nat.reduceAdd, Nat.reduceEqDiff, Nat.reduceBEq, reduceCtorEq, Int.reduceBEq, Int.reduceBNe, Int.reduceLT, Int.reduceLE, h2.cell, e1]))
  refine run_drt [b, g] ?_
  (repeat (first | with_reducible refine run_seq ?_ | with_reducible refine run_reg ?_ | with_reducible refine run_block ?_ | with_reducible refine run_blk ?_ | with_reducible refine run_skip ?_ | with_reducible refine run_exit rfl ?_ | with_reducible refine run_drw ?_ | with_reducible refine run_condT ?_ | with_reducible refine run_ret' ?_ | with_reducible refine run_end' ?_ | simp only [go_sem, ↓reduceIte, Nat.reduceAdd, Nat.reduceEqDiff, Nat.reduceBEq, reduceCtorEq, Int.reduceBEq, Int.reduceBNe, Int.reduceLT, Int.reduceLE, h2.cell, h3.cell, e2, e3, e4, e5, if_pos c1, e6]))
  refine callS0 (most_tab h.drew) (.inr (SB.refl _ _)) ?_
  (repeat (first | with_reducible refine run_seq ?_ | with_reducible refine run_reg ?_ | with_reducible refine run_block ?_ | with_reducible refine run_blk ?_ | with_reducible refine run_skip ?_ | with_reducible refine run_exit rfl ?_ | with_reducible refine run_drw ?_ | with_reducible refine run_condT ?_ | with_reducible refine run_ret' ?_ | with_reducible refine run_end' ?_ | simp only [go_sem, ↓reduceIte, Nat.reduceAdd, Nat.reduceEqDiff, Nat.reduceBEq, reduceCtorEq, Int.reduceBEq, Int.reduceBNe, Int.reduceLT, Int.reduceLE, e8]))
  exact Only.drew _ _

theorem put_tab {w : World} {b g n wd i v : Nat} {l : List Nat} (h : STab w b g n wd l) (hi : i < n) (hv : v < 2 ^ wd) :
    Cs Tryz.prog 196 [.pointer (some ⟨b, 0, none⟩), .int .i64 i, .int .i64 v] w fun r w' => r = .tuple #[] ∧ STab w' b g n wd (l.set i v) ∧ Only [g] w w' := by
  obtain ⟨ws, cap, rest, h1, h2, h3, h4⟩ := h.mem
  have hw := h.hw
  obtain ⟨e1, e2, e3⟩ := place_facts hw h.n2 hi
  have hk : i * wd / 64 < ws.length := by rw [h1.len, h.len]; rcases hw with rfl | rfl | rfl | rfl <;> omega
  have e4 := u64s_getElem? ws rest _ hk
  have c1 : (0 : Int) ≤ ((i * wd / 64 : Nat) : Int) ∧ ((i * wd / 64 : Nat) : Int) < (ws.length : Int) := ⟨by omega, by omega⟩
  have e5 : (((i * wd / 64 : Nat) : Int)).toNat * 1 = i * wd / 64 := by simp only [Int.toNat_natCast, Nat.mul_one]
  have e6 : min ((((i * wd % 64 : Nat) : Int)).toNat) 64 = i * wd % 64 := by simp only [Int.toNat_natCast]; omega
  have hr : i * wd % 64 + wd ≤ 64 := (hw.div (i := i) (j := 0) (by have := hw.pos; omega)).2.2.2.2
  have p1 : (2 ^ wd - 1) <<< (i * wd % 64) < 2 ^ 64 := by
    rw [Nat.shiftLeft_eq]
    have : 2 ^ wd - 1 < 2 ^ wd := by have := Nat.two_pow_pos wd; omega
    calc (2 ^ wd - 1) * 2 ^ (i * wd % 64) < 2 ^ wd * 2 ^ (i * wd % 64) := Nat.mul_lt_mul_of_pos_right this (Nat.two_pow_pos _)
      _ = 2 ^ (wd + i * wd % 64) := by rw [Nat.pow_add]
      _ ≤ 2 ^ 64 := Nat.pow_le_pow_right (by omega) (by omega)
  have p2 : v <<< (i * wd % 64) < 2 ^ 64 := by
    rw [Nat.shiftLeft_eq]
    calc v * 2 ^ (i * wd % 64) < 2 ^ wd * 2 ^ (i * wd % 64) := Nat.mul_lt_mul_of_pos_right hv (Nat.two_pow_pos _)
      _ = 2 ^ (wd + i * wd % 64) := by rw [Nat.pow_add]
      _ ≤ 2 ^ 64 := Nat.pow_le_pow_right (by omega) (by omega)
  have hv8 : v < 256 := Nat.lt_of_lt_of_le hv (by rcases hw with rfl | rfl | rfl | rfl <;> decide)
  have hm8 : 2 ^ wd - 1 < 256 := by rcases hw with rfl | rfl | rfl | rfl <;> decide
  have q1 : IntKind.u64.wrap ((2 ^ wd - 1 : Nat) : Int) = ((2 ^ wd - 1 : Nat) : Int) := u64_of_nat _ (by omega)
  have q2 : IntKind.u64.wrap ((v : Nat) : Int) = ((v : Nat) : Int) := u64_of_nat _ (by omega)
  have q3 := u64_shl _ _ p1
  have q4 := u64_shl _ _ p2
  have q5 := bitI_andNot_nat (ws.getD (i * wd / 64) 0) ((2 ^ wd - 1) <<< (i * wd % 64))
  have q6 := bitI_or_nat (clr_lt (ws.getD (i * wd / 64) 0) ((2 ^ wd - 1) <<< (i * wd % 64))) p2
  refine enter_side_Table_put rfl ?_
  unfold x_side_Table_put
  (repeat (first | with_reducible refine run_seq ?_ | with_reducible refine run_reg ?_ | with_reducible refine run_block ?_ | with_reducible refine run_blk ?_ | with_reducible refine run_skip ?_ | with_reducible refine run_exit rfl ?_ | with_reducible refine run_drw ?_ | with_reducible refine run_condT ?_ | with_reducible refine run_ret' ?_ | with_reducible refine run_end' ?_ | simp only [go_sem, ↓reduceIte, Nat.reduceAdd, Nat.reduceEqDiff, Nat.reduceBEq, reduceCtorEq, Int.reduceBEq, Int.reduceBNe, Int.reduceLT, Int.reduceLE, h2.cell, e1, e2, if_pos c1, e5]))
  refine run_drt [b, g] ?_
  (repeat (first | with_reducible refine run_seq ?_ | with_reducible refine run_reg ?_ | with_reducible refine run_block ?_ | with_reducible refine run_blk ?_ | with_reducible refine run_skip ?_ | with_reducible refine run_exit rfl ?_ | with_reducible refine run_drw ?_ | with_reducible refine run_condT ?_ | with_reducible refine run_ret' ?_ | with_reducible refine run_end' ?_ | simp only [go_sem, ↓reduceIte, Nat.reduceAdd, Nat.reduceEqDiff, Nat.reduceBEq, reduceCtorEq, Int.reduceBEq, Int.reduceBNe, Int.reduceLT, Int.reduceLE, h2.cell, h3.cell, e3, e4, e6, q1, q2, q4]))
  refine callS0 (most_tab h.drew) (.inr (SB.refl _ _)) ?_
  (repeat (first | with_reducible refine run_seq ?_ | with_reducible refine run_reg ?_ | with_reducible refine run_block ?_ | with_reducible refine run_blk ?_ | with_reducible refine run_skip ?_ | with_reducible refine run_exit rfl ?_ | with_reducible refine run_drw ?_ | with_reducible refine run_condT ?_ | with_reducible refine run_ret' ?_ | with_reducible refine run_end' ?_ | simp only [go_sem, ↓reduceIte, Nat.reduceAdd, Nat.reduceEqDiff, Nat.reduceBEq, reduceCtorEq, Int.reduceBEq, Int.reduceBNe, Int.reduceLT, Int.reduceLE, h2.cell, h3.cell, e3, e4, e6, q1, q2, q3, q4, q5, q6]))
  refine stS h3.drew (by simp [u64s]; omega) rfl fun w' hs' ha ho => ⟨.inl rfl, ?_⟩
  (repeat (first | with_reducible refine run_seq ?_ | with_reducible refine run_reg ?_ | with_reducible refine run_block ?_ | with_reducible refine run_blk ?_ | with_reducible refine run_skip ?_ | with_reducible refine run_exit rfl ?_ | with_reducible refine run_drw ?_ | with_reducible refine run_condT ?_ | with_reducible refine run_ret' ?_ | with_reducible refine run_end' ?_ | simp only [go_sem, ↓reduceIte, Nat.reduceAdd, Nat.reduceEqDiff, Nat.reduceBEq, reduceCtorEq, Int.reduceBEq, Int.reduceBNe, Int.reduceLT, Int.reduceLE]))
  have hset : (u64s ws ++ rest).set (i * wd / 64) (.int .u64 ((clr (ws.getD (i * wd / 64) 0) ((2 ^ wd - 1) <<< (i * wd % 64)) ||| v <<< (i * wd % 64) : Nat) : Int)) = u64s (ws.set (i * wd / 64) (clr (ws.getD (i * wd / 64) 0) ((2 ^ wd - 1) <<< (i * wd % 64)) ||| v <<< (i * wd % 64))) ++ rest := by
    rw [List.set_append_left _ _ (by simpa [u64s] using hk)]
    simp [u64s, List.map_set]
  rw [hset] at ha
  have hp := h1.put (i := i) (v := v) hw (by rw [h.len]; exact hi) hv
  refine ⟨⟨hw, by simp [h.len], h.n1, h.n2, hp.el, _, cap, rest, hp, ?_, ha, h4⟩, ho.drew_left⟩
  rw [List.length_set]
  exact h2.drew.keep ho (by simp [h4])
end Go.Proofs.YtgcofabdialaaaaGreat
