/- Roots: the reference's Get, Set, Push, Pop, Queue, Mutators. -/
import Derived.Test.YtblfmacnkacalaaRtR
namespace Go.Proofs.Ytblfmacnkacalaa
set_option linter.unusedSimpArgs false
set_option linter.unusedVariables false
set_option maxRecDepth 8000

theorem rnd {b : Nat} {fs fg fq : List Nat} {rs : List Nat} (h : (b :: (fs ++ (rs ++ (fg ++ fq)))).Nodup) :
    b ∉ fs ∧ b ∉ rs ∧ b ∉ fg ∧ b ∉ fq ∧ fs.Nodup ∧ rs.Nodup ∧ fg.Nodup ∧ fq.Nodup ∧ (∀ x, x ∈ fs → x ∉ rs ∧ x ∉ fg ∧ x ∉ fq) ∧ (∀ x, x ∈ rs → x ∉ fg ∧ x ∉ fq) ∧ (∀ x, x ∈ fg → x ∉ fq) := by
  simp only [List.nodup_cons, List.mem_append, not_or, List.nodup_append] at h
  obtain ⟨⟨h1, h2, h3, h4⟩, h5, ⟨h6, ⟨h7, h8, h9⟩, h10⟩, h11⟩ := h
  refine ⟨h1, h2, h3, h4, h5, h6, h7, h8, fun x hx => ⟨fun hy => h11 x hx x (.inl hy) rfl, fun hy => h11 x hx x (.inr (.inl hy)) rfl, fun hy => h11 x hx x (.inr (.inr hy)) rfl⟩, fun x hx => ⟨fun hy => h10 x hx x (.inl hy) rfl, fun hy => h10 x hx x (.inr hy) rfl⟩, fun x hx hy => h9 x hx x hy rfl⟩
theorem rows_ne {rows : List (Nat × Nat)} (h : (rows.map (·.1)).Nodup) {t u : Nat} (ht : t < rows.length) (hu : u < rows.length) (hne : t ≠ u) : (rows.getD t (0, 0)).1 ≠ (rows.getD u (0, 0)).1 := by
  intro e
  apply hne
  have h1 : t < (rows.map (·.1)).length := by simpa using ht
  have h2 : u < (rows.map (·.1)).length := by simpa using hu
  have hp := List.pairwise_iff_getElem.1 h
  have e' : (rows.map (·.1))[t] = (rows.map (·.1))[u] := by simpa [ht, hu] using e
  rcases Nat.lt_trichotomy t u with h3 | h3 | h3
  · exact absurd e' (hp t u h1 h2 h3)
  · exact h3
  · exact absurd e'.symm (hp u t h2 h1 h3)

theorem RMs.upd0 {w w' : World} {b : Nat} {s : MS} {vs vg vq : Value} {fs fg fq : List Nat} {rows : List (Nat × Nat)} {m i j : Nat} {a : Int} {zs : List Value} (h : RMs w b s vs vg vq fs rows fg fq) (hm : m < s.M) (hi : i < 16) (hj : j = 16 * m + i)
    (hat : At w' (rows.getD m (0, 0)).1 (ints ((rowS s.S m).set i a) ++ zs)) (ho : Only [(rows.getD m (0, 0)).1] w w') : RMs w' b (s.wr (0, j) a) vs vg vq fs rows fg fq := by
  have hmem := getD_mem (rows := rows) (t := m) (by rw [h.len]; exact hm)
  obtain ⟨n1, n2, n3, n4, n5, n6, n7, n8, n9, n10, n11⟩ := rnd h.nd
  refine ⟨h.ok.wr _ _, h.len, h.nd, h.hb.keep ho (by simp only [List.mem_singleton]; rintro rfl; exact n2 hmem), h.h0.keep ho fun x hx => ?_, fun t ht => ?_, h.h1.keep ho fun x hx => ?_, h.h2.keep ho fun x hx => ?_⟩
  · simp only [List.mem_singleton]; rintro rfl; exact (n9 _ hx).1 hmem
  · subst hj
    by_cases e : t = m
    · subst e
      exact ⟨zs, by show At w' _ (ints (rowS (s.S.set (16 * t + i) a) t) ++ zs); rw [rowS_set_same hi]; exact hat⟩
    · obtain ⟨ys, hy⟩ := h.hr t ht
      refine ⟨ys, ?_⟩
      show At w' _ (ints (rowS (s.S.set (16 * m + i) a) t) ++ ys)
      rw [rowS_set_other hi e]
      exact hy.keep ho (by simp only [List.mem_singleton]; exact rows_ne n6 (by rw [h.len]; exact ht) (by rw [h.len]; exact hm) e)
  · simp only [List.mem_singleton]; rintro rfl; exact (n10 _ hmem).1 hx
  · simp only [List.mem_singleton]; rintro rfl; exact (n10 _ hmem).2 hx
theorem RMs.upd1 {w w' : World} {b : Nat} {s : MS} {vs vg vq : Value} {fs fq : List Nat} {rows : List (Nat × Nat)} {g j cap : Nat} {a : Int} {ys : List Value} (h : RMs w b s vs vg vq fs rows [g] fq) (hv : vg = .slice (some ⟨g, 0, none⟩) 16 cap) (hc : (ints s.G ++ ys).length = cap)
    (hat : At w' g (ints (s.G.set j a) ++ ys)) (ho : Only [g] w w') : RMs w' b (s.wr (1, j) a) vs vg vq fs rows [g] fq := by
  obtain ⟨n1, n2, n3, n4, n5, n6, n7, n8, n9, n10, n11⟩ := rnd h.nd
  refine ⟨h.ok.wr _ _, h.len, h.nd, h.hb.keep ho n3, h.h0.keep ho fun x hx => (n9 x hx).2.1, fun t ht => ?_, ?_, h.h2.keep ho fun x hx => ?_⟩
  · obtain ⟨zs, hz⟩ := h.hr t ht
    exact ⟨zs, hz.keep ho (n10 _ (getD_mem (by rw [h.len]; exact ht))).1⟩
  · rw [hv]
    exact Sl.mk1 hat (by have := h.ok.lg; simpa [ints_length, MS.wr] using this) (by rw [← hc]; simp [ints_length, MS.wr])
  · simp only [List.mem_singleton]; rintro rfl; exact n11 _ (by simp) hx
theorem RMs.upd2 {w w' : World} {b : Nat} {s : MS} {vs vg vq : Value} {fs fg : List Nat} {rows : List (Nat × Nat)} {g j cap : Nat} {a : Int} {ys : List Value} (h : RMs w b s vs vg vq fs rows fg [g]) (hv : vq = .slice (some ⟨g, 0, none⟩) s.Q.length cap) (hc : (ints s.Q ++ ys).length = cap)
    (hat : At w' g (ints (s.Q.set j a) ++ ys)) (ho : Only [g] w w') : RMs w' b (s.wr (2, j) a) vs vg vq fs rows fg [g] := by
  obtain ⟨n1, n2, n3, n4, n5, n6, n7, n8, n9, n10, n11⟩ := rnd h.nd
  refine ⟨h.ok.wr _ _, h.len, h.nd, h.hb.keep ho n4, h.h0.keep ho fun x hx => (n9 x hx).2.2, fun t ht => ?_, h.h1.keep ho fun x hx => n11 x hx, ?_⟩
  · obtain ⟨zs, hz⟩ := h.hr t ht
    exact ⟨zs, hz.keep ho (n10 _ (getD_mem (by rw [h.len]; exact ht))).2⟩
  · rw [hv]
    show Sl w' 1 _ (s.Q.set j a).length _ [g]
    rw [List.length_set]
    exact Sl.mk1 hat (by simp [ints_length, MS.wr]) (by rw [← hc]; simp [ints_length, MS.wr])
/-- a row's capacity -/
theorem Sl.cap {w : World} {n cap g : Nat} {xs ys : List Value} {fp : List Nat} (h : Sl w 1 (.slice (some ⟨g, 0, none⟩) n cap) n xs fp) (hat : At w g (xs ++ ys)) : (xs ++ ys).length = cap := by
  rcases h.2 with ⟨h1, _⟩ | ⟨g', cap', ys', T, h1, h2, h3, h4, h5⟩
  · cases h1
  · cases h1
    obtain ⟨T', hat⟩ := hat
    rw [hat] at h3
    simp at h3
    rw [h3.1]; simpa using h4

theorem rset {w : World} {b : Nat} {s : MS} {fp : List Nat} (h : RM w b s fp) {p : PT} {x : Nat × Nat} (hx : seg s p = some x) (a : Int) : Cs Try.prog 55 [.pointer (some ⟨b, 0, none⟩), .agg ⟨plV p⟩, .int .i64 a] w fun v w' => RM w' b (s.wr x a) fp ∧ Only fp w w' := by
  refine enter_ref03_Roots_set rfl ?_
  unfold x_ref03_Roots_set
  (repeat (first | with_reducible refine run_seq ?_ | with_reducible refine run_reg ?_ | with_reducible refine run_block ?_ | with_reducible refine run_blk ?_ | with_reducible refine run_skip ?_ | with_reducible refine run_exit rfl ?_ | with_reducible refine run_drw ?_ | with_reducible refine run_condT ?_ | with_reducible refine run_ret' ?_ | with_reducible refine run_end' ?_ | simp only [go_sem, ↓reduceIte, Nat.reduceAdd, Nat.reduceEqDiff, Nat.reduceBEq, reduceCtorEq, Int.reduceBEq, Int.reduceBNe, Int.reduceLT, Int.reduceLE]))
  refine boxT fun q w1 hq hs1 hat1 ho1 => ?_
  have hlt := h.lt
  obtain ⟨vs, vg, vq, fs, rows, fg, fq, rfl, hm0⟩ := h
  have hm := hm0.keep0 ho1
  have hb := hm.hb
  obtain ⟨k, m, i⟩ := p
  have hc : At w1 q [.int .i64 k, .int .i64 m, .int .i64 i] := hat1
  have fin : ∀ g w', g ∈ b :: (fs ++ (rows.map (·.1) ++ (fg ++ fq))) → Only [g] w1 w' → Only (b :: (fs ++ (rows.map (·.1) ++ (fg ++ fq)))) w w' := fun g w' hg ho => ho1.of_nil.same (ho.mono fun y hy => by simp only [List.mem_singleton] at hy; subst hy; exact .inl hg)
  rcases seg_cases hm.ok hx with ⟨e1, e2, e3, e4, e5, j, rfl, ej, hj⟩ | ⟨e1, e2, e4, e5, j, rfl, ej, hj⟩ | ⟨e1, e2, e4, e5, j, rfl, ej, hj⟩
  · simp only at e1 e2 e3 e4 e5 ej
    subst e1
    obtain ⟨m, rfl⟩ : ∃ n : Nat, m = n := ⟨m.toNat, by omega⟩
    obtain ⟨i, rfl⟩ : ∃ n : Nat, i = n := ⟨i.toNat, by omega⟩
    obtain ⟨g, cap, ys, g', c', zs, rfl, hg, hgt, hg'e, hg'⟩ := hm.row (t := m) (by omega)
    have c1 : (0 : Int) ≤ (m : Int) ∧ (m : Int) < (s.M : Int) := ⟨by omega, by omega⟩
    have c2 : (0 : Int) ≤ (i : Int) ∧ (i : Int) < ((16 : Nat) : Int) := ⟨by omega, by omega⟩
    have hl : (rowS s.S m).length = 16 := rowS_length (by have := hm.ok.ls; omega)
    (repeat (first | with_reducible refine run_seq ?_ | with_reducible refine run_reg ?_ | with_reducible refine run_block ?_ | with_reducible refine run_blk ?_ | with_reducible refine run_skip ?_ | with_reducible refine run_exit rfl ?_ | with_reducible refine run_drw ?_ | with_reducible refine run_condT ?_ | with_reducible refine run_ret' ?_ | with_reducible refine run_end' ?_ | simp only [go_sem, ↓reduceIte, Nat.reduceAdd, Nat.reduceEqDiff, Nat.reduceBEq, reduceCtorEq, Int.reduceBEq, Int.reduceBNe, Int.reduceLT, Int.reduceLE, hc.cell, hb.cell, beq_int_true (rfl : (0 : Int) = 0), if_pos c1, if_pos c2, Int.toNat_natCast, Nat.mul_one, hg.cell, hgt]))
    refine stT (w := w1.drew) (hg'.keep0 (Only.drew [] w1)) (by simp [ints_length, hl]; omega) rfl fun w2 hs2 hat2 ho2 => ?_
    (repeat (first | with_reducible refine run_seq ?_ | with_reducible refine run_reg ?_ | with_reducible refine run_block ?_ | with_reducible refine run_blk ?_ | with_reducible refine run_skip ?_ | with_reducible refine run_exit rfl ?_ | with_reducible refine run_drw ?_ | with_reducible refine run_condT ?_ | with_reducible refine run_ret' ?_ | with_reducible refine run_end' ?_ | simp only [go_sem, ↓reduceIte, Nat.reduceAdd, Nat.reduceEqDiff, Nat.reduceBEq, reduceCtorEq, Int.reduceBEq, Int.reduceBNe, Int.reduceLT, Int.reduceLE]))
    rw [ints_set zs (by omega)] at hat2
    subst hg'e
    refine ⟨⟨_, _, _, _, _, _, _, rfl, (hm.keep0 (Only.drew [] w1)).upd0 (by omega) (by omega) (by omega) hat2 ho2⟩, fin _ w2 ?_ (Only.drew_left ho2)⟩
    simp only [List.mem_cons, List.mem_append]
    exact .inr (.inr (.inl (getD_mem (by rw [hm.len]; omega))))
  · simp only at e1 e2 e4 e5 ej
    subst e1
    obtain ⟨g, cap, ys, rfl, hg, rfl, _⟩ := hm.h1.pos (by omega)
    have hcap := hm.h1.cap hg
    have c2 : (0 : Int) ≤ i ∧ i < ((16 : Nat) : Int) := ⟨by omega, by omega⟩
    subst ej
    (repeat (first | with_reducible refine run_seq ?_ | with_reducible refine run_reg ?_ | with_reducible refine run_block ?_ | with_reducible refine run_blk ?_ | with_reducible refine run_skip ?_ | with_reducible refine run_exit rfl ?_ | with_reducible refine run_drw ?_ | with_reducible refine run_condT ?_ | with_reducible refine run_ret' ?_ | with_reducible refine run_end' ?_ | simp only [go_sem, ↓reduceIte, Nat.reduceAdd, Nat.reduceEqDiff, Nat.reduceBEq, reduceCtorEq, Int.reduceBEq, Int.reduceBNe, Int.reduceLT, Int.reduceLE, hc.cell, hb.cell, beq_int_true (rfl : (1 : Int) = 1), beq_int_false (show ¬ (1 : Int) = 0 by omega), if_pos c2, Int.toNat_natCast, Nat.mul_one]))
    refine stT (w := w1.drew) (hg.keep0 (Only.drew [] w1)) (by simp [ints_length]; omega) rfl fun w2 hs2 hat2 ho2 => ?_
    (repeat (first | with_reducible refine run_seq ?_ | with_reducible refine run_reg ?_ | with_reducible refine run_block ?_ | with_reducible refine run_blk ?_ | with_reducible refine run_skip ?_ | with_reducible refine run_exit rfl ?_ | with_reducible refine run_drw ?_ | with_reducible refine run_condT ?_ | with_reducible refine run_ret' ?_ | with_reducible refine run_end' ?_ | simp only [go_sem, ↓reduceIte, Nat.reduceAdd, Nat.reduceEqDiff, Nat.reduceBEq, reduceCtorEq, Int.reduceBEq, Int.reduceBNe, Int.reduceLT, Int.reduceLE]))
    rw [ints_set ys hj] at hat2
    exact ⟨⟨_, _, _, _, _, _, _, rfl, (hm.keep0 (Only.drew [] w1)).upd1 rfl hcap hat2 ho2⟩, fin g w2 (by simp) (Only.drew_left ho2)⟩
  · simp only at e1 e2 e4 e5 ej
    subst e1
    obtain ⟨g, cap, ys, rfl, hg, rfl, _⟩ := hm.h2.pos (by omega)
    have hcap := hm.h2.cap hg
    have c2 : (0 : Int) ≤ i ∧ i < (s.Q.length : Int) := ⟨by omega, by omega⟩
    subst ej
    (repeat (first | with_reducible refine run_seq ?_ | with_reducible refine run_reg ?_ | with_reducible refine run_block ?_ | with_reducible refine run_blk ?_ | with_reducible refine run_skip ?_ | with_reducible refine run_exit rfl ?_ | with_reducible refine run_drw ?_ | with_reducible refine run_condT ?_ | with_reducible refine run_ret' ?_ | with_reducible refine run_end' ?_ | simp only [go_sem, ↓reduceIte, Nat.reduceAdd, Nat.reduceEqDiff, Nat.reduceBEq, reduceCtorEq, Int.reduceBEq, Int.reduceBNe, Int.reduceLT, Int.reduceLE, hc.cell, hb.cell, beq_int_false (show ¬ (2 : Int) = 1 by omega), beq_int_false (show ¬ (2 : Int) = 0 by omega), if_pos c2, Int.toNat_natCast, Nat.mul_one]))
    refine stT (w := w1.drew) (hg.keep0 (Only.drew [] w1)) (by simp [ints_length]; omega) rfl fun w2 hs2 hat2 ho2 => ?_
    (repeat (first | with_reducible refine run_seq ?_ | with_reducible refine run_reg ?_ | with_reducible refine run_block ?_ | with_reducible refine run_blk ?_ | with_reducible refine run_skip ?_ | with_reducible refine run_exit rfl ?_ | with_reducible refine run_drw ?_ | with_reducible refine run_condT ?_ | with_reducible refine run_ret' ?_ | with_reducible refine run_end' ?_ | simp only [go_sem, ↓reduceIte, Nat.reduceAdd, Nat.reduceEqDiff, Nat.reduceBEq, reduceCtorEq, Int.reduceBEq, Int.reduceBNe, Int.reduceLT, Int.reduceLE]))
    rw [ints_set ys hj] at hat2
    exact ⟨⟨_, _, _, _, _, _, _, rfl, (hm.keep0 (Only.drew [] w1)).upd2 rfl hcap hat2 ho2⟩, fin g w2 (by simp) (Only.drew_left ho2)⟩

theorem rGet {w : World} {a : Option Addr} {fp : List Nat} {m : MO} (h : RR w a fp m) (p : PT) : Cs Try.prog 44 [.pointer a, .agg ⟨plV p⟩] w fun v w' => v = .tuple #[.int .i64 (getO m p).1, .int .i64 (getO m p).2] ∧ Only [] w w' := by
  refine enter_ref03_Roots_Get rfl ?_
  unfold x_ref03_Roots_Get
  (repeat (first | with_reducible refine run_seq ?_ | with_reducible refine run_reg ?_ | with_reducible refine run_block ?_ | with_reducible refine run_blk ?_ | with_reducible refine run_skip ?_ | with_reducible refine run_exit rfl ?_ | with_reducible refine run_drw ?_ | with_reducible refine run_condT ?_ | with_reducible refine run_ret' ?_ | with_reducible refine run_end' ?_ | simp only [go_sem, ↓reduceIte, Nat.reduceAdd, Nat.reduceEqDiff, Nat.reduceBEq, reduceCtorEq, Int.reduceBEq, Int.reduceBNe, Int.reduceLT, Int.reduceLE]))
  refine boxT fun q w1 hq hs1 hat1 ho1 => ?_
  have h' := h.keep0 ho1
  have hcs : cellsAt w1 ⟨q, 0, none⟩ 3 = some (plV p) := cellsAt_at hat1 0 3 (by simp [plV])
  (repeat (first | with_reducible refine run_seq ?_ | with_reducible refine run_reg ?_ | with_reducible refine run_block ?_ | with_reducible refine run_blk ?_ | with_reducible refine run_skip ?_ | with_reducible refine run_exit rfl ?_ | with_reducible refine run_drw ?_ | with_reducible refine run_condT ?_ | with_reducible refine run_ret' ?_ | with_reducible refine run_end' ?_ | simp only [go_sem, ↓reduceIte, Nat.reduceAdd, Nat.reduceEqDiff, Nat.reduceBEq, reduceCtorEq, Int.reduceBEq, Int.reduceBNe, Int.reduceLT, Int.reduceLE]))
  refine callT0 (rmade h') ?_
  match m, h, h' with
  | none, _, _ =>
    (repeat (first | with_reducible refine run_seq ?_ | with_reducible refine run_reg ?_ | with_reducible refine run_block ?_ | with_reducible refine run_blk ?_ | with_reducible refine run_skip ?_ | with_reducible refine run_exit rfl ?_ | with_reducible refine run_drw ?_ | with_reducible refine run_condT ?_ | with_reducible refine run_ret' ?_ | with_reducible refine run_end' ?_ | simp only [go_sem, ↓reduceIte, Nat.reduceAdd, Nat.reduceEqDiff, Nat.reduceBEq, reduceCtorEq, Int.reduceBEq, Int.reduceBNe, Int.reduceLT, Int.reduceLE, Option.isSome_none]))
    exact ⟨rfl, ho1⟩
  | some s, _, ⟨b, hb, hp⟩ =>
    subst hb
    (repeat (first | with_reducible refine run_seq ?_ | with_reducible refine run_reg ?_ | with_reducible refine run_block ?_ | with_reducible refine run_blk ?_ | with_reducible refine run_skip ?_ | with_reducible refine run_exit rfl ?_ | with_reducible refine run_drw ?_ | with_reducible refine run_condT ?_ | with_reducible refine run_ret' ?_ | with_reducible refine run_end' ?_ | simp only [go_sem, ↓reduceIte, Nat.reduceAdd, Nat.reduceEqDiff, Nat.reduceBEq, reduceCtorEq, Int.reduceBEq, Int.reduceBNe, Int.reduceLT, Int.reduceLE, Option.isSome_some, hcs]))
    refine callT (rhas hp p) ?_
    rintro v w2 ⟨rfl, ho2⟩
    cases e : seg s p with
    | none =>
      (repeat (first | with_reducible refine run_seq ?_ | with_reducible refine run_reg ?_ | with_reducible refine run_block ?_ | with_reducible refine run_blk ?_ | with_reducible refine run_skip ?_ | with_reducible refine run_exit rfl ?_ | with_reducible refine run_drw ?_ | with_reducible refine run_condT ?_ | with_reducible refine run_ret' ?_ | with_reducible refine run_end' ?_ | simp only [go_sem, ↓reduceIte, Nat.reduceAdd, Nat.reduceEqDiff, Nat.reduceBEq, reduceCtorEq, Int.reduceBEq, Int.reduceBNe, Int.reduceLT, Int.reduceLE, Option.isSome_none]))
      exact ⟨by simp only [getO, e], ho1.nil ho2⟩
    | some x =>
      have hcs2 : cellsAt w2 ⟨q, 0, none⟩ 3 = some (plV p) := cellsAt_at (hat1.keep0 ho2) 0 3 (by simp [plV])
      (repeat (first | with_reducible refine run_seq ?_ | with_reducible refine run_reg ?_ | with_reducible refine run_block ?_ | with_reducible refine run_blk ?_ | with_reducible refine run_skip ?_ | with_reducible refine run_exit rfl ?_ | with_reducible refine run_drw ?_ | with_reducible refine run_condT ?_ | with_reducible refine run_ret' ?_ | with_reducible refine run_end' ?_ | simp only [go_sem, ↓reduceIte, Nat.reduceAdd, Nat.reduceEqDiff, Nat.reduceBEq, reduceCtorEq, Int.reduceBEq, Int.reduceBNe, Int.reduceLT, Int.reduceLE, Option.isSome_some, hcs2]))
      refine callT (rget (hp.keep0 ho2) e) ?_
      rintro v w3 ⟨rfl, ho3⟩
      (repeat (first | with_reducible refine run_seq ?_ | with_reducible refine run_reg ?_ | with_reducible refine run_block ?_ | with_reducible refine run_blk ?_ | with_reducible refine run_skip ?_ | with_reducible refine run_exit rfl ?_ | with_reducible refine run_drw ?_ | with_reducible refine run_condT ?_ | with_reducible refine run_ret' ?_ | with_reducible refine run_end' ?_ | simp only [go_sem, ↓reduceIte, Nat.reduceAdd, Nat.reduceEqDiff, Nat.reduceBEq, reduceCtorEq, Int.reduceBEq, Int.reduceBNe, Int.reduceLT, Int.reduceLE]))
      exact ⟨by simp only [getO, e], (ho1.nil ho2).nil ho3⟩

theorem rSet {w : World} {a : Option Addr} {fp : List Nat} {m : MO} (h : RR w a fp m) (p : PT) (y : Int) : Cs Try.prog 40 [.pointer a, .agg ⟨plV p⟩, .int .i64 y] w fun v w' => v = .int .i64 (setO m p y).1 ∧ RR w' a fp (setO m p y).2 ∧ Only fp w w' := by
  refine enter_ref03_Roots_Set rfl ?_
  unfold x_ref03_Roots_Set
  (repeat (first | with_reducible refine run_seq ?_ | with_reducible refine run_reg ?_ | with_reducible refine run_block ?_ | with_reducible refine run_blk ?_ | with_reducible refine run_skip ?_ | with_reducible refine run_exit rfl ?_ | with_reducible refine run_drw ?_ | with_reducible refine run_condT ?_ | with_reducible refine run_ret' ?_ | with_reducible refine run_end' ?_ | simp only [go_sem, ↓reduceIte, Nat.reduceAdd, Nat.reduceEqDiff, Nat.reduceBEq, reduceCtorEq, Int.reduceBEq, Int.reduceBNe, Int.reduceLT, Int.reduceLE]))
  refine boxT fun q w1 hq hs1 hat1 ho1 => ?_
  have h' := h.keep0 ho1
  have hcs : cellsAt w1 ⟨q, 0, none⟩ 3 = some (plV p) := cellsAt_at hat1 0 3 (by simp [plV])
  have hc : At w1 q [.int .i64 p.1, .int .i64 p.2.1, .int .i64 p.2.2] := hat1
  (repeat (first | with_reducible refine run_seq ?_ | with_reducible refine run_reg ?_ | with_reducible refine run_block ?_ | with_reducible refine run_blk ?_ | with_reducible refine run_skip ?_ | with_reducible refine run_exit rfl ?_ | with_reducible refine run_drw ?_ | with_reducible refine run_condT ?_ | with_reducible refine run_ret' ?_ | with_reducible refine run_end' ?_ | simp only [go_sem, ↓reduceIte, Nat.reduceAdd, Nat.reduceEqDiff, Nat.reduceBEq, reduceCtorEq, Int.reduceBEq, Int.reduceBNe, Int.reduceLT, Int.reduceLE]))
  refine callT0 (rmade h') ?_
  match m, h, h' with
  | none, _, h' =>
    (repeat (first | with_reducible refine run_seq ?_ | with_reducible refine run_reg ?_ | with_reducible refine run_block ?_ | with_reducible refine run_blk ?_ | with_reducible refine run_skip ?_ | with_reducible refine run_exit rfl ?_ | with_reducible refine run_drw ?_ | with_reducible refine run_condT ?_ | with_reducible refine run_ret' ?_ | with_reducible refine run_end' ?_ | simp only [go_sem, ↓reduceIte, Nat.reduceAdd, Nat.reduceEqDiff, Nat.reduceBEq, reduceCtorEq, Int.reduceBEq, Int.reduceBNe, Int.reduceLT, Int.reduceLE, Option.isSome_none]))
    exact ⟨rfl, h', ho1.of_nil⟩
  | some s, _, ⟨b, hb, hp⟩ =>
    subst hb
    (repeat (first | with_reducible refine run_seq ?_ | with_reducible refine run_reg ?_ | with_reducible refine run_block ?_ | with_reducible refine run_blk ?_ | with_reducible refine run_skip ?_ | with_reducible refine run_exit rfl ?_ | with_reducible refine run_drw ?_ | with_reducible refine run_condT ?_ | with_reducible refine run_ret' ?_ | with_reducible refine run_end' ?_ | simp only [go_sem, ↓reduceIte, Nat.reduceAdd, Nat.reduceEqDiff, Nat.reduceBEq, reduceCtorEq, Int.reduceBEq, Int.reduceBNe, Int.reduceLT, Int.reduceLE, Option.isSome_some, hcs]))
    refine callT (rhas hp p) ?_
    rintro v w2 ⟨rfl, ho2⟩
    have hp2 := hp.keep0 ho2
    have hc2 := hc.keep0 ho2
    have hcs2 : cellsAt w2 ⟨q, 0, none⟩ 3 = some (plV p) := cellsAt_at (hat1.keep0 ho2) 0 3 (by simp [plV])
    cases e : seg s p with
    | none =>
      (repeat (first | with_reducible refine run_seq ?_ | with_reducible refine run_reg ?_ | with_reducible refine run_block ?_ | with_reducible refine run_blk ?_ | with_reducible refine run_skip ?_ | with_reducible refine run_exit rfl ?_ | with_reducible refine run_drw ?_ | with_reducible refine run_condT ?_ | with_reducible refine run_ret' ?_ | with_reducible refine run_end' ?_ | simp only [go_sem, ↓reduceIte, Nat.reduceAdd, Nat.reduceEqDiff, Nat.reduceBEq, reduceCtorEq, Int.reduceBEq, Int.reduceBNe, Int.reduceLT, Int.reduceLE, Option.isSome_none]))
      rw [show setO (some s) p y = (1, some s) by simp only [setO, e]]
      exact ⟨rfl, ⟨b, rfl, hp2⟩, (ho1.nil ho2).of_nil⟩
    | some x =>
      have bad : badA p y = true → (setO (some s) p y) = (1, some s) := fun hb => by simp only [setO, e, hb, if_true]
      have good : badA p y = false → (setO (some s) p y) = (0, some (s.wr x y)) := fun hb => by simp only [setO, e, hb, Bool.false_eq_true, if_false]
      by_cases c1 : y < 0
      · (repeat (first | with_reducible refine run_seq ?_ | with_reducible refine run_reg ?_ | with_reducible refine run_block ?_ | with_reducible refine run_blk ?_ | with_reducible refine run_skip ?_ | with_reducible refine run_exit rfl ?_ | with_reducible refine run_drw ?_ | with_reducible refine run_condT ?_ | with_reducible refine run_ret' ?_ | with_reducible refine run_end' ?_ | simp only [go_sem, ↓reduceIte, Nat.reduceAdd, Nat.reduceEqDiff, Nat.reduceBEq, reduceCtorEq, Int.reduceBEq, Int.reduceBNe, Int.reduceLT, Int.reduceLE, Option.isSome_some, decide_eq_true c1]))
        rw [bad (by simp [badA, c1])]
        exact ⟨rfl, ⟨b, rfl, hp2⟩, (ho1.nil ho2).of_nil⟩
      · by_cases c2 : y = 0
        · by_cases c3 : p.1 = 2
          · (repeat (first | with_reducible refine run_seq ?_ | with_reducible refine run_reg ?_ | with_reducible refine run_block ?_ | with_reducible refine run_blk ?_ | with_reducible refine run_skip ?_ | with_reducible refine run_exit rfl ?_ | with_reducible refine run_drw ?_ | with_reducible refine run_condT ?_ | with_reducible refine run_ret' ?_ | with_reducible refine run_end' ?_ | simp only [go_sem, ↓reduceIte, Nat.reduceAdd, Nat.reduceEqDiff, Nat.reduceBEq, reduceCtorEq, Int.reduceBEq, Int.reduceBNe, Int.reduceLT, Int.reduceLE, Option.isSome_some, decide_eq_false c1, beq_int_true c2, beq_int_true c3, hc2.cell]))
            rw [bad (by simp [badA, c2, c3])]
            exact ⟨rfl, ⟨b, rfl, hp2⟩, (ho1.nil ho2).of_nil⟩
          · (repeat (first | with_reducible refine run_seq ?_ | with_reducible refine run_reg ?_ | with_reducible refine run_block ?_ | with_reducible refine run_blk ?_ | with_reducible refine run_skip ?_ | with_reducible refine run_exit rfl ?_ | with_reducible refine run_drw ?_ | with_reducible refine run_condT ?_ | with_reducible refine run_ret' ?_ | with_reducible refine run_end' ?_ | simp only [go_sem, ↓reduceIte, Nat.reduceAdd, Nat.reduceEqDiff, Nat.reduceBEq, reduceCtorEq, Int.reduceBEq, Int.reduceBNe, Int.reduceLT, Int.reduceLE, Option.isSome_some, decide_eq_false c1, beq_int_true c2, beq_int_false c3, hc2.cell, hcs2]))
            refine callT (rset hp2 e y) ?_
            rintro v w3 ⟨hp3, ho3⟩
            (repeat (first | with_reducible refine run_seq ?_ | with_reducible refine run_reg ?_ | with_reducible refine run_block ?_ | with_reducible refine run_blk ?_ | with_reducible refine run_skip ?_ | with_reducible refine run_exit rfl ?_ | with_reducible refine run_drw ?_ | with_reducible refine run_condT ?_ | with_reducible refine run_ret' ?_ | with_reducible refine run_end' ?_ | simp only [go_sem, ↓reduceIte, Nat.reduceAdd, Nat.reduceEqDiff, Nat.reduceBEq, reduceCtorEq, Int.reduceBEq, Int.reduceBNe, Int.reduceLT, Int.reduceLE]))
            rw [good (by simp [badA, c1, c3])]
            exact ⟨rfl, ⟨b, rfl, hp3⟩, (ho1.nil ho2).of_nil.same ho3⟩
        · (repeat (first | with_reducible refine run_seq ?_ | with_reducible refine run_reg ?_ | with_reducible refine run_block ?_ | with_reducible refine run_blk ?_ | with_reducible refine run_skip ?_ | with_reducible refine run_exit rfl ?_ | with_reducible refine run_drw ?_ | with_reducible refine run_condT ?_ | with_reducible refine run_ret' ?_ | with_reducible refine run_end' ?_ | simp only [go_sem, ↓reduceIte, Nat.reduceAdd, Nat.reduceEqDiff, Nat.reduceBEq, reduceCtorEq, Int.reduceBEq, Int.reduceBNe, Int.reduceLT, Int.reduceLE, Option.isSome_some, decide_eq_false c1, beq_int_false c2, hc2.cell, hcs2]))
          refine callT (rset hp2 e y) ?_
          rintro v w3 ⟨hp3, ho3⟩
          (repeat (first | with_reducible refine run_seq ?_ | with_reducible refine run_reg ?_ | with_reducible refine run_block ?_ | with_reducible refine run_blk ?_ | with_reducible refine run_skip ?_ | with_reducible refine run_exit rfl ?_ | with_reducible refine run_drw ?_ | with_reducible refine run_condT ?_ | with_reducible refine run_ret' ?_ | with_reducible refine run_end' ?_ | simp only [go_sem, ↓reduceIte, Nat.reduceAdd, Nat.reduceEqDiff, Nat.reduceBEq, reduceCtorEq, Int.reduceBEq, Int.reduceBNe, Int.reduceLT, Int.reduceLE]))
          rw [good (by simp [badA, c1, c2])]
          exact ⟨rfl, ⟨b, rfl, hp3⟩, (ho1.nil ho2).of_nil.same ho3⟩

theorem rMutators {w : World} {a : Option Addr} {fp : List Nat} {m : MO} (h : RR w a fp m) : Cs Try.prog 45 [.pointer a] w fun v w' => v = .int .i64 (mutO m) ∧ w' = w := by
  refine enter_ref03_Roots_Mutators rfl ?_
  unfold x_ref03_Roots_Mutators
  (repeat (first | with_reducible refine run_seq ?_ | with_reducible refine run_reg ?_ | with_reducible refine run_block ?_ | with_reducible refine run_blk ?_ | with_reducible refine run_skip ?_ | with_reducible refine run_exit rfl ?_ | with_reducible refine run_drw ?_ | with_reducible refine run_condT ?_ | with_reducible refine run_ret' ?_ | with_reducible refine run_end' ?_ | simp only [go_sem, ↓reduceIte, Nat.reduceAdd, Nat.reduceEqDiff, Nat.reduceBEq, reduceCtorEq, Int.reduceBEq, Int.reduceBNe, Int.reduceLT, Int.reduceLE]))
  refine callT0 (rmade h) ?_
  match m, h with
  | none, _ =>
    (repeat (first | with_reducible refine run_seq ?_ | with_reducible refine run_reg ?_ | with_reducible refine run_block ?_ | with_reducible refine run_blk ?_ | with_reducible refine run_skip ?_ | with_reducible refine run_exit rfl ?_ | with_reducible refine run_drw ?_ | with_reducible refine run_condT ?_ | with_reducible refine run_ret' ?_ | with_reducible refine run_end' ?_ | simp only [go_sem, ↓reduceIte, Nat.reduceAdd, Nat.reduceEqDiff, Nat.reduceBEq, reduceCtorEq, Int.reduceBEq, Int.reduceBNe, Int.reduceLT, Int.reduceLE, Option.isSome_none]))
    rfl
  | some s, ⟨b, hb, vs, vg, vq, fs, rows, fg, fq, _, hp⟩ =>
    subst hb
    obtain ⟨a1, c1, e1⟩ := hp.h0.val
    subst e1
    (repeat (first | with_reducible refine run_seq ?_ | with_reducible refine run_reg ?_ | with_reducible refine run_block ?_ | with_reducible refine run_blk ?_ | with_reducible refine run_skip ?_ | with_reducible refine run_exit rfl ?_ | with_reducible refine run_drw ?_ | with_reducible refine run_condT ?_ | with_reducible refine run_ret' ?_ | with_reducible refine run_end' ?_ | simp only [go_sem, ↓reduceIte, Nat.reduceAdd, Nat.reduceEqDiff, Nat.reduceBEq, reduceCtorEq, Int.reduceBEq, Int.reduceBNe, Int.reduceLT, Int.reduceLE, Option.isSome_some, hp.hb.cell]))
    rfl

/-- a new row that holds what a row holds -/
theorem Sl.empty1 {w : World} {q : Nat} (h : At w q []) : Sl w 1 (.slice (some ⟨q, 0, none⟩) 0 0) 0 [] [q] := Sl.mk1 (ys := []) h rfl rfl
theorem rQueue {w : World} {a : Option Addr} {fp : List Nat} {m : MO} (h : RR w a fp m) : Cs Try.prog 48 [.pointer a] w fun v w' => Only [] w w' ∧ ∃ fp', Sl w' 1 v (queueO m).length (ints (queueO m)) fp' ∧ ∀ x, x ∈ fp' → w.heap.size ≤ x := by
  refine enter_ref03_Roots_Queue rfl ?_
  unfold x_ref03_Roots_Queue
  (repeat (first | with_reducible refine run_seq ?_ | with_reducible refine run_reg ?_ | with_reducible refine run_block ?_ | with_reducible refine run_blk ?_ | with_reducible refine run_skip ?_ | with_reducible refine run_exit rfl ?_ | with_reducible refine run_drw ?_ | with_reducible refine run_condT ?_ | with_reducible refine run_ret' ?_ | with_reducible refine run_end' ?_ | simp only [go_sem, ↓reduceIte, Nat.reduceAdd, Nat.reduceEqDiff, Nat.reduceBEq, reduceCtorEq, Int.reduceBEq, Int.reduceBNe, Int.reduceLT, Int.reduceLE]))
  refine callT0 (rmade h) ?_
  match m, h with
  | none, _ =>
    (repeat (first | with_reducible refine run_seq ?_ | with_reducible refine run_reg ?_ | with_reducible refine run_block ?_ | with_reducible refine run_blk ?_ | with_reducible refine run_skip ?_ | with_reducible refine run_exit rfl ?_ | with_reducible refine run_drw ?_ | with_reducible refine run_condT ?_ | with_reducible refine run_ret' ?_ | with_reducible refine run_end' ?_ | simp only [go_sem, ↓reduceIte, Nat.reduceAdd, Nat.reduceEqDiff, Nat.reduceBEq, reduceCtorEq, Int.reduceBEq, Int.reduceBNe, Int.reduceLT, Int.reduceLE, Option.isSome_none]))
    exact ⟨Only.refl _ _, [], Sl.nil1 w, by simp⟩
  | some s, ⟨b, hb, vs, vg, vq, fs, rows, fg, fq, _, hp⟩ =>
    subst hb
    (repeat (first | with_reducible refine run_seq ?_ | with_reducible refine run_reg ?_ | with_reducible refine run_block ?_ | with_reducible refine run_blk ?_ | with_reducible refine run_skip ?_ | with_reducible refine run_exit rfl ?_ | with_reducible refine run_drw ?_ | with_reducible refine run_condT ?_ | with_reducible refine run_ret' ?_ | with_reducible refine run_end' ?_ | simp only [go_sem, ↓reduceIte, Nat.reduceAdd, Nat.reduceEqDiff, Nat.reduceBEq, reduceCtorEq, Int.reduceBEq, Int.reduceBNe, Int.reduceLT, Int.reduceLE, Option.isSome_some]))
    refine bslT fun q w1 hq hs1 hat1 ho1 => ?_
    (repeat (first | with_reducible refine run_seq ?_ | with_reducible refine run_reg ?_ | with_reducible refine run_block ?_ | with_reducible refine run_blk ?_ | with_reducible refine run_skip ?_ | with_reducible refine run_exit rfl ?_ | with_reducible refine run_drw ?_ | with_reducible refine run_condT ?_ | with_reducible refine run_ret' ?_ | with_reducible refine run_end' ?_ | simp only [go_sem, ↓reduceIte, Nat.reduceAdd, Nat.reduceEqDiff, Nat.reduceBEq, reduceCtorEq, Int.reduceBEq, Int.reduceBNe, Int.reduceLT, Int.reduceLE, (hp.keep0 ho1).hb.cell]))
    refine appT (Sl.empty1 hat1) (hp.h2.src.keep0 ho1) ints_one (by have := hp.ok.lq; omega) (by have := hp.ok.lq; omega) ?_
    intro v' w2 fp' hs2 hf2 ho2 _
    (repeat (first | with_reducible refine run_seq ?_ | with_reducible refine run_reg ?_ | with_reducible refine run_block ?_ | with_reducible refine run_blk ?_ | with_reducible refine run_skip ?_ | with_reducible refine run_exit rfl ?_ | with_reducible refine run_drw ?_ | with_reducible refine run_condT ?_ | with_reducible refine run_ret' ?_ | with_reducible refine run_end' ?_ | simp only [go_sem, ↓reduceIte, Nat.reduceAdd, Nat.reduceEqDiff, Nat.reduceBEq, reduceCtorEq, Int.reduceBEq, Int.reduceBNe, Int.reduceLT, Int.reduceLE]))
    refine ⟨ho1.trans ho2 fun x hx => .inr (by simp only [List.mem_singleton] at hx; omega), fp', by simpa [queueO] using hs2, fun x hx => ?_⟩
    rcases hf2 with rfl | rfl <;> simp only [List.mem_singleton] at hx <;> omega

theorem RMs.turn {w w' : World} {b : Nat} {s : MS} {vs vg vq vq' : Value} {fs fg fq fq' : List Nat} {rows : List (Nat × Nat)} {q : List Int} (h : RMs w b s vs vg vq fs rows fg fq) (hl : q.length ≤ 64) (hq : Sl w' 1 vq' q.length (ints q) fq') (hb : At w' b [vs, vg, vq'])
    (ho : Only (b :: fq) w w') (hf : ∀ x, x ∈ fq' → x ∈ fq ∨ w.heap.size ≤ x) : RM w' b { s with Q := q } (b :: (fs ++ (rows.map (·.1) ++ (fg ++ fq')))) := by
  obtain ⟨n1, n2, n3, n4, n5, n6, n7, n8, n9, n10, n11⟩ := rnd h.nd
  have hlt : ∀ x, x ∈ b :: (fs ++ (rows.map (·.1) ++ (fg ++ fq))) → x < w.heap.size := (show RM w b s _ from ⟨_, _, _, _, _, _, _, rfl, h⟩).lt
  have hbf : b ∉ fq' := fun hx => (hf b hx).elim n4 (fun h2 => by have := hlt b (by simp); omega)
  refine ⟨vs, vg, vq', fs, rows, fg, fq', rfl, ⟨⟨h.ok.m1, h.ok.m4, h.ok.ls, h.ok.lg, hl⟩, h.len, ?_, hb, h.h0.keep ho ?_, fun t ht => ?_, h.h1.keep ho ?_, hq⟩⟩
  · simp only [List.nodup_cons, List.mem_append, not_or, List.nodup_append]
    refine ⟨⟨n1, n2, n3, hbf⟩, n5, ⟨n6, ⟨n7, hq.nodup, fun x hx y hy e => ?_⟩, fun x hx y hy e => ?_⟩, fun x hx y hy e => ?_⟩
    · subst e
      rcases hf x hy with hy | hy
      · exact n11 x hx hy
      · have := hlt x (by simp [hx]); omega
    · subst e
      rcases hy with hy | hy
      · exact (n10 x hx).1 hy
      · rcases hf x hy with hy | hy
        · exact (n10 x hx).2 hy
        · have := hlt x (by simp only [List.mem_cons, List.mem_append]; exact .inr (.inr (.inl hx))); omega
    · subst e
      rcases hy with hy | hy | hy
      · exact (n9 x hx).1 hy
      · exact (n9 x hx).2.1 hy
      · rcases hf x hy with hy | hy
        · exact (n9 x hx).2.2 hy
        · have := hlt x (by simp [hx]); omega
  · intro x hx hx2
    simp only [List.mem_cons] at hx2
    rcases hx2 with rfl | hx2
    · exact n1 hx
    · exact (n9 x hx).2.2 hx2
  · obtain ⟨ys, hy⟩ := h.hr t ht
    have hm := getD_mem (rows := rows) (t := t) (by rw [h.len]; exact ht)
    refine ⟨ys, hy.keep ho fun hx2 => ?_⟩
    simp only [List.mem_cons] at hx2
    rcases hx2 with hx2 | hx2
    · rw [hx2] at hm; exact n2 hm
    · exact (n10 _ hm).2 hx2
  · intro x hx hx2
    simp only [List.mem_cons] at hx2
    rcases hx2 with rfl | hx2
    · exact n3 hx
    · exact n11 x hx hx2
end Go.Proofs.Ytblfmacnkacalaa
