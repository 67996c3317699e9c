/- The laws' own functions: entries, ints, alive. -/
import Derived.Test.YthalhkhjacjhgaaSideLB
namespace Go.Proofs.Ythalhkhjacjhgaa
set_option linter.unusedSimpArgs false
set_option linter.unusedVariables false
set_option maxRecDepth 8000

/-- a slice of numbers in memory of its own -/
def NS (w : World) (h0 : Nat) (v : Value) (l : List Nat) : Prop := ∃ fp, Sl w 1 v l.length (nats l) fp ∧ ∀ x, x ∈ fp → h0 ≤ x
theorem nats_len (l : List Nat) : (nats l).length = l.length := by simp [nats]
theorem NS.cases {w : World} {h0 : Nat} {v : Value} {l : List Nat} (h : NS w h0 v l) : (v = .slice none 0 0 ∧ l = []) ∨ ∃ g cap ys, v = .slice (some ⟨g, 0, none⟩) l.length cap ∧ At w g (nats l ++ ys) ∧ h0 ≤ g ∧ (nats l ++ ys).length = cap ∧ l.length ≤ cap := by
  obtain ⟨fp, ⟨_, h⟩, hf⟩ := h
  rcases h with ⟨h1, h2, _⟩ | ⟨g, cap, ys, T, h1, h2, h3, h4, h5⟩
  · exact .inl ⟨h1, List.length_eq_zero_iff.1 h2⟩
  · exact .inr ⟨g, cap, ys, h1, ⟨T, h3⟩, hf g (by simp [h2]), by omega, h5⟩
theorem NS.nil (w : World) (h0 : Nat) : NS w h0 (.slice none 0 0) [] := ⟨[], ⟨rfl, .inl ⟨rfl, rfl, rfl⟩⟩, by simp⟩
theorem NS.at {w : World} {h0 g cap : Nat} {l : List Nat} {ys : List Value} (hat : At w g (nats l ++ ys)) (hg : h0 ≤ g) (h4 : (nats l ++ ys).length = cap) (h5 : l.length ≤ cap) : NS w h0 (.slice (some ⟨g, 0, none⟩) l.length cap) l := by
  obtain ⟨T, hat⟩ := hat
  exact ⟨[g], ⟨by rw [nats_len]; omega, .inr ⟨g, cap, ys, T, rfl, rfl, hat, by omega, h5⟩⟩, by simpa using hg⟩
theorem NS.keep {S : List Nat} {w w' : World} {h0 : Nat} {v : Value} {l : List Nat} (h : NS w h0 v l) (k : Only S w w') (hs : ∀ x, x ∈ S → x < h0) : NS w' h0 v l := by
  rcases h.cases with ⟨rfl, rfl⟩ | ⟨g, cap, ys, rfl, hat, hg, h4, h5⟩
  · exact .nil _ _
  · exact .at (hat.keep k fun h => by have := hs g h; omega) hg h4 h5
theorem NS.keep0 {w w' : World} {h0 : Nat} {v : Value} {l : List Nat} (h : NS w h0 v l) (k : Only [] w w') : NS w' h0 v l := h.keep k (by simp)
theorem app_nat {P : Program} {wb w : World} {s : Value} {l : List Nat} {x q bytes : Nat} {d : Option Nat} {rest : List XO} {ρ : Env} {C : Env → World → Prop} (hs : NS w wb.heap.size s l) (hb : Only [] wb w) (hq : At w q [.int .i64 (x : Int)]) (hl : l.length ≤ 4096) (hby : bytes ≤ 16)
    (k : ∀ v' w', NS w' wb.heap.size v' (l ++ [x]) → Only [] wb w' → VO P rest (putO ρ d v') w' C) : AppT P 1 bytes s (.slice (some ⟨q, 0, none⟩) 1 1) d rest ρ w C := by
  obtain ⟨fp, h1, h2⟩ := hs
  refine appT h1 (SrcIs.at hq rfl) ?_ (by omega) ?_ fun v' w' fp' h3 h4 h5 _ => k v' w' ⟨fp', ?_, ?_⟩ (hb.trans h5 fun x hx => .inr (h2 x hx))
  · intro u hu
    rcases List.mem_cons.1 hu with rfl | hu
    · rfl
    · cases hu
  · calc (l.length + 1) * bytes ≤ (l.length + 1) * 16 := Nat.mul_le_mul_left _ hby
      _ ≤ 1099511627776 := by omega
  · rw [List.length_append, show nats (l ++ [x]) = nats l ++ [.int .i64 (x : Int)] by simp [nats]]; exact h3
  · intro y hy
    rcases h4 with rfl | rfl
    · exact h2 y hy
    · rcases List.mem_cons.1 hy with rfl | hx
      · exact hb.size
      · cases hx

theorem law_entries {w : World} {a : Option Addr} {S : List Nat} {wd : Nat} {l : List Nat} (h : Tab w a S (some (wd, l))) : Cs Try.prog 16 [.pointer a] w fun r w' => NS w' w.heap.size r l ∧ Only [] w w' := by
  have hmax : l.length ≤ 4096 := h.max
  refine enter_law01_entries rfl ?_
  unfold x_law01_entries
  (repeat (first | with_reducible refine run_seq ?_ | with_reducible refine run_reg ?_ | with_reducible refine run_block ?_ | with_reducible refine run_blk ?_ | with_reducible refine run_skip ?_ | with_reducible refine run_exit rfl ?_ | with_reducible refine run_drw ?_ | with_reducible refine run_condT ?_ | with_reducible refine run_ret' ?_ | with_reducible refine run_end' ?_ | simp only [go_sem, ↓reduceIte, Nat.reduceAdd, Nat.reduceEqDiff, Nat.reduceBEq, reduceCtorEq, Int.reduceBEq, Int.reduceBNe, Int.reduceLT, Int.reduceLE]))
  refine run_loop (3 :: 4 :: 5 :: 6 :: 7 :: 8 :: 9 :: 10 :: 11 :: 12 :: 13 :: 14 :: 15 :: 16 :: []) (fun g' w' => ∃ (i : Nat) (s : Value), g' 4 = .int .i64 i ∧ g' 3 = s ∧ i ≤ l.length ∧ NS w' w.heap.size s (l.take i) ∧ Only [] w w') (fun g' _ => upTo l.length 4 g')
    ⟨0, .slice none 0 0, by simp only [go_sem, ↓reduceIte, Nat.reduceAdd, Nat.reduceEqDiff, Nat.reduceBEq, reduceCtorEq, Int.reduceBEq, Int.reduceBNe, Int.reduceLT, Int.reduceLE]; rfl, by simp only [go_sem, ↓reduceIte, Nat.reduceAdd, Nat.reduceEqDiff, Nat.reduceBEq, reduceCtorEq, Int.reduceBEq, Int.reduceBNe, Int.reduceLT, Int.reduceLE], by omega, by rw [List.take_zero]; exact .nil _ _, Only.refl _ _⟩ fun g' w' hI hnext => ?_
  obtain ⟨i, s, hi, h3, hin, hs, ho⟩ := hI
  (repeat (first | with_reducible refine run_seq ?_ | with_reducible refine run_reg ?_ | with_reducible refine run_block ?_ | with_reducible refine run_blk ?_ | with_reducible refine run_skip ?_ | with_reducible refine run_exit rfl ?_ | with_reducible refine run_drw ?_ | with_reducible refine run_condT ?_ | with_reducible refine run_ret' ?_ | with_reducible refine run_end' ?_ | simp only [go_sem, ↓reduceIte, Nat.reduceAdd, Nat.reduceEqDiff, Nat.reduceBEq, reduceCtorEq, Int.reduceBEq, Int.reduceBNe, Int.reduceLT, Int.reduceLE, hi]))
  refine callT1 (Entries_m (h.keep0 ho)) fun w2 o2 => ?_
  have hs := hs.keep0 o2
  have o2 := ho.same o2
  (repeat (first | with_reducible refine run_seq ?_ | with_reducible refine run_reg ?_ | with_reducible refine run_block ?_ | with_reducible refine run_blk ?_ | with_reducible refine run_skip ?_ | with_reducible refine run_exit rfl ?_ | with_reducible refine run_drw ?_ | with_reducible refine run_condT ?_ | with_reducible refine run_ret' ?_ | with_reducible refine run_end' ?_ | simp only [go_sem, ↓reduceIte, Nat.reduceAdd, Nat.reduceEqDiff, Nat.reduceBEq, reduceCtorEq, Int.reduceBEq, Int.reduceBNe, Int.reduceLT, Int.reduceLE, hi, MT.entries]))
  refine condT (fun hlt => ?_) (fun hge => ?_)
  · have hlt : i < l.length := by simpa using hlt
    (repeat (first | with_reducible refine run_seq ?_ | with_reducible refine run_reg ?_ | with_reducible refine run_block ?_ | with_reducible refine run_blk ?_ | with_reducible refine run_skip ?_ | with_reducible refine run_exit rfl ?_ | with_reducible refine run_drw ?_ | with_reducible refine run_condT ?_ | with_reducible refine run_ret' ?_ | with_reducible refine run_end' ?_ | simp only [go_sem, ↓reduceIte, Nat.reduceAdd, Nat.reduceEqDiff, Nat.reduceBEq, reduceCtorEq, Int.reduceBEq, Int.reduceBNe, Int.reduceLT, Int.reduceLE, hi, h3]))
    refine callT1 (Get_m (h.keep0 o2) i) fun w3 o3 => ?_
    have hs := hs.keep0 o3
    have hg : MT.get (some (wd, l)) (i : Int) = ((l.getD i 0 : Nat) : Int) := by simp only [MT.get, hasB_of hlt, if_true, Int.toNat_natCast]
    rw [hg]
    (repeat (first | with_reducible refine run_seq ?_ | with_reducible refine run_reg ?_ | with_reducible refine run_block ?_ | with_reducible refine run_blk ?_ | with_reducible refine run_skip ?_ | with_reducible refine run_exit rfl ?_ | with_reducible refine run_drw ?_ | with_reducible refine run_condT ?_ | with_reducible refine run_ret' ?_ | with_reducible refine run_end' ?_ | simp only [go_sem, ↓reduceIte, Nat.reduceAdd, Nat.reduceEqDiff, Nat.reduceBEq, reduceCtorEq, Int.reduceBEq, Int.reduceBNe, Int.reduceLT, Int.reduceLE]))
    rw [fillL_one rfl rfl]
    (repeat (first | with_reducible refine run_seq ?_ | with_reducible refine run_reg ?_ | with_reducible refine run_block ?_ | with_reducible refine run_blk ?_ | with_reducible refine run_skip ?_ | with_reducible refine run_exit rfl ?_ | with_reducible refine run_drw ?_ | with_reducible refine run_condT ?_ | with_reducible refine run_ret' ?_ | with_reducible refine run_end' ?_ | simp only [go_sem, ↓reduceIte, Nat.reduceAdd, Nat.reduceEqDiff, Nat.reduceBEq, reduceCtorEq, Int.reduceBEq, Int.reduceBNe, Int.reduceLT, Int.reduceLE]))
    refine bslT fun q w5 hq hs5 hat5 ho5 => ?_
    (repeat (first | with_reducible refine run_seq ?_ | with_reducible refine run_reg ?_ | with_reducible refine run_block ?_ | with_reducible refine run_blk ?_ | with_reducible refine run_skip ?_ | with_reducible refine run_exit rfl ?_ | with_reducible refine run_drw ?_ | with_reducible refine run_condT ?_ | with_reducible refine run_ret' ?_ | with_reducible refine run_end' ?_ | simp only [go_sem, ↓reduceIte, Nat.reduceAdd, Nat.reduceEqDiff, Nat.reduceBEq, reduceCtorEq, Int.reduceBEq, Int.reduceBNe, Int.reduceLT, Int.reduceLE]))
    have o5 := (o2.same o3).same ho5
    have hs5' : NS w5 w.heap.size s (l.take i) := hs.keep0 ho5
    refine app_nat (wb := w) (l := l.take i) (x := l.getD i 0) hs5' o5 hat5 (by rw [List.length_take]; omega) (by omega) fun v' w6 hs6 ho6 => ?_
    have ht : l.take i ++ [l.getD i 0] = l.take (i + 1) := by
      rw [List.take_succ_eq_append_getElem hlt]; simp [hlt]
    rw [ht] at hs6
    (repeat (first | with_reducible refine run_seq ?_ | with_reducible refine run_reg ?_ | with_reducible refine run_block ?_ | with_reducible refine run_blk ?_ | with_reducible refine run_skip ?_ | with_reducible refine run_exit rfl ?_ | with_reducible refine run_drw ?_ | with_reducible refine run_condT ?_ | with_reducible refine run_ret' ?_ | with_reducible refine run_end' ?_ | simp only [go_sem, ↓reduceIte, Nat.reduceAdd, Nat.reduceEqDiff, Nat.reduceBEq, reduceCtorEq, Int.reduceBEq, Int.reduceBNe, Int.reduceLT, Int.reduceLE, hi, i64_succ i (by omega)]))
    refine hnext _ _ ?_ ⟨i + 1, v', ?_, ?_, hlt, hs6, ho6⟩ ?_
    · (repeat (first | with_reducible exact Keeps.refl _ _ | with_reducible exact Keeps.ovr _ _ _ | refine Keeps.put ?_ rfl _ | exact Keeps.refl _ _ | exact Keeps.ovr _ _ _ | refine Keeps.ovr2 ?_ rfl _))
    · simp only [go_sem, ↓reduceIte, Nat.reduceAdd, Nat.reduceEqDiff, Nat.reduceBEq, reduceCtorEq, Int.reduceBEq, Int.reduceBNe, Int.reduceLT, Int.reduceLE]
    · simp only [go_sem, ↓reduceIte, Nat.reduceAdd, Nat.reduceEqDiff, Nat.reduceBEq, reduceCtorEq, Int.reduceBEq, Int.reduceBNe, Int.reduceLT, Int.reduceLE]
    · rw [upTo_int hi, upTo_int (k := .i64) (i := i + 1) (by simp only [go_sem, ↓reduceIte, Nat.reduceAdd, Nat.reduceEqDiff, Nat.reduceBEq, reduceCtorEq, Int.reduceBEq, Int.reduceBNe, Int.reduceLT, Int.reduceLE])]; omega
  · have hge : ¬ i < l.length := by simpa using hge
    have : i = l.length := by omega
    subst this
    rw [List.take_length] at hs
    (repeat (first | with_reducible refine run_seq ?_ | with_reducible refine run_reg ?_ | with_reducible refine run_block ?_ | with_reducible refine run_blk ?_ | with_reducible refine run_skip ?_ | with_reducible refine run_exit rfl ?_ | with_reducible refine run_drw ?_ | with_reducible refine run_condT ?_ | with_reducible refine run_ret' ?_ | with_reducible refine run_end' ?_ | simp only [go_sem, ↓reduceIte, Nat.reduceAdd, Nat.reduceEqDiff, Nat.reduceBEq, reduceCtorEq, Int.reduceBEq, Int.reduceBNe, Int.reduceLT, Int.reduceLE, h3]))
    exact ⟨hs, o2⟩

theorem law_ints {w : World} {s t : Value} {l k : List Nat} {h0 h1 : Nat} (hs : NS w h0 s l) (ht : NS w h1 t k) (hb : l.length ≤ 4096) : Cs Try.prog 27 [s, t] w fun r w' => r = .bool (decide (l = k)) ∧ Only [] w w' := by
  refine enter_law01_ints rfl ?_
  unfold x_law01_ints
  obtain ⟨a, cap, rfl, ha⟩ : ∃ (a : Option Addr) (cap : Nat), s = .slice a l.length cap ∧ ∀ i, i < l.length → ∃ g ys, a = some ⟨g, 0, none⟩ ∧ At w g (nats l ++ ys) := by
    rcases hs.cases with ⟨rfl, rfl⟩ | ⟨g, cap, ys, rfl, hat, _⟩
    · exact ⟨none, 0, rfl, fun i hi => absurd hi (by simp)⟩
    · exact ⟨_, cap, rfl, fun i hi => ⟨g, ys, rfl, hat⟩⟩
  obtain ⟨b, cap', rfl, hb'⟩ : ∃ (a : Option Addr) (cap : Nat), t = .slice a k.length cap ∧ ∀ i, i < k.length → ∃ g ys, a = some ⟨g, 0, none⟩ ∧ At w g (nats k ++ ys) := by
    rcases ht.cases with ⟨rfl, rfl⟩ | ⟨g, cap, ys, rfl, hat, _⟩
    · exact ⟨none, 0, rfl, fun i hi => absurd hi (by simp)⟩
    · exact ⟨_, cap, rfl, fun i hi => ⟨g, ys, rfl, hat⟩⟩
  by_cases hl : l.length = k.length
  case neg =>
    have t1 : ((l.length : Int) != (k.length : Int)) = true := by simp; omega
    (repeat (first | with_reducible refine run_seq ?_ | with_reducible refine run_reg ?_ | with_reducible refine run_block ?_ | with_reducible refine run_blk ?_ | with_reducible refine run_skip ?_ | with_reducible refine run_exit rfl ?_ | with_reducible refine run_drw ?_ | with_reducible refine run_condT ?_ | with_reducible refine run_ret' ?_ | with_reducible refine run_end' ?_ | simp only [go_sem, ↓reduceIte, Nat.reduceAdd, Nat.reduceEqDiff, Nat.reduceBEq, reduceCtorEq, Int.reduceBEq, Int.reduceBNe, Int.reduceLT, Int.reduceLE, t1]))
    exact ⟨by have : ¬ l = k := fun e => hl (by rw [e])
              simp [this], Only.refl _ _⟩
  have t1 : ((l.length : Int) != (k.length : Int)) = false := by simp [hl]
  (repeat (first | with_reducible refine run_seq ?_ | with_reducible refine run_reg ?_ | with_reducible refine run_block ?_ | with_reducible refine run_blk ?_ | with_reducible refine run_skip ?_ | with_reducible refine run_exit rfl ?_ | with_reducible refine run_drw ?_ | with_reducible refine run_condT ?_ | with_reducible refine run_ret' ?_ | with_reducible refine run_end' ?_ | simp only [go_sem, ↓reduceIte, Nat.reduceAdd, Nat.reduceEqDiff, Nat.reduceBEq, reduceCtorEq, Int.reduceBEq, Int.reduceBNe, Int.reduceLT, Int.reduceLE, t1]))
  refine run_loop (5 :: 11 :: 12 :: 13 :: 14 :: 15 :: 16 :: 17 :: 18 :: 19 :: 20 :: 21 :: 22 :: 23 :: 24 :: 25 :: []) (fun g' w' => ∃ (i : Nat), g' 5 = .int .i64 i ∧ i ≤ l.length ∧ (∀ j, j < i → l.getD j 0 = k.getD j 0) ∧ Only [] w w') (fun g' _ => upTo l.length 5 g')
    ⟨0, by simp only [go_sem, ↓reduceIte, Nat.reduceAdd, Nat.reduceEqDiff, Nat.reduceBEq, reduceCtorEq, Int.reduceBEq, Int.reduceBNe, Int.reduceLT, Int.reduceLE]; rfl, by omega, fun j hj => by omega, Only.refl _ _⟩ fun g'' w' hI hnext => ?_
  obtain ⟨i, hi, hin, hall, ho⟩ := hI
  (repeat (first | with_reducible refine run_seq ?_ | with_reducible refine run_reg ?_ | with_reducible refine run_block ?_ | with_reducible refine run_blk ?_ | with_reducible refine run_skip ?_ | with_reducible refine run_exit rfl ?_ | with_reducible refine run_drw ?_ | with_reducible refine run_condT ?_ | with_reducible refine run_ret' ?_ | with_reducible refine run_end' ?_ | simp only [go_sem, ↓reduceIte, Nat.reduceAdd, Nat.reduceEqDiff, Nat.reduceBEq, reduceCtorEq, Int.reduceBEq, Int.reduceBNe, Int.reduceLT, Int.reduceLE, hi]))
  refine condT (fun hlt => ?_) (fun hge => ?_)
  · have hlt : i < l.length := by simpa using hlt
    obtain ⟨g1, ys, rfl, f1⟩ := ha i hlt
    obtain ⟨g2, zs, rfl, f2⟩ := hb' i (by omega)
    have c1 : (0 : Int) ≤ (i : Int) ∧ (i : Int) < (l.length : Int) := ⟨by omega, by omega⟩
    have c2 : (0 : Int) ≤ (i : Int) ∧ (i : Int) < (k.length : Int) := ⟨by omega, by omega⟩
    (repeat (first | with_reducible refine run_seq ?_ | with_reducible refine run_reg ?_ | with_reducible refine run_block ?_ | with_reducible refine run_blk ?_ | with_reducible refine run_skip ?_ | with_reducible refine run_exit rfl ?_ | with_reducible refine run_drw ?_ | with_reducible refine run_condT ?_ | with_reducible refine run_ret' ?_ | with_reducible refine run_end' ?_ | simp only [go_sem, ↓reduceIte, Nat.reduceAdd, Nat.reduceEqDiff, Nat.reduceBEq, reduceCtorEq, Int.reduceBEq, Int.reduceBNe, Int.reduceLT, Int.reduceLE, hi, if_pos c1, if_pos c2, Int.toNat_natCast, Nat.mul_one, (f1.keep0 ho).cell, (f2.keep0 ho).cell, nats_get ys hlt, nats_get zs (show i < k.length by omega)]))
    refine condT (fun hne => ?_) (fun he => ?_)
    · have hne : ¬ ((l.getD i 0 : Nat) : Int) = ((k.getD i 0 : Nat) : Int) := by simpa using hne
      (repeat (first | with_reducible refine run_seq ?_ | with_reducible refine run_reg ?_ | with_reducible refine run_block ?_ | with_reducible refine run_blk ?_ | with_reducible refine run_skip ?_ | with_reducible refine run_exit rfl ?_ | with_reducible refine run_drw ?_ | with_reducible refine run_condT ?_ | with_reducible refine run_ret' ?_ | with_reducible refine run_end' ?_ | simp only [go_sem, ↓reduceIte, Nat.reduceAdd, Nat.reduceEqDiff, Nat.reduceBEq, reduceCtorEq, Int.reduceBEq, Int.reduceBNe, Int.reduceLT, Int.reduceLE]))
      refine ⟨?_, ho.nil (Only.drew _ _)⟩
      have : ¬ l = k := fun e => hne (by rw [e])
      simp [this]
    · have he : ((l.getD i 0 : Nat) : Int) = ((k.getD i 0 : Nat) : Int) := by simpa using he
      (repeat (first | with_reducible refine run_seq ?_ | with_reducible refine run_reg ?_ | with_reducible refine run_block ?_ | with_reducible refine run_blk ?_ | with_reducible refine run_skip ?_ | with_reducible refine run_exit rfl ?_ | with_reducible refine run_drw ?_ | with_reducible refine run_condT ?_ | with_reducible refine run_ret' ?_ | with_reducible refine run_end' ?_ | simp only [go_sem, ↓reduceIte, Nat.reduceAdd, Nat.reduceEqDiff, Nat.reduceBEq, reduceCtorEq, Int.reduceBEq, Int.reduceBNe, Int.reduceLT, Int.reduceLE, hi, i64_succ i (by omega)]))
      refine hnext _ _ ?_ ⟨i + 1, ?_, hlt, fun j hj => ?_, ho.nil (Only.drew _ _)⟩ ?_
      · (repeat (first | with_reducible exact Keeps.refl _ _ | with_reducible exact Keeps.ovr _ _ _ | refine Keeps.put ?_ rfl _ | exact Keeps.refl _ _ | exact Keeps.ovr _ _ _ | refine Keeps.ovr2 ?_ rfl _))
      · simp only [go_sem, ↓reduceIte, Nat.reduceAdd, Nat.reduceEqDiff, Nat.reduceBEq, reduceCtorEq, Int.reduceBEq, Int.reduceBNe, Int.reduceLT, Int.reduceLE]
      · rcases Nat.lt_or_ge j i with h | h
        · exact hall j h
        · have : j = i := by omega
          subst this; omega
      · rw [upTo_int hi, upTo_int (k := .i64) (i := i + 1) (by simp only [go_sem, ↓reduceIte, Nat.reduceAdd, Nat.reduceEqDiff, Nat.reduceBEq, reduceCtorEq, Int.reduceBEq, Int.reduceBNe, Int.reduceLT, Int.reduceLE])]; omega
  · have hge : ¬ i < l.length := by simpa using hge
    have : i = l.length := by omega
    subst this
    (repeat (first | with_reducible refine run_seq ?_ | with_reducible refine run_reg ?_ | with_reducible refine run_block ?_ | with_reducible refine run_blk ?_ | with_reducible refine run_skip ?_ | with_reducible refine run_exit rfl ?_ | with_reducible refine run_drw ?_ | with_reducible refine run_condT ?_ | with_reducible refine run_ret' ?_ | with_reducible refine run_end' ?_ | simp only [go_sem, ↓reduceIte, Nat.reduceAdd, Nat.reduceEqDiff, Nat.reduceBEq, reduceCtorEq, Int.reduceBEq, Int.reduceBNe, Int.reduceLT, Int.reduceLE]))
    refine ⟨?_, ho⟩
    have : l = k := List.ext_getElem hl fun j h1 h2 => by
      have := hall j h1
      simpa [h1, h2] using this
    simp [this]

theorem law_alive (w : World) : Cs Try.prog 15 [] w fun r w' => r = .bool true ∧ Only [] w w' := by
  have e0 : newM 10 2 = some (2, List.replicate 10 0) := by decide
  have e1 : errOf (newM 10 2) = 0 := by decide
  refine enter_law01_alive rfl ?_
  unfold x_law01_alive
  (repeat (first | with_reducible refine run_seq ?_ | with_reducible refine run_reg ?_ | with_reducible refine run_block ?_ | with_reducible refine run_blk ?_ | with_reducible refine run_skip ?_ | with_reducible refine run_exit rfl ?_ | with_reducible refine run_drw ?_ | with_reducible refine run_condT ?_ | with_reducible refine run_ret' ?_ | with_reducible refine run_end' ?_ | simp only [go_sem, ↓reduceIte, Nat.reduceAdd, Nat.reduceEqDiff, Nat.reduceBEq, reduceCtorEq, Int.reduceBEq, Int.reduceBNe, Int.reduceLT, Int.reduceLE]))
  refine callT (New_m w 10 2) ?_
  rintro r w1 ⟨a, S, rfl, hN, o1⟩
  rw [e0] at hN
  rw [e1]
  obtain ⟨b, g, rfl, rfl, hT⟩ := newT_get hN
  have h1 : Tab w1 (some ⟨b, 0, none⟩) [b, g] (some (2, List.replicate 10 0)) := hN.tab
  have hnew : ∀ x, x ∈ [b, g] → w.heap.size ≤ x := hN.new
  clear hN hT
  (repeat (first | with_reducible refine run_seq ?_ | with_reducible refine run_reg ?_ | with_reducible refine run_block ?_ | with_reducible refine run_blk ?_ | with_reducible refine run_skip ?_ | with_reducible refine run_exit rfl ?_ | with_reducible refine run_drw ?_ | with_reducible refine run_condT ?_ | with_reducible refine run_ret' ?_ | with_reducible refine run_end' ?_ | simp only [go_sem, ↓reduceIte, Nat.reduceAdd, Nat.reduceEqDiff, Nat.reduceBEq, reduceCtorEq, Int.reduceBEq, Int.reduceBNe, Int.reduceLT, Int.reduceLE]))
  refine callT (Set_m h1 3 2) ?_
  rintro r w2 ⟨rfl, h2, o2⟩
  have o2 := o1.same5 o2 hnew
  rw [show MT.check (some (2, List.replicate 10 0)) 3 [2] = 0 by decide]
  (repeat (first | with_reducible refine run_seq ?_ | with_reducible refine run_reg ?_ | with_reducible refine run_block ?_ | with_reducible refine run_blk ?_ | with_reducible refine run_skip ?_ | with_reducible refine run_exit rfl ?_ | with_reducible refine run_drw ?_ | with_reducible refine run_condT ?_ | with_reducible refine run_ret' ?_ | with_reducible refine run_end' ?_ | simp only [go_sem, ↓reduceIte, Nat.reduceAdd, Nat.reduceEqDiff, Nat.reduceBEq, reduceCtorEq, Int.reduceBEq, Int.reduceBNe, Int.reduceLT, Int.reduceLE]))
  refine callT (Fill_m h2 4 3 2) ?_
  rintro r w3 ⟨rfl, h3, o3⟩
  have o3 := o2.same5 o3 hnew
  have em : ((MT.setM (some (2, List.replicate 10 0)) 3 2).fillM 4 3 2) = some (2, [0, 0, 0, 2, 2, 2, 2, 0, 0, 0]) := by decide
  rw [show (MT.setM (some (2, List.replicate 10 0)) 3 2).fillE 4 3 2 = 0 by decide]
  rw [em] at h3
  (repeat (first | with_reducible refine run_seq ?_ | with_reducible refine run_reg ?_ | with_reducible refine run_block ?_ | with_reducible refine run_blk ?_ | with_reducible refine run_skip ?_ | with_reducible refine run_exit rfl ?_ | with_reducible refine run_drw ?_ | with_reducible refine run_condT ?_ | with_reducible refine run_ret' ?_ | with_reducible refine run_end' ?_ | simp only [go_sem, ↓reduceIte, Nat.reduceAdd, Nat.reduceEqDiff, Nat.reduceBEq, reduceCtorEq, Int.reduceBEq, Int.reduceBNe, Int.reduceLT, Int.reduceLE]))
  refine callT (Runs_m h3 2) ?_
  rintro s w4 ⟨hs, o4⟩
  rw [show MT.runs (some (2, [0, 0, 0, 2, 2, 2, 2, 0, 0, 0])) 2 = [(3, 4)] by decide] at hs
  have h4 := h3.keep0 o4
  have hw3 := o3.size
  have o4 := o3.same o4
  (repeat (first | with_reducible refine run_seq ?_ | with_reducible refine run_reg ?_ | with_reducible refine run_block ?_ | with_reducible refine run_blk ?_ | with_reducible refine run_skip ?_ | with_reducible refine run_exit rfl ?_ | with_reducible refine run_drw ?_ | with_reducible refine run_condT ?_ | with_reducible refine run_ret' ?_ | with_reducible refine run_end' ?_ | simp only [go_sem, ↓reduceIte, Nat.reduceAdd, Nat.reduceEqDiff, Nat.reduceBEq, reduceCtorEq, Int.reduceBEq, Int.reduceBNe, Int.reduceLT, Int.reduceLE]))
  refine callT1 (Next_m h4 0 2) fun w5 o5 => ?_
  rw [show MT.nextO (some (2, [0, 0, 0, 2, 2, 2, 2, 0, 0, 0])) 0 2 = some 3 by decide]
  have h5 := h4.keep0 o5
  have hs := hs.keep0 o5
  have o5 := o4.same o5
  (repeat (first | with_reducible refine run_seq ?_ | with_reducible refine run_reg ?_ | with_reducible refine run_block ?_ | with_reducible refine run_blk ?_ | with_reducible refine run_skip ?_ | with_reducible refine run_exit rfl ?_ | with_reducible refine run_drw ?_ | with_reducible refine run_condT ?_ | with_reducible refine run_ret' ?_ | with_reducible refine run_end' ?_ | simp only [go_sem, ↓reduceIte, Nat.reduceAdd, Nat.reduceEqDiff, Nat.reduceBEq, reduceCtorEq, Int.reduceBEq, Int.reduceBNe, Int.reduceLT, Int.reduceLE]))
  refine callT1 (Last_m h5 10 2) fun w6 o6 => ?_
  rw [show MT.lastO (some (2, [0, 0, 0, 2, 2, 2, 2, 0, 0, 0])) 10 2 = some 6 by decide]
  have h6 := h5.keep0 o6
  have hs := hs.keep0 o6
  have o6 := o5.same o6
  (repeat (first | with_reducible refine run_seq ?_ | with_reducible refine run_reg ?_ | with_reducible refine run_block ?_ | with_reducible refine run_blk ?_ | with_reducible refine run_skip ?_ | with_reducible refine run_exit rfl ?_ | with_reducible refine run_drw ?_ | with_reducible refine run_condT ?_ | with_reducible refine run_ret' ?_ | with_reducible refine run_end' ?_ | simp only [go_sem, ↓reduceIte, Nat.reduceAdd, Nat.reduceEqDiff, Nat.reduceBEq, reduceCtorEq, Int.reduceBEq, Int.reduceBNe, Int.reduceLT, Int.reduceLE]))
  refine callT (Add_m h6 3 5) ?_
  rintro r w7 ⟨rfl, h7, o7⟩
  rw [show MT.addM (some (2, [0, 0, 0, 2, 2, 2, 2, 0, 0, 0])) 3 5 = some (2, [0, 0, 0, 3, 2, 2, 2, 0, 0, 0]) by decide] at h7
  rw [show MT.addR (some (2, [0, 0, 0, 2, 2, 2, 2, 0, 0, 0])) 3 5 = 3 by decide, show MT.addE (some (2, [0, 0, 0, 2, 2, 2, 2, 0, 0, 0])) 3 5 = 0 by decide]
  have hs := hs.keep o7 fun x hx => h3.lt x hx
  have o7 := o6.same5 o7 hnew
  (repeat (first | with_reducible refine run_seq ?_ | with_reducible refine run_reg ?_ | with_reducible refine run_block ?_ | with_reducible refine run_blk ?_ | with_reducible refine run_skip ?_ | with_reducible refine run_exit rfl ?_ | with_reducible refine run_drw ?_ | with_reducible refine run_condT ?_ | with_reducible refine run_ret' ?_ | with_reducible refine run_end' ?_ | simp only [go_sem, ↓reduceIte, Nat.reduceAdd, Nat.reduceEqDiff, Nat.reduceBEq, reduceCtorEq, Int.reduceBEq, Int.reduceBNe, Int.reduceLT, Int.reduceLE]))
  refine callT (Add_m h7 3 (-1)) ?_
  rintro r w8 ⟨rfl, h8, o8⟩
  rw [show MT.addM (some (2, [0, 0, 0, 3, 2, 2, 2, 0, 0, 0])) 3 (-1) = some (2, [0, 0, 0, 3, 2, 2, 2, 0, 0, 0]) by decide] at h8
  rw [show MT.addR (some (2, [0, 0, 0, 3, 2, 2, 2, 0, 0, 0])) 3 (-1) = 3 by decide, show MT.addE (some (2, [0, 0, 0, 3, 2, 2, 2, 0, 0, 0])) 3 (-1) = 0 by decide]
  have hs := hs.keep o8 fun x hx => h3.lt x hx
  have o8 := o7.same5 o8 hnew
  (repeat (first | with_reducible refine run_seq ?_ | with_reducible refine run_reg ?_ | with_reducible refine run_block ?_ | with_reducible refine run_blk ?_ | with_reducible refine run_skip ?_ | with_reducible refine run_exit rfl ?_ | with_reducible refine run_drw ?_ | with_reducible refine run_condT ?_ | with_reducible refine run_ret' ?_ | with_reducible refine run_end' ?_ | simp only [go_sem, ↓reduceIte, Nat.reduceAdd, Nat.reduceEqDiff, Nat.reduceBEq, reduceCtorEq, Int.reduceBEq, Int.reduceBNe, Int.reduceLT, Int.reduceLE]))
  refine callT (Swap_m h8 4 1 0) ?_
  rintro r w9 ⟨rfl, h9, o9⟩
  rw [show MT.swapM (some (2, [0, 0, 0, 3, 2, 2, 2, 0, 0, 0])) 4 1 0 = some (2, [0, 0, 0, 3, 2, 2, 2, 0, 0, 0]) by decide] at h9
  rw [show MT.swapB (some (2, [0, 0, 0, 3, 2, 2, 2, 0, 0, 0])) 4 1 0 = false by decide, show MT.check (some (2, [0, 0, 0, 3, 2, 2, 2, 0, 0, 0])) 4 [1, 0] = 0 by decide]
  have hs := hs.keep o9 fun x hx => h3.lt x hx
  have o9 := o8.same5 o9 hnew
  (repeat (first | with_reducible refine run_seq ?_ | with_reducible refine run_reg ?_ | with_reducible refine run_block ?_ | with_reducible refine run_blk ?_ | with_reducible refine run_skip ?_ | with_reducible refine run_exit rfl ?_ | with_reducible refine run_drw ?_ | with_reducible refine run_condT ?_ | with_reducible refine run_ret' ?_ | with_reducible refine run_end' ?_ | simp only [go_sem, ↓reduceIte, Nat.reduceAdd, Nat.reduceEqDiff, Nat.reduceBEq, reduceCtorEq, Int.reduceBEq, Int.reduceBNe, Int.reduceLT, Int.reduceLE]))
  refine callT (Swap_m h9 4 2 0) ?_
  rintro r w10 ⟨rfl, h10, o10⟩
  rw [show MT.swapM (some (2, [0, 0, 0, 3, 2, 2, 2, 0, 0, 0])) 4 2 0 = some (2, [0, 0, 0, 3, 0, 2, 2, 0, 0, 0]) by decide] at h10
  rw [show MT.swapB (some (2, [0, 0, 0, 3, 2, 2, 2, 0, 0, 0])) 4 2 0 = true by decide, show MT.check (some (2, [0, 0, 0, 3, 2, 2, 2, 0, 0, 0])) 4 [2, 0] = 0 by decide]
  have hs := hs.keep o10 fun x hx => h3.lt x hx
  have o10 := o9.same5 o10 hnew
  (repeat (first | with_reducible refine run_seq ?_ | with_reducible refine run_reg ?_ | with_reducible refine run_block ?_ | with_reducible refine run_blk ?_ | with_reducible refine run_skip ?_ | with_reducible refine run_exit rfl ?_ | with_reducible refine run_drw ?_ | with_reducible refine run_condT ?_ | with_reducible refine run_ret' ?_ | with_reducible refine run_end' ?_ | simp only [go_sem, ↓reduceIte, Nat.reduceAdd, Nat.reduceEqDiff, Nat.reduceBEq, reduceCtorEq, Int.reduceBEq, Int.reduceBNe, Int.reduceLT, Int.reduceLE]))
  rw [fillL_one rfl rfl, fillL_one rfl rfl]
  (repeat (first | with_reducible refine run_seq ?_ | with_reducible refine run_reg ?_ | with_reducible refine run_block ?_ | with_reducible refine run_blk ?_ | with_reducible refine run_skip ?_ | with_reducible refine run_exit rfl ?_ | with_reducible refine run_drw ?_ | with_reducible refine run_condT ?_ | with_reducible refine run_ret' ?_ | with_reducible refine run_end' ?_ | simp only [go_sem, ↓reduceIte, Nat.reduceAdd, Nat.reduceEqDiff, Nat.reduceBEq, reduceCtorEq, Int.reduceBEq, Int.reduceBNe, Int.reduceLT, Int.reduceLE, fillL_two]))
  refine bslT fun q w11 hq hs11 hat11 o11 => ?_
  have h11 := h10.keep0 o11
  have hs := hs.keep0 o11
  have hr : RS w11 w10.heap.size (.slice (some ⟨q, 0, none⟩) 1 1) [(3, 4)] := RS.at (rs := [(3, 4)]) (ys := []) hat11 (by omega) rfl (Nat.le_refl _)
  have o11 := o10.same o11
  (repeat (first | with_reducible refine run_seq ?_ | with_reducible refine run_reg ?_ | with_reducible refine run_block ?_ | with_reducible refine run_blk ?_ | with_reducible refine run_skip ?_ | with_reducible refine run_exit rfl ?_ | with_reducible refine run_drw ?_ | with_reducible refine run_condT ?_ | with_reducible refine run_ret' ?_ | with_reducible refine run_end' ?_ | simp only [go_sem, ↓reduceIte, Nat.reduceAdd, Nat.reduceEqDiff, Nat.reduceBEq, reduceCtorEq, Int.reduceBEq, Int.reduceBNe, Int.reduceLT, Int.reduceLE]))
  refine callT1 (sameRuns hs hr (by simp)) fun w12 o12 => ?_
  have h12 := h11.keep0 o12
  have o12 := o11.same o12
  (repeat (first | with_reducible refine run_seq ?_ | with_reducible refine run_reg ?_ | with_reducible refine run_block ?_ | with_reducible refine run_blk ?_ | with_reducible refine run_skip ?_ | with_reducible refine run_exit rfl ?_ | with_reducible refine run_drw ?_ | with_reducible refine run_condT ?_ | with_reducible refine run_ret' ?_ | with_reducible refine run_end' ?_ | simp only [go_sem, ↓reduceIte, Nat.reduceAdd, Nat.reduceEqDiff, Nat.reduceBEq, reduceCtorEq, Int.reduceBEq, Int.reduceBNe, Int.reduceLT, Int.reduceLE]))
  refine callT1 (Count_m h12 0) fun w13 o13 => ?_
  rw [show MT.count (some (2, [0, 0, 0, 3, 0, 2, 2, 0, 0, 0])) 0 = 7 by decide]
  have o13 := o12.same o13
  (repeat (first | with_reducible refine run_seq ?_ | with_reducible refine run_reg ?_ | with_reducible refine run_block ?_ | with_reducible refine run_blk ?_ | with_reducible refine run_skip ?_ | with_reducible refine run_exit rfl ?_ | with_reducible refine run_drw ?_ | with_reducible refine run_condT ?_ | with_reducible refine run_ret' ?_ | with_reducible refine run_end' ?_ | simp only [go_sem, ↓reduceIte, Nat.reduceAdd, Nat.reduceEqDiff, Nat.reduceBEq, reduceCtorEq, Int.reduceBEq, Int.reduceBNe, Int.reduceLT, Int.reduceLE, optR, optE, MT.err, show (((7 : Nat) : Int) == 7) = true from rfl, show (((3 : Nat) : Int) == 3) = true from rfl, show (((6 : Nat) : Int) == 6) = true from rfl]))
  exact o13
end Go.Proofs.Ythalhkhjacjhgaa
