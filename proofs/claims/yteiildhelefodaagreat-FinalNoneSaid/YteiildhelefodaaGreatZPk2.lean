/- What the walks need, joined: RtD, RtE, RtF, RtG, RtH, RtR, RtS, RtT, RtU, RtV, RtW, RtX, RtY, EngL, HpU, HpV, HpW, FxM, FxA, FxB, FxC, FxD, FxE, FxF, FxG, FxH, FxI, FxJ, FxK, FxL, EqL, EqM, EqN, EqP, EqQ, Lv, HpY, ScA, ScB, ScC, ScD, FnA, EngM, FnB, FnC, FnD, FnE, FnF, FnG, FnH, FnI, FnJ, FnK, FnL -/
import Derived.Test.YteiildhelefodaaGreatZPk1
import Derived.ChangeSlices
import Derived.Test.YteiildhelefodaaGreatZCode
import Derived.Test.YteiildhelefodaaGreatZCodeD
set_option linter.unusedSimpArgs false
set_option linter.unusedVariables false
section
namespace Go.Proofs.YteiildhelefodaaGreat
namespace Rt
set_option maxRecDepth 8000
def stg (f:Int→Int) (L:List Int) (i:Nat):List Int:=(L.take i).map f++L.drop i
theorem stg_length (f:Int→Int) (L:List Int) (i:Nat):(stg f L i).length=L.length:=by simp only[stg,List.length_append,List.length_map,List.length_take,List.length_drop];omega
theorem stg_zero (f:Int→Int) (L:List Int):stg f L 0=L:=by simp[stg]
theorem stg_end (f:Int→Int) (L:List Int):stg f L L.length=L.map f:=by simp[stg]
theorem stg_get (f:Int→Int) {L:List Int} {i:Nat} (h:i<L.length):(stg f L i).getD i 0=L.getD i 0:=by
 simp only[stg,List.getD_eq_getElem?_getD]
 rw[List.getElem?_append_right (by simp;omega),List.length_map,List.length_take,Nat.min_eq_left (by omega),Nat.sub_self]
 simp
theorem stg_set (f:Int→Int) {L:List Int} {i:Nat} (h:i<L.length):(stg f L i).set i (f (L.getD i 0))=stg f L (i+1):=by
 have hl:((L.take i).map f).length=i:=by simp;omega
 unfold stg
 rw[List.set_append_right _ _ (by omega),hl,Nat.sub_self,List.drop_eq_getElem_cons h,List.set_cons_zero,List.take_succ_eq_append_getElem h,List.map_append,List.append_assoc]
 simp[h]
theorem stg_skip (f:Int→Int) (hf:f 0=0) {L:List Int} {i:Nat} (h:i<L.length) (h0:L.getD i 0=0):stg f L i=stg f L (i+1):=by
 rw[←stg_set f h,h0,hf]
 apply List.ext_getElem (by simp)
 intro k h1 h2
 rw[List.getElem_set]
 split
 ·rename_i e;subst e
  have:=stg_get f h
  rw[h0]at this
  simp only[List.getD_eq_getElem?_getD,List.getElem?_eq_getElem h1,Option.getD_some]at this
  exact this
 ·rfl
def rowL (s:MS):Nat→List Int
 |0=>s.S
 |1=>s.G
 |_=>s.Q
def pick3 {α:Type} (a b c:α):Nat→α
 |0=>a
 |1=>b
 |_=>c
def pl (k i:Nat):PT:=if k=0 then(0,((i/16:Nat):Int),((i%16:Nat):Int))else((k:Int),0,(i:Int))
def fl (k:Nat) (L:List Int):List (PT×Int):=(((List.range L.length).map (pl k)).zip L).filter fun x=>x.2 !=0
theorem fl_nil (k:Nat):fl k []=[]:=rfl
theorem fl_succ (k:Nat) {L:List Int} {i:Nat} (h:i<L.length):fl k (L.take (i+1))=fl k (L.take i)++(if L.getD i 0=0 then []else [(pl k i,L.getD i 0)]):=by
 have e:L.take (i+1)=L.take i++[L.getD i 0]:=by rw[List.take_succ_eq_append_getElem h];simp[h]
 have hl:(L.take i).length=i:=by simp;omega
 unfold fl
 rw[e,List.length_append,hl]
 simp only[List.length_singleton]
 rw[List.range_succ,List.map_append,List.zip_append (by simp[hl]),List.filter_append]
 congr 1
 by_cases h0:L.getD i 0=0
 ·rw[if_pos h0];simp only[List.map_cons,List.map_nil,List.zip_cons_cons,List.zip_nil_right];rw[List.filter_cons];simp only[h0];rfl
 ·rw[if_neg h0];simp only[List.map_cons,List.map_nil,List.zip_cons_cons,List.zip_nil_right];rw[List.filter_cons,if_pos (by simpa using h0)];rfl
theorem fl_length (k:Nat) (L:List Int):(fl k L).length≤L.length:=by
 unfold fl
 refine Nat.le_trans (List.length_filter_le _ _) ?_
 simp
theorem filled_rows {s:MS} (h:s.Ok):filled s=fl 0 s.S++(fl 1 s.G++fl 2 s.Q):=by
 unfold filled everyS MS.V fl
 rw[List.zip_append (by simp[h.ls,h.lg]),List.zip_append (by simp[h.ls]),List.filter_append,List.filter_append,List.append_assoc,h.ls,h.lg]
 congr 1
def flB (s:MS) (k:Nat):List (PT×Int):=(if 0<k then fl 0 s.S else [])++((if 1<k then fl 1 s.G else [])++(if 2<k then fl 2 s.Q else []))
theorem flB_succ (s:MS) {k:Nat} (h:k<3):flB s (k+1)=flB s k++fl k (rowL s k):=by
 have:k=0∨k=1∨k=2:=by omega
 rcases this with rfl|rfl|rfl<;>simp[flB,rowL]
theorem flB_length (s:MS) (k:Nat):(flB s k).length≤s.S.length+(s.G.length+s.Q.length):=by
 unfold flB
 simp only[List.length_append]
 refine Nat.add_le_add ?_ (Nat.add_le_add ?_ ?_)
 ·split
  ·exact fl_length _ _
  ·simp
 ·split
  ·exact fl_length _ _
  ·simp
 ·split
  ·exact fl_length _ _
  ·simp
def stR (f:Int→Int) (s:MS) (k i t:Nat):List Int:=if t<k then(rowL s t).map f else if t=k then stg f (rowL s t) i else rowL s t
theorem stR_start (f:Int→Int) (s:MS) (t:Nat):stR f s 0 0 t=rowL s t:=by
 unfold stR;rw[if_neg (by omega)];split
 ·exact stg_zero _ _
 ·rfl
theorem stR_next (f:Int→Int) (s:MS) (k t:Nat):stR f s k (rowL s k).length t=stR f s (k+1) 0 t:=by
 unfold stR
 by_cases h1:t<k
 ·rw[if_pos h1,if_pos (by omega)]
 ·rw[if_neg h1]
  by_cases h2:t=k
  ·subst h2;rw[if_pos rfl,if_pos (by omega),stg_end]
  ·rw[if_neg h2,if_neg (by omega)]
   split
   ·exact(stg_zero _ _).symm
   ·rfl
def Rows (w:World) (s:MS) (f:Int→Int) (vs vg vq:Value) (fs fg fq:List Nat) (k i:Nat):Prop:=
 ∀t,t<3→Sl w 1 (pick3 vs vg vq t) (rowL s t).length (ints (stR f s k i t)) (pick3 fs fg fq t)
theorem PMs.rows {w:World} {b:Nat} {s:MS} {vs vg vq:Value} {fs fg fq:List Nat} (h:PMs w b s vs vg vq fs fg fq) (f:Int→Int):Rows w s f vs vg vq fs fg fq 0 0:=by
 intro t ht
 rw[stR_start]
 have:t=0∨t=1∨t=2:=by omega
 rcases this with rfl|rfl|rfl
 ·have:=h.h0;rw[←h.ok.ls]at this;exact this
 ·have:=h.h1;rw[←h.ok.lg]at this;exact this
 ·exact h.h2
theorem Rows.keep0 {w w':World} {s:MS} {f:Int→Int} {vs vg vq:Value} {fs fg fq:List Nat} {k i:Nat} (h:Rows w s f vs vg vq fs fg fq k i) (ho:Only [] w w'):Rows w' s f vs vg vq fs fg fq k i:=fun t ht=>(h t ht).keep0 ho
theorem pick3_mem {fs fg fq:List Nat} {t x:Nat} (h:x∈pick3 fs fg fq t):x∈fs++(fg++fq):=by
 unfold pick3 at h
 split at h<;>simp[h]
theorem nd_pick {b:Nat} {fs fg fq:List Nat} {t u x:Nat} (h:(b::(fs++(fg++fq))).Nodup) (ht:t<3) (hu:u<3) (hne:t≠u) (hx:x∈pick3 fs fg fq t) (hy:x∈pick3 fs fg fq u):False:=by
 simp only[List.nodup_cons,List.mem_append,not_or,List.nodup_append]at h
 obtain⟨_,_,⟨_,_,n7⟩,n8⟩:=h
 have h1:t=0∨t=1∨t=2:=by omega
 have h2:u=0∨u=1∨u=2:=by omega
 rcases h1 with rfl|rfl|rfl<;>rcases h2 with rfl|rfl|rfl<;>simp only[pick3]at hx hy
 ·exact hne rfl
 ·exact n8 x hx x (.inl hy) rfl
 ·exact n8 x hx x (.inr hy) rfl
 ·exact n8 x hy x (.inl hx) rfl
 ·exact hne rfl
 ·exact n7 x hx x hy rfl
 ·exact n8 x hy x (.inr hx) rfl
 ·exact n7 x hy x hx rfl
 ·exact hne rfl
theorem Rows.at {w:World} {s:MS} {f:Int→Int} {vs vg vq:Value} {fs fg fq:List Nat} {k i:Nat} (h:Rows w s f vs vg vq fs fg fq k i) (hk:k<3) (hi:i<(rowL s k).length):
  ∃g cap ys,pick3 vs vg vq k=.slice (some ⟨g,0,none⟩) (rowL s k).length cap∧pick3 fs fg fq k=[g]∧At w g (ints (stg f (rowL s k) i)++ys)∧(ints (stg f (rowL s k) i)++ys).length=cap:=by
 have h0:=h k hk
 rcases h0.2 with⟨_,h1,_⟩|⟨g,cap,ys,T,h1,h2,h3,h4,h5⟩
 ·omega
 ·have e:stR f s k i k=stg f (rowL s k) i:=by unfold stR;rw[if_neg (by omega),if_pos rfl]
  rw[e]at h3 h4
  exact⟨g,cap,ys,h1,h2,⟨T,h3⟩,by simpa using h4⟩
theorem Rows.step {b:Nat} {w w':World} {s:MS} {f:Int→Int} {vs vg vq:Value} {fs fg fq:List Nat} {k i g cap:Nat} {ys:List Value} (hnd:(b::(fs++(fg++fq))).Nodup) (h:Rows w s f vs vg vq fs fg fq k i) (hk:k<3) (hi:i<(rowL s k).length)
  (hv:pick3 vs vg vq k=.slice (some ⟨g,0,none⟩) (rowL s k).length cap) (hfp:pick3 fs fg fq k=[g]) (hc:(ints (stg f (rowL s k) i)++ys).length=cap)
  (hat:At w' g ((ints (stg f (rowL s k) i)++ys).set i (.int .i64 (f ((rowL s k).getD i 0))))) (ho: ∀x,x∈fs++(fg++fq)→x≠g→w'.heap[x]? =w.heap[x]?):Rows w' s f vs vg vq fs fg fq k (i+1):=by
 intro t ht
 by_cases e:t=k
 ·subst e
  rw[ints_set ys (by rw[stg_length];exact hi),stg_set f hi]at hat
  rw[hv,hfp]
  have e1:stR f s t (i+1) t=stg f (rowL s t) (i+1):=by unfold stR;rw[if_neg (by omega),if_pos rfl]
  rw[e1]
  refine Sl.mk1 hat (by rw[ints_length,stg_length]) ?_
  rw[←hc];simp[ints_length,stg_length]
 ·have h0:=h t ht
  have e1:stR f s k (i+1) t=stR f s k i t:=by unfold stR;simp[e]
  rw[e1]
  refine⟨h0.1,?_⟩
  rcases h0.2 with h1|⟨g',cap',ys',T,h1,h2,h3,h4⟩
  ·exact .inl h1
  ·refine .inr ⟨g',cap',ys',T,h1,h2,?_,h4⟩
   rw[ho g' (pick3_mem (t:=t) (by rw[h2];simp)) (fun e2=>nd_pick hnd ht hk e (x:=g') (by rw[h2];simp) (by rw[hfp,e2];simp))]
   exact h3
theorem Rows.skip {w:World} {s:MS} {f:Int→Int} {vs vg vq:Value} {fs fg fq:List Nat} {k i:Nat} (h:Rows w s f vs vg vq fs fg fq k i) (hf:f 0=0) (hi:i<(rowL s k).length) (h0:(rowL s k).getD i 0=0):Rows w s f vs vg vq fs fg fq k (i+1):=by
 intro t ht
 have e:stR f s k (i+1) t=stR f s k i t:=by
  unfold stR
  by_cases e:t=k
  ·subst e;rw[if_neg (by omega),if_pos rfl,if_neg (by omega),if_pos rfl,stg_skip f hf hi h0]
  ·simp[e]
 rw[e];exact h t ht
theorem Rows.next {w:World} {s:MS} {f:Int→Int} {vs vg vq:Value} {fs fg fq:List Nat} {k:Nat} (h:Rows w s f vs vg vq fs fg fq k (rowL s k).length):Rows w s f vs vg vq fs fg fq (k+1) 0:=by
 intro t ht;rw[←stR_next];exact h t ht
theorem tdiv16 (n:Nat) (h:n≤4611686018427387904):IntKind.i64.wrap ((n:Int).tdiv 16)=((n/16:Nat):Int):=by
 rw[Int.tdiv_eq_ediv_of_nonneg (by omega),show((n:Int)/16)=((n/16:Nat):Int) by omega,i64_of_nat _ (by omega)]
theorem tmod16 (n:Nat):((n:Int).tmod 16)=((n%16:Nat):Int):=by
 rw[Int.tmod_eq_emod_of_nonneg (by omega)];omega
theorem setL_three (x y z a b c:Value):setL [x,y,z] 0 [a,b,c]=[a,b,c]:=Eq.trans rfl rfl
theorem divO_16 (v:Value):divO 16 v=some v:=Eq.trans rfl rfl
theorem all1_m {w : World} {l rb b : Nat} {s : MS} {vs vg vq : Value} {fs fg fq : List Nat} (hp : PMs w b s vs vg vq fs fg fq) (hrb : At w rb [.pointer (some ⟨b, 0, none⟩)]) (f : Int → Int) (hf0 : f 0 = 0)
    (J : List (PT × Int) → List Nat → World → Prop) (B : List Nat) (hB : ∀ x, x ∈ B → x < w.heap.size) (hJ0 : J [] [] w) (hJk : ∀ pre F w1 w2, J pre F w1 → Only [] w1 w2 → J pre F w2)
    (hY : ∀ pre F k i g xs w1, k < 3 → i < (rowL s k).length → J pre F w1 → (∀ x, x ∈ F → w.heap.size ≤ x) → pre.length ≤ 300 → w.heap.size ≤ w1.heap.size → Only B w w1 → g ∈ pick3 fs fg fq k → At w1 g xs → xs[i]? = some (.int .i64 ((rowL s k).getD i 0)) → (rowL s k).getD i 0 ≠ 0 →
      Ys Tryz.prog l [.agg ⟨plV (pl k i)⟩, .pointer (some ⟨g, i, none⟩)] w1 fun r w2 => r = .bool true ∧ (∃ F', J (pre ++ [(pl k i, (rowL s k).getD i 0)]) F' w2 ∧ ∀ x, x ∈ F' → x ∈ F ∨ w1.heap.size ≤ x) ∧ Only (B ++ F) w1 w2 ∧ At w2 g (xs.set i (.int .i64 (f ((rowL s k).getD i 0)))) ∧
        ∀ g', g' ∈ fs ++ (fg ++ fq) → g' ≠ g → w2.heap[g']? = w1.heap[g']?) :
    Cs Tryz.prog 246 [.func (.yield l) #[] #[], .pointer (some ⟨rb, 0, none⟩)] w fun _ w' => (∃ F, J (filled s) F w' ∧ ∀ x, x ∈ F → w.heap.size ≤ x) ∧ Only B w w' ∧ Rows w' s f vs vg vq fs fg fq 3 0 := by
  refine enter_roots_Roots_all_1 rfl ?_
  unfold x_roots_Roots_all_1
  refine gO ?_
  refine run_drt [rb, b] ?_
  have hok := hp.ok
  have hlen : ∀ k, (rowL s k).length ≤ 64 := by
    intro k
    have h1 := hok.ls; have h2 := hok.lg; have h3 := hok.lq; have h4 := hok.m4
    unfold rowL; split <;> omega
  refine gO2 hrb.cell hp.hb.cell ?_
  have hone : ∀ t, t < 3 → oneC (pick3 vs vg vq t) = true := by
    intro t ht
    obtain ⟨a, c, e⟩ := (hp.rows f t ht).val
    rw [e]; rfl
  have one0 : oneC vs = true := hone 0 (by omega)
  have one1 : oneC vg = true := hone 1 (by omega)
  have one2 : oneC vq = true := hone 2 (by omega)
  rw [fillL_one one0 rfl]
  refine gO ?_
  rw [fillL_one one1 rfl]
  refine gO ?_
  rw [fillL_one one2 rfl]
  refine gO ?_
  refine bslS fun g19 w1 hg19 hs1 hat1 ho1 => ?_
  have hd : w.drew.heap.size = w.heap.size := rfl
  have hO1 : Only [] w w1 := Only.drew_left ho1
  refine ⟨.inr ((SB.refl _ _).only ho1 (fun x hx => by
    simp only [List.mem_cons, List.not_mem_nil, or_false] at hx
    rcases hx with rfl | rfl
    · exact ⟨hrb.lt, by simp⟩
    · exact ⟨hp.hb.lt, by simp⟩)), ?_⟩
  refine gO ?_
  have hsz : w.heap.size ≤ g19 := by omega
  have hg19B : g19 ∉ B := fun hx => by have := hB _ hx; omega
  have upTo3 : ∀ {t : Nat} {g : Env} {i : Nat}, g t = .int .i64 i → upTo 3 t g = 3 - i := fun h => upTo_int h
  refine run_loop (3 :: 4 :: 5 :: 6 :: 21 :: 22 :: 23 :: 24 :: 25 :: 26 :: 27 :: 28 :: 29 :: 30 :: 31 :: 32 :: 33 :: 34 :: 35 :: 36 :: 37 :: 38 :: 39 :: 40 :: 41 :: 42 :: 43 :: 44 :: 45 :: 46 :: 47 :: 48 :: 49 :: 50 :: 51 :: 52 :: 53 :: 54 :: 55 :: 56 :: 57 :: []) (fun g w' => ∃ k : Nat, g 21 = .int .i64 k ∧ k ≤ 3 ∧ (∃ F, J (flB s k) F w' ∧ g19 ∉ F ∧ ∀ x, x ∈ F → w.heap.size ≤ x) ∧ Only B w w' ∧ Rows w' s f vs vg vq fs fg fq k 0 ∧ At w' g19 [vs, vg, vq]) (fun g _ => upTo 3 21 g)
    ⟨0, by simp only [go_sem]; rfl, by omega, ⟨[], hJk _ _ _ _ (by simpa [flB] using hJ0) hO1, by simp, by simp⟩, hO1.of_nil, (hp.rows f).keep0 hO1, hat1⟩ fun g w2 hI hnext => ?_
  obtain ⟨k, h21, hk, ⟨F0, hJ, hF0, hFl0⟩, ho, hR, hat⟩ := hI
  have e3 : ((3 : Nat) : Int) = 3 := rfl
  refine gO2 h21 e3 ?_
  refine condT (fun hlt => ?_) (fun hge => ?_)
  rotate_left
  · have : k = 3 := by have : ¬ ((k : Int) < 3) := by simpa using hge
                       omega
    subst this
    refine gO ?_
    refine ⟨⟨F0, ?_, hFl0⟩, ho, hR⟩
    rw [filled_rows hok]
    simpa [flB] using hJ
  have hlt : k < 3 := by have : (k : Int) < 3 := by simpa using hlt
                         omega
  have hget : [vs, vg, vq][k]? = some (pick3 vs vg vq k) := by
    have : k = 0 ∨ k = 1 ∨ k = 2 := by omega
    rcases this with rfl | rfl | rfl <;> rfl
  have c1 : (0 : Int) ≤ (k : Int) ∧ (k : Int) < 3 := ⟨by omega, by omega⟩
  obtain ⟨a4, c4, hv4⟩ := (hR k hlt).val
  have hl64 := hlen k
  (repeat (first | with_reducible (first | refine r_1 ?_ | refine r_2 ?_ | refine r_4 ?_ | refine r_5 ?_ | refine r_6 rfl ?_ | refine r_7 ?_ | refine r_8 ?_ | refine r_9 ?_ | refine r_0 ?_) | simp only [go_sem, h21, e3, if_pos c1, Int.toNat_natCast, Nat.mul_one, hat.cell, hget, hv4]))
  refine run_block ?_
  (repeat (first | with_reducible (first | refine r_1 ?_ | refine r_2 ?_ | refine r_4 ?_ | refine r_5 ?_ | refine r_6 rfl ?_ | refine r_7 ?_ | refine r_8 ?_ | refine r_9 ?_ | refine r_0 ?_) | simp only [go_sem, h21, e3, if_pos c1, Int.toNat_natCast, Nat.mul_one, hat.cell, hget, hv4]))
  refine run_block ?_
  refine run_loop (5 :: 6 :: 28 :: 29 :: 30 :: 31 :: 32 :: 33 :: 34 :: 35 :: 36 :: 37 :: 38 :: 39 :: 40 :: 41 :: 42 :: 43 :: 44 :: 45 :: 46 :: 47 :: 48 :: 49 :: 50 :: 51 :: 52 :: 53 :: 54 :: 55 :: 56 :: []) (fun g' w' => ∃ i : Nat, g' 28 = .int .i64 i ∧ i ≤ (rowL s k).length ∧ (∃ F, J (flB s k ++ fl k ((rowL s k).take i)) F w' ∧ g19 ∉ F ∧ ∀ x, x ∈ F → w.heap.size ≤ x) ∧ Only B w w' ∧ Rows w' s f vs vg vq fs fg fq k i ∧ At w' g19 [vs, vg, vq]) (fun g' _ => upTo (rowL s k).length 28 g')
    ⟨0, by simp only [go_sem]; rfl, by omega, ⟨F0, by simpa [fl_nil] using hJ, hF0, hFl0⟩, ho, hR, hat⟩ fun g' w3 hI hnext' => ?_
  obtain ⟨i, h28, hi, ⟨F, hJ3, hF, hFl⟩, ho3, hR3, hat3⟩ := hI
  refine gO1 h28 ?_
  refine condT (fun hilt => ?_) (fun hige => ?_)
  rotate_left
  · have : i = (rowL s k).length := by have : ¬ (i < (rowL s k).length) := by simpa using hige
                                       omega
    subst this
    refine gO2 h21 (i64_succ k (by omega)) ?_
    refine hnext _ w3 ?_ ⟨k + 1, ?_, by omega, ?_, ho3, hR3.next, hat3⟩ ?_
    · (repeat (first | with_reducible exact k_1 | with_reducible exact Keeps.ovr _ _ _ | refine Keeps.put ?_ rfl _ | exact k_1 | exact Keeps.ovr _ _ _ | refine Keeps.ovr2 ?_ rfl _))
    · simp only [go_sem]
    · rw [flB_succ s hlt]; rw [List.take_length] at hJ3; exact ⟨F, hJ3, hF, hFl⟩
    · rw [upTo3 h21, upTo3 (i := k + 1) (by simp only [go_sem])]; omega
  have hilt : i < (rowL s k).length := by simpa using hilt
  (repeat (first | with_reducible (first | refine r_1 ?_ | refine r_2 ?_ | refine r_4 ?_ | refine r_5 ?_ | refine r_6 rfl ?_ | refine r_7 ?_ | refine r_8 ?_ | refine r_9 ?_ | refine r_0 ?_) | simp only [go_sem, h28, h21]))
  refine run_block ?_
  (repeat (first | with_reducible (first | refine r_1 ?_ | refine r_2 ?_ | refine r_4 ?_ | refine r_5 ?_ | refine r_6 rfl ?_ | refine r_7 ?_ | refine r_8 ?_ | refine r_9 ?_ | refine r_0 ?_) | simp only [go_sem, h28, h21]))
  rw [fillL_one rfl rfl]
  refine gO ?_
  rw [fillL_one rfl rfl]
  refine gO ?_
  refine boxT fun q w4 hq hs4 hat4 ho4 => ?_
  refine gO ?_
  refine stNT hat4 rfl (by simp) (by simp [oneC]) fun w5 hs5 hat5 ho5 => ?_
  rw [setL_three] at hat5
  have hO5 : Only [] w3 w5 := ho4.trans ho5 fun x hx => .inr (by simp only [List.mem_singleton] at hx; omega)
  simp only [go_sem]
  refine run_seq ?_
  refine run_cut (34 :: 35 :: 36 :: 37 :: 38 :: 39 :: 40 :: 41 :: []) (fun _ w' => Only [] w3 w' ∧ At w' q (plV (pl k i))) (fun kk hkk => ?_) (fun g6 w6 hJ6 => ?_)
  · by_cases hk0 : k = 0
    · subst hk0
      have b0 : ((0 : Nat) : Int) = 0 := rfl
      (repeat (first | with_reducible (first | refine nx ?_ | refine r_6 rfl ?_) | simp only [go_sem, h21, h28, beq_int_true b0, divO_16, tdiv16 i (by omega), tmod16 i]))
      refine stT hat5 (by simp) rfl fun w6 hs6 hat6 ho6 => ?_
      refine gO ?_
      refine stT hat6 (by simp) rfl fun w7 hs7 hat7 ho7 => ?_
      refine gO ?_
      refine hkk _ w7 (by (repeat (first | with_reducible exact k_1 | with_reducible exact Keeps.ovr _ _ _ | refine Keeps.put ?_ rfl _ | exact k_1 | exact Keeps.ovr _ _ _ | refine Keeps.ovr2 ?_ rfl _))) ⟨(hO5.trans ho6 fun x hx => .inr ?_).trans ho7 fun x hx => .inr ?_, hat7⟩
      · simp only [List.mem_singleton] at hx; omega
      · simp only [List.mem_singleton] at hx; omega
    · refine gO3 h21 h28 (beq_int_false (show ¬ (k : Int) = 0 by omega)) ?_
      refine hkk _ w5 (by (repeat (first | with_reducible exact k_1 | with_reducible exact Keeps.ovr _ _ _ | refine Keeps.put ?_ rfl _ | exact k_1 | exact Keeps.ovr _ _ _ | refine Keeps.ovr2 ?_ rfl _))) ⟨hO5, ?_⟩
      have : pl k i = ((k : Int), 0, (i : Int)) := by unfold pl; rw [if_neg hk0]
      rw [this]; exact hat5
  obtain ⟨hO6, hat6⟩ := hJ6
  have hR6 := hR3.keep0 hO6
  obtain ⟨g, cap, ys, hv, hfp, hrow, hcap⟩ := hR6.at hlt hilt
  rw [hv4] at hv
  cases hv
  have hgI : (ints (stg f (rowL s k) i) ++ ys)[i]? = some (.int .i64 ((rowL s k).getD i 0)) := by
    rw [ints_get ys (by rw [stg_length]; exact hilt), stg_get f hilt]
  have hcs : cellsAt w6 ⟨q, 0, none⟩ 3 = some (plV (pl k i)) := cellsAt_at hat6 0 3 (by simp [plV])
  have c2 : (0 : Int) ≤ (i : Int) ∧ (i : Int) < ((rowL s k).length : Int) := ⟨by omega, by omega⟩
  have ho6 : Only B w w6 := ho3.nil hO6
  have hat19 := hat3.keep0 hO6
  have hpl : (flB s k ++ fl k ((rowL s k).take i)).length ≤ 300 := by
    rw [List.length_append]
    have h1 := flB_length s k
    have h2 := fl_length k ((rowL s k).take i)
    have h3 : ((rowL s k).take i).length ≤ 64 := by rw [List.length_take]; omega
    have h4 : s.S.length ≤ 64 := hlen 0
    have h5 : s.G.length ≤ 64 := hlen 1
    have h6 : s.Q.length ≤ 64 := hlen 2
    omega
  refine run_seq ?_
  refine run_drt [g, q] ?_
  by_cases hz : (rowL s k).getD i 0 = 0
  · (repeat (first | with_reducible (first | refine nx ?_ | refine r_6 rfl ?_) | simp only [go_sem, h21, h28, if_pos c2, Int.toNat_natCast, Nat.mul_one, hrow.cell, hgI, bne_int_false hz, hcs, i64_succ i (by omega)]))
    refine hnext' _ w6.drew ?_ ⟨i + 1, ?_, by omega, ?_, ho6.nil (Only.drew [] _), (hR6.keep0 (Only.drew [] _)).skip hf0 hilt hz, hat19⟩ ?_
    · (repeat (first | with_reducible exact k_1 | with_reducible exact Keeps.ovr _ _ _ | refine Keeps.put ?_ rfl _ | exact k_1 | exact Keeps.ovr _ _ _ | refine Keeps.ovr2 ?_ rfl _))
    · simp only [go_sem]
    · rw [fl_succ k hilt, if_pos hz, List.append_nil]; exact ⟨F, hJk _ _ _ _ hJ3 (hO6.nil (Only.drew [] _)), hF, hFl⟩
    · rw [upTo_int h28, upTo_int (k := .i64) (i := i + 1) (by simp only [go_sem])]; omega
  · refine gJ7 h21 h28 (eq_true c2) hrow.cell hgI (bne_int_true hz) hcs ?_
    refine yieldS (hY (flB s k ++ fl k ((rowL s k).take i)) F k i g _ w6.drew hlt hilt (hJk _ _ _ _ hJ3 (hO6.nil (Only.drew [] _))) hFl hpl (by have := ho6.size; exact this) (ho6.nil (Only.drew [] _)) (by rw [hfp]; simp) hrow hgI hz) ?_
    rintro v w7 ⟨rfl, ⟨F', hJ7, hF'⟩, hO7, hat7, hoth⟩
    have hd6 : w6.drew.heap.size = w6.heap.size := rfl
    have h19lt := hat19.lt
    have hz6 := ho6.size
    have hF19 : g19 ∉ F' := fun hx => (hF' _ hx).elim hF (fun h => by omega)
    have hFl' : ∀ x, x ∈ F' → w.heap.size ≤ x := fun x hx => (hF' x hx).elim (hFl x) (fun h => by omega)
    refine ⟨.inl rfl, ?_⟩
    refine gO2 h28 (i64_succ i (by omega)) ?_
    refine hnext' _ w7 ?_ ⟨i + 1, ?_, by omega, ?_, (ho6.nil (Only.drew [] _)).trans hO7 (fun x hx => (List.mem_append.1 hx).imp id (hFl x)), ?_, (hat19.drew).keep hO7 (by simp only [List.mem_append, not_or]; exact ⟨hg19B, hF⟩)⟩ ?_
    · (repeat (first | with_reducible exact k_1 | with_reducible exact Keeps.ovr _ _ _ | refine Keeps.put ?_ rfl _ | exact k_1 | exact Keeps.ovr _ _ _ | refine Keeps.ovr2 ?_ rfl _))
    · simp only [go_sem]
    · rw [fl_succ k hilt, if_neg hz, ← List.append_assoc]; exact ⟨F', hJ7, hF19, hFl'⟩
    · exact (hR6.keep0 (Only.drew [] _)).step hp.nd hlt hilt hv4 hfp hcap hat7 hoth
    · rw [upTo_int h28, upTo_int (k := .i64) (i := i + 1) (by simp only [go_sem])]; omega
end Rt
end Go.Proofs.YteiildhelefodaaGreat
end
section
namespace Go.Proofs.YteiildhelefodaaGreat
namespace Rt
set_option maxRecDepth 8000
def plsV (l:List PT):List Value:=l.flatMap plV
theorem plsV_length (l:List PT):(plsV l).length=l.length*3:=by induction l with
 |nil=>rfl
 |cons a l ih=>simp only[plsV,List.flatMap_cons,List.length_append,List.length_cons]at ih⊢;rw[ih];simp[plV];omega
theorem set_self {xs:List Value} {i:Nat} {v:Value} (h:xs[i]? =some v):xs.set i v=xs:=by
 apply List.ext_getElem?
 intro k
 rw[List.getElem?_set]
 split
 ·rename_i e;subst e
  have hl:=lt_of_get h
  rw[if_pos hl,h]
 ·rfl
theorem _root_.Go.Proofs.YteiildhelefodaaGreat.Sl.oneC {w:World} {sz:Nat} {v:Value} {n:Nat} {xs:List Value} {fp:List Nat} (h:Sl w sz v n xs fp):Go.Proofs.YteiildhelefodaaGreat.oneC v=true:=by
 obtain⟨a,c,e⟩:=h.val;rw[e];rfl
theorem all_m (w:World) (a:Option Addr):Cs Tryz.prog 188 [.pointer a] w fun v w'=>Only [] w w'∧ ∃rb,v=.func (.func 246) #[] #[.pointer (some ⟨rb,0,none⟩)]∧At w' rb [.pointer a]∧w.heap.size≤rb:=by
 refine enter_roots_Roots_all rfl ?_
 unfold x_roots_Roots_all
 refine gO ?_
 refine boxT fun q w1 hq hs1 hat1 ho1=>?_
 refine gO ?_
 exact⟨ho1,q,rfl,hat1,by omega⟩
end Rt
end Go.Proofs.YteiildhelefodaaGreat
end
section
namespace Go.Proofs.YteiildhelefodaaGreat
namespace Rt
set_option maxRecDepth 8000
theorem take_contains_succ {xs:List Int} {i:Nat} {y:Int} (h:i<xs.length):(xs.take (i+1)).contains y=((xs.take i).contains y||decide (y=xs.getD i 0)):=by
 have e:xs.take (i+1)=xs.take i++[xs.getD i 0]:=by rw[List.take_succ_eq_append_getElem h];simp[h]
 rw[e,Bool.eq_iff_iff]
 simp
theorem Index_m {w : World} {D : List Nat} {v : Value} {xs : List Int} (h : RdB w D v xs) (hl : xs.length ≤ 100000) (y : Int) : Cs Tryz.prog 103 [v, .int .i64 y] w fun r w' => (∃ k : Int, r = .int .i64 k ∧ decide (0 ≤ k) = xs.contains y) ∧ w' = w := by
  refine enter_slices_Index___int_int_ rfl ?_
  unfold x_slices_Index___int_int_
  obtain ⟨a, cap, rfl, hrd⟩ := h
  refine gO ?_
  refine run_loop (4 :: 5 :: 6 :: 7 :: 8 :: 9 :: 10 :: 11 :: 12 :: 13 :: 14 :: 15 :: 16 :: 17 :: 18 :: []) (fun g w' => ∃ i : Nat, g 8 = .int .i64 i ∧ g 7 = .int .i64 xs.length ∧ i ≤ xs.length ∧ (xs.take i).contains y = false ∧ w' = w) (fun g _ => upTo xs.length 8 g) ⟨0, by simp only [go_sem]; rfl, by simp only [go_sem], by omega, by simp, rfl⟩ fun g w' hI hnext => ?_
  obtain ⟨i, h8, h7, hi, hno, rfl⟩ := hI
  refine gO2 h8 h7 ?_
  refine condT (fun hlt => ?_) (fun hge => ?_)
  · have hlt : i < xs.length := by simpa using hlt
    obtain ⟨p, rfl, _, hc⟩ := hrd i hlt
    have c1 : (0 : Int) ≤ (i : Int) ∧ (i : Int) < (xs.length : Int) := ⟨by omega, by omega⟩
    by_cases e : y = xs.getD i 0
    · refine gJ5 h8 h7 (eq_true c1) hc (beq_int_true e) ?_
      refine ⟨i, rfl, ?_⟩
      have : xs.contains y = true := by
        rw [List.contains_iff_mem, e, List.getD_eq_getElem?_getD, List.getElem?_eq_getElem hlt]; simp
      rw [this]; simp
    · refine gJ6 h8 h7 (eq_true c1) hc (beq_int_false e) (i64_succ i (by omega)) ?_
      refine hnext _ w' ?_ ⟨i + 1, ?_, ?_, by omega, by rw [take_contains_succ hlt, hno]; simpa using e, rfl⟩ ?_
      · (repeat (first | with_reducible exact k_1 | with_reducible exact Keeps.ovr _ _ _ | refine Keeps.put ?_ rfl _ | exact k_1 | exact Keeps.ovr _ _ _ | refine Keeps.ovr2 ?_ rfl _))
      · simp only [go_sem]
      · simp only [go_sem, h7]
      · rw [upTo_int h8, upTo_int (k := .i64) (i := i + 1) (by simp only [go_sem])]; omega
  · have : i = xs.length := by have : ¬ (i < xs.length) := by simpa using hge
                               omega
    subst this
    refine gO ?_
    refine ⟨-1, rfl, ?_⟩
    rw [List.take_length] at hno
    rw [hno]; rfl
theorem Contains_m {w:World} {D:List Nat} {v:Value} {xs:List Int} (h:RdB w D v xs) (hl:xs.length≤100000) (y:Int):Cs Tryz.prog 51 [v,.int .i64 y] w fun r w'=>r=.bool (xs.contains y)∧w'=w:=by
 refine enter_slices_Contains___int_int_ rfl ?_
 unfold x_slices_Contains___int_int_
 refine gO ?_
 refine callT (Index_m h hl y) ?_
 rintro r w' ⟨⟨k,rfl,hk⟩,rfl⟩
 (repeat(first|with_reducible(first|refine nx ?_|refine r_6 rfl ?_)|simp only[go_sem,hk]))
end Rt
end Go.Proofs.YteiildhelefodaaGreat
end
section
namespace Go.Proofs.YteiildhelefodaaGreat
namespace Rt
set_option maxRecDepth 8000
def leadL (l:List Int):List Int:=l.foldl addNew []
theorem addNew_length (acc:List Int) (x:Int):(addNew acc x).length≤acc.length+1:=by unfold addNew;split<;>simp
theorem foldl_addNew_length: ∀(l acc:List Int),(l.foldl addNew acc).length≤acc.length+l.length
 | [],acc=>by simp
 |x::l,acc=>by
  have h1:=foldl_addNew_length l (addNew acc x)
  have h2:=addNew_length acc x
  simp only[List.foldl_cons,List.length_cons];omega
theorem leadL_length (l:List Int):(leadL l).length≤l.length:=by have:=foldl_addNew_length l [];simpa[leadL]using this
theorem leadL_snoc (l:List Int) (x:Int):leadL (l++[x])=addNew (leadL l) x:=by simp[leadL]
theorem Leads_m {w:World} {a:Option Addr} {fp:List Nat} {m:MO} (h:PR w a fp m):Cs Tryz.prog 135 [.pointer a] w fun v w'=>Only [] w w'∧ ∃fp',Sl w' 1 v (leadsO m).length (ints (leadsO m)) fp'∧ ∀x,x∈fp'→w.heap.size≤x:=by
 refine enter_roots_Roots_Leads rfl ?_
 unfold x_roots_Roots_Leads
 refine gO ?_
 refine callT0 (made_m h) ?_
 match m,h with
 |none,_=>
  (repeat(first|with_reducible(first|refine nx ?_|refine r_6 rfl ?_)|simp only[go_sem,Option.isSome_none]))
  exact⟨Only.refl _ _,[],Sl.nil1 w,by simp⟩
 |some s,⟨b,hb,vs,vg,vq,fs,fg,fq,hfp,hp⟩=>
  subst hb
  (repeat(first|with_reducible(first|refine nx ?_|refine r_6 rfl ?_)|simp only[go_sem,Option.isSome_some]))
  refine boxT fun q3 w1 hq3 hs1 hat1 ho1=>?_
  refine gO ?_
  refine callT (all_m w1 _) ?_
  rintro v w2 ⟨ho2,rb,rfl,hrb,hrl⟩
  refine gO ?_
  refine run_rng (it:=246) (caps:=[.pointer (some ⟨rb,0,none⟩)]) rfl rfl (by simp only[go_sem]) (by kernel_rfl) fun D l w3 hD hl hs3 ho3 hat3 hloop=>?_
  have hO3:Only [] w w3:=(ho1.nil ho2).nil ho3
  have hp3:=hp.keep0 hO3
  have hltp:=hp.hb.lt
  have hz2:=ho2.size
  have hrows: ∀x,x∈b::(fs++(fg++fq))→x<w.heap.size:=(show PM w b s (b::(fs++(fg++fq)))from⟨vs,vg,vq,fs,fg,fq,rfl,hp⟩).lt
  have hB1: ∀x,x∈[q3,l]→w.heap.size≤x:=by
   intro x hx;simp only[List.mem_cons,List.not_mem_nil,or_false]at hx;rcases hx with rfl|rfl<;>omega
  refine(all1_m hp3 (hrb.keep0 ho3) id rfl
   (fun pre F w'=>LoopAt Tryz.prog fx_roots_Roots_Leads l w' _ _ _ _ .ready D∧w'.heap[D]? =some (.deferred (some []))∧ ∃v,At w' q3 [v]∧Sl w' 1 v (leadL (pre.map (·.2))).length (ints (leadL (pre.map (·.2)))) F)
   [q3,l] ?_ ⟨hloop,hat3,_,(hat1.keep0 ho2).keep0 ho3,Sl.nil1 _⟩ ?_ ?_).mono ?_
  ·intro x hx;simp only[List.mem_cons,List.not_mem_nil,or_false]at hx;rcases hx with rfl|rfl<;>omega
  ·rintro pre F w4 w5 ⟨k1,k2,v,k4,k5⟩ ho
   exact⟨k1.keep ho (by simp),by rw[ho.block D (Array.getElem?_eq_some_iff.1 k2).1 (by simp)];exact k2,v,k4.keep0 ho,k5.keep0 ho⟩
  ·rintro pre F k i g xs w4 hk hi ⟨k1,k2,v,k4,k5⟩ hFl hpl hsz hO4 hg hgat hget hne
   have hplen:(leadL (pre.map (·.2))).length≤300:=by have:=leadL_length (pre.map (·.2));rw[List.length_map]at this;omega
   refine ys_run ok_roots_Roots_Leads k1 rfl ?_
   refine gO ?_
   have l1:=k1.lt
   have l2:=(Array.getElem?_eq_some_iff.1 k2).1
   have l4:=k4.lt
   have l5:=k5.lt
   have hgm:g∈b::(fs++(fg++fq)):=by have:=pick3_mem hg;simp only[List.mem_cons];exact .inr this
   have hglt:=hrows g hgm
   have hq3l:q3≠l:=by omega
   have hFo: ∀x,x∈F→x≠l∧x≠q3∧x≠D:=fun x hx=>by have:=hFl x hx;exact⟨by omega,by omega,by omega⟩
   refine run_bgn (l:=l) rfl k1 fun w7 hs7 ho7 hl7=>?_
   have k47:At w7 q3 [v]:=k4.keep ho7 (by simpa using hq3l)
   have k57:=k5.keep ho7 (fun x hx=>by simpa using(hFo x hx).1)
   have g7:At w7 g xs:=hgat.keep ho7 (by simp;omega)
   have hnot: ∀x,x∈b::(fs++(fg++fq))→x∉ [q3,l]++F:=fun x hx hx2=>by
    have:=hrows x hx
    rcases List.mem_append.1 hx2 with h1|h1
    ·have:=hB1 x h1;omega
    ·have:=hFl x h1;omega
   have fin: ∀w10 w11 F' v',Only ([q3,l]++F) w7 w10→Only [l] w10 w11→At w10 q3 [v']→Sl w10 1 v' (leadL ((pre++[(pl k i,(rowL s k).getD i 0)]).map (·.2))).length (ints (leadL ((pre++[(pl k i,(rowL s k).getD i 0)]).map (·.2)))) F'→
     (∀x,x∈F'→x∈F∨w4.heap.size≤x)→w11.heap[D]? =some (.deferred (some []))∧At w11 q3 [v']∧Sl w11 1 v' (leadL ((pre++[(pl k i,(rowL s k).getD i 0)]).map (·.2))).length (ints (leadL ((pre++[(pl k i,(rowL s k).getD i 0)]).map (·.2)))) F'∧
      Only ([q3,l]++F) w4 w11∧At w11 g (xs.set i (.int .i64 (id ((rowL s k).getD i 0))))∧ ∀g',g'∈fs++(fg++fq)→g'≠g→w11.heap[g']? =w4.heap[g']? :=by
    intro w10 w11 F' v' hO10 ho11 a10 s10 hF'
    have hO:Only ([q3,l]++F) w4 w11:=((ho7.mono (T:=[q3,l]++F) fun x hx=>by simp only[List.mem_singleton]at hx;subst hx;exact .inl (by simp)).same hO10).same (ho11.mono fun x hx=>by simp only[List.mem_singleton]at hx;subst hx;exact .inl (by simp))
    have hF'o: ∀x,x∈F'→x≠l:=fun x hx=>(hF' x hx).elim (fun h=>(hFo x h).1) (fun h=>by omega)
    refine⟨?_,a10.keep ho11 (by simpa using hq3l),s10.keep ho11 (fun x hx=>by simpa using hF'o x hx),hO,?_,fun g' hg' _=>?_⟩
    ·rw[hO.block D l2 (by simp only[List.mem_append,List.mem_cons,List.not_mem_nil,or_false,not_or];exact⟨⟨by omega,by omega⟩,fun hx=>(hFo D hx).2.2 rfl⟩)];exact k2
    ·rw[show(id ((rowL s k).getD i 0))=(rowL s k).getD i 0 from rfl,set_self hget]
     exact hgat.keep hO (hnot g hgm)
    ·exact hO.block g' (by have:=hrows g' (by simp only[List.mem_cons];exact .inr hg');omega) (hnot g' (by simp only[List.mem_cons];exact .inr hg'))
   refine gO ?_
   refine run_drt [q3,g] ?_
   refine gO3 k47.cell g7.cell hget ?_
   refine callS0 (Contains_m (k57.keep0 (Only.drew [] w7)).rd (by omega) _) (.inl rfl) ?_
   cases hc:(leadL (pre.map (·.2))).contains ((rowL s k).getD i 0)with
   |true=>
    refine gO ?_
    refine run_endR (l:=l) rfl (hl7.heap (w':=w7.drew) rfl) fun w11 hs11 ho11 hl11=>?_
    obtain⟨e1,e2,e3,e4,e5,e6⟩:=fin w7.drew w11 F v (Only.drew _ _) ho11 k47 (by
     rw[List.map_append,List.map_cons,List.map_nil,leadL_snoc,addNew,if_pos hc]
     exact k57.keep0 (Only.drew [] w7)) (fun x hx=>.inl hx)
    exact⟨rfl,⟨F,⟨hl11,e1,v,e2,e3⟩,fun x hx=>.inl hx⟩,e4,e5,e6⟩
   |false=>
    refine gO ?_
    refine run_drt [q3,g] ?_
    refine gO3 k47.cell g7.cell hget ?_
    rw[fillL_one rfl rfl]
    refine gO ?_
    refine bslS fun q8 w8 hq8 hs8 hat8 ho8=>?_
    have hO8:Only [] w7 w8:=Only.drew_left (Only.drew_left ho8)
    refine⟨.inr ((SB.refl _ _).only ho8 (fun x hx=>⟨?_,by simp⟩)),?_⟩
    ·simp only[List.mem_cons,List.not_mem_nil,or_false]at hx
     rcases hx with rfl|rfl
     ·exact k47.lt
     ·exact g7.lt
    refine gO ?_
    refine appS (k57.keep0 hO8) (SrcIs.at hat8 rfl) (by simp[Go.Proofs.YteiildhelefodaaGreat.oneC]) (by omega) (by omega) ?_
    intro v' w9 F' hs9 hF' ho9 _
    refine⟨.inl rfl,?_⟩
    have hq3F:q3∉F:=fun hx=>(hFo q3 hx).2.1 rfl
    have k49:=(k47.keep0 hO8).keep ho9 hq3F
    have hd7:w7.drew.drew.heap.size=w7.heap.size:=rfl
    refine gO ?_
    refine stS k49 (by simp) hs9.oneC fun w10 hs10 hat10 ho10=>⟨.inl rfl,?_⟩
    refine gO ?_
    have hF'm: ∀x,x∈F'→x∈F∨w4.heap.size≤x:=by
     intro x hx
     rcases hF' with rfl|rfl
     ·exact .inl hx
     ·simp only[List.mem_singleton]at hx;right;omega
    have hF'o: ∀x,x∈F'→x≠q3:=fun x hx=>(hF'm x hx).elim (fun h=>(hFo x h).2.1) (fun h=>by omega)
    have hlF:l∉F:=fun hx=>(hFo l hx).1 rfl
    refine run_endR (l:=l) rfl (((hl7.keep hO8 (by simp)).keep ho9 hlF).keep ho10 (by simp;omega)) fun w11 hs11 ho11 hl11=>?_
    obtain⟨e1,e2,e3,e4,e5,e6⟩:=fin w10 w11 F' v' ((hO8.of_nil.same (ho9.mono fun x hx=>.inl (by simp[hx]))).same (ho10.mono fun x hx=>.inl (by simp only[List.mem_singleton]at hx;subst hx;simp))) ho11 hat10 (by
     rw[List.map_append,List.map_cons,List.map_nil,leadL_snoc,addNew,if_neg (by rw[hc];simp),List.length_append,ints_append]
     exact hs9.keep ho10 (fun x hx=>by simpa using hF'o x hx)) hF'm
    exact⟨rfl,⟨F',⟨hl11,e1,v',e2,e3⟩,hF'm⟩,e4,e5,e6⟩
  ·rintro _ w4 ⟨⟨F,⟨k1,k2,v,k4,k5⟩,hFl⟩,hO4,hR4⟩
   refine⟨k1,fun w5 hs5 ho5=>?_⟩
   have l1:=k1.lt
   have hq3l:q3≠l:=by omega
   have hFo: ∀x,x∈F→x≠l∧x≠q3∧x≠D:=fun x hx=>by have:=hFl x hx;exact⟨by omega,by omega,by omega⟩
   have k45:=k4.keep ho5 (by simpa using hq3l)
   have k55:=k5.keep ho5 (fun x hx=>by simpa using(hFo x hx).1)
   have hD5:w5.heap[D]? =some (.deferred (some [])):=by rw[ho5.block D (Array.getElem?_eq_some_iff.1 k2).1 (by simp;omega)];exact k2
   refine gO1 k45.cell ?_
   refine run_retM' hD5 fun w6 hs6 ho6=>?_
   refine gO ?_
   have hO6:Only [] w w6:=by
    refine((hO3.trans hO4 fun x hx=>.inr (hB1 x hx)).trans ho5 fun x hx=>.inr ?_).trans ho6 fun x hx=>.inr ?_
    ·simp only[List.mem_singleton]at hx;omega
    ·simp only[List.mem_singleton]at hx;omega
   refine⟨hO6,F,?_,fun x hx=>by have:=hFl x hx;omega⟩
   exact k55.keep ho6 (fun x hx=>by simpa using(hFo x hx).2.2)
end Rt
end Go.Proofs.YteiildhelefodaaGreat
end
section
namespace Go.Proofs.YteiildhelefodaaGreat
namespace Rt
set_option maxRecDepth 8000
end Rt
end Go.Proofs.YteiildhelefodaaGreat
end
section
namespace Go.Proofs.YteiildhelefodaaGreat
namespace Rt
set_option maxRecDepth 8000
def rowS (S:List Int) (t:Nat):List Int:=(S.drop (16*t)).take 16
def rowsV (rows:List (Nat×Nat)):List Value:=rows.map fun r=>.slice (some ⟨r.1,0,none⟩) 16 r.2
structure RMs (w:World) (b:Nat) (s:MS) (vs vg vq:Value) (fs:List Nat) (rows:List (Nat×Nat)) (fg fq:List Nat):Prop where
 ok:s.Ok
 len:rows.length=s.M
 nd:(b::(fs++(rows.map (·.1)++(fg++fq)))).Nodup
 hb:At w b [vs,vg,vq]
 h0:Sl w 1 vs s.M (rowsV rows) fs
 hr: ∀t,t<s.M→ ∃ys,At w (rows.getD t (0,0)).1 (ints (rowS s.S t)++ys)
 h1:Sl w 1 vg 16 (ints s.G) fg
 h2:Sl w 1 vq s.Q.length (ints s.Q) fq
def RM (w:World) (b:Nat) (s:MS) (fp:List Nat):Prop:= ∃vs vg vq fs rows fg fq,fp=b::(fs++(rows.map (·.1)++(fg++fq)))∧RMs w b s vs vg vq fs rows fg fq
def RR (w:World) (a:Option Addr) (fp:List Nat) (m:MO):Prop:=match m with
 |some s=> ∃b,a=some ⟨b,0,none⟩∧RM w b s fp
 |none=>a=none∧fp=[]
theorem getD_mem {rows:List (Nat×Nat)} {t:Nat} (h:t<rows.length):(rows.getD t (0,0)).1∈rows.map (·.1):=by
 rw[List.mem_map]
 exact⟨rows[t],List.getElem_mem h,by simp[h]⟩
theorem RMs.keep {w w':World} {b:Nat} {s:MS} {vs vg vq:Value} {fs fg fq S:List Nat} {rows:List (Nat×Nat)} (h:RMs w b s vs vg vq fs rows fg fq) (k:Only S w w') (hd: ∀x,x∈b::(fs++(rows.map (·.1)++(fg++fq)))→x∉S):RMs w' b s vs vg vq fs rows fg fq:=
 ⟨h.ok,h.len,h.nd,h.hb.keep k (hd b (by simp)),h.h0.keep k fun x hx=>hd x (by simp only[List.mem_cons,List.mem_append];exact .inr (.inl hx)),fun t ht=>let ⟨ys,hy⟩:=h.hr t ht;⟨ys,hy.keep k (hd _ (by simp only[List.mem_cons,List.mem_append];exact .inr (.inr (.inl (getD_mem (by rw[h.len];exact ht))))))⟩,
  h.h1.keep k fun x hx=>hd x (by simp only[List.mem_cons,List.mem_append];exact .inr (.inr (.inr (.inl hx)))),h.h2.keep k fun x hx=>hd x (by simp only[List.mem_cons,List.mem_append];exact .inr (.inr (.inr (.inr hx))))⟩
theorem RMs.keep0 {w w':World} {b:Nat} {s:MS} {vs vg vq:Value} {fs fg fq:List Nat} {rows:List (Nat×Nat)} (h:RMs w b s vs vg vq fs rows fg fq) (k:Only [] w w'):RMs w' b s vs vg vq fs rows fg fq:=h.keep k fun _ _=>by simp
theorem RM.keep {w w':World} {b:Nat} {s:MS} {fp S:List Nat} (h:RM w b s fp) (k:Only S w w') (hd: ∀x,x∈fp→x∉S):RM w' b s fp:=by
 obtain⟨vs,vg,vq,fs,rows,fg,fq,rfl,h⟩:=h
 exact⟨vs,vg,vq,fs,rows,fg,fq,rfl,h.keep k hd⟩
theorem RM.keep0 {w w':World} {b:Nat} {s:MS} {fp:List Nat} (h:RM w b s fp) (k:Only [] w w'):RM w' b s fp:=h.keep k fun _ _=>by simp
theorem RM.lt {w:World} {b:Nat} {s:MS} {fp:List Nat} (h:RM w b s fp): ∀x,x∈fp→x<w.heap.size:=by
 obtain⟨vs,vg,vq,fs,rows,fg,fq,rfl,h⟩:=h
 intro x hx
 simp only[List.mem_cons,List.mem_append]at hx
 rcases hx with rfl|hx|hx|hx|hx
 ·exact h.hb.lt
 ·exact h.h0.lt x hx
 ·rw[List.mem_map]at hx
  obtain⟨r,hr,rfl⟩:=hx
  obtain⟨t,ht,rfl⟩:=List.mem_iff_getElem.1 hr
  obtain⟨ys,hy⟩:=h.hr t (by rw[←h.len];exact ht)
  have:=hy.lt
  simpa[ht]using this
 ·exact h.h1.lt x hx
 ·exact h.h2.lt x hx
theorem RR.keep {w w':World} {a:Option Addr} {fp S:List Nat} {m:MO} (h:RR w a fp m) (k:Only S w w') (hd: ∀x,x∈fp→x∉S):RR w' a fp m:=by
 match m,h with
 |some s,⟨b,h1,h2⟩=>exact⟨b,h1,h2.keep k hd⟩
 |none,h=>exact h
theorem RR.keep0 {w w':World} {a:Option Addr} {fp:List Nat} {m:MO} (h:RR w a fp m) (k:Only [] w w'):RR w' a fp m:=h.keep k fun _ _=>by simp
theorem RR.lt {w:World} {a:Option Addr} {fp:List Nat} {m:MO} (h:RR w a fp m): ∀x,x∈fp→x<w.heap.size:=by
 match m,h with
 |some s,⟨b,h1,h2⟩=>exact h2.lt
 |none,h=>rw[h.2];intro x hx;cases hx
end Rt
end Go.Proofs.YteiildhelefodaaGreat
end
section
namespace Go.Proofs.YteiildhelefodaaGreat
namespace Rt
set_option maxRecDepth 8000
theorem rnd {b:Nat} {fs fg fq:List Nat} {rs:List Nat} (h:(b::(fs++(rs++(fg++fq)))).Nodup):
  b∉fs∧b∉rs∧b∉fg∧b∉fq∧fs.Nodup∧rs.Nodup∧fg.Nodup∧fq.Nodup∧(∀x,x∈fs→x∉rs∧x∉fg∧x∉fq)∧(∀x,x∈rs→x∉fg∧x∉fq)∧(∀x,x∈fg→x∉fq):=by
 simp only[List.nodup_cons,List.mem_append,not_or,List.nodup_append]at h
 obtain⟨⟨h1,h2,h3,h4⟩,h5,⟨h6,⟨h7,h8,h9⟩,h10⟩,h11⟩:=h
 refine⟨h1,h2,h3,h4,h5,h6,h7,h8,fun x hx=>⟨fun hy=>h11 x hx x (.inl hy) rfl,fun hy=>h11 x hx x (.inr (.inl hy)) rfl,fun hy=>h11 x hx x (.inr (.inr hy)) rfl⟩,fun x hx=>⟨fun hy=>h10 x hx x (.inl hy) rfl,fun hy=>h10 x hx x (.inr hy) rfl⟩,fun x hx hy=>h9 x hx x hy rfl⟩
theorem _root_.Go.Proofs.YteiildhelefodaaGreat.Sl.cap {w:World} {n cap g:Nat} {xs ys:List Value} {fp:List Nat} (h:Sl w 1 (.slice (some ⟨g,0,none⟩) n cap) n xs fp) (hat:At w g (xs++ys)):(xs++ys).length=cap:=by
 rcases h.2 with⟨h1,_⟩|⟨g',cap',ys',T,h1,h2,h3,h4,h5⟩
 ·cases h1
 ·cases h1
  obtain⟨T',hat⟩:=hat
  rw[hat]at h3
  simp at h3
  rw[h3.1];simpa using h4
theorem RMs.turn {w w':World} {b:Nat} {s:MS} {vs vg vq vq':Value} {fs fg fq fq':List Nat} {rows:List (Nat×Nat)} {q:List Int} (h:RMs w b s vs vg vq fs rows fg fq) (hl:q.length≤64) (hq:Sl w' 1 vq' q.length (ints q) fq') (hb:At w' b [vs,vg,vq'])
  (ho:Only (b::fq) w w') (hf: ∀x,x∈fq'→x∈fq∨w.heap.size≤x):RM w' b {s with Q:=q} (b::(fs++(rows.map (·.1)++(fg++fq')))):=by
 obtain⟨n1,n2,n3,n4,n5,n6,n7,n8,n9,n10,n11⟩:=rnd h.nd
 have hlt: ∀x,x∈b::(fs++(rows.map (·.1)++(fg++fq)))→x<w.heap.size:=(show RM w b s _ from⟨_,_,_,_,_,_,_,rfl,h⟩).lt
 have hbf:b∉fq':=fun hx=>(hf b hx).elim n4 (fun h2=>by have:=hlt b (by simp);omega)
 refine⟨vs,vg,vq',fs,rows,fg,fq',rfl,⟨⟨h.ok.m1,h.ok.m4,h.ok.ls,h.ok.lg,hl⟩,h.len,?_,hb,h.h0.keep ho ?_,fun t ht=>?_,h.h1.keep ho ?_,hq⟩⟩
 ·simp only[List.nodup_cons,List.mem_append,not_or,List.nodup_append]
  refine⟨⟨n1,n2,n3,hbf⟩,n5,⟨n6,⟨n7,hq.nodup,fun x hx y hy e=>?_⟩,fun x hx y hy e=>?_⟩,fun x hx y hy e=>?_⟩
  ·subst e
   rcases hf x hy with hy|hy
   ·exact n11 x hx hy
   ·have:=hlt x (by simp[hx]);omega
  ·subst e
   rcases hy with hy|hy
   ·exact(n10 x hx).1 hy
   ·rcases hf x hy with hy|hy
    ·exact(n10 x hx).2 hy
    ·have:=hlt x (by simp only[List.mem_cons,List.mem_append];exact .inr (.inr (.inl hx)));omega
  ·subst e
   rcases hy with hy|hy|hy
   ·exact(n9 x hx).1 hy
   ·exact(n9 x hx).2.1 hy
   ·rcases hf x hy with hy|hy
    ·exact(n9 x hx).2.2 hy
    ·have:=hlt x (by simp[hx]);omega
 ·intro x hx hx2
  simp only[List.mem_cons]at hx2
  rcases hx2 with rfl|hx2
  ·exact n1 hx
  ·exact(n9 x hx).2.2 hx2
 ·obtain⟨ys,hy⟩:=h.hr t ht
  have hm:=getD_mem (rows:=rows) (t:=t) (by rw[h.len];exact ht)
  refine⟨ys,hy.keep ho fun hx2=>?_⟩
  simp only[List.mem_cons]at hx2
  rcases hx2 with hx2|hx2
  ·rw[hx2]at hm;exact n2 hm
  ·exact(n10 _ hm).2 hx2
 ·intro x hx hx2
  simp only[List.mem_cons]at hx2
  rcases hx2 with rfl|hx2
  ·exact n3 hx
  ·exact n11 x hx hx2
end Rt
end Go.Proofs.YteiildhelefodaaGreat
end
section
namespace Go.Proofs.YteiildhelefodaaGreat
namespace Rt
set_option maxRecDepth 8000
structure RowsAt (w:World) (n0:Nat) (S:List Int) (t:Nat) (v:Value) (rows:List (Nat×Nat)) (fs:List Nat):Prop where
 len:rows.length=t
 nd:(fs++rows.map (·.1)).Nodup
 sl:Sl w 1 v t (rowsV rows) fs
 hr: ∀u,u<t→ ∃ys,At w (rows.getD u (0,0)).1 (ints (rowS S u)++ys)
 new: ∀x,x∈fs++rows.map (·.1)→n0≤x
theorem RowsAt.keep {w w':World} {n0 t:Nat} {S:List Int} {v:Value} {rows:List (Nat×Nat)} {fs T:List Nat} (h:RowsAt w n0 S t v rows fs) (k:Only T w w') (hd: ∀x,x∈fs++rows.map (·.1)→x∉T):RowsAt w' n0 S t v rows fs:=
 ⟨h.len,h.nd,h.sl.keep k fun x hx=>hd x (by simp[hx]),fun u hu=>let ⟨ys,hy⟩:=h.hr u hu;⟨ys,hy.keep k (hd _ (by rw[List.mem_append];exact .inr (getD_mem (by rw[h.len];exact hu))))⟩,h.new⟩
theorem RowsAt.keep0 {w w':World} {n0 t:Nat} {S:List Int} {v:Value} {rows:List (Nat×Nat)} {fs:List Nat} (h:RowsAt w n0 S t v rows fs) (k:Only [] w w'):RowsAt w' n0 S t v rows fs:=h.keep k fun _ _=>by simp
theorem RowsAt.zero (w:World) (n0:Nat) (S:List Int):RowsAt w n0 S 0 (.slice none 0 0) [] []:=⟨rfl,by simp,Sl.nil1 w,fun u hu=>absurd hu (by omega),by simp⟩
theorem RowsAt.lt {w:World} {n0 t:Nat} {S:List Int} {v:Value} {rows:List (Nat×Nat)} {fs:List Nat} (h:RowsAt w n0 S t v rows fs): ∀x,x∈fs++rows.map (·.1)→x<w.heap.size:=by
 intro x hx
 rcases List.mem_append.1 hx with hx|hx
 ·exact h.sl.lt x hx
 ·rw[List.mem_map]at hx
  obtain⟨r,hr,rfl⟩:=hx
  obtain⟨u,hu,rfl⟩:=List.mem_iff_getElem.1 hr
  obtain⟨ys,hy⟩:=h.hr u (by rw[←h.len];exact hu)
  have:=hy.lt
  simpa[hu]using this
end Rt
end Go.Proofs.YteiildhelefodaaGreat
end
section
namespace Go.Proofs.YteiildhelefodaaGreat
namespace Rt
set_option maxRecDepth 8000
end Rt
end Go.Proofs.YteiildhelefodaaGreat
end
section
namespace Go.Proofs.YteiildhelefodaaGreat
namespace Rt
set_option maxRecDepth 8000
def segJ (s:MS) (j:Nat):Nat×Nat:=if j<16*s.M then(0,j)else if j<16*s.M+16 then(1,j-16*s.M)else(2,j-16*s.M-16)
theorem V_length {s:MS} (h:s.Ok):s.V.length=16*s.M+16+s.Q.length:=by simp only[MS.V,List.length_append,h.ls,h.lg]
theorem wr_segJ {s:MS} (h:s.Ok) {j:Nat} (hj:j<16*s.M+16+s.Q.length) (a:Int):(s.wr (segJ s j) a).V=s.V.set j a:=by
 have h1:=h.ls;have h2:=h.lg
 unfold segJ MS.V
 by_cases c1:j<16*s.M
 ·rw[if_pos c1,List.set_append_left _ _ (by simp;omega),List.set_append_left _ _ (by omega)];rfl
 ·rw[if_neg c1]
  by_cases c2:j<16*s.M+16
  ·rw[if_pos c2,List.set_append_left _ _ (by simp;omega),List.set_append_right _ _ (by omega),h1];rfl
  ·rw[if_neg c2,List.set_append_right _ _ (by simp;omega),List.length_append,h1,h2,show j-(16*s.M+16)=j-16*s.M-16 by omega];rfl
theorem wr_M (s:MS) (x:Nat×Nat) (a:Int):(s.wr x a).M=s.M:=by unfold MS.wr;split<;>rfl
theorem wr_Q (s:MS) (x:Nat×Nat) (a:Int):(s.wr x a).Q.length=s.Q.length:=by unfold MS.wr;split<;>simp
def idx (s:MS):List Nat:=(List.range (16*s.M+16+s.Q.length)).filter fun j=>s.V.getD j 0 !=0
theorem idx_nodup (s:MS):(idx s).Nodup:=List.Nodup.sublist List.filter_sublist List.nodup_range
theorem idx_lt {s:MS} {j:Nat} (h:j∈idx s):j<16*s.M+16+s.Q.length∧s.V.getD j 0≠0:=by
 unfold idx at h
 rw[List.mem_filter]at h
 exact⟨by simpa using h.1,by simpa using h.2⟩
theorem idx_mem {s:MS} {j:Nat} (h1:j<16*s.M+16+s.Q.length) (h2:s.V.getD j 0≠0):j∈idx s:=by
 unfold idx
 rw[List.mem_filter]
 exact⟨by simpa using h1,by simpa using h2⟩
theorem map_V (s:MS) (f:Int→Int):(s.map f).V=s.V.map f:=by simp[MS.map,MS.V]
theorem MS.ext_V {s t:MS} (hs:s.Ok) (ht:t.Ok) (hM:s.M=t.M) (hV:s.V=t.V):s=t:=by
 obtain⟨M,S,G,Q⟩:=s
 obtain⟨M',S',G',Q'⟩:=t
 have h1:=hs.ls;have h2:=ht.ls;have h3:=hs.lg;have h4:=ht.lg
 simp only at hM h1 h2 h3 h4
 subst hM
 simp only[MS.V]at hV
 obtain⟨h5,h6⟩:=List.append_inj hV (by simp;omega)
 obtain⟨h7,h8⟩:=List.append_inj h5 (by omega)
 subst h6 h7 h8
 rfl
theorem MS.Ok.map {s:MS} (h:s.Ok) (f:Int→Int):(s.map f).Ok:=
 ⟨h.m1,h.m4,by have:=h.ls;simpa[MS.map]using this,by have:=h.lg;simpa[MS.map]using this,by have:=h.lq;simpa[MS.map]using this⟩
end Rt
end Go.Proofs.YteiildhelefodaaGreat
end
section
namespace Go.Proofs.YteiildhelefodaaGreat
namespace Rt
set_option maxRecDepth 8000
theorem _root_.Go.Proofs.YteiildhelefodaaGreat.Sl.posN {w:World} {sz:Nat} {v:Value} {n:Nat} {xs:List Value} {fp:List Nat} (h:Sl w sz v n xs fp) (hn:0<n): ∃g cap ys,v=.slice (some ⟨g,0,none⟩) n cap∧At w g (xs++ys)∧fp=[g]:=by
 rcases h.2 with⟨_,h0,_⟩|⟨g,cap,ys,T,h1,h2,h3,h4,h5⟩
 ·omega
 ·exact⟨g,cap,ys,h1,⟨T,h3⟩,h2⟩
theorem plsV_drop: ∀(L:List PT) (i:Nat),(plsV L).drop (i*3)=plsV (L.drop i)
 |L,0=>by simp
 | [],i+1=>by simp[plsV]
 |p::L,i+1=>by
  have e:plsV (p::L)=plV p++plsV L:=by simp[plsV]
  rw[e,show(i+1)*3=(plV p).length+i*3 by simp[plV];omega,List.drop_append,Nat.add_sub_cancel_left,plsV_drop L i]
  simp
theorem plsV_cells {w:World} {g i:Nat} {L:List PT} {ys:List Value} (h:At w g (plsV L++ys)) (hi:i<L.length):cellsAt w ⟨g,i*3,none⟩ 3=some (plV (L.getD i (0,0,0))):=by
 have hl:=plsV_length L
 rw[cellsAt_at h _ _ (by rw[List.length_append];omega),List.drop_append_of_le_length (by omega),List.take_append_of_le_length (by simp;omega),plsV_drop,List.drop_eq_getElem_cons hi]
 simp only[plsV,List.flatMap_cons]
 simp[plV,hi]
theorem _root_.Go.Proofs.YteiildhelefodaaGreat.Sl.place {w:World} {v:Value} {n i:Nat} {L:List PT} {fp:List Nat} (h:Sl w 3 v n (plsV L) fp) (hi:i<L.length): ∃g cap,v=.slice (some ⟨g,0,none⟩) L.length cap∧cellsAt w ⟨g,i*3,none⟩ 3=some (plV (L.getD i (0,0,0)))∧g∈fp:=by
 have hn:n=L.length:=by have:=h.1;rw[plsV_length]at this;omega
 subst hn
 obtain⟨g,cap,ys,h1,h2,h3⟩:=h.posN (by omega)
 exact⟨g,cap,h1,plsV_cells h2 hi,by rw[h3];simp⟩
end Rt
end Go.Proofs.YteiildhelefodaaGreat
end
section
namespace Go.Proofs.YteiildhelefodaaGreat
namespace Rt
set_option maxRecDepth 8000
theorem idx_at {s:MS} {i:Nat} (hi:i<(idx s).length):(idx s).getD i 0<16*s.M+16+s.Q.length∧s.V.getD ((idx s).getD i 0) 0≠0:=by
 have:(idx s).getD i 0∈idx s:=by simp[hi]
 exact idx_lt this
end Rt
end Go.Proofs.YteiildhelefodaaGreat
end
section
namespace Go.Proofs.YteiildhelefodaaGreat
namespace Rt
set_option maxRecDepth 8000
structure Stage (s u:MS) (f:Int→Int) (i:Nat):Prop where
 ok:u.Ok
 M:u.M=s.M
 Q:u.Q.length=s.Q.length
 V: ∀j,j<16*s.M+16+s.Q.length→u.V.getD j 0=if j∈(idx s).take i then f (s.V.getD j 0)else s.V.getD j 0
theorem Stage.zero {s:MS} (h:s.Ok) (f:Int→Int):Stage s s f 0:=⟨h,rfl,rfl,fun j _=>by simp⟩
theorem not_mem_take {l:List Nat} (h:l.Nodup) {i:Nat} (hi:i<l.length):l.getD i 0∉l.take i:=by
 intro hm
 obtain⟨k,hk,e⟩:=List.mem_iff_getElem.1 hm
 have hk':k<i:=by rw[List.length_take]at hk;omega
 have hp:=List.pairwise_iff_getElem.1 h k i (by omega) hi hk'
 simp only[List.getElem_take]at e
 rw[List.getD_eq_getElem?_getD,List.getElem?_eq_getElem hi,Option.getD_some]at e
 exact hp e
theorem Stage.same {s u:MS} {f:Int→Int} {i:Nat} (h:Stage s u f i) (hi:i<(idx s).length):u.V.getD ((idx s).getD i 0) 0=s.V.getD ((idx s).getD i 0) 0:=by
 rw[h.V _ (idx_at hi).1,if_neg (not_mem_take (idx_nodup s) hi)]
theorem Stage.step {s u:MS} {f:Int→Int} {i:Nat} (h:Stage s u f i) (hi:i<(idx s).length):Stage s (u.wr (segJ u ((idx s).getD i 0)) (f (s.V.getD ((idx s).getD i 0) 0))) f (i+1):=by
 have hj:=(idx_at hi).1
 have hju:(idx s).getD i 0<16*u.M+16+u.Q.length:=by rw[h.M,h.Q];exact hj
 refine⟨h.ok.wr _ _,by rw[wr_M];exact h.M,by rw[wr_Q];exact h.Q,fun k hk=>?_⟩
 have hku:k<u.V.length:=by rw[V_length h.ok,h.M,h.Q];exact hk
 have ht:(idx s).take (i+1)=(idx s).take i++[(idx s).getD i 0]:=by rw[List.take_succ_eq_append_getElem hi];simp[hi]
 rw[wr_segJ h.ok hju,ht]
 simp only[List.mem_append,List.mem_singleton]
 by_cases e:k=(idx s).getD i 0
 ·rw[if_pos (.inr e)]
  simp only[List.getD_eq_getElem?_getD]at e⊢
  rw[e,List.getElem?_set_self (by rw[←e];exact hku)]
  rfl
 ·have h1:=h.V k hk
  have e2:(u.V.set ((idx s).getD i 0) (f (s.V.getD ((idx s).getD i 0) 0))).getD k 0=u.V.getD k 0:=by
   simp only[List.getD_eq_getElem?_getD]at e⊢
   rw[List.getElem?_set_ne (fun h=>e h.symm)]
  rw[e2,h1]
  by_cases hm:k∈(idx s).take i
  ·rw[if_pos hm,if_pos (.inl hm)]
  ·rw[if_neg hm,if_neg (fun h=>h.elim hm e)]
theorem Stage.skip {s u:MS} {f:Int→Int} {i:Nat} (h:Stage s u f i) (hi:i<(idx s).length) (he:f (s.V.getD ((idx s).getD i 0) 0)=s.V.getD ((idx s).getD i 0) 0):Stage s u f (i+1):=by
 have ht:(idx s).take (i+1)=(idx s).take i++[(idx s).getD i 0]:=by rw[List.take_succ_eq_append_getElem hi];simp[hi]
 refine⟨h.ok,h.M,h.Q,fun k hk=>?_⟩
 rw[h.V k hk,ht]
 simp only[List.mem_append,List.mem_singleton]
 by_cases e:k=(idx s).getD i 0
 ·rw[if_pos (Or.inr e:k∈(idx s).take i∨k=(idx s).getD i 0),e,if_neg (not_mem_take (idx_nodup s) hi),he]
 ·by_cases hm:k∈(idx s).take i
  ·rw[if_pos hm,if_pos (.inl hm)]
  ·rw[if_neg hm,if_neg (fun h=>h.elim hm e)]
theorem Stage.end {s u:MS} {f:Int→Int} (h0:s.Ok) (h:Stage s u f (idx s).length) (hf:f 0=0):u=s.map f:=by
 refine MS.ext_V h.ok (h0.map f) h.M ?_
 rw[map_V]
 apply List.ext_getElem
 ·rw[V_length h.ok,List.length_map,V_length h0,h.M,h.Q]
 ·intro j h1 h2
  have hj:j<s.V.length:=by simpa using h2
  have hj':j<16*s.M+16+s.Q.length:=by rw[←V_length h0];exact hj
  have:=h.V j hj'
  rw[List.take_length]at this
  simp only[List.getD_eq_getElem?_getD,List.getElem?_eq_getElem h1,List.getElem?_eq_getElem hj,Option.getD_some]at this
  rw[this,List.getElem_map]
  by_cases hm:j∈idx s
  ·rw[if_pos hm]
  ·rw[if_neg hm]
   have:s.V.getD j 0=0:=by
    rcases Classical.em (s.V.getD j 0=0)with e|e
    ·exact e
    ·exact absurd (idx_mem hj' e) hm
   simp only[List.getD_eq_getElem?_getD,List.getElem?_eq_getElem hj,Option.getD_some]at this
   rw[this,hf]
end Rt
end Go.Proofs.YteiildhelefodaaGreat
end
section
namespace Go.Proofs.YteiildhelefodaaGreat
section
variable {P:Program} {rest:List XO} {t:XT} {ρ:Env} {w w0:World} {C:Env→World→Prop} {d:Option Nat} {L:List Nat} {fl:Bool}
end
theorem List.ext_getD' {α:Type} {xs ys:List α} (d:α) (hl:xs.length=ys.length) (h: ∀i,i<xs.length→xs.getD i d=ys.getD i d):xs=ys:=by
 apply List.ext_getElem hl
 intro i h1 h2
 have:=h i h1
 simpa[List.getD_eq_getElem?_getD,h1,h2]using this
end Go.Proofs.YteiildhelefodaaGreat
end
section
namespace Go.Proofs.YteiildhelefodaaGreat
set_option maxRecDepth 8000
section
variable {P:Program} {t et:TypeId} {w:World} {g o n cap:Nat} {vs:List Value} {z:Value}
theorem zeroCells_one (z:Value) (n:Nat):(Builtin.zeroCells #[z] n).toList=List.replicate n z:=by
 apply List.ext_getElem
 ·simp[Builtin.zeroCells]
 ·intro i h1 h2
  simp[Builtin.zeroCells,Nat.mod_one]
theorem setL_rep: ∀(n o:Nat) (vs:List Value),o+n≤vs.length→setL vs o (List.replicate n z)=vs.take o++List.replicate n z++vs.drop (o+n)
 |0,o,vs,_=>by simp[setL]
 |n+1,o,vs,h=>by
  rw[List.replicate_succ,setL,setL_rep n (o+1) (vs.set o z) (by simp;omega)]
  have e1:(vs.set o z).take (o+1)=vs.take o++[z]:=by
   rw[List.take_add_one,List.take_set_of_le (Nat.le_refl o)]
   simp[show o<vs.length by omega]
  have e2:(vs.set o z).drop (o+1+n)=vs.drop (o+(n+1)):=by
   rw[List.drop_set_of_lt (by omega),show o+1+n=o+(n+1) by omega]
  rw[e1,e2];simp
theorem run_clearS {ty:TypeId} (ht:P.underlying t=some (.slice et)) (hz:(zeroValue et).run P w=.ok z w) (h1:oneC z=true) (h:At w g vs) (hn:o+n≤vs.length):
  ∃w',(Builtin.clear_ #[t] ty #[.slice (some ⟨g,o,none⟩) n cap]).run P w=.ok (.tuple #[]) w'∧w'.heap.size=w.heap.size∧At w' g (vs.take o++List.replicate n z++vs.drop (o+n))∧Only [g] w w':=by
 obtain⟨T,hT⟩:=h
 have hone: ∀u,u∈List.replicate n z→oneC u=true:=fun u hu=>by rw[(List.mem_replicate.1 hu).2];exact h1
 obtain⟨k1,k2,k3,k4⟩:=setCells_at (off:=o) (List.replicate n z) 0 w vs hT (by simpa using hn) hone
 refine⟨World.setCells w ⟨g,o,none⟩ (List.replicate n z) 0,?_,k4,⟨T,?_⟩,k3⟩
 ·cases n with
  |zero=>simp[Builtin.clear_,run_under ht,World.setCells]
  |succ n=>
   have e:=run_storeCells (P:=P) (p:=⟨g,o,none⟩) (List.replicate (n+1) z) 0 w k1
   have ez:(Builtin.zeroCells z.cells (n+1)).toList=List.replicate (n+1) z:=by rw[(oneC_one h1).2];exact zeroCells_one z (n+1)
   simp[Builtin.clear_,run_under ht,hz,ez,e]
 ·rw[k2,Nat.add_zero,setL_rep n o vs hn]
theorem clearT {d:Option Nat} {rest:List XO} {ρ:Env} {C:Env→World→Prop} (ht:P.underlying t=some (.slice et)) (hz:(zeroValue et).run P w=.ok z w) (h1:oneC z=true) (h:At w g vs) (hn:o+n≤vs.length)
  (k: ∀w',w'.heap.size=w.heap.size→At w' g (vs.take o++List.replicate n z++vs.drop (o+n))→Only [g] w w'→VO P rest (putO ρ d (.tuple #[])) w' C):RunT P (Builtin.clear_ #[t] 0 #[.slice (some ⟨g,o,none⟩) n cap]) d rest ρ w C:=by
 obtain⟨w',e1,e2,e3,e4⟩:=run_clearS (P:=P) (ty:=0) (cap:=cap) ht hz h1 h hn
 exact runT e1 (k w' e2 e3 e4)
end
def wipeW (W:List Int) (a n:Nat):List Int:=W.take a++List.replicate n 0++W.drop (a+n)
theorem wipeW_len {W:List Int} {a n:Nat} (h:a+n≤W.length):(wipeW W a n).length=W.length:=by simp[wipeW];omega
theorem wipeW_get {W:List Int} {a n:Nat} (h:a+n≤W.length) (i:Nat):(wipeW W a n).getD i 0=if a≤i∧i<a+n then 0 else W.getD i 0:=by
 unfold wipeW
 simp only[List.getD_eq_getElem?_getD]
 by_cases c1:i<a
 ·rw[if_neg (by omega),List.append_assoc,List.getElem?_append_left (by simp;omega),List.getElem?_take,if_pos c1]
 ·by_cases c2:i<a+n
  ·rw[if_pos ⟨by omega,c2⟩,List.append_assoc,List.getElem?_append_right (by simp;omega),List.getElem?_append_left (by simp;omega)]
   simp only[List.length_take]
   rw[List.getElem?_replicate,if_pos (by omega)];rfl
  ·rw[if_neg (by omega),List.getElem?_append_right (by simp;omega),List.getElem?_drop]
   congr 2
   simp;omega
def killM (m:HO) (x:Int):HO:=match m with
 |none=>none
 |some s=>if objE (some s) x=0 then some {s with W:=wipeW s.W x.toNat (s.size x.toNat).toNat,st:=s.st.set (x.toNat/2) 0,pn:=s.pn.set (x.toNat/2) 0,pl:=delM s.pl (s.W.getD x.toNat 0)}else some s
def pinM (m:HO) (x:Int) (v:Nat):HO:=match m with
 |none=>none
 |some s=>if objE (some s) x=0 then some {s with pn:=s.pn.set (x.toNat/2) v}else some s
def identO (m:HO) (x:Int):Int×Int:=match m with
 |none=>(0,5)
 |some s=>if objE (some s) x=0 then(s.W.getD x.toNat 0,0)else(0,objE (some s) x)
theorem obj_has {m:HO} {x:Int} (h:objE m x=0): ∃s,m=some s∧hasO (some s) x=true:=by
 cases m with
 |none=>cases h
 |some s=>
  cases hh:hasO (some s) x with
  |true=>exact⟨s,rfl,hh⟩
  |false=>simp[objE,hh]at h
theorem HL.Ok.kill {s:HL} (h:s.Ok) {i:Nat} (hi:s.st.getD i 0=1) {pn:List Nat} {pl:IM} (hp:pn.length=32*s.B.length):HL.Ok {s with W:=wipeW s.W (2*i) (s.size (2*i)).toNat,st:=s.st.set i 0,pn:=pn,pl:=pl}:=by
 obtain⟨g1,g2,g3,_⟩:=h.sz hi
 have hin:2*i+(s.size (2*i)).toNat≤s.W.length:=by omega
 have hst: ∀j,(s.st.set i 0).getD j 0=1→j≠i∧s.st.getD j 0=1:=by
  intro j hj
  by_cases e:j=i
  ·subst e
   simp only[List.getD_eq_getElem?_getD]at hj
   by_cases hl:j<s.st.length
   ·rw[List.getElem?_set_self hl]at hj;cases hj
   ·rw[List.getElem?_eq_none (by simpa using hl)]at hj;cases hj
  ·refine⟨e,?_⟩
   simp only[List.getD_eq_getElem?_getD]at hj⊢
   rw[List.getElem?_set_ne (fun h=>e h.symm)]at hj;exact hj
 have hW: ∀j,j≠i→s.st.getD j 0=1→(wipeW s.W (2*i) (s.size (2*i)).toNat).getD (2*j+1) 0=s.W.getD (2*j+1) 0:=by
  intro j hne hj
  rw[wipeW_get hin,if_neg]
  have:=(h.sz hj).1
  rcases Nat.lt_or_ge i j with hij|hij
  ·have:=h.dj i j hi hj hij;omega
  ·have:=h.dj j i hj hi (by omega);omega
 have hsz: ∀j,j≠i→s.st.getD j 0=1→HL.size {s with W:=wipeW s.W (2*i) (s.size (2*i)).toNat,st:=s.st.set i 0,pn:=pn,pl:=pl} (2*j)=s.size (2*j):=by
  intro j hne hj
  show wordsS (shapeN ((wipeW s.W (2*i) (s.size (2*i)).toNat).getD (2*j+1) 0))=_
  rw[hW j hne hj];rfl
 refine⟨h.b2,h.b64,by simp only;rw[wipeW_len hin];exact h.wl,by simpa using h.sl,hp,fun j hj=>?_,fun j k hj hk hjk=>?_⟩
 ·obtain⟨hne,hj'⟩:=hst j hj
  obtain⟨r,d,q,h1,h2,h3⟩:=h.fit j hj'
  exact⟨r,d,q,h1,by simp only;rw[hW j hne hj'];exact h2,by simp only;rw[wipeW_len hin];exact h3⟩
 ·obtain⟨hne,hj'⟩:=hst j hj
  obtain⟨hnk,hk'⟩:=hst k hk
  rw[hsz j hne hj']
  exact h.dj j k hj' hk' hjk
theorem hSizeW {w:World} {b gW cW i:Nat} {c0:Value} {cs:List Value} {W:List Int} {yW:List Value} (hb:At w b (c0::.slice (some ⟨gW,0,none⟩) W.length cW::cs)) (hW:At w gW (ints W++yW)) (hi:2*i+1<W.length) (hl:W.length≤4096) (h0:0≤W.getD (2*i+1) 0) (h1:W.getD (2*i+1) 0≤100000):
  Cs Tryz.prog 165 [.pointer (some ⟨b,0,none⟩),.int .i64 ((2*i:Nat):Int)] w fun v w'=>v=.int .i64 (wordsS (shapeN (W.getD (2*i+1) 0)))∧Only [] w w':=by
 have e1:IntKind.i64.wrap (((2*i:Nat):Int)+1)=((2*i+1:Nat):Int):=i64_succ _ (by omega)
 have e2:(0:Int)≤((2*i+1:Nat):Int)∧((2*i+1:Nat):Int)<(W.length:Int):=⟨by omega,by omega⟩
 have hc:w.cell? ⟨gW,2*i+1,none⟩=some (.int .i64 (W.getD (2*i+1) 0)):=by rw[hW.cell,ints_append_get yW hi]
 refine enter_heap_Heap_size rfl ?_
 unfold x_heap_Heap_size
 refine gJ4 hb.cell e1 (eq_true e2) hc ?_
 refine callT1 (hShapeN w _ h0 h1) fun w1 ho1=>?_
 refine gO ?_
 refine callT1 (hWords w1 _) fun w2 ho2=>?_
 refine gO ?_
 exact ho1.nil ho2
theorem ints_wipe {W:List Int} {a n:Nat} (yW:List Value) (h:a+n≤W.length):(ints W++yW).take a++List.replicate n (Value.int .i64 0)++(ints W++yW).drop (a+n)=ints (wipeW W a n)++yW:=by
 have hl:(ints W).length=W.length:=ints_length W
 rw[List.take_append_of_le_length (by omega),List.drop_append_of_le_length (by omega)]
 simp[wipeW,ints,List.map_take,List.map_drop,List.append_assoc]
theorem hWipe {w:World} {b gW cW a n:Nat} {c0:Value} {cs:List Value} {W:List Int} {yW:List Value} (hb:At w b (c0::.slice (some ⟨gW,0,none⟩) W.length cW::cs)) (hW:At w gW (ints W++yW)) (hc:W.length≤cW) (hi:a+n≤W.length) (hl:W.length≤4096) (ha:a<W.length):
  Cs Tryz.prog 164 [.pointer (some ⟨b,0,none⟩),.int .i64 ((a:Nat):Int),.int .i64 ((n:Nat):Int)] w fun v w'=>v=.tuple #[]∧w'.heap.size=w.heap.size∧At w' gW (ints (wipeW W a n)++yW)∧Only [gW] w w':=by
 have e1:IntKind.i64.wrap ((a:Int)+(n:Int))=((a+n:Nat):Int):=by rw[IntWalk.i64_in _ (by omega)];omega
 refine enter_heap_Heap_wipe rfl ?_
 unfold x_heap_Heap_wipe
 refine gO2 hb.cell e1 ?_
 rw[slcO_lh (show a≤a+n by omega) (by omega) (by omega)]
 (repeat(first|with_reducible(first|refine nx ?_|refine r_6 rfl ?_)|simp only[go_sem,addr_add,Nat.zero_add,Nat.mul_one,show a+n-a=n by omega]))
 refine clearT Tryz.underlying33 (Tryz.zeroValue3 w) rfl hW (by rw[List.length_append,ints_length];omega) fun w1 hs1 h1 ho1=>?_
 rw[ints_wipe yW hi]at h1
 refine gO ?_
 exact⟨hs1,h1,ho1⟩
end Go.Proofs.YteiildhelefodaaGreat
end
section
namespace Go.Proofs.YteiildhelefodaaGreat
set_option maxRecDepth 8000
theorem HR.intro {w:World} {b:Nat} {s:HL} {gB gW cB cW:Nat} {yB yW:List Value} {sb sg pb pg bl bf:Nat} (h:HMs w b s gB gW cB cW yB yW sb sg pb pg bl bf):HR w (some ⟨b,0,none⟩) [b,gB,gW,sb,sg,pb,pg,bl,bf] (some s):=
 ⟨b,rfl,gB,gW,cB,cW,yB,yW,sb,sg,pb,pg,bl,bf,rfl,h⟩
theorem off2 {x y z:Nat} (h1:x≠y) (h2:x≠z):x∉ [y,z]:=by simpa using⟨h1,h2⟩
theorem set_bit {l:List Nat} {k:Nat} {v:Nat} (hk:k<l.length) (hv:v≤1):MT.setM (some (1,l)) (k:Int) (v:Int)=some (1,l.set k v):=by
 have h1:hasB l.length (k:Int)=true:=hasB_of hk
 have hchk:MT.check (some (1,l)) (k:Int) [(v:Int)]=0:=by
  simp only[MT.check,h1]
  have:v=0∨v=1:=by omega
  rcases this with rfl|rfl<;>rfl
 simp only[MT.setM,hchk,if_true,Int.toNat_natCast]
theorem hSetBit {w:World} {b g n:Nat} {l:List Nat} (h:STab w b g n 1 l) (k v:Nat) (hk:k<n) (hv:v≤1):Cs Tryz.prog 152 [.pointer (some ⟨b,0,none⟩),.int .i64 (k:Int),.int .i64 (v:Int)] w fun r w'=>(∃e,r=.int .i64 e)∧STab w' b g n 1 (l.set k v)∧Only [b,g] w w':=by
 refine(Set_m (Tab.mk h) (k:Int) (v:Int)).mono ?_
 rintro r w' ⟨rfl,htab,ho⟩
 rw[set_bit (by rw[h.len];exact hk) hv]at htab
 obtain⟨b',g',g1,g2,hs⟩:=htab
 cases g1
 have e:g'=g:=by simpa using g2.symm
 subst e
 refine⟨⟨_,rfl⟩,?_,ho⟩
 have:(l.set k v).length=n:=by simpa using h.len
 rw[this]at hs
 exact hs
theorem hIdent {w:World} {a:Option Addr} {fp:List Nat} {m:HO} (h:HR w a fp m) (x:Int) (hx:x≤4611686018427387904):Cs Tryz.prog 11 [.pointer a,.int .i64 x] w fun r w'=>r=.tuple #[.int .i64 (identO m x).1,.int .i64 (identO m x).2]∧Only [] w w':=by
 refine enter_heap_Heap_Ident rfl ?_
 unfold x_heap_Heap_Ident
 refine gO ?_
 refine callT1 (hObject h x hx) fun w1 ho1=>?_
 by_cases he:objE m x=0
 rotate_left
 ·refine gO1 (bne_int_true he) ?_
  refine⟨?_,ho1⟩
  cases m with
  |none=>rfl
  |some s=>simp[identO,he]
 obtain⟨s,rfl,hh⟩:=obj_has he
 obtain⟨b,rfl,gB,gW,cB,cW,yB,yW,sb,sg,pb,pg,bl,bf,h2,h3⟩:=h
 obtain⟨i,rfl,hi⟩:=has_spec h3.ok hh
 have hl:=(h3.ok.start hi).2.1
 have h4:=h3.keep0 ho1
 have e2:(0:Int)≤((2*i:Nat):Int)∧((2*i:Nat):Int)<(s.W.length:Int):=⟨by omega,by omega⟩
 (repeat(first|with_reducible(first|refine nx ?_|refine r_6 rfl ?_)|simp only[go_sem,bne_int_false he,h4.hb.cell,if_pos e2,Int.toNat_natCast,Nat.mul_one,h4.wcell (show 2*i<s.W.length by omega)]))
 refine⟨?_,ho1⟩
 simp only[identO,he,if_true,Int.toNat_natCast]
theorem hKill {w:World} {a:Option Addr} {fp:List Nat} {m:HO} (h:HR w a fp m) (x:Int) (hx:x≤4611686018427387904):Cs Tryz.prog 86 [.pointer a,.int .i64 x] w fun r w'=>r=.int .i64 (objE m x)∧HR w' a fp (killM m x)∧Only fp w w':=by
 refine enter_heap_Heap_Kill rfl ?_
 unfold x_heap_Heap_Kill
 refine gO ?_
 refine callT1 (hObject h x hx) fun w1 ho1=>?_
 by_cases he:objE m x=0
 rotate_left
 ·refine gO1 (bne_int_true he) ?_
  have hM:killM m x=m:=by
   cases m with
   |none=>rfl
   |some s=>unfold killM;simp only[he,if_false]
  rw[hM]
  exact⟨h.keep0 ho1,ho1.of_nil⟩
 obtain⟨s,rfl,hh⟩:=obj_has he
 obtain⟨b,rfl,gB,gW,cB,cW,yB,yW,sb,sg,pb,pg,bl,bf,h2,h3⟩:=h
 obtain⟨i,rfl,hi⟩:=has_spec h3.ok hh
 obtain⟨hlt,hl,r,d,k,k1,k2,k3,k4,k5,k6⟩:=h3.ok.start hi
 obtain⟨g1,g2,g3,_⟩:=h3.ok.sz hi
 have hsl:=h3.ok.sl
 have hpl:=h3.ok.pl
 have hwl:=h3.ok.wl
 have hB:=h3.ok.b64
 have h4:=(h3.keep0 ho1).keep0 (Only.drew [] w1)
 have e2:(0:Int)≤((2*i:Nat):Int)∧((2*i:Nat):Int)<(s.W.length:Int):=⟨by omega,by omega⟩
 have e3:IntKind.i64.wrap (((2*i:Nat):Int).tdiv 2)=(i:Int):=by rw[tdiv2 _ (by omega)];omega
 obtain⟨⟨n1,n2,n3,n4,n5,n6,n7,n8⟩,⟨m2,m3,m4,m5,m6,m7,m8⟩,⟨p3,p4,p5,p6,p7,p8⟩,⟨r4,r5,r6,r7,r8⟩,⟨t5,t6,t7,t8⟩,⟨u6,u7,u8⟩,⟨v7,v8⟩,y8⟩:=nd9 h3.nd
 (repeat(first|with_reducible(first|refine nx ?_|refine r_6 rfl ?_)|simp only[go_sem,bne_int_false he,h4.hb.cell,if_pos e2,Int.toNat_natCast,Nat.mul_one,h4.wcell (show 2*i<s.W.length by omega)]))
 refine mdelT Tryz.underlying67 Tryz.underlying3 h4.hl fun w2 hs2 hl2 ho2=>?_
 have hb2:=h4.hb.keep ho2 (off1 n7)
 refine gO2 hb2.cell e3 ?_
 refine callT (hSetBit (h4.hs.keep ho2 (off1 r7) (off1 t7)) i 0 (by omega) (by omega)) ?_
 rintro r1 w3 ⟨⟨e,rfl⟩,hst3,ho3⟩
 have hb3:=hb2.keep ho3 (off2 n3 n4)
 refine gO2 hb3.cell e3 ?_
 refine callT (hSetBit ((h4.hp.keep ho2 (off1 u7) (off1 v7)).keep ho3 (off2 r5.symm t5.symm) (off2 r6.symm t6.symm)) i 0 (by omega) (by omega)) ?_
 rintro r2 w4 ⟨⟨e',rfl⟩,hp4,ho4⟩
 have hb4:=hb3.keep ho4 (off2 n5 n6)
 have hW4:=((h4.hW.keep ho2 (off1 p7)).keep ho3 (off2 p3 p4)).keep ho4 (off2 p5 p6)
 refine gO ?_
 refine callT1 (hSizeW hb4 hW4 hl (by omega) (by rw[k2];exact k4) (by rw[k2];exact k5)) fun w5 ho5=>?_
 have hsz:wordsS (shapeN (s.W.getD (2*i+1) 0))=s.size (2*i):=rfl
 have hsn:s.size (2*i)=(((s.size (2*i)).toNat:Nat):Int):=by omega
 rw[hsz,hsn]
 refine gO ?_
 refine callT (hWipe (hb4.keep0 ho5) (hW4.keep0 ho5) h3.cW (by omega) (by omega) (by omega)) ?_
 rintro r3 w6 ⟨rfl,hs6,hW6,ho6⟩
 refine gO ?_
 have hM:killM (some s) ((2*i:Nat):Int)=some {s with W:=wipeW s.W (2*i) (s.size (2*i)).toNat,st:=s.st.set i 0,pn:=s.pn.set i 0,pl:=delM s.pl (s.W.getD (2*i) 0)}:=by
  unfold killM
  simp only[he,if_true,Int.toNat_natCast,Nat.mul_div_cancel_left i (show 0<2 by omega)]
 rw[hM,he]
 subst h2
 have hin:2*i+(s.size (2*i)).toNat≤s.W.length:=by omega
 refine⟨rfl,HR.intro (yB:=yB) (yW:=yW) (cW:=cW) ⟨h3.ok.kill hi (by simpa using h3.ok.pl),?_,?_,?_,h3.cB,?_,?_,?_,?_,?_,h3.nd⟩,?_⟩
 ·simp only[wipeW_len hin]
  exact(hb4.keep0 ho5).keep ho6 (off1 n2)
 ·exact((((h4.hB.keep ho2 (off1 m7)).keep ho3 (off2 m3 m4)).keep ho4 (off2 m5 m6)).keep0 ho5).keep ho6 (off1 m2)
 ·exact hW6
 ·simp only[wipeW_len hin];exact h3.cW
 ·simp only[List.length_set]
  exact((hst3.keep ho4 (off2 r5 r6) (off2 t5 t6)).keep ho5 (by simp) (by simp)).keep ho6 (off1 p3.symm) (off1 p4.symm)
 ·simp only[List.length_set]
  exact(hp4.keep ho5 (by simp) (by simp)).keep ho6 (off1 p5.symm) (off1 p6.symm)
 ·exact(((hl2.keep ho3 (off2 r7.symm t7.symm)).keep ho4 (off2 u7.symm v7.symm)).keep0 ho5).keep ho6 (off1 p7.symm)
 ·exact((((h4.hf.keep ho2 (off1 y8.symm)).keep ho3 (off2 r8.symm t8.symm)).keep ho4 (off2 u8.symm v8.symm)).keep0 ho5).keep ho6 (off1 p8.symm)
 ·have o2:Only [b,gB,gW,sb,sg,pb,pg,bl,bf] w w2:=((ho1.nil (Only.drew [] w1)).of_nil (T:=[b,gB,gW,sb,sg,pb,pg,bl,bf])).trans ho2 fun z hz=>.inl (by simp only[List.mem_cons,List.not_mem_nil,or_false]at hz⊢;omega)
  have o3:=o2.trans ho3 fun z hz=>.inl (by simp only[List.mem_cons,List.not_mem_nil,or_false]at hz⊢;omega)
  have o4:=o3.trans ho4 fun z hz=>.inl (by simp only[List.mem_cons,List.not_mem_nil,or_false]at hz⊢;omega)
  exact(o4.nil ho5).trans ho6 fun z hz=>.inl (by simp only[List.mem_cons,List.not_mem_nil,or_false]at hz⊢;omega)
end Go.Proofs.YteiildhelefodaaGreat
end
section
namespace Go.Proofs.YteiildhelefodaaGreat
set_option maxRecDepth 8000
def slLeft (n:Nat) (t:Nat) (g:Env):Nat:=match g t with|.slice _ l _=>n-l|_=>0
theorem slLeft_s {n t:Nat} {g:Env} {a:Option Addr} {l c:Nat} (h:g t=.slice a l c):slLeft n t g=n-l:=by unfold slLeft;rw[h]
def objsB (l:List Nat) (lo hi:Nat):List Nat:=(List.range hi).filter fun j=>decide (lo≤j)&&decide (l.getD j 0=1)
theorem objsB_succ (l:List Nat) (lo k:Nat):objsB l lo (k+1)=objsB l lo k++(if lo≤k∧l.getD k 0=1 then [k]else []):=by
 unfold objsB
 rw[List.range_succ,List.filter_append]
 congr 1
 by_cases h:lo≤k∧l.getD k 0=1
 ·rw[if_pos h];simp[h.1]
  simpa using h.2
 ·rw[if_neg h];simp
  intro h1;simpa using fun h2=>h ⟨h1,by simpa using h2⟩
theorem objsB_gap {l:List Nat} {lo k i:Nat} (hk:k≤i) (h: ∀j,k≤j→j<i→l.getD j 0≠1):objsB l lo i=objsB l lo k:=by
 obtain⟨d,rfl⟩: ∃d,i=k+d:=⟨i-k,by omega⟩
 induction d with
 |zero=>rfl
 |succ d ih=>
  rw[show k+(d+1)=k+d+1 by omega,objsB_succ,if_neg,List.append_nil]
  ·exact ih (by omega) fun j h1 h2=>h j h1 (by omega)
  ·intro h1;exact h (k+d) (by omega) (by omega) h1.2
theorem objsB_len (l:List Nat) (lo hi:Nat):(objsB l lo hi).length≤hi:=by
 unfold objsB
 have:=List.length_filter_le (fun j=>decide (lo≤j)&&decide (l.getD j 0=1)) (List.range hi)
 simpa using this
theorem objsB_self (l:List Nat) (lo:Nat):objsB l lo lo=[]:=by
 unfold objsB
 rw[List.filter_eq_nil_iff]
 intro j hj
 have:=List.mem_range.1 hj
 simp;omega
theorem mem_objsB {l:List Nat} {lo hi j:Nat}:j∈objsB l lo hi↔(lo≤j∧j<hi)∧l.getD j 0=1:=by
 unfold objsB
 simp only[List.mem_filter,List.mem_range,Bool.and_eq_true,decide_eq_true_eq]
 omega
def adrs (l:List Nat):List Int:=l.map fun i=>((2*i:Nat):Int)
theorem adrs_len (l:List Nat):(adrs l).length=l.length:=by simp[adrs]
theorem adrs_append (l m:List Nat):adrs (l++m)=adrs l++adrs m:=by simp[adrs]
def HL.objs (s:HL):List Nat:=objsB s.st 0 s.st.length
def allH (m:HO):List Int:=match m with|none=>[]|some s=>adrs s.objs
theorem next_cases {l:List Nat} (k:Nat):(MT.nextO (some (1,l)) (k:Int) 1=none∧ ∀j,k≤j→l.getD j 0≠1)∨
  ∃i,MT.nextO (some (1,l)) (k:Int) 1=some i∧k≤i∧i<l.length∧l.getD i 0=1∧ ∀j,k≤j→j<i→l.getD j 0≠1:=by
 by_cases h: ∃j,k≤j∧l.getD j 0=1
 ·obtain⟨i,⟨h1,h2⟩,h3⟩: ∃i,(k≤i∧l.getD i 0=1)∧ ∀j,j<i→ ¬(k≤j∧l.getD j 0=1):=by
   obtain⟨j,hj⟩:=h
   induction j using Nat.strongRecOn with
   |_ j ih=>
    by_cases hm: ∃m,m<j∧(k≤m∧l.getD m 0=1)
    ·obtain⟨m,h1,h2⟩:=hm;exact ih m h1 h2
    ·exact⟨j,hj,fun m h1 h2=>hm ⟨m,h1,h2⟩⟩
  have hlt:i<l.length:=by
   rcases Nat.lt_or_ge i l.length with h'|h'
   ·exact h'
   ·rw[List.getD_eq_getElem?_getD,List.getElem?_eq_none h']at h2;simp at h2
  refine .inr ⟨i,?_,h1,hlt,h2,fun j h4 h5 h6=>h3 j h5 ⟨h4,h6⟩⟩
  unfold MT.nextO
  simp only
  refine firstI_some ?_ hlt fun j hj=>?_
  ·simp only[Bool.and_eq_true,decide_eq_true_eq];omega
  ·have:=h3 j hj
   simp only[Bool.and_eq_false_iff,decide_eq_false_iff_not]
   by_cases hkj:k≤j
   ·right;intro e;exact this ⟨hkj,by omega⟩
   ·left;omega
 ·refine .inl ⟨?_,fun j h1 h2=>h ⟨j,h1,h2⟩⟩
  unfold MT.nextO
  simp only
  refine firstI_none fun j hj=>?_
  simp only[Bool.and_eq_false_iff,decide_eq_false_iff_not]
  by_cases hkj:k≤j
  ·right;intro e;exact h ⟨j,hkj,by omega⟩
  ·left;omega
theorem hBetween {w:World} {b:Nat} {s:HL} {gB gW cB cW:Nat} {yB yW:List Value} {sb sg pb pg bl bf:Nat} (h:HMs w b s gB gW cB cW yB yW sb sg pb pg bl bf) (lo hi:Nat) (hle:lo≤hi) (hhi:hi≤4096):
  Cs Tryz.prog 47 [.pointer (some ⟨b,0,none⟩),.int .i64 ((2*lo:Nat):Int),.int .i64 ((2*hi:Nat):Int)] w fun v w'=>Only [] w w'∧ ∃fq,Sl w' 1 v (objsB s.st lo hi).length (ints (adrs (objsB s.st lo hi))) fq∧ ∀y,y∈fq→w.heap.size≤y:=by
 have e3:IntKind.i64.wrap (((2*lo:Nat):Int).tdiv 2)=(lo:Int):=by rw[tdiv2 _ (by omega)];omega
 have hsl:=h.ok.sl
 have hB:=h.ok.b64
 refine enter_heap_Heap_between rfl ?_
 unfold x_heap_Heap_between
 refine gO2 h.hb.cell e3 ?_
 refine callT1 (Next_m (Tab.mk h.hs) (lo:Int) 1) fun w1 ho1=>?_
 refine gO ?_
 refine run_loop (7::8::9::20::21::22::23::24::25::26::27::28::29::30::31::32::33::34::35::36::37::38::39::40::41::42::[]) (fun g w'=> ∃k fq,lo≤k∧k≤hi∧g 8=.int .i64 (optR (MT.nextO (some (1,s.st)) (k:Int) 1))∧g 9=.int .i64 (MT.err (some (1,s.st)) (MT.nextO (some (1,s.st)) (k:Int) 1))∧
   Sl w' 1 (g 7) (objsB s.st lo k).length (ints (adrs (objsB s.st lo k))) fq∧(∀y,y∈fq→w.heap.size≤y)∧Only [] w w') (fun g _=>slLeft (hi+1) 7 g)
  ⟨lo,[],Nat.le_refl _,hle,by simp only[go_sem],by simp only[go_sem],by simp only[go_sem];rw[objsB_self];exact Sl.nil1 _,by simp,ho1⟩ fun g w2 hI hnext=>?_
 obtain⟨k,fq,hk1,hk2,h8,h9,h7,hfq,ho2⟩:=hI
 rcases next_cases (l:=s.st) k with⟨e1,hno⟩|⟨i,e1,hki,hil,hi1,hno⟩
 ·have e9:MT.err (some (1,s.st)) none=4:=rfl
  rw[e1,e9]at h9
  refine gO2 h9 (beq_int_false (show¬(4:Int)=0 by omega)) ?_
  refine⟨ho2,fq,?_,hfq⟩
  rw[objsB_gap hk2 fun j h1 _=>hno j h1]
  exact h7
 ·have e9:MT.err (some (1,s.st)) (some i)=0:=rfl
  have e8:optR (some i)=(i:Int):=rfl
  rw[e1,e9]at h9
  rw[e1,e8]at h8
  have em:IntKind.i64.wrap (2*(i:Int))=((2*i:Nat):Int):=by rw[IntWalk.i64_in _ (by omega)];omega
  refine gO4 h9 h8 (beq_int_true (rfl:(0:Int)=0)) em ?_
  refine condT (fun hlt=>?_) (fun hge=>?_)
  ·have hlt:i<hi:=by
    have:((2*i:Nat):Int)<((2*hi:Nat):Int):=by simpa using hlt
    omega
   refine gO2 h8 em ?_
   rw[fillL_one rfl rfl]
   refine gO ?_
   refine bslT fun q w3 hq hs3 hat3 ho3=>?_
   refine gO ?_
   have hl:=objsB_len s.st lo k
   refine appT (h7.keep0 ho3) (SrcIs.at hat3 rfl) (by simp[oneC]) (by omega) (by omega) ?_
   intro v4 w4 f4 hs4 hf4 ho4 _
   have o4:Only [] w w4:=(ho2.nil ho3).trans ho4 fun y hy=>.inr (hfq y hy)
   have ei:IntKind.i64.wrap ((i:Int)+1)=((i+1:Nat):Int):=i64_succ i (by omega)
   have h4:=h.keep0 o4
   refine gO3 h4.hb.cell h8 ei ?_
   refine callT1 (Next_m (Tab.mk h4.hs) ((i+1:Nat):Int) 1) fun w5 ho5=>?_
   have eo:objsB s.st lo (i+1)=objsB s.st lo k++[i]:=by
    rw[objsB_succ,if_pos ⟨by omega,hi1⟩,objsB_gap hki hno]
   refine gO ?_
   refine hnext _ w5 ?_ ⟨i+1,f4,by omega,hlt,?_,?_,?_,?_,o4.nil ho5⟩ ?_
   ·(repeat(first|with_reducible exact k_1|with_reducible exact Keeps.ovr _ _ _|refine Keeps.put ?_ rfl _|exact k_1|exact Keeps.ovr _ _ _|refine Keeps.ovr2 ?_ rfl _))
   ·simp only[go_sem]
   ·simp only[go_sem]
   ·simp only[go_sem]
    rw[eo]
    have:=hs4.keep0 ho5
    simpa[adrs,ints]using this
   ·intro y hy
    have:=ho2.size
    have:=ho3.size
    rcases hf4 with rfl|rfl
    ·exact hfq y hy
    ·simp only[List.mem_singleton]at hy;omega
   ·obtain⟨a7,c7,e7⟩:=h7.val
    obtain⟨a4,c4,rfl⟩:=hs4.val
    rw[slLeft_s e7,slLeft_s (a:=a4) (c:=c4) (by simp only[go_sem];rfl)]
    omega
  ·have hge: ¬i<hi:=by
    have: ¬((2*i:Nat):Int)<((2*hi:Nat):Int):=by simpa using hge
    omega
   refine gO ?_
   refine⟨ho2,fq,?_,hfq⟩
   rw[objsB_gap hk2 fun j h1 h2=>hno j h1 (by omega)]
   exact h7
theorem hAll {w:World} {a:Option Addr} {fp:List Nat} {m:HO} (h:HR w a fp m):Cs Tryz.prog 10 [.pointer a] w fun v w'=>Only [] w w'∧ ∃fq,Sl w' 1 v (allH m).length (ints (allH m)) fq∧ ∀y,y∈fq→w.heap.size≤y:=by
 refine enter_heap_Heap_All rfl ?_
 unfold x_heap_Heap_All
 refine gO ?_
 refine callT0 (hMade h) ?_
 match m,h with
 |none,h=>(repeat(first|with_reducible(first|refine nx ?_|refine r_6 rfl ?_)|simp only[go_sem]));exact⟨Only.refl _ _,[],Sl.nil1 _,by simp⟩
 |some s,⟨b,h1,gB,gW,cB,cW,yB,yW,sb,sg,pb,pg,bl,bf,h2,h3⟩=>
  subst h1
  have hsl:=h3.ok.sl
  have hwl:=h3.ok.wl
  have hB:=h3.ok.b64
  have e1:((s.W.length:Nat):Int)=((2*s.st.length:Nat):Int):=by omega
  refine gO2 h3.hb.cell e1 ?_
  refine callT (hBetween h3 0 s.st.length (by omega) (by omega)) ?_
  rintro v w' ⟨ho,fq,hs,hf⟩
  refine gO ?_
  exact⟨ho,fq,by simpa[allH,adrs_len,HL.objs]using hs,hf⟩
end Go.Proofs.YteiildhelefodaaGreat
end
section
namespace Go.Proofs.YteiildhelefodaaGreat
set_option maxRecDepth 8000
structure Ob where
 a:Int
 id:Int
 sh:Sh
 rf:List Int
 dt:List Int
 pin:Bool
instance:Inhabited Ob:=⟨⟨0,0,(0,0,0),[],[],false⟩⟩
structure RL where
 B:List (Int×Int)
 O:List Ob
 F:List (Int×Int)
 born:Nat
structure Ob.Ok (n:Nat) (o:Ob):Prop where
 v:validS o.sh=true
 r:(o.rf.length:Int)=o.sh.1
 d:(o.dt.length:Int)=o.sh.2.1
 a0:0≤o.a
 a1:o.a+wordsS o.sh≤((64*n:Nat):Int)
structure RL.Ok (s:RL):Prop where
 b2:2≤s.B.length
 b64:s.B.length≤64
 ol:s.O.length≤2048
 ob: ∀o,o∈s.O→o.Ok s.B.length
def ixO:List Ob→Int→Option Nat
 | [],_=>none
 |o::O,a=>if o.a=a then some 0 else(ixO O a).map (· +1)
theorem ixO_none {O:List Ob} {a:Int} (h: ∀j,j<O.length→(O.getD j default).a≠a):ixO O a=none:=by
 induction O with
 |nil=>rfl
 |cons o O ih=>
  have h0:=h 0 (by simp)
  simp only[List.getD_cons_zero]at h0
  unfold ixO
  rw[if_neg h0,ih fun j hj=>by have:=h (j+1) (by simpa using hj);simpa using this]
  rfl
theorem ixO_some {O:List Ob} {a:Int} {i:Nat} (hi:i<O.length) (e:(O.getD i default).a=a) (h: ∀j,j<i→(O.getD j default).a≠a):ixO O a=some i:=by
 induction O generalizing i with
 |nil=>simp at hi
 |cons o O ih=>
  unfold ixO
  cases i with
  |zero=>simp only[List.getD_cons_zero]at e;rw[if_pos e]
  |succ i=>
   have h0:=h 0 (by omega)
   simp only[List.getD_cons_zero]at h0
   rw[if_neg h0,ih (i:=i) (by simpa using hi) (by simpa using e) fun j hj=>by have:=h (j+1) (by omega);simpa using this]
   rfl
theorem ixO_spec {O:List Ob} {a:Int} {i:Nat} (h:ixO O a=some i):i<O.length∧(O.getD i default).a=a∧ ∀j,j<i→(O.getD j default).a≠a:=by
 induction O generalizing i with
 |nil=>cases h
 |cons o O ih=>
  unfold ixO at h
  split at h
  ·rename_i e
   cases h
   exact⟨by simp,by simpa using e,fun j hj=>absurd hj (by omega)⟩
  ·rename_i e
   obtain⟨k,hk,rfl⟩:=Option.map_eq_some_iff.1 h
   obtain⟨h1,h2,h3⟩:=ih hk
   refine⟨by simpa using h1,by simpa using h2,fun j hj=>?_⟩
   cases j with
   |zero=>simpa using e
   |succ j=>have:=h3 j (by omega);simpa using this
def RL.ob (s:RL) (a:Int):Option Ob:=(ixO s.O a).map fun i=>s.O.getD i default
def RL.has (s:RL) (a:Int):Bool:=(ixO s.O a).isSome
def RL.lacks (s:RL) (a:Int):Int:=if s.has a then 0 else 4
structure OM where
 o:Ob
 vr:Value
 vd:Value
 fr:List Nat
 fd:List Nat
instance:Inhabited OM:=⟨⟨default,.slice none 0 0,.slice none 0 0,[],[]⟩⟩
def obV (o:Ob) (vr vd:Value):List Value:=[.int .i64 o.a,.int .i64 o.id,.int .i64 o.sh.1,.int .i64 o.sh.2.1,.int .i64 o.sh.2.2,vr,vd,.bool o.pin]
def OM.V (m:OM):List Value:=obV m.o m.vr m.vd
theorem OM.V_len (m:OM):m.V.length=8:=rfl
def omV (L:List OM):List Value:=L.flatMap OM.V
theorem omV_len (L:List OM):(omV L).length=L.length*8:=by
 induction L with
 |nil=>rfl
 |cons m L ih=>simp only[omV,List.flatMap_cons,List.length_append,List.length_cons,OM.V_len]at ih⊢;omega
theorem omV_drop (L:List OM) (i:Nat):(omV L).drop (i*8)=omV (L.drop i):=by
 induction L generalizing i with
 |nil=>simp[omV]
 |cons m L ih=>
  cases i with
  |zero=>simp
  |succ i=>
   have:omV (m::L)=m.V++omV L:=rfl
   rw[this,show(i+1)*8=m.V.length+i*8 by rw[OM.V_len];omega,List.drop_append]
   simp[ih]
theorem omV_at {L:List OM} {i:Nat} (ys:List Value) (h:i<L.length):((omV L++ys).drop (i*8)).take 8=(L.getD i default).V:=by
 rw[List.drop_append_of_le_length (by rw[omV_len];omega),omV_drop]
 have:L.drop i=L.getD i default::L.drop (i+1):=by
  rw[List.drop_eq_getElem_cons h];simp[h]
 rw[this]
 have e:omV (L.getD i default::L.drop (i+1))=(L.getD i default).V++omV (L.drop (i+1)):=rfl
 rw[e,List.append_assoc,List.take_append_of_le_length (by rw[OM.V_len];omega),List.take_of_length_le (by rw[OM.V_len];omega)]
def omF (L:List OM):List Nat:=L.flatMap fun m=>m.fr++m.fd
theorem mem_omF {L:List OM} {m:OM} {x:Nat} (hm:m∈L) (hx:x∈m.fr∨x∈m.fd):x∈omF L:=by
 simp only[omF,List.mem_flatMap,List.mem_append]
 exact⟨m,hm,hx⟩
structure OM.ok (w:World) (m:OM):Prop where
 r:Sl w 1 m.vr m.o.rf.length (ints m.o.rf) m.fr
 d:Sl w 1 m.vd m.o.dt.length (ints m.o.dt) m.fd
theorem OM.ok.keep {w w':World} {m:OM} {S:List Nat} (h:m.ok w) (k:Only S w w') (hd: ∀x,x∈m.fr∨x∈m.fd→x∉S):m.ok w':=⟨h.r.keep k fun x hx=>hd x (.inl hx),h.d.keep k fun x hx=>hd x (.inr hx)⟩
theorem OM.ok.keep0 {w w':World} {m:OM} (h:m.ok w) (k:Only [] w w'):m.ok w':=h.keep k fun _ _=>by simp
theorem OM.ok.one {w:World} {m:OM} (h:m.ok w):oneC m.vr=true∧oneC m.vd=true:=⟨h.r.oneC',h.d.oneC'⟩
structure FMs (w:World) (b:Nat) (s:RL) (vB vO vF:Value) (fB fO fF:List Nat) (L:List OM):Prop where
 ok:s.Ok
 hb:At w b [vB,vO,vF,.int .i64 s.born]
 hB:Sl w 2 vB s.B.length (blkV s.B) fB
 hO:Sl w 8 vO L.length (omV L) fO
 hF:Sl w 2 vF s.F.length (blkV s.F) fF
 eq:s.O=L.map OM.o
 om: ∀m,m∈L→m.ok w
 nd:(b::(fB++(fO++(fF++omF L)))).Nodup
def FM (w:World) (b:Nat) (s:RL) (fp:List Nat):Prop:= ∃vB vO vF fB fO fF L,fp=b::(fB++(fO++(fF++omF L)))∧FMs w b s vB vO vF fB fO fF L
theorem FMs.keep {w w':World} {b:Nat} {s:RL} {vB vO vF:Value} {fB fO fF S:List Nat} {L:List OM} (h:FMs w b s vB vO vF fB fO fF L) (k:Only S w w') (hd: ∀x,x∈b::(fB++(fO++(fF++omF L)))→x∉S):FMs w' b s vB vO vF fB fO fF L:=
 ⟨h.ok,h.hb.keep k (hd b (by simp)),h.hB.keep k fun x hx=>hd x (by simp[hx]),h.hO.keep k fun x hx=>hd x (by simp[hx]),h.hF.keep k fun x hx=>hd x (by simp[hx]),h.eq,
  fun m hm=>(h.om m hm).keep k fun x hx=>hd x (by have:=mem_omF hm hx;simp[this]),h.nd⟩
theorem FMs.keep0 {w w':World} {b:Nat} {s:RL} {vB vO vF:Value} {fB fO fF:List Nat} {L:List OM} (h:FMs w b s vB vO vF fB fO fF L) (k:Only [] w w'):FMs w' b s vB vO vF fB fO fF L:=h.keep k fun _ _=>by simp
theorem FM.keep {w w':World} {b:Nat} {s:RL} {fp S:List Nat} (h:FM w b s fp) (k:Only S w w') (hd: ∀x,x∈fp→x∉S):FM w' b s fp:=by
 obtain⟨vB,vO,vF,fB,fO,fF,L,rfl,h⟩:=h
 exact⟨vB,vO,vF,fB,fO,fF,L,rfl,h.keep k hd⟩
theorem FM.keep0 {w w':World} {b:Nat} {s:RL} {fp:List Nat} (h:FM w b s fp) (k:Only [] w w'):FM w' b s fp:=h.keep k fun _ _=>by simp
theorem FMs.lt {w:World} {b:Nat} {s:RL} {vB vO vF:Value} {fB fO fF:List Nat} {L:List OM} (h:FMs w b s vB vO vF fB fO fF L): ∀x,x∈b::(fB++(fO++(fF++omF L)))→x<w.heap.size:=by
 intro x hx
 simp only[List.mem_cons,List.mem_append]at hx
 rcases hx with rfl|hx|hx|hx|hx
 ·exact h.hb.lt
 ·exact h.hB.lt x hx
 ·exact h.hO.lt x hx
 ·exact h.hF.lt x hx
 ·simp only[omF,List.mem_flatMap,List.mem_append]at hx
  obtain⟨m,hm,hx⟩:=hx
  rcases hx with hx|hx
  ·exact(h.om m hm).r.lt x hx
  ·exact(h.om m hm).d.lt x hx
theorem FM.lt {w:World} {b:Nat} {s:RL} {fp:List Nat} (h:FM w b s fp): ∀x,x∈fp→x<w.heap.size:=by
 obtain⟨vB,vO,vF,fB,fO,fF,L,rfl,h⟩:=h
 exact h.lt
theorem FM.ok {w:World} {b:Nat} {s:RL} {fp:List Nat} (h:FM w b s fp):s.Ok:=by
 obtain⟨vB,vO,vF,fB,fO,fF,L,rfl,h⟩:=h
 exact h.ok
theorem FMs.len {w:World} {b:Nat} {s:RL} {vB vO vF:Value} {fB fO fF:List Nat} {L:List OM} (h:FMs w b s vB vO vF fB fO fF L):L.length=s.O.length:=by rw[h.eq,List.length_map]
theorem FMs.getO {w:World} {b:Nat} {s:RL} {vB vO vF:Value} {fB fO fF:List Nat} {L:List OM} (h:FMs w b s vB vO vF fB fO fF L) {i:Nat} (hi:i<L.length):s.O.getD i default=(L.getD i default).o:=by
 rw[h.eq];simp[hi]
theorem FMs.blk {w:World} {b:Nat} {s:RL} {vB vO vF:Value} {fB fO fF:List Nat} {L:List OM} (h:FMs w b s vB vO vF fB fO fF L): ∃g cap ys,vB=.slice (some ⟨g,0,none⟩) s.B.length cap∧At w g (blkV s.B++ys)∧fB=[g]∧s.B.length≤cap:=by
 rcases h.hB.2 with⟨_,h0,_⟩|⟨g,cap,ys,T,h1,h2,h3,h4,h5⟩
 ·have:=h.ok.b2;omega
 ·exact⟨g,cap,ys,h1,⟨T,h3⟩,h2,h5⟩
end Go.Proofs.YteiildhelefodaaGreat
end
section
namespace Go.Proofs.YteiildhelefodaaGreat
set_option maxRecDepth 8000
end Go.Proofs.YteiildhelefodaaGreat
end
section
namespace Go.Proofs.YteiildhelefodaaGreat
set_option maxRecDepth 8000
end Go.Proofs.YteiildhelefodaaGreat
end
section
namespace Go.Proofs.YteiildhelefodaaGreat
set_option maxRecDepth 8000
theorem FMs.all {w:World} {b:Nat} {s:RL} {vB vO vF:Value} {fB fO fF:List Nat} {L:List OM} (h:FMs w b s vB vO vF fB fO fF L) {g cap i:Nat} {ys:List Value} (hat:At w g (omV L++ys)) (hi:i<L.length):
  cellsAt w ⟨g,i*8,none⟩ 8=some (L.getD i default).V∧cellsAt w ⟨g,i*8+2,none⟩ 3=some (shV (L.getD i default).o.sh):=by
 have hl:=omV_len L
 refine⟨?_,?_⟩
 ·rw[cellsAt_at hat _ _ (by rw[List.length_append];omega),omV_at ys hi]
 ·rw[cellsAt_at hat _ _ (by rw[List.length_append];omega),←List.drop_drop]
  congr 1
  have e:((omV L++ys).drop (i*8)).drop 2=(((omV L++ys).drop (i*8)).take 8).drop 2++((omV L++ys).drop (i*8)).drop 8:=by
   conv=>lhs;rw[←List.take_append_drop 8 ((omV L++ys).drop (i*8))]
   rw[List.drop_append_of_le_length]
   rw[List.length_take,List.length_drop,List.length_append];omega
  rw[e,omV_at ys hi]
  rfl
theorem getD_set_eq {α:Type} {l:List α} {k:Nat} {x d:α} (h:k<l.length):(l.set k x).getD k d=x:=by simp[h]
theorem getD_set_ne' {α:Type} {l:List α} {j k:Nat} {x d:α} (h:k≠j):(l.set k x).getD j d=l.getD j d:=by
 simp only[List.getD_eq_getElem?_getD,List.getElem?_set_ne h]
theorem nd4 {b:Nat} {fB fO fF F:List Nat} (h:(b::(fB++(fO++(fF++F)))).Nodup):(∀x,x∈fB∨x∈fO∨x∈fF∨x∈F→x≠b)∧(∀x,x∈fB→x∉fO∧x∉fF∧x∉F)∧(∀x,x∈fO→x∉fF∧x∉F)∧(∀x,x∈fF→x∉F)∧F.Nodup∧fO.Nodup∧fB.Nodup∧fF.Nodup:=by
 simp only[List.nodup_cons,List.nodup_append,List.mem_append,not_or]at h
 obtain⟨⟨h1,h2,h3,h4⟩,h5,⟨h6,⟨h7,h8,h9⟩,h10⟩,h11⟩:=h
 refine⟨fun x hx e=>?_,fun x hx=>⟨fun hy=>h11 x hx x (.inl hy) rfl,fun hy=>h11 x hx x (.inr (.inl hy)) rfl,fun hy=>h11 x hx x (.inr (.inr hy)) rfl⟩,fun x hx=>⟨fun hy=>h10 x hx x (.inl hy) rfl,fun hy=>h10 x hx x (.inr hy) rfl⟩,fun x hx hy=>h9 x hx x hy rfl,h8,h6,h5,h7⟩
 subst e
 rcases hx with hx|hx|hx|hx
 ·exact h1 hx
 ·exact h2 hx
 ·exact h3 hx
 ·exact h4 hx
end Go.Proofs.YteiildhelefodaaGreat
end
section
namespace Go.Proofs.YteiildhelefodaaGreat
set_option maxRecDepth 8000
def RL.setRefR (s:RL) (x i to:Int):Int:=match s.ob x with
 |none=>4
 |some o=>if i<0∨(o.rf.length:Int)≤i then 1 else if to≠0∧s.has to=false then 1 else 0
def RL.upd (s:RL) (x:Int) (f:Ob→Ob):RL:=match ixO s.O x with
 |none=>s
 |some k=> {s with O:=s.O.set k (f (s.O.getD k default))}
def RL.setRefM (s:RL) (x i to:Int):RL:=if s.setRefR x i to=0 then s.upd x fun o=> {o with rf:=o.rf.set i.toNat to}else s
def RL.pinM (s:RL) (x:Int) (p:Bool):RL:=s.upd x fun o=> {o with pin:=p}
def RL.killM (s:RL) (x:Int):RL:=match ixO s.O x with
 |none=>s
 |some k=> {s with O:=s.O.eraseIdx k}
theorem RL.Ok.upd {s:RL} (h:s.Ok) {x:Int} {f:Ob→Ob} (hf: ∀o,o.Ok s.B.length→(f o).Ok s.B.length):(s.upd x f).Ok:=by
 unfold RL.upd
 cases e:ixO s.O x with
 |none=>exact h
 |some k=>
  obtain⟨h1,_,_⟩:=ixO_spec e
  refine⟨h.b2,h.b64,by simpa using h.ol,fun o ho=>?_⟩
  rcases List.mem_or_eq_of_mem_set ho with ho|rfl
  ·exact h.ob o ho
  ·refine hf _ (h.ob _ ?_)
   simp[h1]
theorem RL.Ok.kill {s:RL} (h:s.Ok) {x:Int}:(s.killM x).Ok:=by
 unfold RL.killM
 cases e:ixO s.O x with
 |none=>exact h
 |some k=>
  refine⟨h.b2,h.b64,?_,fun o ho=>h.ob o (List.mem_of_mem_eraseIdx ho)⟩
  have:=List.length_eraseIdx_le s.O k
  have:=h.ol
  simp only;omega
end Go.Proofs.YteiildhelefodaaGreat
end
section
namespace Go.Proofs.YteiildhelefodaaGreat
set_option maxRecDepth 8000
end Go.Proofs.YteiildhelefodaaGreat
end
section
namespace Go.Proofs.YteiildhelefodaaGreat
set_option maxRecDepth 8000
theorem nd4_mk {b:Nat} {fB fO fF F:List Nat} (n1: ∀x,x∈fB∨x∈fO∨x∈fF∨x∈F→x≠b) (n2: ∀x,x∈fB→x∉fO∧x∉fF∧x∉F) (n3: ∀x,x∈fO→x∉fF∧x∉F) (n4: ∀x,x∈fF→x∉F) (n5:F.Nodup) (n6:fO.Nodup) (n7:fB.Nodup) (n8:fF.Nodup):(b::(fB++(fO++(fF++F)))).Nodup:=by
 simp only[List.nodup_cons,List.nodup_append,List.mem_append,not_or]
 refine⟨⟨fun h=>n1 b (.inl h) rfl,fun h=>n1 b (.inr (.inl h)) rfl,fun h=>n1 b (.inr (.inr (.inl h))) rfl,fun h=>n1 b (.inr (.inr (.inr h))) rfl⟩,n7,⟨n6,⟨n8,n5,fun x hx y hy e=>?_⟩,fun x hx y hy e=>?_⟩,fun x hx y hy e=>?_⟩
 ·subst e;exact n4 x hx hy
 ·subst e
  rcases hy with hy|hy
  ·exact(n3 x hx).1 hy
  ·exact(n3 x hx).2 hy
 ·subst e
  rcases hy with hy|hy|hy
  ·exact(n2 x hx).1 hy
  ·exact(n2 x hx).2.1 hy
  ·exact(n2 x hx).2.2 hy
theorem FMs.newO {w w1 w':World} {b:Nat} {s s':RL} {vB vO vF v':Value} {fB fO fF f':List Nat} {L L':List OM} (h:FMs w b s vB vO vF fB fO fF L) (hs:s'.B=s.B∧s'.F=s.F) (hok:s'.Ok) (heq:s'.O=L'.map OM.o)
  (o1:Only [] w w1) (o2:Only [b] w1 w') (hb:At w' b [vB,v',vF,.int .i64 s'.born]) (hO:Sl w1 8 v' L'.length (omV L') f') (hf: ∀y,y∈f'→w.heap.size≤y) (hom: ∀m,m∈L'→m.ok w1)
  (hn:(omF L').Nodup) (hsub: ∀y,y∈omF L'→y∈omF L∨(w.heap.size≤y∧y∉f')):FMs w' b s' vB v' vF fB f' fF L'∧ ∀y,y∈b::(fB++(f'++(fF++omF L')))→y∈b::(fB++(fO++(fF++omF L)))∨w.heap.size≤y:=by
 obtain⟨n1,n2,n3,n4,n5,n6,n7,n8⟩:=nd4 h.nd
 have hlt:=h.lt
 have hltb:b<w.heap.size:=hlt b (by simp)
 have hltB: ∀y,y∈fB→y<w.heap.size:=fun y hy=>hlt y (by simp[hy])
 have hltF: ∀y,y∈fF→y<w.heap.size:=fun y hy=>hlt y (by simp[hy])
 have hltO: ∀y,y∈omF L→y<w.heap.size:=fun y hy=>hlt y (by simp[hy])
 have hx: ∀y,y∈omF L'→y≠b∧y∉fB∧y∉fF∧y∉f':=fun y hy=>by
  rcases hsub y hy with h1|⟨h1,h2⟩
  ·exact⟨n1 y (.inr (.inr (.inr h1))),fun h2=>(n2 y h2).2.2 h1,fun h2=>n4 y h2 h1,fun h2=>by have:=hf y h2;have:=hltO y h1;omega⟩
  ·exact⟨by omega,fun h3=>by have:=hltB y h3;omega,fun h3=>by have:=hltF y h3;omega,h2⟩
 have hf': ∀y,y∈f'→y≠b:=fun y hy=>by have:=hf y hy;omega
 refine⟨⟨hok,hb,?_,hO.keep o2 fun y hy=>off1 (hf' y hy),?_,heq,fun m hm=>(hom m hm).keep o2 fun y hy=>off1 (hx y (mem_omF hm hy)).1,nd4_mk ?_ ?_ ?_ ?_ hn (hO.nodup) n7 n8⟩,?_⟩
 ·rw[hs.1];exact(h.hB.keep0 o1).keep o2 fun y hy=>off1 (n1 y (.inl hy))
 ·rw[hs.2];exact(h.hF.keep0 o1).keep o2 fun y hy=>off1 (n1 y (.inr (.inr (.inl hy))))
 ·rintro y (hy|hy|hy|hy)
  ·exact n1 y (.inl hy)
  ·exact hf' y hy
  ·exact n1 y (.inr (.inr (.inl hy)))
  ·exact(hx y hy).1
 ·exact fun y hy=>⟨fun h2=>by have:=hf y h2;have:=hltB y hy;omega,(n2 y hy).2.1,fun h2=>(hx y h2).2.1 hy⟩
 ·exact fun y hy=>⟨fun h2=>by have:=hf y hy;have:=hltF y h2;omega,fun h2=>(hx y h2).2.2.2 hy⟩
 ·exact fun y hy h2=>(hx y h2).2.2.1 hy
 ·intro y hy
  simp only[List.mem_cons,List.mem_append]at hy⊢
  rcases hy with rfl|hy|hy|hy|hy
  ·exact .inl (.inl rfl)
  ·exact .inl (.inr (.inl hy))
  ·exact .inr (hf y hy)
  ·exact .inl (.inr (.inr (.inr (.inl hy))))
  ·rcases hsub y hy with h1|⟨h1,_⟩
   ·exact .inl (.inr (.inr (.inr (.inr h1))))
   ·exact .inr h1
theorem map_erase {α β:Type} (f:α→β): ∀(L:List α) (k:Nat),(L.map f).eraseIdx k=(L.eraseIdx k).map f
 | [],_=>rfl
 |a::L,0=>rfl
 |a::L,k+1=>by simp[map_erase f L k]
end Go.Proofs.YteiildhelefodaaGreat
end
section
namespace Go.Proofs.YteiildhelefodaaGreat
set_option maxRecDepth 8000
def posO:List Ob→Int→Nat
 | [],_=>0
 |o::O,a=>if o.a<a then posO O a+1 else 0
theorem posO_le: ∀(O:List Ob) (a:Int),posO O a≤O.length
 | [],_=>Nat.le_refl _
 |o::O,a=>by
  unfold posO
  split
  ·have:=posO_le O a;simp only[List.length_cons];omega
  ·omega
theorem posO_at: ∀ {O:List Ob} {a:Int} {k:Nat},k≤O.length→(∀j,j<k→(O.getD j default).a<a)→(k<O.length→ ¬(O.getD k default).a<a)→posO O a=k
 | [],a,k,h,_,_=>by simp at h;subst h;rfl
 |o::O,a,0,_,_,h=>by
  have:=h (by simp)
  simp only[List.getD_cons_zero]at this
  unfold posO;rw[if_neg this]
 |o::O,a,k+1,hl,h1,h2=>by
  have:=h1 0 (by omega)
  simp only[List.getD_cons_zero]at this
  unfold posO
  rw[if_pos this,posO_at (k:=k) (by simpa using hl) (fun j hj=>by have:=h1 (j+1) (by omega);simpa using this) fun hk=>by have:=h2 (by simpa using hk);simpa using this]
def RL.putM (s:RL) (o:Ob):RL:= {s with O:=s.O.take (posO s.O o.a)++[o]++s.O.drop (posO s.O o.a)}
theorem RL.Ok.put {s:RL} (h:s.Ok) {o:Ob} (ho:o.Ok s.B.length) (hl:s.O.length<2048):(s.putM o).Ok:=by
 have:=posO_le s.O o.a
 refine⟨h.b2,h.b64,by simp only[RL.putM,List.length_append,List.length_take,List.length_drop,List.length_singleton];omega,fun p hp=>?_⟩
 simp only[RL.putM,List.mem_append,List.mem_singleton]at hp
 rcases hp with(hp|rfl)|hp
 ·exact h.ob p (List.mem_of_mem_take hp)
 ·exact ho
 ·exact h.ob p (List.mem_of_mem_drop hp)
end Go.Proofs.YteiildhelefodaaGreat
end
section
namespace Go.Proofs.YteiildhelefodaaGreat
set_option maxRecDepth 8000
def RL.hl (s:RL):HL:=⟨s.B,[],[],[],[],[],0⟩
def overB (a words but:Int) (o:Ob):Bool:=(o.id !=but&&decide (o.a<a+words))&&decide (a<o.a+wordsS o.sh)
def RL.fitsR (s:RL) (a:Int) (sh:Sh) (but:Int):Int:=if a<0∨a%2≠0∨((64*s.B.length:Nat):Int)≤a then 1 else if wrongB s.hl a (wordsS sh)=true then 5 else if s.O.any (overB a (wordsS sh) but)=true then 8 else 0
end Go.Proofs.YteiildhelefodaaGreat
end
section
namespace Go.Proofs.YteiildhelefodaaGreat
set_option maxRecDepth 8000
def RL.placeR (s:RL) (a:Int) (sh:Sh):Int×Int:=if validS sh=false then(0,2)else if s.fitsR a sh 0≠0 then(0,s.fitsR a sh 0)else(((s.born+1:Nat):Int),0)
def RL.newOb (s:RL) (a:Int) (sh:Sh):Ob:=⟨a,((s.born+1:Nat):Int),sh,List.replicate sh.1.toNat 0,List.replicate sh.2.1.toNat 0,false⟩
def RL.placeM (s:RL) (a:Int) (sh:Sh):RL:=if(s.placeR a sh).2=0 then {s with born:=s.born+1}.putM (s.newOb a sh)else s
theorem Sl.zeros {w:World} {g n:Nat} (h:At w g (rowZ [Value.int .i64 0] n)):Sl w 1 (.slice (some ⟨g,0,none⟩) n n) n (ints (List.replicate n 0)) [g]:=by
 rw[rowZ_one,ints_rep]at h
 exact Sl.mk1 (ys:=[]) (by simpa using h) (by simp[ints]) (by simp[ints])
end Go.Proofs.YteiildhelefodaaGreat
end
section
namespace Go.Proofs.YteiildhelefodaaGreat
set_option maxRecDepth 8000
def RL.claimE (s:RL) (b sp:Int):Int:=if¬(1≤b∧b<s.B.length)∨spaceB sp=false then 1 else if(s.B.getD b.toNat (0,0)).1≠0 then 8 else 0
def RL.claimM (s:RL) (b sp:Int):RL:=if s.claimE b sp=0 then {s with B:=s.B.set b.toNat (1,sp)}else s
theorem FMs.setB {w w':World} {b:Nat} {s:RL} {vO vF:Value} {fO fF:List Nat} {L:List OM} {g cap:Nat} {ys:List Value} (h:FMs w b s (.slice (some ⟨g,0,none⟩) s.B.length cap) vO vF [g] fO fF L) (hc:s.B.length≤cap) (hcap:(blkV s.B++ys).length=cap*2) {B':List (Int×Int)} (hl:B'.length=s.B.length) (hat:At w' g (blkV B'++ys)) (ho:Only [g] w w'):
  FMs w' b {s with B:=B'} (.slice (some ⟨g,0,none⟩) s.B.length cap) vO vF [g] fO fF L:=by
 obtain⟨n1,n2,n3,n4,n5,n6,n7,n8⟩:=nd4 h.nd
 obtain⟨m1,m2,m3⟩:=n2 g (by simp)
 obtain⟨T,hT⟩:=hat
 refine⟨⟨by rw[hl];exact h.ok.b2,by rw[hl];exact h.ok.b64,h.ok.ol,fun o ho=>by simp only[hl];exact h.ok.ob o ho⟩,h.hb.keep ho (off1 (n1 g (by simp)).symm),?_,h.hO.keep ho fun y hy=>off1 (fun e=>m1 (e▸hy)),h.hF.keep ho fun y hy=>off1 (fun e=>m2 (e▸hy)),h.eq,fun m hm=>(h.om m hm).keep ho fun y hy=>off1 (fun e=>m3 (e▸mem_omF hm hy)),h.nd⟩
 refine⟨by rw[blkV_len];simp only;omega,.inr ⟨g,cap,ys,T,by simp only[hl],rfl,hT,?_,by simp only;omega⟩⟩
 rw[←hcap,List.length_append,List.length_append,blkV_len,blkV_len,hl]
end Go.Proofs.YteiildhelefodaaGreat
end
section
namespace Go.Proofs.YteiildhelefodaaGreat
set_option maxRecDepth 8000
end Go.Proofs.YteiildhelefodaaGreat
end
section
namespace Go.Proofs.YteiildhelefodaaGreat
set_option maxRecDepth 8000
end Go.Proofs.YteiildhelefodaaGreat
end
section
namespace Go.Proofs.YteiildhelefodaaGreat
set_option maxRecDepth 8000
theorem getM_putM (m:IM) (k:Int) (v:Value) (x:Int):getM (putM m k v) x=if x=k then some v else getM m x:=by
 induction m with
 |nil=>
  unfold putM getM getM
  by_cases c:x=k
  ·rw[if_pos c,if_pos c.symm]
  ·rw[if_neg c,if_neg (fun e=>c e.symm)]
 |cons p m ih=>
  unfold putM
  by_cases c:p.1=k
  ·rw[if_pos c]
   unfold getM
   by_cases c2:x=k
   ·rw[if_pos c2.symm,if_pos c2]
   ·rw[if_neg (fun e=>c2 e.symm),if_neg c2,if_neg (fun e=>c2 (by rw[←e];exact c))]
  ·rw[if_neg c]
   unfold getM
   by_cases c2:p.1=x
   ·rw[if_pos c2,if_neg (fun e=>c (by rw[c2];exact e)),if_pos c2]
   ·rw[if_neg c2,ih,if_neg c2]
theorem keys_putM {m:IM} {k:Int} {v:Value} {y:Int} (h:y∈(putM m k v).map (·.1)):y=k∨y∈m.map (·.1):=by
 induction m with
 |nil=>left;simpa[putM]using h
 |cons p m ih=>
  unfold putM at h
  by_cases c:p.1=k
  ·rw[if_pos c]at h
   rcases List.mem_cons.1 h with e|e
   ·exact .inl e
   ·exact .inr (List.mem_cons_of_mem _ e)
  ·rw[if_neg c]at h
   rcases List.mem_cons.1 h with e|e
   ·exact .inr (by rw[e];exact List.mem_cons_self)
   ·rcases ih e with e|e
    ·exact .inl e
    ·exact .inr (List.mem_cons_of_mem _ e)
theorem nodup_putM {m:IM} (h:(m.map (·.1)).Nodup) (k:Int) (v:Value):((putM m k v).map (·.1)).Nodup:=by
 induction m with
 |nil=>simp[putM]
 |cons p m ih=>
  obtain⟨h1,h2⟩:=List.nodup_cons.1 h
  unfold putM
  by_cases c:p.1=k
  ·rw[if_pos c];exact List.nodup_cons.2 ⟨by rw[←c];exact h1,h2⟩
  ·rw[if_neg c]
   refine List.nodup_cons.2 ⟨fun e=>?_,ih h2⟩
   rcases keys_putM e with e|e
   ·exact c e
   ·exact h1 e
theorem getM_none {m:IM} {k:Int} (h:k∉m.map (·.1)):getM m k=none:=by
 induction m with
 |nil=>rfl
 |cons p m ih=>
  unfold getM
  simp only[List.map_cons,List.mem_cons,not_or]at h
  rw[if_neg (fun e=>h.1 e.symm),ih h.2]
theorem getM_delM {m:IM} (h:(m.map (·.1)).Nodup) (k x:Int):getM (delM m k) x=if x=k then none else getM m x:=by
 induction m with
 |nil=>unfold delM getM;split<;>rfl
 |cons p m ih=>
  obtain⟨h1,h2⟩:=List.nodup_cons.1 h
  unfold delM
  by_cases c:p.1=k
  ·rw[if_pos c]
   by_cases c2:x=k
   ·rw[if_pos c2];subst c2;exact getM_none (by rw[←c];exact h1)
   ·rw[if_neg c2];show _=getM (p::m) x;rw[getM,if_neg (fun e=>c2 (by rw[←e];exact c))]
  ·rw[if_neg c]
   show(if p.1=x then some p.2 else getM (delM m k) x)=if x=k then none else if p.1=x then some p.2 else getM m x
   rw[ih h2]
   by_cases c2:x=k
   ·rw[if_pos c2,if_pos c2,if_neg (fun e=>c (by rw[e];exact c2))]
   ·rw[if_neg c2,if_neg c2]
theorem nodup_delM {m:IM} (h:(m.map (·.1)).Nodup) (k:Int):((delM m k).map (·.1)).Nodup:=by
 have sub: ∀m:IM,((delM m k).map (·.1)).Sublist (m.map (·.1)):=fun m=>by
  induction m with
  |nil=>exact List.Sublist.slnil
  |cons p m ih=>
   unfold delM
   by_cases c:p.1=k
   ·rw[if_pos c];exact List.sublist_cons_self _ _
   ·rw[if_neg c];exact List.Sublist.cons_cons _ ih
 exact List.Nodup.sublist (sub m) h
structure HL.PlOk (s:HL):Prop where
 nd:(s.pl.map (·.1)).Nodup
 a: ∀i,s.st.getD i 0=1→getM s.pl (s.W.getD (2*i) 0)=some (.int .i64 ((2*i:Nat):Int))
 b: ∀k v,getM s.pl k=some v→ ∃i,s.st.getD i 0=1∧v=.int .i64 ((2*i:Nat):Int)∧s.W.getD (2*i) 0=k
 c: ∀i,s.st.getD i 0=1→s.W.getD (2*i) 0≤s.born
theorem HL.PlOk.inj {s:HL} (h:s.PlOk) {i j:Nat} (hi:s.st.getD i 0=1) (hj:s.st.getD j 0=1) (e:s.W.getD (2*i) 0=s.W.getD (2*j) 0):i=j:=by
 have h1:=h.a i hi
 rw[e,h.a j hj]at h1
 have:((2*j:Nat):Int)=((2*i:Nat):Int):=by injection h1 with h1;injection h1
 omega
theorem HL.PlOk.congr {s s':HL} (h:s.PlOk) (hp:s'.pl=s.pl) (hb:s'.born=s.born) (hs: ∀i,s'.st.getD i 0=1↔s.st.getD i 0=1) (hw: ∀i,s.st.getD i 0=1→s'.W.getD (2*i) 0=s.W.getD (2*i) 0):s'.PlOk:=
 ⟨by rw[hp];exact h.nd,fun i hi=>by rw[hp,hw i ((hs i).1 hi)];exact h.a i ((hs i).1 hi),fun k v e=>by
  rw[hp]at e
  obtain⟨i,h1,h2,h3⟩:=h.b k v e
  exact⟨i,(hs i).2 h1,h2,by rw[hw i h1];exact h3⟩,fun i hi=>by rw[hb,hw i ((hs i).1 hi)];exact h.c i ((hs i).1 hi)⟩
theorem HL.PlOk.kill {s s':HL} (h:s.PlOk) {i:Nat} (hi:s.st.getD i 0=1) (hp:s'.pl=delM s.pl (s.W.getD (2*i) 0)) (hb:s'.born=s.born) (hs: ∀j,s'.st.getD j 0=1↔j≠i∧s.st.getD j 0=1) (hw: ∀j,j≠i→s.st.getD j 0=1→s'.W.getD (2*j) 0=s.W.getD (2*j) 0):s'.PlOk:=by
 refine⟨by rw[hp];exact nodup_delM h.nd _,fun j hj=>?_,fun k v e=>?_,fun j hj=>?_⟩
 ·obtain⟨h1,h2⟩:=(hs j).1 hj
  rw[hp,hw j h1 h2,getM_delM h.nd,if_neg fun e=>h1 (h.inj h2 hi e)]
  exact h.a j h2
 ·rw[hp,getM_delM h.nd]at e
  by_cases c:k=s.W.getD (2*i) 0
  ·rw[if_pos c]at e;cases e
  rw[if_neg c]at e
  obtain⟨j,h1,h2,h3⟩:=h.b k v e
  have hne:j≠i:=fun e=>c (by rw[←h3,e])
  exact⟨j,(hs j).2 ⟨hne,h1⟩,h2,by rw[hw j hne h1];exact h3⟩
 ·obtain⟨h1,h2⟩:=(hs j).1 hj
  rw[hb,hw j h1 h2];exact h.c j h2
theorem HL.PlOk.place {s s':HL} (h:s.PlOk) {k:Nat} (hk:s.st.getD k 0≠1) (hp:s'.pl=putM s.pl ((s.born+1:Nat):Int) (.int .i64 ((2*k:Nat):Int))) (hb:s'.born=s.born+1) (hs: ∀j,s'.st.getD j 0=1↔j=k∨s.st.getD j 0=1) (hwk:s'.W.getD (2*k) 0=((s.born+1:Nat):Int)) (hw: ∀j,j≠k→s.st.getD j 0=1→s'.W.getD (2*j) 0=s.W.getD (2*j) 0):s'.PlOk:=by
 refine⟨by rw[hp];exact nodup_putM h.nd _ _,fun j hj=>?_,fun x v e=>?_,fun j hj=>?_⟩
 ·rw[hp,getM_putM]
  by_cases c:j=k
  ·rw[c,if_pos hwk]
  have hj2:=((hs j).1 hj).resolve_left c
  have:=h.c j hj2
  rw[hw j c hj2,if_neg (by omega)]
  exact h.a j hj2
 ·rw[hp,getM_putM]at e
  by_cases c:x=((s.born+1:Nat):Int)
  ·rw[if_pos c]at e
   injection e with e
   exact⟨k,(hs k).2 (.inl rfl),e.symm,by rw[hwk,c]⟩
  rw[if_neg c]at e
  obtain⟨j,h1,h2,h3⟩:=h.b x v e
  have hne:j≠k:=fun e=>hk (e▸h1)
  exact⟨j,(hs j).2 (.inr h1),h2,by rw[hw j hne h1];exact h3⟩
 ·rw[hb]
  by_cases c:j=k
  ·rw[c,hwk];exact Int.le_refl _
  have hj2:=((hs j).1 hj).resolve_left c
  have:=h.c j hj2
  rw[hw j c hj2];omega
end Go.Proofs.YteiildhelefodaaGreat
end
section
namespace Go.Proofs.YteiildhelefodaaGreat
set_option maxRecDepth 8000
def HL.obAt (s : HL) (i : Nat) : Ob :=
  ⟨((2 * i : Nat) : Int), s.W.getD (2 * i) 0, shapeN (s.W.getD (2 * i + 1) 0), (List.range (shapeN (s.W.getD (2 * i + 1) 0)).1.toNat).map (fun j => s.W.getD (2 * i + 2 + j) 0),
    (List.range (shapeN (s.W.getD (2 * i + 1) 0)).2.1.toNat).map (fun j => s.W.getD (2 * i + 2 + (shapeN (s.W.getD (2 * i + 1) 0)).1.toNat + j) 0), decide (s.pn.getD i 0 = 1)⟩
def HL.abs (s:HL):RL:=⟨s.B,s.objs.map s.obAt,[],s.born⟩
structure HL.Inv (s:HL):Prop where
 ok:s.Ok
 bf: ∀i,i<s.B.length→(s.B.getD i (0,0)).1=0→s.B.getD i (0,0)=(0,0)
 ids: ∀i,s.st.getD i 0=1→1≤s.W.getD (2*i) 0
 pz: ∀i,s.st.getD i 0≠1→s.pn.getD i 0=0
 fz: ∀k,(∀i,s.st.getD i 0=1→k<2*i∨((2*i:Nat):Int)+s.size (2*i)≤(k:Int))→s.W.getD k 0=0
 b0:(s.B.getD 0 (0,0)).1=0
 z0:s.st.getD 0 0≠1
 pm:s.PlOk
theorem mem_objs {s:HL} {i:Nat}:i∈s.objs↔s.st.getD i 0=1:=by
 unfold HL.objs
 rw[mem_objsB]
 constructor
 ·exact fun h=>h.2
 ·intro h
  refine⟨⟨Nat.zero_le _,?_⟩,h⟩
  rcases Nat.lt_or_ge i s.st.length with h'|h'
  ·exact h'
  ·rw[List.getD_eq_getElem?_getD,List.getElem?_eq_none h']at h;simp at h
theorem objs_nodup (s:HL):s.objs.Nodup:=List.Nodup.sublist List.filter_sublist List.nodup_range
theorem abs_ix {s:HL} {i j:Nat} (hj:j<s.objs.length) (hi:s.objs.getD j 0=i):ixO s.abs.O ((2*i:Nat):Int)=some j:=by
 have hl:s.abs.O.length=s.objs.length:=by simp[HL.abs]
 have get: ∀k,k<s.objs.length→(s.abs.O.getD k default).a=((2*s.objs.getD k 0:Nat):Int):=fun k hk=>by simp[HL.abs,hk,HL.obAt]
 refine ixO_some (by omega) (by rw[get j hj,hi]) fun k hk=>?_
 rw[get k (by omega)]
 intro e
 have e2:s.objs.getD k 0=s.objs.getD j 0:=by omega
 have hkl:k<s.objs.length:=by omega
 have e3:s.objs[k]=s.objs[j]:=by simpa[hkl,hj]using e2
 have:=(List.getElem_inj (h₀:=hkl) (h₁:=hj) (objs_nodup s)).1 e3
 omega
theorem objs_index {s:HL} {i:Nat} (h:s.st.getD i 0=1): ∃j,j<s.objs.length∧s.objs.getD j 0=i:=by
 obtain⟨j,hj,e⟩:=List.mem_iff_getElem.1 (mem_objs.2 h)
 exact⟨j,hj,by simpa[hj]using e⟩
theorem abs_none {s:HL} {x:Int} (h: ∀i,s.st.getD i 0=1→((2*i:Nat):Int)≠x):ixO s.abs.O x=none:=by
 refine ixO_none fun j hj=>?_
 have hl:j<s.objs.length:=by simpa[HL.abs]using hj
 have:(s.abs.O.getD j default).a=((2*s.objs.getD j 0:Nat):Int):=by simp[HL.abs,hl,HL.obAt]
 rw[this]
 exact h _ (mem_objs.1 (by simp[hl]))
theorem has_iff {s:HL} (h:s.Ok) {x:Int}:hasO (some s) x=true↔ ∃i:Nat,x=((2*i:Nat):Int)∧s.st.getD i 0=1:=by
 constructor
 ·exact has_spec h
 ·rintro⟨i,rfl,hi⟩
  have hlt:=(h.start hi).1
  simp only[hasO,Bool.and_eq_true,decide_eq_true_eq]
  refine⟨⟨by omega,by omega⟩,?_⟩
  show(if hasB s.st.length (((2*i:Nat):Int)/2)=true then((s.st.getD (((2*i:Nat):Int)/2).toNat 0:Nat):Int)else-1)=1
  rw[show((2*i:Nat):Int)/2=(i:Int) by omega,if_pos (hasB_of hlt),Int.toNat_natCast,hi];rfl
theorem abs_cases {s:HL} (h:s.Ok) (x:Int):(hasO (some s) x=false∧ixO s.abs.O x=none)∨ ∃i j:Nat,x=((2*i:Nat):Int)∧s.st.getD i 0=1∧hasO (some s) x=true∧j<s.objs.length∧s.objs.getD j 0=i∧ixO s.abs.O x=some j:=by
 cases hh:hasO (some s) x with
 |true=>
  obtain⟨i,rfl,hi⟩:=(has_iff h).1 hh
  obtain⟨j,hj,e⟩:=objs_index hi
  exact .inr ⟨i,j,rfl,hi,rfl,hj,e,abs_ix hj e⟩
 |false=>
  refine .inl ⟨rfl,abs_none fun i hi e=>?_⟩
  have:hasO (some s) x=true:=(has_iff h).2 ⟨i,e.symm,hi⟩
  rw[hh]at this;cases this
theorem abs_has {s:HL} (h:s.Ok) (x:Int):s.abs.has x=hasO (some s) x:=by
 unfold RL.has
 rcases abs_cases h x with⟨h1,h2⟩|⟨i,j,_,_,h1,_,_,h2⟩
 ·rw[h1,h2];rfl
 ·rw[h1,h2];rfl
theorem abs_lacks {s:HL} (h:s.Ok) (x:Int):s.abs.lacks x=objE (some s) x:=by
 unfold RL.lacks objE
 rw[abs_has h]
theorem abs_get {s:HL} {i j:Nat} (hj:j<s.objs.length) (e:s.objs.getD j 0=i):s.abs.O.getD j default=s.obAt i:=by
 subst e;simp[HL.abs,hj]
theorem abs_ob {s:HL} (h:s.Ok) (x:Int):(hasO (some s) x=false∧s.abs.ob x=none)∨ ∃i:Nat,x=((2*i:Nat):Int)∧s.st.getD i 0=1∧hasO (some s) x=true∧s.abs.ob x=some (s.obAt i):=by
 unfold RL.ob
 rcases abs_cases h x with⟨h1,h2⟩|⟨i,j,hx,hi,h1,hj,e,h2⟩
 ·exact .inl ⟨h1,by rw[h2];rfl⟩
 ·exact .inr ⟨i,hx,hi,h1,by rw[h2,Option.map_some,abs_get hj e]⟩
theorem obAt_rf {s:HL} (h:s.Ok) {i:Nat} (hi:s.st.getD i 0=1): ∃r d k:Nat,validS (r,d,k)=true∧shapeN (s.W.getD (2*i+1) 0)=((r:Int),(d:Int),(k:Int))∧s.size (2*i)=wordsS (r,d,k)∧(s.obAt i).sh=((r:Int),(d:Int),(k:Int))∧(s.obAt i).rf=(List.range r).map (fun j=>s.W.getD (2*i+2+j) 0)∧(s.obAt i).dt=(List.range d).map (fun j=>s.W.getD (2*i+2+r+j) 0):=by
 obtain⟨_,_,_,r,d,k,h1,h2,h3⟩:=h.sz hi
 refine⟨r,d,k,h1,h2,h3,h2,?_,?_⟩
 ·simp only[HL.obAt,h2,Int.toNat_natCast]
 ·simp only[HL.obAt,h2,Int.toNat_natCast]
theorem map_range_getD {f:Nat→Int} {n i:Nat} (h:i<n):((List.range n).map f).getD i 0=f i:=by simp[h]
theorem abs_setRefE {s:HL} (h:s.Ok) (x i to:Int):s.abs.setRefR x i to=setRefE (some s) x i to:=by
 unfold RL.setRefR setRefE fieldO objE
 rcases abs_ob h x with⟨h1,h2⟩|⟨o,rfl,ho,h1,h2⟩
 ·rw[h1,h2];rfl
 ·obtain⟨r,d,k,hv,hs,hz,e1,e2,_⟩:=obAt_rf h ho
  rw[h1,h2]
  simp only[if_true,ne_eq,not_true_eq_false,if_false,cond_false]
  have hsa:s.shapeAt ((2*o:Nat):Int)=((r:Int),(d:Int),(k:Int)):=hs
  rw[hsa,e2,List.length_map,List.length_range,abs_has h]
  by_cases c:i<0∨(r:Int)≤i
  ·rw[if_pos c,if_pos c];rfl
  ·rw[if_neg c,if_neg c];rfl
theorem abs_upd {s s':HL} {f:Ob→Ob} {i:Nat} (hi:s.st.getD i 0=1) (hB:s'.B=s.B) (hs:s'.st=s.st) (hb:s'.born=s.born) (h1:s'.obAt i=f (s.obAt i)) (h2: ∀k,k≠i→s.st.getD k 0=1→s'.obAt k=s.obAt k):s'.abs=s.abs.upd ((2*i:Nat):Int) f:=by
 obtain⟨j,hj,e⟩:=objs_index hi
 unfold RL.upd
 rw[abs_ix hj e]
 have ho:s'.objs=s.objs:=by unfold HL.objs;rw[hs]
 show RL.mk s'.B (s'.objs.map s'.obAt) [] s'.born=RL.mk s.B (s.abs.O.set j (f (s.abs.O.getD j default))) [] s.born
 rw[hB,hb,ho,abs_get hj e,←h1]
 congr 1
 show s.objs.map s'.obAt=(s.objs.map s.obAt).set j (s'.obAt i)
 apply List.ext_getElem
 ·simp
 intro k k1 k2
 have k3:k<s.objs.length:=by simpa using k1
 rw[List.getElem_set]
 by_cases hk:j=k
 ·subst hk
  rw[if_pos rfl,List.getElem_map]
  congr 1
  simpa[hj]using e
 ·rw[if_neg hk,List.getElem_map,List.getElem_map]
  refine h2 _ (fun e2=>hk ?_) (mem_objs.1 (List.getElem_mem k3))
  have e3:s.objs[j]=s.objs[k]:=by rw[e2];simpa[hj]using e
  exact(List.getElem_inj (h₀:=hj) (h₁:=k3) (objs_nodup s)).1 e3
theorem abs_setRef {s:HL} (h:s.Ok) (x i to:Int): ∃s',setRefM (some s) x i to=some s'∧s'.abs=s.abs.setRefM x i to∧s'.B=s.B∧s'.st=s.st∧s'.born=s.born∧s'.pn=s.pn:=by
 unfold setRefM RL.setRefM
 rw[abs_setRefE h]
 by_cases c:setRefE (some s) x i to=0
 rotate_left
 ·rw[if_neg c];simp only[if_neg c];exact⟨s,rfl,rfl,rfl,rfl,rfl,rfl⟩
 rw[if_pos c]
 simp only[if_pos c]
 refine⟨_,rfl,?_,rfl,rfl,rfl,rfl⟩
 have hf:(fieldO (some s) x i false).2=0:=by
  unfold setRefE at c
  by_cases c2:(fieldO (some s) x i false).2=0
  ·exact c2
  ·simp only[ne_eq,c2,not_false_eq_true,if_true]at c
 obtain⟨o,k,rfl,ho,hk,k1,k2,k3⟩:=field_spec h hf
 obtain⟨r,d,q,hv,hs,hz,e1,e2,e3⟩:=obAt_rf h ho
 have hw:=words_le hv
 simp only at hw
 -- which reference it is
 have hfo:fieldO (some s) ((2*o:Nat):Int) i false=(((2*o:Nat):Int)+2+i,0)∧0≤i∧i<(r:Int):=by
  have hsa:s.shapeAt ((2*o:Nat):Int)=((r:Int),(d:Int),(q:Int)):=hs
  have hh:objE (some s) ((2*o:Nat):Int)=0:=by unfold objE;rw[(has_iff h).2 ⟨o,rfl,ho⟩];rfl
  unfold fieldO at hf⊢
  simp only[hh,ne_eq,not_true_eq_false,if_false,cond_false,hsa]at hf⊢
  by_cases c2:i<0∨(r:Int)≤i
  ·rw[if_pos c2]at hf;cases hf
  ·rw[if_neg c2];exact⟨rfl,by omega,by omega⟩
 obtain⟨hfo1,i0,ir⟩:=hfo
 obtain⟨n,rfl⟩: ∃n:Nat,i=n:=⟨i.toNat,by omega⟩
 have hkn:k=2*o+2+n:=by
  have e4:=hk
  rw[hfo1]at e4;simp only at e4;omega
 rw[hk,Int.toNat_natCast]
 have hne: ∀j,j≠k→(s.W.set k to).getD j 0=s.W.getD j 0:=fun j hj=>getD_set_ne' (Ne.symm hj)
 have hhd:=h.inside ho k1 k2
 refine abs_upd (s:=s) (s':= {s with W:=s.W.set k to}) ho rfl rfl rfl ?_ fun t ht hto=>?_
 ·unfold HL.obAt
  simp only[hne (2*o) (by omega),hne (2*o+1) (by omega),hs,Int.toNat_natCast]
  congr 1
  ·apply List.ext_getElem
   ·simp
   intro j j1 j2
   have j3:j<r:=by simpa using j1
   rw[List.getElem_set]
   simp only[List.getElem_map,List.getElem_range]
   by_cases c3:n=j
   ·subst c3;rw[if_pos rfl,←hkn];exact getD_set_eq k3
   ·rw[if_neg c3,hne _ (by omega)]
  ·apply List.map_congr_left
   intro j hj
   exact hne _ (by omega)
 ·obtain⟨r',d',q',hv',hs',hz',_,_,_⟩:=obAt_rf h hto
  have hw':=words_le hv'
  simp only at hw'
  have hout: ∀j:Nat,2*t≤j→(j:Int)<((2*t:Nat):Int)+s.size (2*t)→j≠k:=by
   intro j hj1 hj2 e
   subst e
   rcases Nat.lt_or_ge o t with hot|hot
   ·have:=h.dj o t ho hto hot;omega
   ·have:=h.dj t o hto ho (by omega);omega
  unfold HL.obAt
  have a0:=hne (2*t) (hout _ (by omega) (by rw[hz'];omega))
  have a1:=hne (2*t+1) (hout _ (by omega) (by rw[hz'];omega))
  simp only[a0,a1,hs',Int.toNat_natCast]
  congr 1
  ·apply List.map_congr_left
   intro j hj
   have:=List.mem_range.1 hj
   exact hne _ (hout _ (by omega) (by rw[hz'];omega))
  ·apply List.map_congr_left
   intro j hj
   have:=List.mem_range.1 hj
   exact hne _ (hout _ (by omega) (by rw[hz'];omega))
end Go.Proofs.YteiildhelefodaaGreat
end
section
namespace Go.Proofs.YteiildhelefodaaGreat
set_option maxRecDepth 8000
theorem obAt_congr {s s':HL} {i:Nat} (h:s.Ok) (hi:s.st.getD i 0=1) (hW: ∀k:Nat,2*i≤k→(k:Int)<((2*i:Nat):Int)+s.size (2*i)→s'.W.getD k 0=s.W.getD k 0) (hp:s'.pn.getD i 0=s.pn.getD i 0):s'.obAt i=s.obAt i:=by
 obtain⟨r,d,q,hv,hs,hz,_,_,_⟩:=obAt_rf h hi
 have hw:=words_le hv
 simp only at hw
 have a0:=hW (2*i) (by omega) (by rw[hz];omega)
 have a1:=hW (2*i+1) (by omega) (by rw[hz];omega)
 unfold HL.obAt
 simp only[a0,a1,hs,Int.toNat_natCast,hp]
 congr 1
 ·apply List.map_congr_left
  intro j hj
  have:=List.mem_range.1 hj
  exact hW _ (by omega) (by rw[hz];omega)
 ·apply List.map_congr_left
  intro j hj
  have:=List.mem_range.1 hj
  exact hW _ (by omega) (by rw[hz];omega)
theorem erase_filter {l:List Nat} (hn:l.Nodup) {j:Nat} (hj:j<l.length):l.eraseIdx j=l.filter fun k=>k !=l.getD j 0:=by
 induction l generalizing j with
 |nil=>simp at hj
 |cons a l ih=>
  rw[List.nodup_cons]at hn
  cases j with
  |zero=>
   rw[List.eraseIdx_cons_zero,List.getD_cons_zero,List.filter_cons_of_neg (by simp)]
   refine(List.filter_eq_self.2 fun k hk=>?_).symm
   simp only[bne_iff_ne,ne_eq]
   rintro rfl;exact hn.1 hk
  |succ j=>
   rw[List.eraseIdx_cons_succ,List.getD_cons_succ,List.filter_cons_of_pos,ih hn.2 (by simpa using hj)]
   simp only[bne_iff_ne,ne_eq]
   rintro rfl
   exact hn.1 (by simp[show j<l.length by simpa using hj])
theorem objsB_set {l:List Nat} {lo hi i v:Nat} (hv:v≠1):objsB (l.set i v) lo hi=(objsB l lo hi).filter fun k=>k !=i:=by
 unfold objsB
 rw[List.filter_filter]
 apply List.filter_congr
 intro k _
 by_cases e:k=i
 ·subst e
  have:(l.set k v).getD k 0≠1:=by
   by_cases hk:k<l.length
   ·rw[getD_set_eq hk];exact hv
   ·simp[List.getD_eq_getElem?_getD,List.getElem?_eq_none (Nat.not_lt.1 hk),hk]
  rw[decide_eq_false this];simp
 ·rw[getD_set_ne' (Ne.symm e)]
  simp[e]
theorem abs_kill {s:HL} (h:s.Ok) (x:Int): ∃s',killM (some s) x=some s'∧s'.abs=s.abs.killM x∧s'.B=s.B∧s'.born=s.born∧
  ((s'=s)∨ ∃i:Nat,s.st.getD i 0=1∧s'.pl=delM s.pl (s.W.getD (2*i) 0)∧s'.st=s.st.set i 0∧s'.pn=s.pn.set i 0∧s'.W=wipeW s.W (2*i) (s.size (2*i)).toNat):=by
 simp only[killM,RL.killM]
 rw[←abs_lacks h]
 rcases abs_cases h x with⟨h1,h2⟩|⟨i,j,rfl,hi,h1,hj,e,h2⟩
 ·have:s.abs.lacks x=4:=by rw[abs_lacks h];unfold objE;rw[h1];rfl
  simp only[this]
  refine⟨s,rfl,?_,rfl,rfl,.inl rfl⟩
  rw[h2]
 ·have:s.abs.lacks ((2*i:Nat):Int)=0:=by rw[abs_lacks h];unfold objE;rw[h1];rfl
  simp only[this,if_true,Int.toNat_natCast,Nat.mul_div_cancel_left i (show 0<2 by omega)]
  refine⟨_,rfl,?_,rfl,rfl,.inr ⟨i,hi,rfl,rfl,rfl,rfl⟩⟩
  rw[h2]
  obtain⟨g1,g2,g3,_⟩:=h.sz hi
  have hin:2*i+(s.size (2*i)).toNat≤s.W.length:=by omega
  show RL.mk s.B _ [] s.born=RL.mk s.B (s.abs.O.eraseIdx j) [] s.born
  congr 1
  show List.map _ (objsB (s.st.set i 0) 0 (s.st.set i 0).length)=(s.objs.map s.obAt).eraseIdx j
  rw[List.length_set,objsB_set (by omega),map_erase,erase_filter (objs_nodup s) hj,e]
  apply List.map_congr_left
  intro k hk
  obtain⟨k1,k2⟩:=List.mem_filter.1 hk
  have hk1:s.st.getD k 0=1:=mem_objs.1 k1
  have hki:k≠i:=by simpa using k2
  refine obAt_congr h hk1 (fun t t1 t2=>?_) (getD_set_ne' (Ne.symm hki))
  simp only
  rw[wipeW_get hin,if_neg]
  rcases Nat.lt_or_ge i k with hik|hik
  ·have:=h.dj i k hi hk1 hik;omega
  ·have:=h.dj k i hk1 hi (by omega);omega
theorem wrong_congr {s t:HL} (h:s.B=t.B) (a words:Int):wrongB s a words=wrongB t a words:=by
 unfold wrongB HL.b HL.span
 rw[h]
theorem find_spec {s:HL} (h:s.Ok) {x:Int} (e:(findO (some s) x).2=0): ∃i:Nat,s.st.getD i 0=1∧(findO (some s) x).1=((2*i:Nat):Int)∧((2*i:Nat):Int)≤x∧x<((2*i:Nat):Int)+s.size (2*i):=by
 unfold findO at e⊢
 simp only at e⊢
 split at e
 ·cases e
 ·rename_i h1
  rw[if_neg h1]
  split at e
  ·cases e
  ·rename_i i hi
   split at e
   ·cases e
   ·rename_i h2
    have hl:s.starts.lastO (x/2+1) 1=lastI (fun k=>decide ((k:Int)<x/2+1)&&decide (((s.st.getD k 0:Nat):Int)=1)) s.st.length:=rfl
    have hi':=hi
    rw[hl]at hi'
    obtain⟨i1,i2⟩:=lastI_spec hi'
    simp only[Bool.and_eq_true,decide_eq_true_eq]at i2
    refine⟨i,by omega,?_,by omega,by omega⟩
    simp only[hi,if_neg h2]
    omega
theorem abs_fits {s:HL} (h:s.Inv) (a:Int) (sh:Sh) (hv:validS sh=true):s.abs.fitsR a sh 0=fitsE s a (wordsS sh) (-1):=by
 have hw:=words_le hv
 have hwl:=h.ok.wl
 unfold RL.fitsR fitsE
 have hB:s.abs.B=s.B:=rfl
 by_cases c1:a<0∨a%2≠0∨((64*s.abs.B.length:Nat):Int)≤a
 ·rw[if_pos c1,if_pos]
  rw[hB]at c1
  simp only[argB,Bool.or_eq_true,decide_eq_true_eq]
  omega
 have hA:argB s a=false:=by
  rw[hB]at c1
  simp only[argB,Bool.or_eq_false_iff,decide_eq_false_iff_not]
  omega
 rw[if_neg c1,hA]
 simp only[Bool.false_eq_true,if_false]
 rw[wrong_congr (t:=s) (show s.abs.hl.B=s.B from rfl)]
 by_cases c2:wrongB s a (wordsS sh)=true
 ·rw[if_pos c2,if_pos c2]
 rw[if_neg c2,if_neg c2]
 have key:s.abs.O.any (overB a (wordsS sh) 0)=true↔(List.range ((wordsS sh+1)/2).toNat).any (takenB s a (-1))=true:=by
  simp only[List.any_eq_true]
  constructor
  ·rintro⟨o,ho,hov⟩
   obtain⟨i,hi,rfl⟩:=List.mem_map.1 ho
   have hi1:=mem_objs.1 hi
   obtain⟨r,d,q,hv',hs,hz,e1,_,_⟩:=obAt_rf h.ok hi1
   have hov':(((2*i:Nat):Int)<a+wordsS sh)∧a<((2*i:Nat):Int)+s.size (2*i):=by
    simp only[overB,Bool.and_eq_true,decide_eq_true_eq]at hov
    obtain⟨⟨_,h1⟩,h2⟩:=hov
    rw[e1]at h2
    exact⟨h1,by rw[hz];exact h2⟩
   obtain⟨g1,g2,g3,_⟩:=h.ok.sz hi1
   rw[hB]at c1
   have ha2:a%2=0:=by omega
   refine⟨((max a ((2*i:Nat):Int)-a)/2).toNat,List.mem_range.2 (by omega),?_⟩
   have e5:a+2*((((max a ((2*i:Nat):Int)-a)/2).toNat:Nat):Int)=(((max a ((2*i:Nat):Int)).toNat:Nat):Int):=by omega
   unfold takenB
   rw[e5,find_of h.ok hi1 (by omega) (by omega)]
   simp;omega
  ·rintro⟨j,hj,ht⟩
   have hj':=List.mem_range.1 hj
   unfold takenB at ht
   simp only[Bool.and_eq_true,beq_iff_eq]at ht
   obtain⟨i,hi1,_,i2,i3⟩:=find_spec h.ok ht.1
   obtain⟨r,d,q,hv',hs,hz,e1,_,_⟩:=obAt_rf h.ok hi1
   obtain⟨g1,g2,g3,_⟩:=h.ok.sz hi1
   refine⟨s.obAt i,List.mem_map.2 ⟨i,mem_objs.2 hi1,rfl⟩,?_⟩
   have hid:=h.ids i hi1
   simp only[overB,Bool.and_eq_true,decide_eq_true_eq,bne_iff_ne,ne_eq]
   rw[e1,←hz]
   refine⟨⟨?_,?_⟩,?_⟩
   ·show¬s.W.getD (2*i) 0=0;omega
   ·show((2*i:Nat):Int)<_;omega
   ·show a<((2*i:Nat):Int)+_;omega
 by_cases c3:s.abs.O.any (overB a (wordsS sh) 0)=true
 ·rw[if_pos c3,if_pos (key.1 c3)]
 ·rw[if_neg c3,if_neg (fun h=>c3 (key.2 h))]
end Go.Proofs.YteiildhelefodaaGreat
end
section
namespace Go.Proofs.YteiildhelefodaaGreat
set_option maxRecDepth 8000
theorem objsB_split (l:List Nat) {lo m hi:Nat} (h1:lo≤m) (h2:m≤hi):objsB l lo hi=objsB l lo m++objsB l m hi:=by
 obtain⟨d,rfl⟩: ∃d,hi=m+d:=⟨hi-m,by omega⟩
 induction d with
 |zero=>rw[Nat.add_zero,objsB_self,List.append_nil]
 |succ d ih=>
  rw[show m+(d+1)=m+d+1 by omega,objsB_succ,objsB_succ,ih (by omega),List.append_assoc]
  congr 2
  by_cases h:l.getD (m+d) 0=1
  ·rw[if_pos ⟨by omega,h⟩,if_pos ⟨by omega,h⟩]
  ·rw[if_neg (fun e=>h e.2),if_neg (fun e=>h e.2)]
theorem objsB_congr {l l':List Nat} {lo hi:Nat} (h: ∀j,lo≤j→j<hi→l.getD j 0=l'.getD j 0):objsB l lo hi=objsB l' lo hi:=by
 unfold objsB
 apply List.filter_congr
 intro j hj
 have:=List.mem_range.1 hj
 by_cases h1:lo≤j
 ·rw[h j h1 this]
 ·simp[h1]
theorem objsB_one (l:List Nat) (k:Nat):objsB l k (k+1)=if l.getD k 0=1 then [k]else []:=by
 rw[objsB_succ,objsB_self,List.nil_append]
 by_cases h:l.getD k 0=1
 ·rw[if_pos ⟨Nat.le_refl _,h⟩,if_pos h]
 ·rw[if_neg (fun e=>h e.2),if_neg h]
theorem abs_placeR {s:HL} (h:s.Inv) (a:Int) (sh:Sh):s.abs.placeR a sh=placeR (some s) a sh:=by
 unfold RL.placeR placeR
 cases hv:validS sh with
 |false=>rfl
 |true=>
  simp only[Bool.true_eq_false,if_false]
  rw[abs_fits h a sh hv]
  rfl
theorem abs_place {s:HL} (h:s.Inv) (a:Int) (sh:Sh): ∃s',placeM (some s) a sh=some s'∧s'.abs=s.abs.placeM a sh∧s'.Inv∧s'.B=s.B∧s'.born≤s.born+1:=by
 have hR:=abs_placeR h a sh
 by_cases c:(placeR (some s) a sh).2=0
 rotate_left
 ·refine⟨s,by unfold placeM;simp only[if_neg c],?_,h,rfl,by omega⟩
  unfold RL.placeM
  rw[hR,if_neg c]
 -- it fits
 have hv:validS sh=true:=by
  cases hv:validS sh with
  |true=>rfl
  |false=>simp[placeR,hv]at c
 have hE:fitsE s a (wordsS sh) (-1)=0:=by
  by_cases e:fitsE s a (wordsS sh) (-1)=0
  ·exact e
  ·simp[placeR,hv,e]at c
 have hw:=words_le hv
 obtain⟨k,rfl,hk,hin,hfree⟩:=fits_spec h.ok hw.1 hw.2.2.1 hw.2.1 hE
 have hsl:=h.ok.sl
 have hwl:=h.ok.wl
 have hpl:=h.ok.pl
 have hPR:placeR (some s) ((2*k:Nat):Int) sh=(((s.born+1:Nat):Int),0):=by
  unfold placeR
  simp only[hv,Bool.true_eq_false,if_false]
  rw[if_neg (fun e=>e hE)]
 have hPM:placeM (some s) ((2*k:Nat):Int) sh=some {s with W:=(s.W.set (2*k) ((s.born+1:Nat):Int)).set (2*k+1) (numS sh),st:=s.st.set k 1,pl:=putM s.pl ((s.born+1:Nat):Int) (.int .i64 ((2*k:Nat):Int)),born:=s.born+1}:=by
  unfold placeM
  simp only[hPR,if_true,Int.toNat_natCast,Nat.mul_div_cancel_left k (show 0<2 by omega)]
 -- no object has a word there
 have hno: ∀i,s.st.getD i 0=1→((2*i:Nat):Int)+s.size (2*i)≤((2*k:Nat):Int)∨((2*k:Nat):Int)+wordsS sh≤((2*i:Nat):Int):=by
  intro i hi
  obtain⟨g1,g2,g3,_⟩:=h.ok.sz hi
  by_cases c1:k≤i
  ·right
   refine Decidable.byContradiction fun c2=>?_
   have h1:=taken_none (hfree (i-k) (by omega))
   have e1:((2*k:Nat):Int)+2*((i-k:Nat):Int)=((2*i:Nat):Int):=by omega
   rw[e1,find_of h.ok hi (Nat.le_refl _) (by omega)]at h1
   exact h1 rfl
  ·left
   refine Decidable.byContradiction fun c2=>?_
   have h1:=taken_none (hfree 0 (by omega))
   have e1:((2*k:Nat):Int)+2*((0:Nat):Int)=((2*k:Nat):Int):=by omega
   rw[e1,find_of h.ok hi (by omega) (by omega)]at h1
   exact h1 rfl
 have hnk:s.st.getD k 0≠1:=fun e=>by
  have:=hno k e
  have:=(h.ok.sz e).1
  omega
 obtain⟨r,d,q,hsh⟩: ∃r d q:Nat,sh=((r:Int),(d:Int),(q:Int)):=by
  obtain⟨sa,sb,sc⟩:=sh
  have hv':=hv
  simp only[validS,Bool.and_eq_true,decide_eq_true_eq]at hv'
  exact⟨sa.toNat,sb.toNat,sc.toNat,by rw[Prod.mk.injEq,Prod.mk.injEq];omega⟩
 have hsn:shapeN (numS sh)=sh:=by rw[hsh];rw[hsh]at hv;exact shape_num hv
 have hzero: ∀j:Nat,2*k≤j→(j:Int)<((2*k:Nat):Int)+wordsS sh→s.W.getD j 0=0:=fun j j1 j2=>h.fz j fun i hi=>by
  have:=hno i hi
  have:=(h.ok.sz hi).1
  omega
 have hW: ∀j,j≠2*k→j≠2*k+1→((s.W.set (2*k) ((s.born+1:Nat):Int)).set (2*k+1) (numS sh)).getD j 0=s.W.getD j 0:=fun j j1 j2=>by
  rw[getD_set_ne' (Ne.symm j2),getD_set_ne' (Ne.symm j1)]
 have hW0:((s.W.set (2*k) ((s.born+1:Nat):Int)).set (2*k+1) (numS sh)).getD (2*k) 0=((s.born+1:Nat):Int):=by
  rw[getD_set_ne' (by omega),getD_set_eq (by omega)]
 have hW1:((s.W.set (2*k) ((s.born+1:Nat):Int)).set (2*k+1) (numS sh)).getD (2*k+1) 0=numS sh:=getD_set_eq (by simp;omega)
 have hout: ∀i,s.st.getD i 0=1→ ∀j:Nat,2*i≤j→(j:Int)<((2*i:Nat):Int)+s.size (2*i)→j≠2*k∧j≠2*k+1:=fun i hi j j1 j2=>by
  have:=hno i hi
  omega
 rw[hPM]
 refine⟨_,rfl,?_,?_,rfl,Nat.le_refl _⟩
 ·unfold RL.placeM
  rw[hR,hPR,if_pos rfl]
  generalize hs':(HL.mk s.B ((s.W.set (2*k) ((s.born+1:Nat):Int)).set (2*k+1) (numS sh)) (s.st.set k 1) s.pn (putM s.pl ((s.born+1:Nat):Int) (.int .i64 ((2*k:Nat):Int))) s.fw (s.born+1))=s'
  have sW:s'.W=(s.W.set (2*k) ((s.born+1:Nat):Int)).set (2*k+1) (numS sh):=by rw[←hs']
  have sS:s'.st=s.st.set k 1:=by rw[←hs']
  have sP:s'.pn=s.pn:=by rw[←hs']
  have sB:s'.B=s.B:=by rw[←hs']
  have sb:s'.born=s.born+1:=by rw[←hs']
  have hA:objsB s.st 0 s.st.length=objsB s.st 0 k++objsB s.st (k+1) s.st.length:=by
   rw[objsB_split s.st (show 0≤k by omega) (show k≤s.st.length by omega),objsB_split s.st (show k≤k+1 by omega) (show k+1≤s.st.length by omega),objsB_one,if_neg hnk,List.nil_append]
  have hA':s'.objs=objsB s.st 0 k++[k]++objsB s.st (k+1) s.st.length:=by
   unfold HL.objs
   rw[sS,List.length_set,objsB_split (s.st.set k 1) (show 0≤k by omega) (show k≤s.st.length by omega),objsB_split (s.st.set k 1) (show k≤k+1 by omega) (show k+1≤s.st.length by omega),objsB_one,if_pos (getD_set_eq hk),←List.append_assoc]
   congr 1
   ·congr 1
    exact objsB_congr fun j _ hj=>getD_set_ne' (by omega)
   ·exact objsB_congr fun j hj _=>getD_set_ne' (by omega)
  have hold: ∀i,s.st.getD i 0=1→s'.obAt i=s.obAt i:=fun i hi=>obAt_congr h.ok hi (fun j j1 j2=>by rw[sW];exact hW j (hout i hi j j1 j2).1 (hout i hi j j1 j2).2) (by rw[sP])
  have hnew:s'.obAt k=s.abs.newOb ((2*k:Nat):Int) sh:=by
   unfold HL.obAt RL.newOb
   rw[sW,sP,hW0,hW1,hsn,h.pz k hnk]
   have hw':=hw
   rw[hsh]at hw'⊢
   simp only[Int.toNat_natCast]at hw'⊢
   rw[hsh]at hW hzero
   congr 1
   ·apply List.ext_getElem
    ·simp
    intro j j1 j2
    have j3:j<r:=by simpa using j1
    rw[List.getElem_map,List.getElem_range,List.getElem_replicate,hW _ (by omega) (by omega)]
    exact hzero _ (by omega) (by omega)
   ·apply List.ext_getElem
    ·simp
    intro j j1 j2
    have j3:j<d:=by simpa using j1
    rw[List.getElem_map,List.getElem_range,List.getElem_replicate,hW _ (by omega) (by omega)]
    exact hzero _ (by omega) (by omega)
  have mA: ∀i,i∈objsB s.st 0 k→i<k∧s.st.getD i 0=1:=fun i hi=>⟨(mem_objsB.1 hi).1.2,(mem_objsB.1 hi).2⟩
  have mC: ∀i,i∈objsB s.st (k+1) s.st.length→k<i∧s.st.getD i 0=1:=fun i hi=>⟨(mem_objsB.1 hi).1.1,(mem_objsB.1 hi).2⟩
  have hO:s.abs.O=(objsB s.st 0 k).map s.obAt++(objsB s.st (k+1) s.st.length).map s.obAt:=by
   show(objsB s.st 0 s.st.length).map s.obAt=_
   rw[hA,List.map_append]
  have hpos:posO s.abs.O ((2*k:Nat):Int)=(objsB s.st 0 k).length:=by
   refine posO_at (by rw[hO];simp) (fun j hj=>?_) fun hl=>?_
   ·have e:s.abs.O.getD j default=s.obAt ((objsB s.st 0 k)[j]):=by
     rw[hO,List.getD_eq_getElem?_getD,List.getElem?_append_left (by simpa using hj)];simp[hj]
    rw[e]
    have:=(mA _ (List.getElem_mem hj)).1
    show((2*(objsB s.st 0 k)[j]:Nat):Int)<_
    omega
   ·have hl':0<(objsB s.st (k+1) s.st.length).length:=by rw[hO]at hl;simpa using hl
    have e:s.abs.O.getD (objsB s.st 0 k).length default=s.obAt ((objsB s.st (k+1) s.st.length)[0]):=by
     rw[hO,List.getD_eq_getElem?_getD,List.getElem?_append_right (by simp)];simp[hl']
    rw[e]
    have:=(mC _ (List.getElem_mem hl')).1
    show¬((2*(objsB s.st (k+1) s.st.length)[0]:Nat):Int)<_
    omega
  show RL.mk s'.B (s'.objs.map s'.obAt) [] s'.born=RL.mk s.B (s.abs.O.take (posO s.abs.O ((2*k:Nat):Int))++[s.abs.newOb ((2*k:Nat):Int) sh]++s.abs.O.drop (posO s.abs.O ((2*k:Nat):Int))) [] (s.born+1)
  rw[sB,sb,hpos,hA',hO,List.map_append,List.map_append,List.map_cons,List.map_nil,hnew,List.take_append_of_le_length (by simp),List.drop_append_of_le_length (by simp)]
  congr 1
  rw[List.take_of_length_le (by simp),List.drop_of_length_le (by simp),List.nil_append]
  congr 1
  ·congr 1
   exact List.map_congr_left fun i hi=>hold i (mA i hi).2
  ·exact List.map_congr_left fun i hi=>hold i (mC i hi).2
 ·have hst: ∀i,(s.st.set k 1).getD i 0=1→i=k∨(i≠k∧s.st.getD i 0=1):=fun i hi=>by
   by_cases e:i=k
   ·exact .inl e
   ·exact .inr ⟨e,by rw[getD_set_ne' (Ne.symm e)]at hi;exact hi⟩
  have hsz: ∀i,i≠k→HL.size {s with W:=(s.W.set (2*k) ((s.born+1:Nat):Int)).set (2*k+1) (numS sh),st:=s.st.set k 1,pl:=putM s.pl ((s.born+1:Nat):Int) (.int .i64 ((2*k:Nat):Int)),born:=s.born+1} (2*i)=s.size (2*i):=fun i hi=>by
   unfold HL.size
   simp only
   rw[hW _ (by omega) (by omega)]
  have hszk:HL.size {s with W:=(s.W.set (2*k) ((s.born+1:Nat):Int)).set (2*k+1) (numS sh),st:=s.st.set k 1,pl:=putM s.pl ((s.born+1:Nat):Int) (.int .i64 ((2*k:Nat):Int)),born:=s.born+1} (2*k)=wordsS sh:=by
   unfold HL.size
   simp only
   rw[hW1,hsn]
  have hk0:k≠0:=fun e=>by
   subst e
   have hb:=h.b0
   by_cases ha:argB s ((2*0:Nat):Int)=true
   ·unfold fitsE at hE;rw[if_pos ha]at hE;cases hE
   by_cases hwr:wrongB s ((2*0:Nat):Int) (wordsS sh)=true
   ·unfold fitsE at hE;rw[if_neg ha,if_pos hwr]at hE;cases hE
   refine hwr ?_
   unfold wrongB HL.b
   split
   ·simp only[Bool.or_eq_true,decide_eq_true_eq];left;show(s.B.getD 0 (0,0)).1≠1;omega
   ·simp only[Bool.or_eq_true,decide_eq_true_eq];left;left;show(s.B.getD 0 (0,0)).1≠2;omega
  refine⟨h.ok.place hv hk hin hfree,h.bf,fun i hi=>?_,fun i hi=>h.pz i fun e=>hi ?_,fun j hj=>?_,h.b0,fun e=>h.z0 (by simp only at e;rw[getD_set_ne' hk0]at e;exact e),h.pm.place hnk rfl rfl (fun j=>⟨fun e=>(hst j e).imp id And.right,fun e=>?_⟩) hW0 fun j hj hj1=>hW _ (by omega) (by omega)⟩
  ·rcases hst i hi with rfl|⟨hne,hi'⟩
   ·simp only;rw[hW0];omega
   ·simp only;rw[hW _ (by omega) (by omega)];exact h.ids i hi'
  ·by_cases e2:i=k
   ·subst e2;exact getD_set_eq hk
   ·simp only;rw[getD_set_ne' (Ne.symm e2)];exact e
  ·have hk1:=hj k (getD_set_eq hk)
   rw[hszk]at hk1
   simp only
   rw[hW j (by omega) (by omega)]
   refine h.fz j fun i hi=>?_
   have hik:i≠k:=fun e=>hnk (e▸hi)
   have:=hj i (by simp only;rw[getD_set_ne' (Ne.symm hik)];exact hi)
   rw[hsz i hik]at this
   exact this
  ·by_cases c:j=k
   ·rw[c];exact getD_set_eq hk
   ·simp only;rw[getD_set_ne' (Ne.symm c)];exact e.resolve_left c
theorem HL.Inv.setRef {s s':HL} (h:s.Inv) {x i to:Int} (e:setRefM (some s) x i to=some s') (hok:s'.Ok):s'.Inv:=by
 unfold setRefM at e
 by_cases c:setRefE (some s) x i to=0
 rotate_left
 ·simp only[if_neg c,Option.some.injEq]at e;subst e;exact h
 simp only[if_pos c,Option.some.injEq]at e
 subst e
 have hf:(fieldO (some s) x i false).2=0:=by
  unfold setRefE at c
  by_cases c2:(fieldO (some s) x i false).2=0
  ·exact c2
  ·simp only[ne_eq,c2,not_false_eq_true,if_true]at c
 obtain⟨o,k,rfl,ho,hk,k1,k2,k3⟩:=field_spec h.ok hf
 have hhd:=h.ok.inside ho k1 k2
 rw[hk,Int.toNat_natCast]
 have hsz: ∀j,s.st.getD j 0=1→HL.size {s with W:=s.W.set k to} (2*j)=s.size (2*j):=fun j hj=>HL.size_set (hhd j hj)
 have hne: ∀j,s.st.getD j 0=1→2*j≠k:=fun j hj=>by
  intro e2
  rcases Nat.lt_trichotomy o j with hij|hij|hij
  ·have:=h.ok.dj o j ho hj hij;omega
  ·subst hij;omega
  ·have:=h.ok.dj j o hj ho hij;have:=(h.ok.sz hj).1;omega
 refine⟨by rw[hk,Int.toNat_natCast]at hok;exact hok,h.bf,fun j hj=>?_,h.pz,fun j hj=>?_,h.b0,h.z0,h.pm.congr rfl rfl (fun _=>Iff.rfl) fun j hj=>?_⟩
 ·simp only;rw[getD_set_ne' (Ne.symm (hne j hj))];exact h.ids j hj
 ·have hjk:j≠k:=by
   intro e2
   have:=hj o ho
   rw[hsz o ho]at this
   omega
  simp only;rw[getD_set_ne' (Ne.symm hjk)]
  exact h.fz j fun i hi=>by have:=hj i hi;rw[hsz i hi]at this;exact this
 ·simp only;rw[getD_set_ne' (Ne.symm (hne j hj))]
theorem HL.Inv.pin {s s':HL} (h:s.Inv) {x:Int} {v:Nat} (e:pinM (some s) x v=some s') (hok:s'.Ok) (hp: ∀i,s.st.getD i 0≠1→s'.pn.getD i 0=s.pn.getD i 0):s'.Inv:=by
 unfold pinM at e
 by_cases c:objE (some s) x=0
 rotate_left
 ·simp only[if_neg c,Option.some.injEq]at e;subst e;exact h
 simp only[if_pos c,Option.some.injEq]at e
 subst e
 exact⟨hok,h.bf,h.ids,fun i hi=>(hp i hi).trans (h.pz i hi),h.fz,h.b0,h.z0,h.pm.congr rfl rfl (fun _=>Iff.rfl) fun _ _=>rfl⟩
theorem HL.Inv.kill {s s':HL} (h:s.Inv) {x:Int} (e:killM (some s) x=some s') (hok:s'.Ok):s'.Inv:=by
 obtain⟨t,e1,_,hB,hbo,hc⟩:=abs_kill h.ok x
 rw[e1]at e
 cases e
 rcases hc with rfl|⟨i,hi,hpl,hS,hP,hW⟩
 ·exact h
 obtain⟨g1,g2,g3,_⟩:=h.ok.sz hi
 have hin:2*i+(s.size (2*i)).toNat≤s.W.length:=by omega
 have hst: ∀j,s'.st.getD j 0=1→j≠i∧s.st.getD j 0=1:=by
  intro j hj
  rw[hS]at hj
  by_cases e:j=i
  ·subst e
   have:=(h.ok.start hi).1
   rw[getD_set_eq this]at hj;cases hj
  ·exact⟨e,by rw[getD_set_ne' (Ne.symm e)]at hj;exact hj⟩
 have hout: ∀j,j≠i→s.st.getD j 0=1→ ∀t:Nat,2*j≤t→(t:Int)<((2*j:Nat):Int)+s.size (2*j)→s'.W.getD t 0=s.W.getD t 0:=fun j hj hj1 t t1 t2=>by
  rw[hW,wipeW_get hin,if_neg]
  rcases Nat.lt_or_ge i j with hij|hij
  ·have:=h.ok.dj i j hi hj1 hij;omega
  ·have:=h.ok.dj j i hj1 hi (by omega);omega
 have hsz: ∀j,j≠i→s.st.getD j 0=1→s'.size (2*j)=s.size (2*j):=fun j hj hj1=>by
  unfold HL.size
  have:=(h.ok.sz hj1).1
  rw[hout j hj hj1 (2*j+1) (by omega) (by omega)]
 refine⟨hok,fun j hj=>by rw[hB]at hj⊢;exact h.bf j hj,fun j hj=>?_,fun j hj=>?_,fun t ht=>?_,by rw[hB];exact h.b0,fun e=>h.z0 (hst 0 e).2,h.pm.kill hi hpl hbo (fun j=>⟨hst j,fun e=>by rw[hS,getD_set_ne' (Ne.symm e.1)];exact e.2⟩) fun j hj hj1=>hout j hj hj1 (2*j) (by omega) (by have:=(h.ok.sz hj1).1;omega)⟩
 ·obtain⟨hne,hj1⟩:=hst j hj
  have:=(h.ok.sz hj1).1
  rw[hout j hne hj1 (2*j) (by omega) (by omega)]
  exact h.ids j hj1
 ·rw[hP]
  by_cases e:j=i
  ·subst e
   by_cases hl:j<s.pn.length
   ·rw[getD_set_eq hl]
   ·simp[List.getD_eq_getElem?_getD,List.getElem?_eq_none (Nat.not_lt.1 hl),hl]
  ·rw[getD_set_ne' (Ne.symm e)]
   refine h.pz j fun e2=>hj ?_
   rw[hS,getD_set_ne' (Ne.symm e)];exact e2
 ·rw[hW,wipeW_get hin]
  by_cases c:2*i≤t∧t<2*i+(s.size (2*i)).toNat
  ·rw[if_pos c]
  ·rw[if_neg c]
   refine h.fz t fun j hj=>?_
   by_cases e:j=i
   ·subst e;omega
   ·have:=ht j (by rw[hS,getD_set_ne' (Ne.symm e)];exact hj)
    rw[hsz j e hj]at this
    exact this
theorem HL.Inv.setB {s:HL} (h:s.Inv) {B':List (Int×Int)} (hl:B'.length=s.B.length) (hb: ∀i,i<s.B.length→(B'.getD i (0,0)).1=0→B'.getD i (0,0)=(0,0)) (hb0:B'.getD 0 (0,0)=s.B.getD 0 (0,0)):HL.Inv {s with B:=B'}:=
 ⟨h.ok.setB hl,fun i hi=>hb i (by rw[←hl];exact hi),h.ids,h.pz,h.fz,by simp only[hb0];exact h.b0,h.z0,h.pm.congr rfl rfl (fun _=>Iff.rfl) fun _ _=>rfl⟩
theorem abs_claim {s:HL} (h:s.Inv) (k:Nat) (sp:Int):s.abs.claimE (k:Int) sp=claimE (some s) (k:Int) 1 (1,sp)∧ ∃s',claimM (some s) (k:Int) 1 (1,sp) (0,0)=some s'∧s'.abs=s.abs.claimM (k:Int) sp∧s'.Inv∧s'.born=s.born∧s'.B.length=s.B.length:=by
 have hE:s.abs.claimE (k:Int) sp=claimE (some s) (k:Int) 1 (1,sp):=by
  unfold RL.claimE claimE thereO
  have hB:s.abs.B=s.B:=rfl
  rw[hB]
  simp only
  by_cases c1: ¬(1≤(k:Int)∧(k:Int)<(s.B.length:Int))∨spaceB sp=false
  ·rw[if_pos c1,if_pos]
   rcases c1 with c1|c1
   ·left;simp only[Bool.and_eq_false_iff,decide_eq_false_iff_not];omega
   ·exact .inr (.inr (.inr c1))
  ·have c1a:1≤(k:Int)∧(k:Int)<(s.B.length:Int):=Decidable.byContradiction fun e=>c1 (.inl e)
   have c1b: ¬spaceB sp=false:=fun e=>c1 (.inr e)
   have hc: ¬((decide (1≤(k:Int))&&decide ((k:Int)<(s.B.length:Int)))=false∨(1:Int)<1∨(s.B.length:Int)-(k:Int)<1∨spaceB sp=false):=by
    rintro(h1|h1|h1|h1)
    ·simp only[Bool.and_eq_false_iff,decide_eq_false_iff_not]at h1;omega
    ·omega
    ·omega
    ·exact c1b h1
   have hk:k<s.B.length:=by omega
   have e1:(s.B.drop k).take 1=[s.B.getD k (0,0)]:=by
    rw[List.drop_eq_getElem_cons hk,List.take_succ_cons,List.take_zero,List.getD_eq_getElem?_getD,List.getElem?_eq_getElem hk];rfl
   rw[if_neg c1,if_neg hc,Int.toNat_natCast,show(1:Int).toNat=1 from rfl,e1]
   simp only[List.any_cons,List.any_nil,Bool.or_false]
   by_cases c2:(s.B.getD k (0,0)).1=0
   ·rw[h.bf k hk c2];rfl
   ·rw[if_pos c2,if_pos]
    simp only[bne_iff_ne,ne_eq]
    intro e;exact c2 (by rw[e])
 refine⟨hE,?_⟩
 unfold claimM RL.claimM
 simp only
 rw[←hE]
 by_cases c:s.abs.claimE (k:Int) sp=0
 rotate_left
 ·rw[if_neg c,if_neg c];exact⟨s,rfl,rfl,h,rfl,rfl⟩
 rw[if_pos c,if_pos c]
 obtain⟨hk1,hk⟩:1≤k∧k<s.B.length:=by
  unfold RL.claimE at c
  by_cases c1: ¬(1≤(k:Int)∧(k:Int)<(s.abs.B.length:Int))∨spaceB sp=false
  ·rw[if_pos c1]at c;cases c
  ·have:1≤(k:Int)∧(k:Int)<(s.abs.B.length:Int):=Decidable.byContradiction fun e=>c1 (.inl e)
   exact⟨by omega,Int.ofNat_lt.1 this.2⟩
 have e2:(fillB s.B (k:Int).toNat (0,0) (1:Int).toNat).set (k:Int).toNat (1,sp)=s.B.set k (1,sp):=by
  rw[Int.toNat_natCast,show(1:Int).toNat=1 from rfl]
  simp only[fillB,Nat.add_zero,List.set_set]
 rw[e2,Int.toNat_natCast]
 refine⟨_,rfl,rfl,h.setB (by simp) (fun i hi h0=>?_) (getD_set_ne' (by omega)),rfl,by simp⟩
 by_cases e:k=i
 ·subst e;rw[getD_set_eq hk]at h0;cases h0
 ·rw[getD_set_ne' e]at h0⊢;exact h.bf i hi h0
theorem fillB_get (B:List (Int×Int)) (k:Nat) (x:Int×Int): ∀n,k+n≤B.length→ ∀i,(fillB B k x n).getD i (0,0)=if k≤i∧i<k+n then x else B.getD i (0,0)
 |0,_,i=>by rw[if_neg (by omega)];rfl
 |n+1,h,i=>by
  unfold fillB
  by_cases e:k+n=i
  ·subst e
   rw[getD_set_eq (by rw[fillB_len];omega),if_pos (by omega)]
  ·rw[getD_set_ne' e,fillB_get B k x n (by omega) i]
   by_cases c:k≤i∧i<k+n
   ·rw[if_pos c,if_pos (by omega)]
   ·rw[if_neg c,if_neg (by omega)]
theorem new_inv {n:Nat} (h1:2≤n) (h2:n≤64): ∃s,newH (n:Int)=some s∧s.Inv∧s.abs=⟨List.replicate n (0,0),[],[],0⟩∧s.born=0∧s.B.length=n:=by
 have e:newH (n:Int)=some ⟨List.replicate n (0,0),List.replicate (64*n) 0,List.replicate (32*n) 0,List.replicate (32*n) 0,[],[],0⟩:=by
  unfold newH;rw[if_pos ⟨by omega,by omega⟩];simp only[Int.toNat_natCast]
 have z: ∀(m i:Nat),(List.replicate m (0:Nat)).getD i 0=0:=fun m i=>by
  simp only[List.getD_eq_getElem?_getD,List.getElem?_replicate];split<;>rfl
 have zi: ∀(m i:Nat),(List.replicate m (0:Int)).getD i 0=0:=fun m i=>by
  simp only[List.getD_eq_getElem?_getD,List.getElem?_replicate];split<;>rfl
 refine⟨_,e,⟨newH_ok e,fun i hi _=>?_,fun i hi=>?_,fun i _=>z _ i,fun k _=>zi _ k,by simp[show 0<n by omega],by simp only;rw[z];omega,⟨List.nodup_nil,fun i hi=>?_,fun k v e=>?_,fun i hi=>?_⟩⟩,?_,rfl,by simp⟩
 ·simp only[List.length_replicate]at hi
  simp[hi]
 ·simp only at hi;rw[z]at hi;cases hi
 ·simp only at hi;rw[z]at hi;cases hi
 ·cases e
 ·simp only at hi;rw[z]at hi;cases hi
 ·show RL.mk _ _ [] 0=_
  congr 1
  have:(HL.mk (List.replicate n (0,0)) (List.replicate (64*n) 0) (List.replicate (32*n) 0) (List.replicate (32*n) 0) [] [] 0).objs=[]:=by
   unfold HL.objs objsB
   rw[List.filter_eq_nil_iff]
   intro i _
   simp only[z];simp
  rw[this];rfl
end Go.Proofs.YteiildhelefodaaGreat
end
section
namespace Go.Proofs.YteiildhelefodaaGreat
set_option maxRecDepth 8000
section
variable {s:HL} {i:Nat}
theorem at_objE (h:s.Ok) (hi:s.st.getD i 0=1):objE (some s) ((2*i:Nat):Int)=0:=by
 unfold objE;rw[(has_iff h).2 ⟨i,rfl,hi⟩];rfl
theorem at_ident (h:s.Ok) (hi:s.st.getD i 0=1):identO (some s) ((2*i:Nat):Int)=((s.obAt i).id,0):=by
 unfold identO
 simp only[at_objE h hi,if_true,Int.toNat_natCast]
 rfl
theorem at_shape (h:s.Ok) (hi:s.st.getD i 0=1):shapeO (some s) ((2*i:Nat):Int)=((s.obAt i).sh,0):=by
 unfold shapeO
 simp only[at_objE h hi,if_true]
 rfl
theorem at_ref (h:s.Ok) (hi:s.st.getD i 0=1) {j:Nat} (hj:j<(s.obAt i).rf.length):refO (some s) ((2*i:Nat):Int) (j:Int)=((s.obAt i).rf.getD j 0,0):=by
 obtain⟨r,d,k,hv,hs,hz,e1,e2,e3⟩:=obAt_rf h hi
 have hsa:s.shapeAt ((2*i:Nat):Int)=((r:Int),(d:Int),(k:Int)):=hs
 rw[e2]at hj⊢
 simp only[List.length_map,List.length_range]at hj
 unfold refO fieldO
 simp only[at_objE h hi,ne_eq,not_true_eq_false,if_false,cond_false,hsa]
 rw[if_neg (show¬((j:Int)<0∨(r:Int)≤(j:Int)) by omega)]
 simp only[if_true]
 rw[show(((2*i:Nat):Int)+2+(j:Int)).toNat=2*i+2+j by omega]
 simp[hj]
theorem obAt_len (h:s.Ok) (hi:s.st.getD i 0=1):(((s.obAt i).rf.length:Nat):Int)=(s.obAt i).sh.1∧(((s.obAt i).dt.length:Nat):Int)=(s.obAt i).sh.2.1∧validS (s.obAt i).sh=true:=by
 obtain⟨r,d,k,hv,hs,hz,e1,e2,e3⟩:=obAt_rf h hi
 rw[e1,e2,e3]
 exact⟨by simp,by simp,hv⟩
end
end Go.Proofs.YteiildhelefodaaGreat
end
section
namespace Go.Proofs.YteiildhelefodaaGreat
set_option maxRecDepth 8000
theorem refsO_at {s:HL} {k:Nat} (h:s.Ok) (hk:s.st.getD k 0=1):refsO (some s) ((2*k:Nat):Int)=(s.obAt k).rf:=by
 obtain⟨h1,_,_⟩:=obAt_len h hk
 unfold refsO
 rw[at_shape h hk]
 have e:(s.obAt k).sh.1.toNat=(s.obAt k).rf.length:=by omega
 simp only[e]
 refine List.ext_getElem (by simp) fun i h1 h2=>?_
 simp only[List.getElem_map,List.getElem_range]
 rw[at_ref h hk h2]
 simp[h2]
def okTo (s:HL) (to:Int):Prop:=to=0∨ ∃k:Nat,to=((2*k:Nat):Int)∧s.st.getD k 0=1
theorem okTo.le {s:HL} {to:Int} (h:okTo s to) (hok:s.Ok):0≤to∧to≤4096:=by
 rcases h with rfl|⟨k,rfl,hk⟩
 ·omega
 ·have:=(hok.start hk).1;have:=hok.sl;have:=hok.b64;omega
theorem live_le {s:HL} {k:Nat} (hok:s.Ok) (hk:s.st.getD k 0=1):2*k≤4096:=by
 have:=(hok.start hk).1;have:=hok.sl;have:=hok.b64;omega
theorem field_at {s:HL} {k j:Nat} (h:s.Ok) (hk:s.st.getD k 0=1) (hj:j<(s.obAt k).rf.length):fieldO (some s) ((2*k:Nat):Int) (j:Int) false=(((2*k+2+j:Nat):Int),0):=by
 obtain⟨r,d,kk,hv,hs,hz,e1,e2,e3⟩:=obAt_rf h hk
 have hsa:s.shapeAt ((2*k:Nat):Int)=((r:Int),(d:Int),(kk:Int)):=hs
 rw[e2]at hj
 simp only[List.length_map,List.length_range]at hj
 unfold fieldO
 simp only[at_objE h hk,ne_eq,not_true_eq_false,if_false,cond_false,hsa]
 rw[if_neg (show¬((j:Int)<0∨(r:Int)≤(j:Int)) by omega)]
 refine Prod.ext ?_ rfl
 simp only;omega
theorem setRef_ok {s:HL} {k j:Nat} {to:Int} (h:s.Ok) (hk:s.st.getD k 0=1) (hj:j<(s.obAt k).rf.length) (ht:okTo s to):setRefE (some s) ((2*k:Nat):Int) (j:Int) to=0:=by
 unfold setRefE
 simp only[field_at h hk hj,ne_eq,not_true_eq_false,if_false]
 rw[if_neg]
 rintro⟨h1,h2⟩
 rcases ht with rfl|⟨k',rfl,hk'⟩
 ·exact h1 rfl
 ·rw[(has_iff h).2 ⟨k',rfl,hk'⟩]at h2;cases h2
theorem rf_le {s:HL} {k:Nat} (h:s.Ok) (hk:s.st.getD k 0=1):(s.obAt k).rf.length≤15:=by
 obtain⟨h1,_,hv⟩:=obAt_len h hk
 simp only[validS,Bool.and_eq_true,decide_eq_true_eq]at hv
 omega
theorem shape_live {s:HL} (h:s.Ok) {x:Int} (e:(shapeO (some s) x).2=0): ∃k:Nat,x=((2*k:Nat):Int)∧s.st.getD k 0=1:=by
 unfold shapeO at e
 cases hh:hasO (some s) x with
 |true=>exact(has_iff h).1 hh
 |false=>simp[objE,hh]at e
def HL.RF (s:HL) (i j:Nat):Int:=(s.obAt i).rf.getD j 0
theorem setRef_Ok {s s':HL} (h:s.Ok) {x i to:Int} (e:setRefM (some s) x i to=some s'):s'.Ok:=by
 unfold setRefM at e
 by_cases c:setRefE (some s) x i to=0
 rotate_left
 ·simp only[if_neg c,Option.some.injEq]at e;subst e;exact h
 simp only[if_pos c,Option.some.injEq]at e
 subst e
 have hf:(fieldO (some s) x i false).2=0:=by
  unfold setRefE at c
  by_cases c2:(fieldO (some s) x i false).2=0
  ·exact c2
  ·simp only[ne_eq,c2,not_false_eq_true,if_true]at c
 obtain⟨o,k,rfl,ho,hk,k1,k2,k3⟩:=field_spec h hf
 rw[hk,Int.toNat_natCast]
 exact h.setW (h.inside ho k1 k2)
theorem obAt_setRef {s s':HL} (h:s.Ok) (hok:s'.Ok) {k j:Nat} {to:Int} (hk:s.st.getD k 0=1) (hj:j<(s.obAt k).rf.length) (ht:okTo s to) (e:setRefM (some s) ((2*k:Nat):Int) (j:Int) to=some s') (i:Nat) (hi:s.st.getD i 0=1):
  s'.obAt i=if i=k then {s.obAt k with rf:=(s.obAt k).rf.set j to}else s.obAt i:=by
 obtain⟨t,e1,e2,e3,e4,e5,e6⟩:=abs_setRef h ((2*k:Nat):Int) (j:Int) to
 have hts:s'=t:=Option.some.inj (e.symm.trans e1)
 subst hts
 have ho:s'.objs=s.objs:=by unfold HL.objs;rw[e4]
 obtain⟨a,ha,hae⟩:=objs_index hk
 obtain⟨c,hc,hce⟩:=objs_index hi
 have hE:s.abs.setRefR ((2*k:Nat):Int) (j:Int) to=0:=by rw[abs_setRefE h];exact setRef_ok h hk hj ht
 have g1:s'.abs.O.getD c default=s'.obAt i:=abs_get (by rw[ho];exact hc) (by rw[ho];exact hce)
 have g2:s.abs.O.getD c default=s.obAt i:=abs_get hc hce
 have g3:s.abs.O.getD a default=s.obAt k:=abs_get ha hae
 rw[←g1,e2]
 unfold RL.setRefM
 rw[if_pos hE]
 unfold RL.upd
 rw[abs_ix ha hae]
 show(s.abs.O.set a {s.abs.O.getD a default with rf:=(s.abs.O.getD a default).rf.set (j:Int).toNat to}).getD c default=_
 have hl:s.abs.O.length=s.objs.length:=by simp[HL.abs]
 rw[g3,Int.toNat_natCast]
 by_cases hik:i=k
 ·subst hik
  rw[if_pos rfl]
  have hac:a=c:=by
   have:=(abs_ix ha hae).symm.trans (abs_ix hc hce)
   exact Option.some.inj this
  subst hac
  rw[List.getD_eq_getElem?_getD,List.getElem?_set_self (by omega)];rfl
 ·rw[if_neg hik]
  have hac:a≠c:=fun e=>hik (by rw[←hce,←hae,e])
  rw[List.getD_eq_getElem?_getD,List.getElem?_set_ne hac,←List.getD_eq_getElem?_getD,g2]
end Go.Proofs.YteiildhelefodaaGreat
end
section
namespace Go.Proofs.YteiildhelefodaaGreat
set_option maxRecDepth 8000
end Go.Proofs.YteiildhelefodaaGreat
end
section
namespace Go.Proofs.YteiildhelefodaaGreat
set_option maxRecDepth 8000
structure SCs (w:World) (b hb rb qb kb:Nat) (s:HL) (R:Rt.MS) (fh fr ff fk:List Nat):Prop where
 at_:At w b [.pointer (some ⟨hb,0,none⟩),.pointer (some ⟨rb,0,none⟩),.pointer (some ⟨qb,0,none⟩),.pointer (some ⟨kb,0,none⟩)]
 inv:s.Inv
 h:HR w (some ⟨hb,0,none⟩) fh (some s)
 r:Rt.PR w (some ⟨rb,0,none⟩) fr (some R)
 f:FM w qb s.abs ff
 k:Rt.RR w (some ⟨kb,0,none⟩) fk (some R)
 d1:b∉fh∧b∉fr∧b∉ff∧b∉fk
 d2: ∀x,x∈fh→x∉fr∧x∉ff∧x∉fk
 d3: ∀x,x∈fr→x∉ff∧x∉fk
 d4: ∀x,x∈ff→x∉fk
def SC (w:World) (b:Nat) (s:HL) (R:Rt.MS) (fp:List Nat):Prop:= ∃hb rb qb kb fh fr ff fk,fp=b::(fh++(fr++(ff++fk)))∧SCs w b hb rb qb kb s R fh fr ff fk
section
variable {w w':World} {b hb rb qb kb:Nat} {s:HL} {R:Rt.MS} {fh fr ff fk:List Nat}
theorem SCs.keep {S:List Nat} (h:SCs w b hb rb qb kb s R fh fr ff fk) (o:Only S w w') (hd: ∀x,x∈b::(fh++(fr++(ff++fk)))→x∉S):SCs w' b hb rb qb kb s R fh fr ff fk:=
 ⟨h.at_.keep o (hd b (by simp)),h.inv,h.h.keep o fun x hx=>hd x (by simp[hx]),h.r.keep o fun x hx=>hd x (by simp[hx]),h.f.keep o fun x hx=>hd x (by simp[hx]),h.k.keep o fun x hx=>hd x (by simp[hx]),h.d1,h.d2,h.d3,h.d4⟩
theorem SCs.keep0 (h:SCs w b hb rb qb kb s R fh fr ff fk) (o:Only [] w w'):SCs w' b hb rb qb kb s R fh fr ff fk:=h.keep o fun _ _=>by simp
theorem SCs.lt (h:SCs w b hb rb qb kb s R fh fr ff fk): ∀x,x∈b::(fh++(fr++(ff++fk)))→x<w.heap.size:=by
 intro x hx
 simp only[List.mem_cons,List.mem_append]at hx
 rcases hx with rfl|hx|hx|hx|hx
 ·exact h.at_.lt
 ·exact h.h.lt x hx
 ·exact h.r.lt x hx
 ·exact h.f.lt x hx
 ·exact h.k.lt x hx
end
end Go.Proofs.YteiildhelefodaaGreat
end
section
namespace Go.Proofs.YteiildhelefodaaGreat
set_option maxRecDepth 8000
def u8V (a:Nat):Value:=.int .u8 (a:Int)
theorem dv5 (v:Value):divO 5 v=some v:=Eq.trans rfl rfl
theorem dv6 (v:Value):divO 6 v=some v:=Eq.trans rfl rfl
theorem dv3 (v:Value):divO 3 v=some v:=Eq.trans rfl rfl
theorem dv100 (v:Value):divO 100 v=some v:=Eq.trans rfl rfl
theorem dv23 (v:Value):divO 23 v=some v:=Eq.trans rfl rfl
theorem dv4 (v:Value):divO 4 v=some v:=Eq.trans rfl rfl
theorem dv40 (v:Value):divO 40 v=some v:=Eq.trans rfl rfl
attribute [go_sem] dv5 dv6 dv3 dv100 dv23 dv4 dv40
theorem Only.weak {S T:List Nat} {a b:World} (h:Only S a b) (hs: ∀x,x∈S→x∈T):Only T a b:=h.mono fun x hx=>.inl (hs x hx)
def RfP (P:Int→Prop) (q:RL):Prop:= ∀o,o∈q.O→ ∀r,r∈o.rf→P r
abbrev RfOk (q:RL):Prop:=RfP (fun r=>0≤r∧r≤4096) q
theorem RfP.mono {P Q:Int→Prop} {q:RL} (h:RfP P q) (hp: ∀x,P x→Q x):RfP Q q:=fun o ho r hr=>hp r (h o ho r hr)
theorem RfP.claimM {P:Int→Prop} {q:RL} (h:RfP P q) (k sp:Int):RfP P (q.claimM k sp):=by
 unfold RL.claimM;split
 ·exact h
 ·exact h
theorem RfP.placeM {P:Int→Prop} {q:RL} (h:RfP P q) (h0:P 0) (a:Int) (sh:Sh):RfP P (q.placeM a sh):=by
 unfold RL.placeM
 split
 ·intro o ho
  simp only[RL.putM,List.mem_append,List.mem_singleton]at ho
  rcases ho with(ho|rfl)|ho
  ·exact h o (List.mem_of_mem_take ho)
  ·intro r hr
   simp only[RL.newOb,List.mem_replicate]at hr
   rw[hr.2];exact h0
  ·exact h o (List.mem_of_mem_drop ho)
 ·exact h
theorem mem_upd {q:RL} {x:Int} {f:Ob→Ob} {o:Ob} (h:o∈(q.upd x f).O):o∈q.O∨ ∃p,p∈q.O∧o=f p:=by
 unfold RL.upd at h
 split at h
 ·exact .inl h
 ·rename_i k hk
  have hl:=(ixO_spec hk).1
  rcases List.mem_or_eq_of_mem_set h with h|h
  ·exact .inl h
  ·exact .inr ⟨_,by simp[hl],h⟩
theorem RfP.pinM {P:Int→Prop} {q:RL} (h:RfP P q) (x:Int) (p:Bool):RfP P (q.pinM x p):=by
 intro o ho
 rcases mem_upd ho with ho|⟨p',hp,rfl⟩
 ·exact h o ho
 ·exact h p' hp
theorem RfP.killM {P:Int→Prop} {q:RL} (h:RfP P q) (x:Int):RfP P (q.killM x):=by
 unfold RL.killM;split
 ·exact h
 ·exact fun o ho=>h o (List.mem_of_mem_eraseIdx ho)
theorem RfP.setRefM {P:Int→Prop} {q:RL} (h:RfP P q) (x i to:Int) (ht:P to):RfP P (q.setRefM x i to):=by
 unfold RL.setRefM;split
 ·intro o ho
  rcases mem_upd ho with ho|⟨p',hp,rfl⟩
  ·exact h o ho
  ·intro r hr
   rcases List.mem_or_eq_of_mem_set hr with hr|hr
   ·exact h p' hp r hr
   ·rw[hr];exact ht
 ·exact h
def Step (s s':HL):Prop:=s'.Inv∧s'.born≤s.born+1∧s'.objs.length≤s.objs.length+1∧s'.B.length=s.B.length∧ ∀P:Int→Prop,P 0→RfP P s.abs→RfP P s'.abs
end Go.Proofs.YteiildhelefodaaGreat
end
section
namespace Go.Proofs.YteiildhelefodaaGreat
set_option maxRecDepth 8000
end Go.Proofs.YteiildhelefodaaGreat
end
section
namespace Go.Proofs.YteiildhelefodaaGreat
set_option maxRecDepth 8000
def U8At (h0:Nat) (w:World) (v:Value) (n sz:Nat) (f:Nat→Nat→Nat):Prop:= ∃(a:Option Addr) (cap:Nat),v=.slice a n cap∧(∀i j,f i j<256)∧ ∀i,i<n→ ∃p,a=some p∧p.block<h0∧ ∀j,j<sz→w.cell? ((p.add (i*sz)).add j)=some (u8V (f i j))
theorem U8At.keep {h0:Nat} {w w':World} {v:Value} {n sz:Nat} {f:Nat→Nat→Nat} {S:List Nat} (h:U8At h0 w v n sz f) (hz:h0≤w.heap.size) (o:Only S w w') (hs: ∀x,x∈S→h0≤x):U8At h0 w' v n sz f:=by
 obtain⟨a,c,e,hf,hc⟩:=h
 refine⟨a,c,e,hf,fun i hi=>?_⟩
 obtain⟨p,e1,e2,e3⟩:=hc i hi
 refine⟨p,e1,e2,fun j hj=>?_⟩
 rw[cell_of_heap (w:=w) (w':=w') (by rw[add_block,add_block];exact o.block _ (by omega) fun hx=>by have:=hs _ hx;omega)]
 exact e3 j hj
structure BG where
 bl:Nat
 mu:Nat
 nO:Nat
 nD:Nat
 nL:Nat
 nP:Nat
 nN:Nat
 fO:Nat→Nat→Nat
 fD:Nat→Nat→Nat
 fL:Nat→Nat→Nat
 fP:Nat→Nat→Nat
 fN:Nat→Nat→Nat
structure BegAt (h0:Nat) (w:World) (cs:List Value) (g:BG) (vO vD vL vP vN:Value):Prop where
 e:cs=[u8V g.bl,u8V g.mu,vO,vD,vL,vP,vN]
 l0:g.bl<256
 l1:g.mu<256
 o:U8At h0 w vO g.nO 4 g.fO
 d:U8At h0 w vD g.nD 1 g.fD
 l:U8At h0 w vL g.nL 3 g.fL
 p:U8At h0 w vP g.nP 2 g.fP
 n:U8At h0 w vN g.nN 1 g.fN
def Sz (s:HL) (n nb:Nat):Prop:=s.born≤n∧s.objs.length≤n∧s.B.length=nb∧RfOk s.abs
theorem Sz.mono {s:HL} {n m nb:Nat} (h:Sz s n nb) (hm:n≤m):Sz s m nb:=⟨by have:=h.1;omega,by have:=h.2.1;omega,h.2.2⟩
theorem Sz.step {s s':HL} {n nb:Nat} (h:Sz s n nb) (e:Step s s'):Sz s' (n+1) nb:=⟨by have:=h.1;have:=e.2.1;omega,by have:=h.2.1;have:=e.2.2.1;omega,by rw[e.2.2.2.1];exact h.2.2.1,e.2.2.2.2 _ ⟨by omega,by omega⟩ h.2.2.2⟩
def Liv (s:HL) (x:Int):Prop:= ∃k:Nat,x=((2*k:Nat):Int)∧s.st.getD k 0=1
def PhP (ph:Bool) (s:HL) (x:Int):Prop:=x=0∨ph=true∧Liv s x
def RtP (P:Int→Prop) (R:Rt.MS):Prop:=(∀x,x∈R.S→P x)∧(∀x,x∈R.G→P x)∧ ∀x,x∈R.Q→P x
def Snd (ph:Bool) (s:HL) (R:Rt.MS):Prop:=RfP (PhP ph s) s.abs∧RtP (PhP ph s) R
theorem RtP.mono {P Q:Int→Prop} {R:Rt.MS} (h:RtP P R) (hp: ∀x,P x→Q x):RtP Q R:=⟨fun x hx=>hp x (h.1 x hx),fun x hx=>hp x (h.2.1 x hx),fun x hx=>hp x (h.2.2 x hx)⟩
theorem PhP.st {ph:Bool} {s s':HL} {x:Int} (h:PhP ph s x) (e:s'.st=s.st):PhP ph s' x:=h.imp id fun⟨h1,k,h2,h3⟩=>⟨h1,k,h2,by rw[e];exact h3⟩
theorem PhP.f {s s':HL} {x:Int} (h:PhP false s x):PhP false s' x:=h.imp id fun h=>by cases h.1
theorem Snd.st {ph:Bool} {s s':HL} {R:Rt.MS} (h:Snd ph s R) (e:s'.st=s.st) (hr:RfP (PhP ph s) s'.abs):Snd ph s' R:=⟨hr.mono fun _ h=>h.st e,h.2.mono fun _ h=>h.st e⟩
theorem Snd.f {s s':HL} {R:Rt.MS} (h:Snd false s R) (hr:RfP (PhP false s) s'.abs):Snd false s' R:=⟨hr.mono fun _ h=>h.f,h.2.mono fun _ h=>h.f⟩
theorem Snd.up {ph:Bool} {s:HL} {R:Rt.MS} (h:Snd false s R):Snd ph s R:=⟨h.1.mono fun _ h=>.inl (h.elim id fun h=>by cases h.1),h.2.mono fun _ h=>.inl (h.elim id fun h=>by cases h.1)⟩
abbrev HS:=HL×Rt.MS
def OpI (w1 w:World) (b n nb:Nat) (ph:Bool) (Q:HS→Prop):Prop:= ∃s R fp,SC w b s R fp∧(∀x,x∈fp→w1.heap.size≤x)∧Only [] w1 w∧Sz s n nb∧Snd ph s R∧Q (s,R)
theorem OpI.mono {w1 w:World} {b n m nb:Nat} {ph:Bool} {Q:HS→Prop} (h:OpI w1 w b n nb ph Q) (hm:n≤m):OpI w1 w b m nb ph Q:=by
 obtain⟨s,R,fp,h1,h2,h3,h4,h5⟩:=h
 exact⟨s,R,fp,h1,h2,h3,h4.mono hm,h5⟩
theorem OpI.up {w1 w:World} {b n nb:Nat} {ph:Bool} {Q:HS→Prop} (h:OpI w1 w b n nb false Q):OpI w1 w b n nb ph Q:=by
 obtain⟨s,R,fp,h1,h2,h3,h4,h5⟩:=h
 exact⟨s,R,fp,h1,h2,h3,h4,h5.1.up,h5.2⟩
theorem OpI.keep0 {w1 w w':World} {b n nb:Nat} {ph:Bool} {Q:HS→Prop} (h:OpI w1 w b n nb ph Q) (o:Only [] w w'):OpI w1 w' b n nb ph Q:=by
 obtain⟨s,R,fp,⟨hb,rb,qb,kb,fh,fr,ff,fk,e,h1⟩,h2,h3,h4⟩:=h
 exact⟨s,R,fp,⟨hb,rb,qb,kb,fh,fr,ff,fk,e,h1.keep0 o⟩,h2,h3.nil o,h4⟩
theorem OpI.next {w1 w w':World} {b n nb:Nat} {ph:Bool} {Q:HS→Prop} {hb rb qb kb:Nat} {s':HL} {R':Rt.MS} {fh fr ff fk fh' fr' ff' fk':List Nat} (h2: ∀x,x∈b::(fh++(fr++(ff++fk)))→w1.heap.size≤x) (h3:Only [] w1 w) (h:SCs w' b hb rb qb kb s' R' fh' fr' ff' fk')
  (o:Only (b::(fh++(fr++(ff++fk)))) w w') (hn: ∀x,x∈b::(fh'++(fr'++(ff'++fk')))→x∈b::(fh++(fr++(ff++fk)))∨w.heap.size≤x) (hz:Sz s' n nb) (hd:Snd ph s' R') (hQ:Q (s',R')):OpI w1 w' b n nb ph Q:=
 ⟨s',R',_,⟨hb,rb,qb,kb,fh',fr',ff',fk',rfl,h⟩,fun x hx=>(hn x hx).elim (h2 x) fun h=>by have:=h3.size;omega,h3.trans o fun x hx=>.inr (h2 x hx),hz,hd,hQ⟩
theorem SC.parts {w:World} {b:Nat} {s:HL} {R:Rt.MS} {fp:List Nat} (h:SC w b s R fp): ∃hb rb qb kb fh fr ff fk,fp=b::(fh++(fr++(ff++fk)))∧SCs w b hb rb qb kb s R fh fr ff fk:=h
end Go.Proofs.YteiildhelefodaaGreat
end
section
namespace Go.Proofs.YteiildhelefodaaGreat
set_option maxRecDepth 8000
def softI (kd:Int) (i:Nat):Bool:=(i==0&&(kd==1||kd==2))||(i==1&&kd==2)
def strongR (kd:Int):Nat→List Int→List Int
 |_,[]=>[]
 |i,x::l=>(if x≠0∧softI kd i=false then [x]else [])++strongR kd (i+1) l
theorem mem_strongR {kd:Int}: ∀ {l:List Int} {i:Nat} {y:Int},y∈strongR kd i l↔ ∃j,j<l.length∧y=l.getD j 0∧y≠0∧softI kd (i+j)=false
 | [],i,y=>by simp[strongR]
 |x::l,i,y=>by
  unfold strongR
  rw[List.mem_append,mem_strongR]
  constructor
  ·rintro(h|⟨j,h1,h2,h3,h4⟩)
   ·split at h
    ·rename_i c
     simp only[List.mem_singleton]at h
     subst h
     exact⟨0,by simp,by simp,c.1,by simpa using c.2⟩
    ·cases h
   ·exact⟨j+1,by simpa using h1,by simpa using h2,h3,by rw[←Nat.add_assoc,Nat.add_right_comm];exact h4⟩
  ·rintro⟨j,h1,h2,h3,h4⟩
   cases j with
   |zero=>
    left
    simp only[List.getD_cons_zero]at h2
    subst h2
    rw[if_pos ⟨h3,by simpa using h4⟩];simp
   |succ j=>exact .inr ⟨j,by simpa using h1,by simpa using h2,h3,by rw[Nat.add_right_comm,Nat.add_assoc];exact h4⟩
theorem strongR_len {kd:Int}: ∀ {l:List Int} {i:Nat},(strongR kd i l).length≤l.length
 | [],_=>Nat.le_refl _
 |x::l,i=>by
  unfold strongR
  have:=strongR_len (kd:=kd) (l:=l) (i:=i+1)
  rw[List.length_append,List.length_cons]
  split<;>simp<;>omega
theorem strongR_snoc {kd:Int}: ∀(l:List Int) (i:Nat) (x:Int),strongR kd i (l++[x])=strongR kd i l++(if x≠0∧softI kd (i+l.length)=false then [x]else [])
 | [],i,x=>by simp[strongR]
 |y::l,i,x=>by
  simp only[List.cons_append,strongR]
  rw[strongR_snoc l (i+1) x,List.append_assoc,List.length_cons,Nat.add_right_comm,Nat.add_assoc]
def strongO (m:HO) (x:Int):List Int:=strongR (shapeO m x).1.2.2 0 (refsO m x)
structure Vis (s:HL) (F K K':List Int):Prop where
 nd:K'.Nodup
 sub: ∀x,x∈K→x∈K'
 liv: ∀x,x∈K'→x∈K∨Liv s x
 clo: ∀x,x∈K'→x∉K→ ∀y,y∈strongO (some s) x→Liv s y→y∈K'
 ind: ∀P:Int→Prop,(∀x,x∈F→Liv s x→P x)→(∀x y,Liv s x→P x→y∈strongO (some s) x→Liv s y→P y)→ ∀x,x∈K'→x∈K∨P x
theorem Vis.refl {s:HL} {F K:List Int} (h:K.Nodup):Vis s F K K:=⟨h,fun _ h=>h,fun _ h=>.inl h,fun x h1 h2=>absurd h1 h2,fun _ _ _ _ h=>.inl h⟩
theorem Vis.mono {s:HL} {F G K K':List Int} (h:Vis s F K K') (hf: ∀x,x∈F→x∈G):Vis s G K K':=⟨h.nd,h.sub,h.liv,h.clo,fun P h1 h2=>h.ind P (fun x hx=>h1 x (hf x hx)) h2⟩
theorem Vis.trans {s:HL} {F K K1 K2:List Int} (h:Vis s F K K1) (h':Vis s F K1 K2):Vis s F K K2 where
 nd:=h'.nd
 sub:=fun x hx=>h'.sub x (h.sub x hx)
 liv:=fun x hx=>(h'.liv x hx).elim (h.liv x) .inr
 clo:=fun x hx hn y hy hv=>by
  by_cases c:x∈K1
  ·exact h'.sub y (h.clo x c hn y hy hv)
  ·exact h'.clo x hx c y hy hv
 ind:=fun P h1 h2 x hx=>(h'.ind P h1 h2 x hx).elim (h.ind P h1 h2 x) .inr
theorem Vis.enter {s:HL} {K K':List Int} {a:Int} (hv:Liv s a) (hn:a∉K) (h:Vis s (strongO (some s) a) (K++[a]) K') (hc: ∀y,y∈strongO (some s) a→Liv s y→y∈K'):Vis s [a] K K' where
 nd:=h.nd
 sub:=fun x hx=>h.sub x (by simp[hx])
 liv:=fun x hx=>(h.liv x hx).elim (fun hx=>(List.mem_append.1 hx).elim .inl fun e=>.inr (by simp only[List.mem_singleton]at e;rw[e];exact hv)) .inr
 clo:=fun x hx hxn y hy hyv=>by
  by_cases c:x=a
  ·rw[c]at hy;exact hc y hy hyv
  ·exact h.clo x hx (by simp[hxn,c]) y hy hyv
 ind:=fun P h1 h2 x hx=>by
  have ha:P a:=h1 a (by simp) hv
  rcases h.ind P (fun y hy hyv=>h2 a y hv ha hy hyv) h2 x hx with h|h
  ·rcases List.mem_append.1 h with h|h
   ·exact .inl h
   ·simp only[List.mem_singleton]at h;rw[h];exact .inr ha
  ·exact .inr h
theorem nodup_sub: ∀ {l m:List Int},l.Nodup→(∀x,x∈l→x∈m)→l.length≤m.length:=by
 intro l
 induction l with
 |nil=>intro m _ _;exact Nat.zero_le _
 |cons y l ih=>
  intro m h hm
  obtain⟨h1,h2⟩:=List.nodup_cons.1 h
  have hy:y∈m:=hm y (by simp)
  have:=ih (m:=m.erase y) h2 fun x hx=>(List.mem_erase_of_ne (fun e=>h1 (by rw[←e];exact hx))).2 (hm x (by simp[hx]))
  rw[List.length_erase_of_mem hy]at this
  have:=List.length_pos_of_mem hy
  simp only[List.length_cons];omega
theorem rise_len {K K':List Int} (hs: ∀x,x∈K→x∈K') (_:K'.Nodup) (h:K.Nodup):K.length≤K'.length:=nodup_sub h hs
theorem nodup_le {s:HL} {K:List Int} (hn:K.Nodup) (hl: ∀x,x∈K→Liv s x):K.length≤s.objs.length:=by
 have:=nodup_sub (m:=s.objs.map fun k=>((2*k:Nat):Int)) hn fun x hx=>by
  obtain⟨k,rfl,hk⟩:=hl x hx
  exact List.mem_map.2 ⟨k,mem_objs.2 hk,rfl⟩
 simpa using this
end Go.Proofs.YteiildhelefodaaGreat
end
section
namespace Go.Proofs.YteiildhelefodaaGreat
set_option maxRecDepth 8000
open Go.MapKept Go.ChangeMaps
theorem filter_erase {α:Type} {p:α→Bool}: ∀ {l:List α} {j:Nat} {e:α},l[j]? =some e→p e=false→(l.eraseIdx j).filter p=l.filter p
 | [],j,e,h,_=>by simp at h
 |x::l,0,e,h,hp=>by
  simp only[List.getElem?_cons_zero,Option.some.injEq]at h
  subst h
  simp[hp]
 |x::l,j+1,e,h,hp=>by
  have ih:=filter_erase (l:=l) (j:=j) (by simpa using h) hp
  simp only[List.eraseIdx_cons_succ,List.filter_cons,ih]
section
variable {P:Program} {t kt et:TypeId} {w:World} {b:Nat} {m:IM} {k:Int}
theorem run_delI {ty ku:TypeId} {r:Nat} {left:IM} (ht:P.underlying t=some (.map kt et)) (hd:P.underlying kt=some (.int .i64)) (h:ItAt w r b m left) (hk: ∀q,q∈left→q.1≠k):
  ∃w',(Builtin.delete_ #[t,ku] ty #[.map (some b),.int .i64 k]).run P w=.ok (.tuple #[]) w'∧w'.heap.size=w.heap.size∧ItAt w' r b (delM m k) left∧Only [b] w w':=by
 have hn:=h.map.nodup
 obtain⟨es,clock,since,c0,seen,hb,h2,h3,h4,hsc,hm,hs,h7⟩:=h
 have hlt:b<w.heap.size:=(Array.getElem?_eq_some_iff.1 hb).1
 have hbr:b≠r:=by rintro rfl;rw[hb]at h2;cases h2
 have hset: ∀o:Obj,(setBlock w b o).heap[b]? =some o:=fun o=>by simp[setBlock,hlt]
 have hsr: ∀o:Obj,(setBlock w b o).heap[r]? =some (.mapIter (some b) since seen c0):=fun o=>by simp[setBlock,hbr,h2]
 rcases findM hm hn k undef with⟨h1,_,_,_,h6⟩|⟨j,e,h1,he,hek,_,_,h5⟩
 ·refine⟨setBlock w b (.map es clock),?_,size_setBlock,⟨es,clock,since,c0,seen,hset _,hsr _,h3,h4,hsc,by rw[h6];exact hm,hs,h7⟩,only_setBlock⟩
  simp[Builtin.delete_,run_underlying ht,MapKept.run_getObj_map hb,run_checkKey hd (k:=.int .i64 k) rfl,run_findKey hd h1,MapKept.run_setObj_map _ hb,Result.andThen,setBlock]
 ·have hj:j<es.size:=by
   have:=(List.getElem?_eq_some_iff.1 he).1
   simpa using this
  have hel:(es.eraseIdxIfInBounds j).toList=es.toList.eraseIdx j:=by simp[Array.eraseIdxIfInBounds,hj]
  have hp:(!seen.contains e.born)=false:=by
   cases hc:seen.contains e.born with
   |true=>rfl
   |false=>
    exfalso
    have hmem:e∈(leftOf es seen).toList:=by
     unfold leftOf
     rw[Array.toList_filter,List.mem_filter]
     exact⟨List.mem_of_getElem? he,by rw[hc];rfl⟩
    obtain⟨i,hi,hie⟩:=List.mem_iff_getElem.1 hmem
    obtain⟨q,hq1,hq2,_⟩:=h7.at (by rw[List.getElem?_eq_getElem hi,hie])
    refine hk q (List.mem_of_getElem? hq1) ?_
    rw[hek]at hq2
    injection hq2 with _ h
    exact h.symm
  have hle:(leftOf (es.eraseIdxIfInBounds j) seen).toList=(leftOf es seen).toList:=by
   unfold leftOf
   rw[Array.toList_filter,Array.toList_filter,hel]
   exact filter_erase he hp
  refine⟨setBlock w b (.map (es.eraseIdxIfInBounds j) clock),?_,size_setBlock,⟨es.eraseIdxIfInBounds j,clock,since,c0,seen,hset _,hsr _,fun x hx=>h3 x ?_,h4,hsc,?_,stamped_erase hs j,by rw[hle];exact h7⟩,only_setBlock⟩
  ·simp[Builtin.delete_,run_underlying ht,MapKept.run_getObj_map hb,run_checkKey hd (k:=.int .i64 k) rfl,run_findKey hd h1,MapKept.run_setObj_map _ hb,Result.andThen,setBlock]
  ·rw[hel]at hx;exact List.mem_of_mem_eraseIdx hx
  ·rw[h5]
   unfold MEs
   rw[hel,map_eraseIdx,map_eraseIdx,show es.toList.map (fun e=>(e.key,e.val))=_ from hm]
end
section
variable {P:Program} {t kt et:TypeId} {w:World} {b:Nat} {m:IM} {k:Int} {d:Option Nat} {rest:List XO} {ρ:Env} {C:Env→World→Prop}
theorem mdelI {ku:TypeId} {r:Nat} {left:IM} (ht:P.underlying t=some (.map kt et)) (hd:P.underlying kt=some (.int .i64)) (h:ItAt w r b m left) (hk: ∀q,q∈left→q.1≠k) (h2: ∀w',w'.heap.size=w.heap.size→ItAt w' r b (delM m k) left→Only [b] w w'→VO P rest (putO ρ d (.tuple #[])) w' C):
  RunT P (Builtin.delete_ #[t,ku] 0 #[.map (some b),.int .i64 k]) d rest ρ w C:=by
 obtain⟨w',h3,h4,h5,h6⟩:=run_delI (k:=k) ht hd h hk
 exact runT h3 (h2 w' h4 h5 h6)
end
end Go.Proofs.YteiildhelefodaaGreat
end
section
namespace Go.Proofs.YteiildhelefodaaGreat
set_option maxRecDepth 8000
def setM (K:List Int):IM:=K.map fun x=>(x,Value.bool true)
def MB (w:World) (b:Nat) (K:List Int):Prop:=MpAt w b (setM K)
theorem setM_keys (K:List Int):(setM K).map (·.1)=K:=by
 induction K with
 |nil=>rfl
 |cons y K ih=>exact congrArg (y:: ·) ih
theorem setM_len (K:List Int):(setM K).length=K.length:=by simp[setM]
theorem getM_set (K:List Int) (x:Int):getM (setM K) x=if x∈K then some (.bool true)else none:=by
 induction K with
 |nil=>rfl
 |cons y K ih=>
  have e:setM (y::K)=(y,Value.bool true)::setM K:=rfl
  rw[e]
  unfold getM
  by_cases c:y=x
  ·rw[if_pos c,if_pos (by simp[c])]
  ·rw[if_neg c,ih]
   by_cases c2:x∈K
   ·rw[if_pos c2,if_pos (by simp[c2])]
   ·rw[if_neg c2,if_neg (by simp[c2];exact fun e=>c e.symm)]
theorem getM_setD (K:List Int) (x:Int):(getM (setM K) x).getD (.bool false)=.bool (decide (x∈K)):=by
 rw[getM_set]
 by_cases c:x∈K
 ·rw[if_pos c,decide_eq_true c];rfl
 ·rw[if_neg c,decide_eq_false c];rfl
theorem putM_set {K:List Int} {x:Int} (h:x∉K):putM (setM K) x (.bool true)=setM (K++[x]):=by
 rw[(M_no (m:=setM K) (k:=x) (.bool true) fun p hp e=>h ?_).2.1]
 ·simp[setM]
 ·simp only[setM,List.mem_map]at hp
  obtain⟨y,hy,rfl⟩:=hp
  simp only at e
  rw[←e];exact hy
theorem delM_set {K:List Int} {x:Int}:delM (setM K) x=setM (K.erase x):=by
 induction K with
 |nil=>rfl
 |cons y K ih=>
  have e:setM (y::K)=(y,Value.bool true)::setM K:=rfl
  rw[e]
  unfold delM
  by_cases c:y=x
  ·rw[if_pos c,c,List.erase_cons_head]
  ·rw[if_neg c,ih,List.erase_cons_tail (by simpa using c)]
   rfl
theorem MB.keep {w w':World} {b:Nat} {K:List Int} {S:List Nat} (h:MB w b K) (k:Only S w w') (hd:b∉S):MB w' b K:=MpAt.keep h k hd
theorem MB.keep0 {w w':World} {b:Nat} {K:List Int} (h:MB w b K) (k:Only [] w w'):MB w' b K:=MpAt.keep0 h k
theorem MB.nodup {w:World} {b:Nat} {K:List Int} (h:MB w b K):K.Nodup:=by
 have:=MpAt.nodup h;rwa[setM_keys]at this
end Go.Proofs.YteiildhelefodaaGreat
end
section
namespace Go.Proofs.YteiildhelefodaaGreat
set_option maxRecDepth 8000
theorem cSoft (w:World) (kd:Int) (i:Nat):Cs Tryz.prog 216 [.int .i64 kd,.int .i64 (i:Int)] w fun v w'=>v=.bool (softI kd i)∧w'=w:=by
 refine enter_place_Soft rfl ?_
 unfold x_place_Soft
 unfold softI
 by_cases i0:i=0
 ·have e0:((i:Int)==0)=true:=beq_int_true (by omega)
  have e1:((i:Int)==1)=false:=beq_int_false (by omega)
  have n0:(i==0)=true:=by simp[i0]
  have n1:(i==1)=false:=by simp[i0]
  by_cases k1:kd=1
  ·refine gO5 e0 e1 n0 n1 (beq_int_true k1) ?_
   simp
  ·by_cases k2:kd=2
   ·refine gO6 e0 e1 n0 n1 (beq_int_false k1) (beq_int_true k2) ?_
    simp
   ·refine gO6 e0 e1 n0 n1 (beq_int_false k1) (beq_int_false k2) ?_
    simp
 ·have e0:((i:Int)==0)=false:=beq_int_false (by omega)
  have n0:(i==0)=false:=by simp[i0]
  by_cases i1:i=1
  ·have e1:((i:Int)==1)=true:=beq_int_true (by omega)
   have n1:(i==1)=true:=by simp[i1]
   by_cases k2:kd=2
   ·refine gO5 e0 e1 n0 n1 (beq_int_true k2) ?_
    simp
   ·refine gO5 e0 e1 n0 n1 (beq_int_false k2) ?_
    simp
  ·have e1:((i:Int)==1)=false:=beq_int_false (by omega)
   have n1:(i==1)=false:=by simp[i1]
   refine gO4 e0 e1 n0 n1 ?_
   simp
theorem refs_le {s:HL} (h:s.Ok) (x:Int):(refsO (some s) x).length≤15:=by
 unfold refsO
 rw[List.length_map,List.length_range]
 by_cases c:(shapeO (some s) x).2=0
 ·obtain⟨k,rfl,hk⟩:=shape_live h c
  rw[at_shape h hk]
  have:=rf_le h hk
  have:=(obAt_len h hk).1
  simp only
  omega
 ·unfold shapeO at c⊢
  cases hh:hasO (some s) x with
  |true=>simp[objE,hh]at c
  |false=>simp[objE,hh]
theorem cStrong {w:World} {a:Option Addr} {fp:List Nat} {s:HL} (h:HR w a fp (some s)) (hs:s.Ok) (x:Int) (hx:x≤4611686018427387904):Cs Tryz.prog 214 [.pointer a,.int .i64 x] w fun v w'=>Only [] w w'∧ ∃fq,Sl w' 1 v (strongO (some s) x).length (ints (strongO (some s) x)) fq∧ ∀y,y∈fq→w.heap.size≤y:=by
 have hl15:=refs_le hs x
 refine enter_place_Strong rfl ?_
 unfold x_place_Strong
 refine gO ?_
 refine callT (hShape h x hx) ?_
 rintro _ w1 ⟨rfl,ho1⟩
 refine gO ?_
 refine boxT fun q w2 hq hs2 hat2 ho2=>?_
 refine gO ?_
 refine stNT (cs:=shV (shapeO (some s) x).1) hat2 rfl (by simp[shV]) (shV_one _) fun w3 hs3 hat3 ho3=>?_
 rw[setL_sh]at hat3
 have o3:Only [] w w3:=ho1.nil (ho2.trans ho3 fun y hy=>by simp only[List.mem_singleton]at hy;subst hy;exact .inr (by omega))
 refine gO ?_
 refine callT (hRefs (h.keep0 o3) x hx) ?_
 rintro v w4 ⟨ho4,fr,hr4,_⟩
 obtain⟨l,hl⟩: ∃l,l=refsO (some s) x:=⟨_,rfl⟩
 obtain⟨kd,hkd⟩: ∃kd,kd=(shapeO (some s) x).1.2.2:=⟨_,rfl⟩
 unfold strongO
 rw[←hl]at hr4 hl15
 rw[←hl,←hkd]
 obtain⟨ar,cr,rfl⟩:=hr4.val
 have o4:=o3.nil ho4
 have hat4:=hat3.keep0 ho4
 refine gO ?_
 refine run_loop (7::8::9::20::21::22::23::24::25::26::27::28::29::30::31::32::33::34::35::36::37::38::[]) (fun g w'=> ∃(i:Nat) (fq:List Nat),g 20=.int .i64 (i:Int)∧i≤l.length∧Only [] w4 w'∧Sl w' 1 (g 7) (strongR kd 0 (l.take i)).length (ints (strongR kd 0 (l.take i))) fq∧ ∀y,y∈fq→w4.heap.size≤y) (fun g _=>upTo l.length 20 g)
  ⟨0,[],by simp only[go_sem];rfl,by omega,Only.refl _ _,by simp only[go_sem];exact Sl.nil1 _,fun y hy=>absurd hy (by simp)⟩ fun g w5 hI hnext=>?_
 obtain⟨i,fq,h20,hi,ho5,hq5,ge5⟩:=hI
 by_cases c1:i<l.length
 rotate_left
 ·refine gO2 h20 (decide_eq_false (show¬(i:Int)<(l.length:Int) by omega)) ?_
  rw[List.take_of_length_le (by omega)]at hq5
  exact⟨o4.nil ho5,fq,hq5,fun y hy=>by have:=ge5 y hy;have:=o4.size;omega⟩
 obtain⟨gr,_,yr,er,hatr,_,_⟩:=(hr4.keep0 ho5).pos (by omega)
 cases er
 have ci:(0:Int)≤(i:Int)∧(i:Int)<(l.length:Int):=by omega
 have vr:w5.cell? ⟨gr,i,none⟩=some (.int .i64 (l.getD i 0)):=by rw[hatr.cell];exact ints_append_get yr (by omega)
 have hk5:w5.cell? ⟨q,2,none⟩=some (.int .i64 kd):=by rw[(hat4.keep0 ho5).cell,hkd];rfl
 have hsn:strongR kd 0 (l.take (i+1))=strongR kd 0 (l.take i)++(if l.getD i 0≠0∧softI kd i=false then [l.getD i 0]else []):=by
  rw[List.take_succ_eq_append_getElem c1,strongR_snoc]
  simp[c1,Nat.min_eq_left (Nat.le_of_lt c1)]
 have hsl:=strongR_len (kd:=kd) (l:=l.take i) (i:=0)
 rw[List.length_take]at hsl
 have zz:=i64_succ i (by omega)
 have skip: ¬(l.getD i 0≠0∧softI kd i=false)→strongR kd 0 (l.take (i+1))=strongR kd 0 (l.take i):=fun c=>by rw[hsn,if_neg c,List.append_nil]
 by_cases c2:l.getD i 0=0
 ·refine gJ6 h20 (decide_eq_true ci.2) (eq_true ci) vr (bne_int_false c2) zz ?_
  refine hnext _ w5 ?_ ⟨i+1,fq,?_,by omega,ho5,?_,ge5⟩ ?_
  ·(repeat(first|with_reducible exact k_1|with_reducible exact Keeps.ovr _ _ _|refine Keeps.put ?_ rfl _|exact k_1|exact Keeps.ovr _ _ _|refine Keeps.ovr2 ?_ rfl _))
  ·simp only[go_sem]
  ·simp only[go_sem];rw[skip fun h=>h.1 c2];exact hq5
  ·rw[upTo_int (i:=i) h20,upTo_int (k:=.i64) (i:=i+1) (by simp only[go_sem])];omega
 refine gJ6 h20 (decide_eq_true ci.2) (eq_true ci) vr (bne_int_true c2) hk5 ?_
 refine callT0 (cSoft w5 kd i) ?_
 cases hsf:softI kd i with
 |true=>
  refine gO2 h20 zz ?_
  refine hnext _ w5 ?_ ⟨i+1,fq,?_,by omega,ho5,?_,ge5⟩ ?_
  ·(repeat(first|with_reducible exact k_1|with_reducible exact Keeps.ovr _ _ _|refine Keeps.put ?_ rfl _|exact k_1|exact Keeps.ovr _ _ _|refine Keeps.ovr2 ?_ rfl _))
  ·simp only[go_sem]
  ·simp only[go_sem];rw[skip fun h=>by rw[hsf]at h;cases h.2];exact hq5
  ·rw[upTo_int (i:=i) h20,upTo_int (k:=.i64) (i:=i+1) (by simp only[go_sem])];omega
 |false=>
  refine gO1 h20 ?_
  rw[fillL_one rfl rfl]
  refine gO ?_
  refine bslT fun q6 w6 hq6 hs6 hat6 ho6=>?_
  refine gO ?_
  refine appT (hq5.keep0 ho6) (SrcIs.at (us:=[.int .i64 (l.getD i 0)]) hat6 rfl) (by simp[oneC]) (by omega) (by omega) ?_
  intro v7 w7 f7 hs7 hf7 ho7 _
  have z4:=o4.size
  have z5:=ho5.size
  have o57:Only [] w4 w7:=(ho5.nil ho6).trans ho7 fun y hy=>.inr (ge5 y hy)
  refine gO2 h20 zz ?_
  refine hnext _ w7 ?_ ⟨i+1,f7,?_,by omega,o57,?_,?_⟩ ?_
  ·(repeat(first|with_reducible exact k_1|with_reducible exact Keeps.ovr _ _ _|refine Keeps.put ?_ rfl _|exact k_1|exact Keeps.ovr _ _ _|refine Keeps.ovr2 ?_ rfl _))
  ·simp only[go_sem]
  ·simp only[go_sem];rw[hsn,if_pos ⟨c2,hsf⟩,List.length_append,ints_append];exact hs7
  ·intro y hy
   have:=ho6.size
   rcases hf7 with e|e<;>rw[e]at hy
   ·exact ge5 y hy
   ·simp only[List.mem_singleton]at hy;omega
  ·rw[upTo_int (i:=i) h20,upTo_int (k:=.i64) (i:=i+1) (by simp only[go_sem])];omega
end Go.Proofs.YteiildhelefodaaGreat
end
section
namespace Go.Proofs.YteiildhelefodaaGreat
set_option maxRecDepth 8000
theorem Liv.le {s:HL} (h:s.Ok) {x:Int} (hx:Liv s x):0≤x∧x≤4096:=by
 obtain⟨k,rfl,hk⟩:=hx
 have:=live_le h hk
 omega
theorem strong_le {s:HL} (h:s.Ok) (hr:RfOk s.abs) {x y:Int} (hy:y∈strongO (some s) x):0≤y∧y≤4096:=by
 obtain⟨j,h1,h2,h3,_⟩:=mem_strongR.1 hy
 by_cases c:(shapeO (some s) x).2=0
 ·obtain⟨k,rfl,hk⟩:=shape_live h c
  rw[refsO_at h hk]at h1 h2
  rw[h2]
  refine hr (s.obAt k) ?_ _ (by simp[h1])
  simp only[HL.abs,List.mem_map];exact⟨k,mem_objs.2 hk,rfl⟩
 ·exfalso
  have:(refsO (some s) x).length=0:=by
   unfold refsO
   rw[List.length_map,List.length_range]
   unfold shapeO at c⊢
   cases hh:hasO (some s) x with
   |true=>simp[objE,hh]at c
   |false=>simp[objE,hh]
  omega
structure VsAt (w:World) (qh qk qv bm:Nat) (hp:Addr) (fp:List Nat) (s:HL):Prop where
 h:At w qh [.pointer (some hp)]
 k:At w qk [.map (some bm)]
 v:At w qv [.func (.func 213) #[] #[.pointer (some ⟨qh,0,none⟩),.pointer (some ⟨qk,0,none⟩),.pointer (some ⟨qv,0,none⟩)]]
 hr:HR w (some hp) fp (some s)
 d:bm∉ [qh,qk,qv]∧bm∉fp
theorem VsAt.keep {w w':World} {qh qk qv bm:Nat} {hp:Addr} {fp:List Nat} {s:HL} (h:VsAt w qh qk qv bm hp fp s) (o:Only [bm] w w'):VsAt w' qh qk qv bm hp fp s:=by
 obtain⟨h1,h2,h3,h4,h5,h6⟩:=h
 simp only[List.mem_cons,List.not_mem_nil,or_false,not_or]at h5
 refine⟨h1.keep o ?_,h2.keep o ?_,h3.keep o ?_,h4.keep o fun y hy hb=>?_,by simp[h5],h6⟩
 ·simp only[List.mem_singleton];exact fun e=>h5.1 e.symm
 ·simp only[List.mem_singleton];exact fun e=>h5.2.1 e.symm
 ·simp only[List.mem_singleton];exact fun e=>h5.2.2 e.symm
 ·simp only[List.mem_singleton]at hb;subst hb;exact h6 hy
theorem cVisit {qh qk qv bm:Nat} {hp:Addr} {fp:List Nat} {s:HL} (hs:s.Ok) (hr:RfOk s.abs): ∀(n:Nat) (w:World) (K:List Int) (x:Int),s.objs.length≤K.length+n→VsAt w qh qk qv bm hp fp s→MB w bm K→(∀y,y∈K→Liv s y)→x≤4611686018427387904→
  Cs Tryz.prog 213 [.int .i64 x,.pointer (some ⟨qh,0,none⟩),.pointer (some ⟨qk,0,none⟩),.pointer (some ⟨qv,0,none⟩)] w fun _ w'=> ∃K',MB w' bm K'∧Only [bm] w w'∧Vis s [x] K K'∧(Liv s x→x∈K'):=by
 intro n
 induction n with
 |zero=>
  intro w K x hn hv hK hl hx
  refine enter_place_Rounds_1 rfl ?_
  unfold x_place_Rounds_1
  refine gO2 hv.h.cell hv.k.cell ?_
  refine callT (hHas hv.hr x hx) ?_
  rintro _ w1 ⟨rfl,ho1⟩
  cases hh:hasO (some s) x with
  |false=>
   refine gO ?_
   exact⟨K,hK.keep0 ho1,ho1.of_nil,.refl hK.nodup,fun h=>by rw[(has_iff hs).2 h]at hh;cases hh⟩
  |true=>
   have hlx:Liv s x:=(has_iff hs).1 hh
   have hin:x∈K:=Decidable.byContradiction fun c=>by
    have:=nodup_le (s:=s) (K:=K++[x]) (by rw[List.nodup_append];exact⟨hK.nodup,by simp,fun a ha b hb e=>c (by simp only[List.mem_singleton]at hb;rw[←hb,←e];exact ha)⟩) fun y hy=>(List.mem_append.1 hy).elim (hl y) fun e=>by simp only[List.mem_singleton]at e;rw[e];exact hlx
    simp only[List.length_append,List.length_singleton]at this
    omega
   (repeat(first|with_reducible(first|refine nx ?_|refine r_6 rfl ?_)|simp only[go_sem,(hv.k.keep0 ho1).cell]))
   refine lkpT Tryz.underlying115 Tryz.underlying3 (Tryz.zeroValue4 _) (hK.keep0 ho1) ?_
   rw[getM_setD,decide_eq_true hin]
   refine gO ?_
   exact⟨K,hK.keep0 ho1,ho1.of_nil,.refl hK.nodup,fun _=>hin⟩
 |succ n ih=>
  intro w K x hn hv hK hl hx
  refine enter_place_Rounds_1 rfl ?_
  unfold x_place_Rounds_1
  refine gO2 hv.h.cell hv.k.cell ?_
  refine callT (hHas hv.hr x hx) ?_
  rintro _ w1 ⟨rfl,ho1⟩
  have hv1:=hv.keep ho1.of_nil
  cases hh:hasO (some s) x with
  |false=>
   refine gO ?_
   exact⟨K,hK.keep0 ho1,ho1.of_nil,.refl hK.nodup,fun h=>by rw[(has_iff hs).2 h]at hh;cases hh⟩
  |true=>
  have hlx:Liv s x:=(has_iff hs).1 hh
  refine gO1 hv1.k.cell ?_
  refine lkpT Tryz.underlying115 Tryz.underlying3 (Tryz.zeroValue4 _) (hK.keep0 ho1) ?_
  rw[getM_setD]
  by_cases hin:x∈K
  ·rw[decide_eq_true hin]
   refine gO ?_
   exact⟨K,hK.keep0 ho1,ho1.of_nil,.refl hK.nodup,fun _=>hin⟩
  rw[decide_eq_false hin]
  refine gO1 hv1.k.cell ?_
  refine mputT Tryz.underlying115 Tryz.underlying3 (hK.keep0 ho1) fun w2 hs2 hm2 ho2=>?_
  rw[putM_set hin]at hm2
  have hv2:=hv1.keep ho2
  have hK2:MB w2 bm (K++[x]):=hm2
  refine gO1 hv2.h.cell ?_
  refine callT (cStrong hv2.hr hs x hx) ?_
  rintro v w3 ⟨ho3,fq,hq3,gq3⟩
  obtain⟨l,hle⟩: ∃l,l=strongO (some s) x:=⟨_,rfl⟩
  have hll:l.length≤15:=by
   rw[hle];unfold strongO
   exact Nat.le_trans strongR_len (refs_le hs x)
  rw[←hle]at hq3
  obtain⟨al,cl,rfl⟩:=hq3.val
  have o3:Only [bm] w w3:=ho1.of_nil.same ((ho2.nil ho3))
  have hbm:bm<w.heap.size:=MpAt.lt hK
  have hl1: ∀y,y∈K++[x]→Liv s y:=fun y hy=>(List.mem_append.1 hy).elim (hl y) fun e=>by simp only[List.mem_singleton]at e;rw[e];exact hlx
  refine gO ?_
  refine run_loop (6::22::23::24::25::26::27::28::29::[]) (fun g w'=> ∃(i:Nat) (K':List Int),g 22=.int .i64 (i:Int)∧i≤l.length∧Only [bm] w3 w'∧MB w' bm K'∧Vis s l (K++[x]) K'∧ ∀j,j<i→Liv s (l.getD j 0)→l.getD j 0∈K') (fun g _=>upTo l.length 22 g)
   ⟨0,K++[x],by simp only[go_sem];rfl,by omega,Only.refl _ _,hK2.keep0 ho3,.refl hK2.nodup,fun j hj=>absurd hj (by omega)⟩ fun g w4 hI hnext=>?_
  obtain⟨i,K',h22,hi,ho4,hK4,vis,done⟩:=hI
  by_cases c1:i<l.length
  rotate_left
  ·refine gO2 h22 (decide_eq_false (show¬(i:Int)<(l.length:Int) by omega)) ?_
   refine⟨K',hK4,o3.same ho4,(hle▸vis).enter hlx hin fun y hy hyv=>?_,fun _=>vis.sub x (by simp)⟩
   rw[←hle]at hy
   obtain⟨j,hj,rfl⟩:=List.mem_iff_getElem.1 hy
   have:=done j (by omega)
   simp only[List.getD_eq_getElem?_getD,List.getElem?_eq_getElem hj,Option.getD_some]at this
   exact this hyv
  have hv4:=(hv2.keep ho3.of_nil).keep ho4
  obtain⟨gl,_,yl,el,hatl,efq,_⟩:=hq3.pos (by omega)
  cases el
  have hgl:gl≠bm:=fun e=>by have:=gq3 gl (by rw[efq];simp);have:=ho1.size;have:=ho2.size;omega
  have ci:(0:Int)≤(i:Int)∧(i:Int)<(l.length:Int):=by omega
  have vr:w4.cell? ⟨gl,i,none⟩=some (.int .i64 (l.getD i 0)):=by rw[(hatl.keep ho4 (by simpa using hgl)).cell];exact ints_append_get yl (by omega)
  have hyle:=strong_le hs hr (x:=x) (y:=l.getD i 0) (by rw[←hle];simp[c1])
  have hK4l: ∀y,y∈K'→Liv s y:=fun y hy=>(vis.liv y hy).elim (hl1 y) id
  refine gJ5 h22 (decide_eq_true ci.2) (eq_true ci) vr hv4.v.cell ?_
  refine callVT (callVals_f 213 #[] [.int .i64 (l.getD i 0)] #[.pointer (some ⟨qh,0,none⟩),.pointer (some ⟨qk,0,none⟩),.pointer (some ⟨qv,0,none⟩)]) (by kernel_rfl) (ih w4 K' (l.getD i 0) ?_ hv4 hK4 hK4l (by omega)) ?_
  ·have:=(rise_len vis.sub vis.nd (by exact hK2.nodup))
   simp only[List.length_append,List.length_singleton]at this
   omega
  rintro _ w5 ⟨K5,hK5,ho5,vis5,in5⟩
  refine gO2 h22 (i64_succ i (by omega)) ?_
  refine hnext _ w5 ?_ ⟨i+1,K5,?_,by omega,ho4.same ho5,hK5,vis.trans (vis5.mono fun y hy=>by simp only[List.mem_singleton]at hy;rw[hy];simp[c1]),fun j hj hlv=>?_⟩ ?_
  ·(repeat(first|with_reducible exact k_1|with_reducible exact Keeps.ovr _ _ _|refine Keeps.put ?_ rfl _|exact k_1|exact Keeps.ovr _ _ _|refine Keeps.ovr2 ?_ rfl _))
  ·simp only[go_sem]
  ·by_cases e:j=i
   ·rw[e]at hlv⊢;exact in5 hlv
   ·exact vis5.sub _ (done j (by omega) hlv)
  ·rw[upTo_int (i:=i) h22,upTo_int (k:=.i64) (i:=i+1) (by simp only[go_sem])];omega
end Go.Proofs.YteiildhelefodaaGreat
end
section
namespace Go.Proofs.YteiildhelefodaaGreat
set_option maxRecDepth 8000
def kindO (s:HL) (x:Int):Int:=(shapeO (some s) x).1.2.2
def ephK (s:HL) (x:Int):Int:=(refO (some s) x 0).1
def ephV (s:HL) (x:Int):Int:=(refO (some s) x 1).1
structure Cls (s:HL) (F:List Int) (P:Int→Prop):Prop where
 f: ∀x,x∈F→Liv s x→P x
 g: ∀x y,Liv s x→P x→y∈strongO (some s) x→Liv s y→P y
 e: ∀x,Liv s x→P x→kindO s x=2→P (ephK s x)→Liv s (ephV s x)→P (ephV s x)
structure Kpt (s:HL) (F K:List Int):Prop where
 nd:K.Nodup
 liv: ∀x,x∈K→Liv s x
 cls:Cls s F (· ∈K)
 ind: ∀P,Cls s F P→ ∀x,x∈K→P x
structure Rd (s:HL) (F K D:List Int):Prop where
 nd:K.Nodup
 liv: ∀x,x∈K→Liv s x
 clo: ∀x,x∈K→ ∀y,y∈strongO (some s) x→Liv s y→y∈K
 ind: ∀P,Cls s F P→(∀x,x∈K→P x)∧ ∀x,x∈D→Liv s x→P x
 due:(K=[]∧D=F)∨((∀x,x∈F→Liv s x→x∈K)∧ ∀x,x∈K→kindO s x=2→ephK s x∈K→Liv s (ephV s x)→ephV s x∈D)
theorem Rd.first (s:HL) (F:List Int):Rd s F [] F:=⟨List.nodup_nil,fun x hx=>absurd hx (by simp),fun x hx=>absurd hx (by simp),fun P h=>⟨fun x hx=>absurd hx (by simp),h.f⟩,.inl ⟨rfl,rfl⟩⟩
theorem Rd.vis {s:HL} {F K D K1:List Int} (h:Rd s F K D) (v:Vis s D K K1) (_: ∀x,x∈D→Liv s x→x∈K1):(∀x,x∈K1→Liv s x)∧(∀x,x∈K1→ ∀y,y∈strongO (some s) x→Liv s y→y∈K1)∧ ∀P,Cls s F P→ ∀x,x∈K1→P x:=by
 refine⟨fun x hx=>(v.liv x hx).elim (h.liv x) id,fun x hx y hy hv=>?_,fun P hP x hx=>?_⟩
 ·by_cases c:x∈K
  ·exact v.sub y (h.clo x c y hy hv)
  ·exact v.clo x hx c y hy hv
 ·exact(v.ind P (h.ind P hP).2 (fun x y h1 h2 h3 h4=>hP.g x y h1 h2 h3 h4) x hx).elim ((h.ind P hP).1 x) id
theorem same_set {K K1:List Int} (hn:K.Nodup) (hs: ∀x,x∈K→x∈K1) (hl:K1.length≤K.length): ∀x,x∈K1→x∈K:=fun x hx=>Decidable.byContradiction fun c=>by
 have:=nodup_sub (l:=K++[x]) (m:=K1) (by rw[List.nodup_append];exact⟨hn,by simp,fun a ha b hb e=>c (by simp only[List.mem_singleton]at hb;rw[←hb,←e];exact ha)⟩) fun y hy=>(List.mem_append.1 hy).elim (hs y) fun e=>by simp only[List.mem_singleton]at e;rw[e];exact hx
 simp only[List.length_append,List.length_singleton]at this
 omega
theorem Rd.last {s:HL} {F K D K1:List Int} (h:Rd s F K D) (v:Vis s D K K1) (hd: ∀x,x∈D→Liv s x→x∈K1) (hl:K1.length≤K.length):Kpt s F K1:=by
 obtain⟨h1,h2,h3⟩:=h.vis v hd
 have back:=same_set h.nd v.sub hl
 refine⟨v.nd,h1,⟨fun x hx hv=>?_,fun x y _ hx hy hv=>h2 x hx y hy hv,fun x _ hx hk hkey hv=>?_⟩,h3⟩
 ·rcases h.due with⟨_,e⟩|⟨e,_⟩
  ·exact hd x (by rw[e];exact hx) hv
  ·exact v.sub x (e x hx hv)
 ·rcases h.due with⟨e,_⟩|⟨_,e⟩
  ·have:=back x hx;rw[e]at this;cases this
  ·exact hd _ (e x (back x hx) hk (back _ hkey) hv) hv
theorem Rd.next {s:HL} {F K D K1 D1:List Int} (h:Rd s F K D) (v:Vis s D K K1) (hd: ∀x,x∈D→Liv s x→x∈K1) (h4: ∀y,y∈D1↔ ∃x,x∈K1∧kindO s x=2∧ephK s x∈K1∧y=ephV s x):Rd s F K1 D1:=by
 obtain⟨h1,h2,h3⟩:=h.vis v hd
 refine⟨v.nd,h1,h2,fun P hP=>⟨h3 P hP,fun y hy hv=>?_⟩,.inr ⟨fun x hx hv=>?_,fun x hx hk hkey _=>(h4 _).2 ⟨x,hx,hk,hkey,rfl⟩⟩⟩
 ·obtain⟨x,e1,e2,e3,rfl⟩:=(h4 y).1 hy
  exact hP.e x (h1 x e1) (h3 P hP x e1) e2 (h3 P hP _ e3) hv
 ·rcases h.due with⟨_,e⟩|⟨e,_⟩
  ·exact hd x (by rw[e];exact hx) hv
  ·exact v.sub x (e x hx hv)
def mapLen (w:World) (b:Nat):Nat:=match w.heap[b]? with
 |some (.map es _)=>es.size
 |_=>0
theorem MB.len {w:World} {b:Nat} {K:List Int} (h:MB w b K):mapLen w b=K.length:=by
 obtain⟨es,c,h1,h2,_⟩:=h
 unfold mapLen
 rw[h1]
 have:es.size=(setM K).length:=by simpa[MEs]using congrArg List.length h2
 show es.size=K.length
 rw[this,setM_len]
theorem cKind {w:World} {a:Option Addr} {fp:List Nat} {m:HO} (h:HR w a fp m) (x:Int) (hx:x≤4611686018427387904):Cs Tryz.prog 215 [.pointer a,.int .i64 x] w fun v w'=>v=.int .i64 (shapeO m x).1.2.2∧Only [] w w':=by
 refine enter_place_Kind rfl ?_
 unfold x_place_Kind
 refine gO ?_
 refine callT (hShape h x hx) ?_
 rintro _ w1 ⟨rfl,ho1⟩
 refine gO ?_
 refine boxT fun q w2 hq hs2 hat2 ho2=>?_
 refine gO ?_
 refine stNT (cs:=shV (shapeO m x).1) hat2 rfl (by simp[shV]) (shV_one _) fun w3 hs3 hat3 ho3=>?_
 rw[setL_sh]at hat3
 have o3:Only [] w w3:=ho1.nil (ho2.trans ho3 fun y hy=>by simp only[List.mem_singleton]at hy;subst hy;exact .inr (by omega))
 have hk:w3.cell? ⟨q,2,none⟩=some (.int .i64 (shapeO m x).1.2.2):=by rw[hat3.cell];rfl
 refine gO1 hk ?_
 exact o3
end Go.Proofs.YteiildhelefodaaGreat
end
section
namespace Go.Proofs.YteiildhelefodaaGreat
set_option maxRecDepth 8000
theorem allH_mem {s:HL} {x:Int}:x∈allH (some s)↔Liv s x:=by
 show x∈adrs s.objs↔_
 unfold adrs
 rw[List.mem_map]
 exact⟨fun⟨k,h,e⟩=>⟨k,e.symm,mem_objs.1 h⟩,fun⟨k,e,h⟩=>⟨k,mem_objs.2 h,e.symm⟩⟩
theorem allH_len (s:HL):(allH (some s)).length=s.objs.length:=by show(adrs s.objs).length=_;unfold adrs;rw[List.length_map]
theorem ephV_le {s:HL} (hs:s.Ok) (hr:RfOk s.abs) (x:Int):ephV s x≤4096:=by
 unfold ephV
 by_cases c:(fieldO (some s) x 1 false).2=0
 ·obtain⟨o,k,rfl,ho,_⟩:=field_spec hs c
  by_cases hl:1<(s.obAt o).rf.length
  ·have:=at_ref hs ho hl
   rw[show((1:Nat):Int)=1 from rfl]at this
   rw[this]
   exact(hr (s.obAt o) (by simp only[HL.abs,List.mem_map];exact⟨o,mem_objs.2 ho,rfl⟩) _ (by simp[hl])).2
  ·exfalso
   obtain⟨r,d,kk,hv,hsz,hz,e1,e2,e3⟩:=obAt_rf hs ho
   have hsa:s.shapeAt ((2*o:Nat):Int)=((r:Int),(d:Int),(kk:Int)):=hsz
   rw[e2]at hl
   simp only[List.length_map,List.length_range]at hl
   unfold fieldO at c
   simp only[at_objE hs ho,ne_eq,not_true_eq_false,if_false,cond_false,hsa]at c
   rw[if_pos (by omega)]at c
   cases c
 ·unfold refO
  simp only[if_neg c]
  omega
set_option maxHeartbeats 1000000 in
theorem cRounds {w:World} {hp:Addr} {fp ff:List Nat} {s:HL} {vF:Value} {F:List Int} (hr:HR w (some hp) fp (some s)) (hs:s.Ok) (hrf:RfOk s.abs) (hF:Sl w 1 vF F.length (ints F) ff) (hFl:F.length≤1000) (hFb: ∀x,x∈F→x≤100000) (h40:s.objs.length≤2000):
  Cs Tryz.prog 134 [.pointer (some hp),vF] w fun v w'=>Only [] w w'∧ ∃bm K n,v=.tuple #[.map (some bm),.int .i64 n]∧MB w' bm K∧w.heap.size≤bm∧Kpt s F K:=by
 obtain⟨aF,cF,rfl⟩:=hF.val
 refine enter_place_Rounds rfl ?_
 unfold x_place_Rounds
 refine gO ?_
 refine boxT fun qh w1 hqh hs1 hat1 ho1=>?_
 refine gO ?_
 refine mkmapT fun bm w2 hbm hs2 hm2 ho2=>?_
 refine gO ?_
 refine boxT fun qk w3 hqk hs3 hat3 ho3=>?_
 refine gO ?_
 refine stT hat3 (by simp) rfl fun w4 hs4 hat4 ho4=>?_
 refine gO ?_
 refine boxT fun qv w5 hqv hs5 hat5 ho5=>?_
 refine gO ?_
 refine stT hat5 (by simp) rfl fun w6 hs6 hat6 ho6=>?_
 have z1:=ho1.size
 have o6:Only [] w w6:=((ho1.nil ho2).nil ho3).trans ((ho4.weak (T:=[qk,qv]) (by simp)).same ((ho5.of_nil).same (ho6.weak (by simp)))) fun y hy=>by
  simp only[List.mem_cons,List.not_mem_nil,or_false]at hy
  exact .inr (by omega)
 have hlt:=hr.lt
 have hkeep: ∀ {y:Nat},y<w3.heap.size→y≠qk→y∉ [qk,qv]:=fun h1 h2=>by simp only[List.mem_cons,List.not_mem_nil,or_false];omega
 have o36:Only [qk,qv] w3 w6:=(ho4.weak (by simp)).same ((ho5.of_nil).same (ho6.weak (by simp)))
 have vs6:VsAt w6 qh qk qv bm hp fp s:=by
  refine⟨((hat1.keep0 ho2).keep0 ho3).keep o36 (hkeep (by omega) (by omega)),(hat4.keep0 ho5).keep ho6 (by simp only[List.mem_singleton];omega),hat6,hr.keep0 o6,?_,fun h=>by have:=hlt bm h;omega⟩
  simp only[List.mem_cons,List.not_mem_nil,or_false];omega
 have mb6:MB w6 bm []:=(hm2.keep0 ho3).keep o36 (hkeep (by omega) (by omega))
 refine gO ?_
 refine run_loop (4::5::8::9::10::11::12::13::14::15::16::17::18::22::23::24::25::26::27::28::29::30::31::32::33::34::35::36::37::38::39::40::41::42::43::44::45::46::47::48::49::50::51::52::53::54::55::56::57::58::59::60::61::62::63::64::65::66::67::68::69::70::71::72::73::74::75::76::77::78::79::[]) (fun g w'=> ∃(K D:List Int) (n:Int) (fD:List Nat),g 8=.int .i64 n∧Sl w' 1 (g 9) D.length (ints D) fD∧bm∉fD∧MB w' bm K∧VsAt w' qh qk qv bm hp fp s∧Only [] w w'∧w6.heap.size≤w'.heap.size∧Rd s F K D∧D.length≤2000∧ ∀x,x∈D→x≤100000) (fun _ w'=>s.objs.length+1-mapLen w' bm)
  ⟨[],F,0,ff,by simp only[go_sem],by simp only[go_sem];exact hF.keep0 o6,fun h=>by have:=hF.lt bm h;omega,mb6,vs6,o6,Nat.le_refl _,Rd.first s F,by omega,hFb⟩ fun g w7 hI hnext=>?_
 obtain⟨K,D,n,fD,h8,hD,hDb,mb,vs,o7,z67,rd,hDl,hDx⟩:=hI
 have hKl:=nodup_le rd.nd rd.liv
 obtain⟨aD,cD,h9⟩:=hD.val
 have hbmlt:bm<w7.heap.size:=by omega
 refine gO1 vs.k.cell ?_
 refine mlenT Tryz.underlying115 mb ?_
 rw[setM_len]
 (repeat(first|with_reducible(first|refine r_1 ?_|refine r_2 ?_|refine r_4 ?_|refine r_5 ?_|refine r_6 rfl ?_|refine r_7 ?_|refine r_8 ?_|refine r_9 ?_|refine r_0 ?_)|simp only[go_sem,h9]))
 refine run_cut (12::26::27::28::29::30::31::32::33::34::35::[]) (fun _ w'=> ∃K1,Only [bm] w7 w'∧MB w' bm K1∧Vis s D K K1∧ ∀x,x∈D→Liv s x→x∈K1) (fun kk hkk=>?_) (fun g1 w8 hJ=>?_)
 ·refine gO1 h9 ?_
  refine run_loop (12::26::27::28::29::30::31::32::33::34::35::[]) (fun g w'=> ∃(i:Nat) (K':List Int),g 28=.int .i64 (i:Int)∧i≤D.length∧g 26=.slice aD D.length cD∧g 27=.int .i64 (D.length:Int)∧Only [bm] w7 w'∧MB w' bm K'∧Vis s D K K'∧ ∀j,j<i→Liv s (D.getD j 0)→D.getD j 0∈K') (fun g _=>upTo D.length 28 g)
   ⟨0,K,by simp only[go_sem];rfl,by omega,by simp only[go_sem,h9],by simp only[go_sem,h9],Only.refl _ _,mb,.refl rd.nd,fun j hj=>absurd hj (by omega)⟩ fun g2 w8 hI hnext2=>?_
  obtain⟨i,K',h28,hi,h26,h27,ho8,mb8,vis,done⟩:=hI
  by_cases c1:i<D.length
  rotate_left
  ·refine gO3 h28 h27 (decide_eq_false (show¬(i:Int)<(D.length:Int) by omega)) ?_
   refine hkk _ w8 ?_ ⟨K',ho8,mb8,vis,fun x hx hv=>?_⟩
   ·(repeat(first|with_reducible exact k_1|with_reducible exact Keeps.ovr _ _ _|refine Keeps.put ?_ rfl _|exact k_1|exact Keeps.ovr _ _ _|refine Keeps.ovr2 ?_ rfl _))
   ·obtain⟨j,hj,rfl⟩:=List.mem_iff_getElem.1 hx
    have:=done j (by omega)
    simp only[List.getD_eq_getElem?_getD,List.getElem?_eq_getElem hj,Option.getD_some]at this
    exact this hv
  obtain⟨gl,_,yl,el,hatl,efq,_⟩:=hD.pos (by omega)
  rw[h9]at el
  cases el
  have hgl:gl∉ [bm]:=fun e=>hDb (by rw[efq];simp only[List.mem_singleton]at e⊢;exact e.symm)
  have ci:(0:Int)≤(i:Int)∧(i:Int)<(D.length:Int):=by omega
  have vr:w8.cell? ⟨gl,i,none⟩=some (.int .i64 (D.getD i 0)):=by rw[(hatl.keep ho8 hgl).cell];exact ints_append_get yl (by omega)
  have vs8:=vs.keep ho8
  have hx9:=hDx (D.getD i 0) (by simp[c1])
  refine gJ7 h28 h27 h26 (decide_eq_true ci.2) (eq_true ci) vr vs8.v.cell ?_
  refine callVT (callVals_f 213 #[] [.int .i64 (D.getD i 0)] #[.pointer (some ⟨qh,0,none⟩),.pointer (some ⟨qk,0,none⟩),.pointer (some ⟨qv,0,none⟩)]) (by kernel_rfl) (cVisit hs hrf s.objs.length w8 K' (D.getD i 0) (by omega) vs8 mb8 (fun y hy=>(vis.liv y hy).elim (rd.liv y) id) (by omega)) ?_
  rintro _ w9 ⟨K9,mb9,ho9,vis9,in9⟩
  refine gO4 h28 h27 h26 (i64_succ i (by omega)) ?_
  refine hnext2 _ w9 ?_ ⟨i+1,K9,?_,by omega,?_,?_,ho8.same ho9,mb9,vis.trans (vis9.mono fun y hy=>by simp only[List.mem_singleton]at hy;rw[hy];simp[c1]),fun j hj hlv=>?_⟩ ?_
  ·(repeat(first|with_reducible exact k_1|with_reducible exact Keeps.ovr _ _ _|refine Keeps.put ?_ rfl _|exact k_1|exact Keeps.ovr _ _ _|refine Keeps.ovr2 ?_ rfl _))
  ·simp only[go_sem]
  ·simp only[go_sem,h26]
  ·simp only[go_sem,h27]
  ·by_cases e:j=i
   ·rw[e]at hlv⊢;exact in9 hlv
   ·exact vis9.sub _ (done j (by omega) hlv)
  ·rw[upTo_int (i:=i) h28,upTo_int (k:=.i64) (i:=i+1) (by simp only[go_sem])];omega
 obtain⟨K1,ho8,mb8,vis,hd⟩:=hJ
 have vs8:=vs.keep ho8
 have z8:=ho8.size
 have o8:Only [] w w8:=o7.trans ho8 fun y hy=>.inr (by simp only[List.mem_singleton]at hy;omega)
 have hK1n:=vis.nd
 have hK1l:=(rd.vis vis hd).1
 have hK1len:=nodup_le hK1n hK1l
 have hKK1:=nodup_sub rd.nd vis.sub
 refine gO1 vs8.k.cell ?_
 refine mlenT Tryz.underlying115 mb8 ?_
 rw[setM_len]
 by_cases ce:(K1.length:Int)=(K.length:Int)
 ·refine gO3 h8 (beq_int_true ce) vs8.k.cell ?_
  exact⟨o8,bm,K1,n,rfl,mb8,by omega,rd.last vis hd (by omega)⟩
 refine gO2 (beq_int_false ce) vs8.h.cell ?_
 refine callT (hAll vs8.hr) ?_
 rintro v w9 ⟨ho9,fA,hA,gA⟩
 obtain⟨aA,cA,rfl⟩:=hA.val
 refine gO ?_
 obtain⟨A,hAe⟩: ∃A,A=allH (some s):=⟨_,rfl⟩
 rw[←hAe]at hA⊢
 have hAl:A.length≤2000:=by rw[hAe,allH_len];exact h40
 have mb9:=mb8.keep0 ho9
 have vs9:=vs8.keep ho9.of_nil
 have z9:=ho9.size
 have o9:=o8.nil ho9
 have ext: ∀(i:Nat) (hi:i<A.length) (D1:List Int),(∀y,y∈D1↔ ∃x,x∈A.take i∧x∈K1∧kindO s x=2∧ephK s x∈K1∧y=ephV s x)→
   (¬(A.getD i 0∈K1∧kindO s (A.getD i 0)=2∧ephK s (A.getD i 0)∈K1)→ ∀y,y∈D1↔ ∃x,x∈A.take (i+1)∧x∈K1∧kindO s x=2∧ephK s x∈K1∧y=ephV s x)∧
   ((A.getD i 0∈K1∧kindO s (A.getD i 0)=2∧ephK s (A.getD i 0)∈K1)→ ∀y,y∈D1++[ephV s (A.getD i 0)]↔ ∃x,x∈A.take (i+1)∧x∈K1∧kindO s x=2∧ephK s x∈K1∧y=ephV s x):=fun i hi D1 h=>by
  have hg:A[i]=A.getD i 0:=by simp[hi]
  have ht: ∀x,x∈A.take (i+1)↔x∈A.take i∨x=A.getD i 0:=fun x=>by rw[List.take_succ_eq_append_getElem hi,List.mem_append,List.mem_singleton,hg]
  refine⟨fun c y=>(h y).trans ⟨fun⟨x,a1,a2⟩=>⟨x,(ht x).2 (.inl a1),a2⟩,fun⟨x,a1,a2,a3,a4,a5⟩=>?_⟩,fun c y=>?_⟩
  ·rcases(ht x).1 a1 with a1|rfl
   ·exact⟨x,a1,a2,a3,a4,a5⟩
   ·exact absurd ⟨a2,a3,a4⟩ c
  ·rw[List.mem_append,List.mem_singleton,h y]
   constructor
   ·rintro(⟨x,a1,a2⟩|rfl)
    ·exact⟨x,(ht x).2 (.inl a1),a2⟩
    ·exact⟨_,(ht _).2 (.inr rfl),c.1,c.2.1,c.2.2,rfl⟩
   ·rintro⟨x,a1,a2,a3,a4,a5⟩
    rcases(ht x).1 a1 with a1|rfl
    ·exact .inl ⟨x,a1,a2,a3,a4,a5⟩
    ·exact .inr a5
 refine run_loop (9::14::15::16::17::18::45::46::47::48::49::50::51::52::53::54::55::56::57::58::59::60::61::62::63::64::65::66::67::68::69::70::71::72::73::74::75::76::77::78::[]) (fun g w'=> ∃(i:Nat) (D1:List Int) (f1:List Nat),g 45=.int .i64 (i:Int)∧i≤A.length∧Only [] w9 w'∧Sl w' 1 (g 9) D1.length (ints D1) f1∧(∀y,y∈f1→w9.heap.size≤y)∧D1.length≤i∧ ∀y,y∈D1↔ ∃x,x∈A.take i∧x∈K1∧kindO s x=2∧ephK s x∈K1∧y=ephV s x) (fun g _=>upTo A.length 45 g)
  ⟨0,[],[],by simp only[go_sem];rfl,by omega,Only.refl _ _,by simp only[go_sem];exact Sl.nil1 _,fun y hy=>absurd hy (by simp),by simp,fun y=>⟨fun h=>absurd h (by simp),fun⟨x,h,_⟩=>absurd h (by simp)⟩⟩ fun g2 w10 hI hnext2=>?_
 obtain⟨i,D1,f1,h45,hi,ho10,hD1,gD1,lD1,mD1⟩:=hI
 have vs10:=vs9.keep ho10.of_nil
 have mb10:=mb9.keep0 ho10
 have z10:=ho10.size
 by_cases c1:i<A.length
 rotate_left
 ·refine gO3 h45 h8 (decide_eq_false (show¬(i:Int)<(A.length:Int) by omega)) ?_
  rw[List.take_of_length_le (by omega)]at mD1
  have mD1': ∀y,y∈D1↔ ∃x,x∈K1∧kindO s x=2∧ephK s x∈K1∧y=ephV s x:=fun y=>(mD1 y).trans ⟨fun⟨x,_,h⟩=>⟨x,h⟩,fun⟨x,h⟩=>⟨x,by rw[hAe];exact allH_mem.2 (hK1l x h.1),h⟩⟩
  refine hnext _ w10 ?_ ⟨K1,D1,IntKind.i64.wrap (n+1),f1,?_,?_,fun h=>?_,mb10,vs10,o9.nil ho10,by omega,rd.next vis hd mD1',by omega,fun x hx=>?_⟩ ?_
  ·(repeat(first|with_reducible exact k_1|with_reducible exact Keeps.ovr _ _ _|refine Keeps.put ?_ rfl _|exact k_1|exact Keeps.ovr _ _ _|refine Keeps.ovr2 ?_ rfl _))
  ·simp only[go_sem,h8]
  ·simp only[go_sem];exact hD1
  ·have:=gD1 bm h;omega
  ·obtain⟨x',_,_,_,rfl⟩:=(mD1' x).1 hx
   have:=ephV_le hs hrf x';omega
  ·show s.objs.length+1-mapLen w10 bm<s.objs.length+1-mapLen w7 bm
   rw[mb10.len,mb.len];omega
 obtain⟨gl,_,yl,el,hatl,_,_⟩:=(hA.keep0 ho10).pos (by omega)
 cases el
 have ci:(0:Int)≤(i:Int)∧(i:Int)<(A.length:Int):=by omega
 have vr:w10.cell? ⟨gl,i,none⟩=some (.int .i64 (A.getD i 0)):=by rw[hatl.cell];exact ints_append_get yl (by omega)
 obtain⟨x,hxe⟩: ∃x,x=A.getD i 0:=⟨_,rfl⟩
 have hxl:Liv s x:=allH_mem.1 (by rw[←hAe,hxe];simp[c1])
 have hxle:=hxl.le hs
 obtain⟨no,yes⟩:=ext i c1 D1 mD1
 rw[←hxe]at vr no yes
 have zz:=i64_succ i (by omega)
 refine gJ5 h45 (decide_eq_true ci.2) (eq_true ci) vr vs10.k.cell ?_
 refine lkpT Tryz.underlying115 Tryz.underlying3 (Tryz.zeroValue4 _) mb10 ?_
 rw[getM_setD]
 by_cases b1:x∈K1
 rotate_left
 ·rw[decide_eq_false b1]
  refine gO2 h45 zz ?_
  refine hnext2 _ w10 ?_ ⟨i+1,D1,f1,?_,by omega,ho10,?_,gD1,by omega,no fun h=>b1 h.1⟩ ?_
  ·(repeat(first|with_reducible exact k_1|with_reducible exact Keeps.ovr _ _ _|refine Keeps.put ?_ rfl _|exact k_1|exact Keeps.ovr _ _ _|refine Keeps.ovr2 ?_ rfl _))
  ·simp only[go_sem]
  ·simp only[go_sem];exact hD1
  ·rw[upTo_int (i:=i) h45,upTo_int (k:=.i64) (i:=i+1) (by simp only[go_sem])];omega
 rw[decide_eq_true b1]
 refine gO1 vs10.h.cell ?_
 refine callT (cKind vs10.hr x (by omega)) ?_
 rintro _ w11 ⟨rfl,ho11⟩
 have o11:=ho10.nil ho11
 have vs11:=vs10.keep ho11.of_nil
 have hD11:=hD1.keep0 ho11
 by_cases b2:kindO s x=2
 rotate_left
 ·have b2': ¬(shapeO (some s) x).1.2.2=2:=b2
  refine gO3 h45 zz (bne_int_true b2') ?_
  refine hnext2 _ w11 ?_ ⟨i+1,D1,f1,?_,by omega,o11,?_,gD1,by omega,no fun h=>b2 h.2.1⟩ ?_
  ·(repeat(first|with_reducible exact k_1|with_reducible exact Keeps.ovr _ _ _|refine Keeps.put ?_ rfl _|exact k_1|exact Keeps.ovr _ _ _|refine Keeps.ovr2 ?_ rfl _))
  ·simp only[go_sem]
  ·simp only[go_sem];exact hD11
  ·rw[upTo_int (i:=i) h45,upTo_int (k:=.i64) (i:=i+1) (by simp only[go_sem])];omega
 have b2':(shapeO (some s) x).1.2.2=2:=b2
 refine gO3 h45 (bne_int_false b2') vs11.h.cell ?_
 refine callT (hRef vs11.hr x 0 (by omega)) ?_
 rintro _ w12 ⟨rfl,ho12⟩
 have o12:=o11.nil ho12
 have vs12:=vs11.keep ho12.of_nil
 refine gO1 vs12.k.cell ?_
 refine lkpT Tryz.underlying115 Tryz.underlying3 (Tryz.zeroValue4 _) ((mb10.keep0 ho11).keep0 ho12) ?_
 rw[getM_setD]
 by_cases b3:ephK s x∈K1
 rotate_left
 ·rw[decide_eq_false (show¬(refO (some s) x 0).1∈K1 from b3)]
  refine gO2 h45 zz ?_
  refine hnext2 _ w12 ?_ ⟨i+1,D1,f1,?_,by omega,o12,?_,gD1,by omega,no fun h=>b3 h.2.2⟩ ?_
  ·(repeat(first|with_reducible exact k_1|with_reducible exact Keeps.ovr _ _ _|refine Keeps.put ?_ rfl _|exact k_1|exact Keeps.ovr _ _ _|refine Keeps.ovr2 ?_ rfl _))
  ·simp only[go_sem]
  ·simp only[go_sem];exact hD11.keep0 ho12
  ·rw[upTo_int (i:=i) h45,upTo_int (k:=.i64) (i:=i+1) (by simp only[go_sem])];omega
 rw[decide_eq_true (show(refO (some s) x 0).1∈K1 from b3)]
 refine gO1 vs12.h.cell ?_
 refine callT (hRef vs12.hr x 1 (by omega)) ?_
 rintro _ w13 ⟨rfl,ho13⟩
 have o13:=o12.nil ho13
 refine gO ?_
 rw[fillL_one rfl rfl]
 refine gO ?_
 refine bslT fun q14 w14 hq14 hs14 hat14 ho14=>?_
 refine gO ?_
 refine appT (((hD11.keep0 ho12).keep0 ho13).keep0 ho14) (SrcIs.at (us:=[.int .i64 (ephV s x)]) hat14 rfl) (by simp[oneC]) (by omega) (by omega) ?_
 intro v15 w15 f15 hs15 hf15 ho15 _
 have o14:=o13.nil ho14
 have z14:=o14.size
 have o15:Only [] w9 w15:=o14.trans ho15 fun y hy=>.inr (gD1 y hy)
 refine gO2 h45 zz ?_
 refine hnext2 _ w15 ?_ ⟨i+1,D1++[ephV s x],f15,?_,by omega,o15,?_,?_,by simp;omega,yes ⟨b1,b2,b3⟩⟩ ?_
 ·(repeat(first|with_reducible exact k_1|with_reducible exact Keeps.ovr _ _ _|refine Keeps.put ?_ rfl _|exact k_1|exact Keeps.ovr _ _ _|refine Keeps.ovr2 ?_ rfl _))
 ·simp only[go_sem]
 ·simp only[go_sem];rw[List.length_append,ints_append];exact hs15
 ·intro y hy
  rcases hf15 with e|e<;>rw[e]at hy
  ·exact gD1 y hy
  ·simp only[List.mem_singleton]at hy;omega
 ·rw[upTo_int (i:=i) h45,upTo_int (k:=.i64) (i:=i+1) (by simp only[go_sem])];omega
end Go.Proofs.YteiildhelefodaaGreat
end
section
namespace Go.Proofs.YteiildhelefodaaGreat
set_option maxRecDepth 8000
theorem mem_addNew {acc:List Int} {x y:Int}:y∈Rt.addNew acc x↔y∈acc∨y=x:=by
 unfold Rt.addNew
 by_cases c:acc.contains x=true
 ·rw[if_pos c]
  exact⟨.inl,fun h=>h.elim id fun e=>e▸List.contains_iff_mem.1 c⟩
 ·rw[if_neg c,List.mem_append,List.mem_singleton]
theorem mem_foldAdd: ∀(l acc:List Int) (y:Int),y∈l.foldl Rt.addNew acc↔y∈acc∨y∈l
 | [],acc,y=>by simp
 |x::l,acc,y=>by rw[List.foldl_cons,mem_foldAdd l,mem_addNew,List.mem_cons,or_assoc]
theorem filled_val {R:Rt.MS} {p:Rt.PT×Int} (h:p∈Rt.filled R):p.2∈R.S∨p.2∈R.G∨p.2∈R.Q:=by
 have h1:=(List.mem_filter.1 h).1
 have h2:=(List.of_mem_zip (a:=p.1) (b:=p.2) h1).2
 unfold Rt.MS.V at h2
 simp only[List.mem_append]at h2
 exact h2.elim (fun h=>h.elim .inl fun h=>.inr (.inl h)) fun h=>.inr (.inr h)
theorem leads_val {R:Rt.MS} {y:Int} (h:y∈Rt.leadsO (some R)):y∈R.S∨y∈R.G∨y∈R.Q:=by
 unfold Rt.leadsO at h
 rw[mem_foldAdd]at h
 rcases h with h|h
 ·cases h
 ·obtain⟨p,hp,rfl⟩:=List.mem_map.1 h
  exact filled_val hp
theorem leads_ph {P:Int→Prop} {R:Rt.MS} (h:RtP P R) {y:Int} (hy:y∈Rt.leadsO (some R)):P y:=by
 rcases leads_val hy with h1|h1|h1
 ·exact h.1 y h1
 ·exact h.2.1 y h1
 ·exact h.2.2 y h1
theorem cWrong {w:World} {q:Nat} {hp:Addr} {fh:List Nat} {m:HO} (hq:At w q [.pointer (some hp)]) (h:HR w (some hp) fh m) (x:Int) (hx:x≤4611686018427387904):
  Cs Tryz.prog 177 [.int .i64 x,.pointer (some ⟨q,0,none⟩)] w fun v w'=>v=.bool (x !=0&&!hasO m x)∧Only [] w w':=by
 refine enter_sound_Is_1 rfl ?_
 unfold x_sound_Is_1
 by_cases c:x=0
 ·refine gO1 (bne_int_false c) ?_
  exact⟨by rw[Bool.false_and],Only.refl _ _⟩
 ·refine gO2 (bne_int_true c) hq.cell ?_
  refine callT (hHas h x hx) ?_
  rintro _ w2 ⟨rfl,ho⟩
  refine gO ?_
  exact⟨by rw[Bool.true_and],ho⟩
theorem wrong_no {s:HL} (hs:s.Ok) {x:Int} (h:PhP true s x):(x !=0&&!hasO (some s) x)=false:=by
 rcases h with rfl|⟨_,h⟩
 ·rfl
 ·rw[(has_iff hs).2 h];simp
theorem PhP.le {ph:Bool} {s:HL} (hs:s.Ok) {x:Int} (h:PhP ph s x):0≤x∧x≤4096:=by
 rcases h with rfl|⟨_,h⟩
 ·omega
 ·exact h.le hs
theorem Snd.ref {s:HL} {R:Rt.MS} (h:Snd true s R) {k j:Nat} (hk:s.st.getD k 0=1) (hj:j<(s.obAt k).rf.length):PhP true s (s.RF k j):=by
 refine h.1 (s.obAt k) (by simp only[HL.abs,List.mem_map];exact⟨k,mem_objs.2 hk,rfl⟩) _ ?_
 unfold HL.RF;simp[hj]
theorem cSoundIs {w:World} {hp:Addr} {ar:Option Addr} {fh fr:List Nat} {s:HL} {R:Rt.MS} (hr:HR w (some hp) fh (some s)) (hs:s.Ok) (hR:Rt.PR w ar fr (some R)) (hsn:Snd true s R) (h40:s.objs.length≤2000) (hll:(Rt.leadsO (some R)).length≤1000):
  Cs Tryz.prog 93 [.pointer (some hp),.pointer ar] w fun v w'=>v=.bool true∧Only [] w w':=by
 refine enter_sound_Is rfl ?_
 unfold x_sound_Is
 refine gO ?_
 refine boxT fun q w1 hq hs1 hat1 ho1=>?_
 refine gO ?_
 refine callT (Rt.Leads_m (hR.keep0 ho1)) ?_
 rintro v w2 ⟨ho2,fl,hl2,_⟩
 obtain⟨l,hle⟩: ∃l,l=Rt.leadsO (some R):=⟨_,rfl⟩
 rw[←hle]at hl2 hll
 obtain⟨al,cl,rfl⟩:=hl2.val
 have o2:=ho1.nil ho2
 have hq2:=hat1.keep0 ho2
 have hlp: ∀x,x∈l→PhP true s x:=fun x hx=>leads_ph hsn.2 (by rw[←hle];exact hx)
 refine gO ?_
 refine callT (containsFunc (p:=fun x=>x !=0&&!hasO (some s) x) (F:=177) (caps:=#[.pointer (some ⟨q,0,none⟩)]) (fun hne=>?_) (by kernel_rfl) hll fun w' x ho hx=>?_) ?_
 ·obtain⟨g,cap',ys,e,hat,_⟩:=hl2.pos (by have:=List.length_pos_iff.2 hne;omega)
  cases e
  exact⟨g,ys,rfl,hat⟩
 ·exact cWrong (hq2.keep0 ho) (hr.keep0 (o2.nil ho)) x (by have:=(hlp x hx).le hs;omega)
 rintro _ w3 ⟨rfl,ho3⟩
 have hany:(l.any fun x=>x !=0&&!hasO (some s) x)=false:=List.any_eq_false.2 fun x hx=>by rw[wrong_no hs (hlp x hx)];simp
 rw[hany]
 have o3:=o2.nil ho3
 have hq3:=hq2.keep0 ho3
 refine gO1 hq3.cell ?_
 refine callT (hAll (hr.keep0 o3)) ?_
 rintro v w4 ⟨ho4,fA,hA,_⟩
 obtain⟨A,hAe⟩: ∃A,A=allH (some s):=⟨_,rfl⟩
 rw[←hAe]at hA
 have hAl:A.length≤2000:=by rw[hAe,allH_len];exact h40
 obtain⟨aA,cA,rfl⟩:=hA.val
 have o4:=o3.nil ho4
 have hq4:=hq3.keep0 ho4
 refine gO ?_
 refine run_loop (7::8::9::10::11::12::21::22::23::24::25::26::27::28::29::30::31::32::33::34::35::36::37::38::39::40::41::42::43::44::45::46::47::[]) (fun g w'=> ∃i:Nat,g 21=.int .i64 (i:Int)∧i≤A.length∧Only [] w4 w') (fun g _=>upTo A.length 21 g) ⟨0,by simp only[go_sem];rfl,by omega,Only.refl _ _⟩ fun g w5 hI hnext=>?_
 obtain⟨i,h21,hi,ho5⟩:=hI
 by_cases c1:i<A.length
 rotate_left
 ·refine gO2 h21 (decide_eq_false (show¬(i:Int)<(A.length:Int) by omega)) ?_
  exact o4.nil ho5
 obtain⟨gl,_,yl,el,hatl,_,_⟩:=(hA.keep0 ho5).pos (by omega)
 cases el
 have ci:(0:Int)≤(i:Int)∧(i:Int)<(A.length:Int):=by omega
 have vr:w5.cell? ⟨gl,i,none⟩=some (.int .i64 (A.getD i 0)):=by rw[hatl.cell];exact ints_append_get yl (by omega)
 obtain⟨k,hke,hk⟩:Liv s (A.getD i 0):=allH_mem.1 (by rw[←hAe];simp[c1])
 rw[hke]at vr
 have h2k:=live_le hs hk
 have hq5:=hq4.keep0 ho5
 have o5:=o4.nil ho5
 refine gJ5 h21 (decide_eq_true ci.2) (eq_true ci) vr hq5.cell ?_
 refine callT (hShape (hr.keep0 o5) ((2*k:Nat):Int) (by omega)) ?_
 rintro _ w6 ⟨rfl,ho6⟩
 rw[at_shape hs hk]
 refine gO ?_
 refine boxT fun q8 w7 hq8 hs7 hat7 ho7=>?_
 refine gO ?_
 refine stNT (cs:=shV (s.obAt k).sh) hat7 rfl (by simp[shV]) (shV_one _) fun w8 hs8 hat8 ho8=>?_
 rw[setL_sh]at hat8
 have o58:Only [] w5 w8:=ho6.nil (ho7.trans ho8 fun y hy=>by simp only[List.mem_singleton]at hy;subst hy;exact .inr (by omega))
 have hl1:=(obAt_len hs hk).1
 have h80:w8.cell? ⟨q8,0,none⟩=some (.int .i64 ((s.obAt k).rf.length:Int)):=by rw[hat8.cell,hl1];rfl
 have rl:=rf_le hs hk
 have hq8':=hq5.keep0 o58
 refine gO1 h80 ?_
 refine run_loop (10::11::12::33::34::35::36::37::38::39::40::41::42::43::44::45::46::[]) (fun g w'=> ∃j:Nat,g 33=.int .i64 (j:Int)∧j≤(s.obAt k).rf.length∧Only [] w8 w') (fun g _=>upTo (s.obAt k).rf.length 33 g) ⟨0,by simp only[go_sem];rfl,by omega,Only.refl _ _⟩ fun g2 w9 hJ hnext2=>?_
 obtain⟨j,h33,hj,ho9⟩:=hJ
 have o9:=o5.nil (o58.nil ho9)
 by_cases c2:j<(s.obAt k).rf.length
 rotate_left
 ·refine gO4 h21 h33 (decide_eq_false (show¬(j:Int)<((s.obAt k).rf.length:Int) by omega)) (i64_succ i (by omega)) ?_
  refine hnext _ w9 ?_ ⟨i+1,?_,by omega,ho5.nil (o58.nil ho9)⟩ ?_
  ·(repeat(first|with_reducible exact k_1|with_reducible exact Keeps.ovr _ _ _|refine Keeps.put ?_ rfl _|exact k_1|exact Keeps.ovr _ _ _|refine Keeps.ovr2 ?_ rfl _))
  ·simp only[go_sem]
  ·rw[upTo_int (i:=i) h21,upTo_int (k:=.i64) (i:=i+1) (by simp only[go_sem])];omega
 have hq9:=hq8'.keep0 ho9
 refine gO3 h33 (decide_eq_true (show(j:Int)<((s.obAt k).rf.length:Int) by omega)) hq9.cell ?_
 refine callT (hRef (hr.keep0 o9) ((2*k:Nat):Int) (j:Int) (by omega)) ?_
 rintro _ w10 ⟨rfl,ho10⟩
 rw[at_ref hs hk c2]
 have hph:=hsn.ref hk c2
 refine gO ?_
 refine callVT (callVals_f 177 #[] [.int .i64 ((s.obAt k).rf.getD j 0)] #[.pointer (some ⟨q,0,none⟩)]) (by kernel_rfl) (cWrong (hq9.keep0 ho10) (hr.keep0 (o9.nil ho10)) ((s.obAt k).rf.getD j 0) (by have:=hph.le hs;unfold HL.RF at this;omega)) ?_
 rintro _ w11 ⟨rfl,ho11⟩
 have hwn:=wrong_no hs hph
 unfold HL.RF at hwn
 rw[hwn]
 refine gO2 h33 (i64_succ j (by omega)) ?_
 refine hnext2 _ w11 ?_ ⟨j+1,?_,by omega,(ho9.nil ho10).nil ho11⟩ ?_
 ·(repeat(first|with_reducible exact k_1|with_reducible exact Keeps.ovr _ _ _|refine Keeps.put ?_ rfl _|exact k_1|exact Keeps.ovr _ _ _|refine Keeps.ovr2 ?_ rfl _))
 ·simp only[go_sem]
 ·rw[upTo_int (i:=j) h33,upTo_int (k:=.i64) (i:=j+1) (by simp only[go_sem])];omega
end Go.Proofs.YteiildhelefodaaGreat
end
section
namespace Go.Proofs.YteiildhelefodaaGreat
set_option maxRecDepth 8000
def FstP (p:Int→Bool) (xs:List Int) (k:Int):Prop:=(k= -1∧xs.any p=false)∨ ∃i:Nat,k=(i:Int)∧i<xs.length∧p (xs.getD i 0)=true∧(xs.take i).any p=false
theorem indexFuncX {w:World} {F:Nat} {caps:Array Value} {p:Int→Bool} {a:Option Addr} {xs:List Int} {cap:Nat} (hs:xs≠ []→ ∃s rest,a=some ⟨s,0,none⟩∧At w s (ints xs++rest)) (hok:okF Tryz.prog F=true)
  (hlen:xs.length≤4000) (hF: ∀w' x,Only [] w w'→x∈xs→Cs Tryz.prog F ([.int .i64 x]++caps.toList) w' fun v w''=>v=.bool (p x)∧Only [] w' w''):
  Cs Tryz.prog 140 [.slice a xs.length cap,.func (.func F) #[] caps] w fun v w'=>(∃k:Int,v=.int .i64 k∧FstP p xs k)∧Only [] w w':=by
 refine enter_slices_IndexFunc___int_int_ rfl ?_
 unfold x_slices_IndexFunc___int_int_
 refine gO ?_
 refine run_loop [5,8,9,10,11,12,13,14,15,16,18] (fun g w'=> ∃i:Nat,g 8=.int .i64 i∧i≤xs.length∧(xs.take i).any p=false∧Only [] w w') (fun g _=>upTo xs.length 8 g) ⟨0,by simp only[go_sem];rfl,by omega,by simp,Only.refl _ _⟩ fun g w' hI hnext=>?_
 obtain⟨i,h8,hi,hany,ho⟩:=hI
 by_cases hlt:i<xs.length
 rotate_left
 ·refine gO2 h8 (decide_eq_false (show¬(i:Int)<(xs.length:Int) by omega)) ?_
  rw[List.take_of_length_le (by omega)]at hany
  exact⟨⟨-1,rfl,.inl ⟨rfl,hany⟩⟩,ho⟩
 obtain⟨s,rest,rfl,hat⟩:=hs (by intro e;subst e;simp at hlt)
 have c1:(0:Int)≤(i:Int)∧(i:Int)<(xs.length:Int):=⟨by omega,by omega⟩
 (repeat(first|with_reducible(first|refine nx ?_|refine r_6 rfl ?_)|simp only[go_sem,h8,decide_eq_true c1.2,if_pos c1,(hat.keep0 ho).cell,ints_append_get rest hlt,Int.toNat_natCast,Nat.mul_one]))
 have hF':Cs Tryz.prog F ((#[]:Array Value).toList++[.int .i64 (xs.getD i 0)]++caps.toList) w' fun v w''=>v=.bool (p (xs.getD i 0))∧Only [] w' w'':=by
  have:=hF w' (xs.getD i 0) ho (by simp[hlt])
  simpa using this
 refine callVT (callVals_f F #[] [.int .i64 (xs.getD i 0)] caps) hok hF' ?_
 rintro v w2 ⟨rfl,ho2⟩
 refine gO ?_
 refine condT (fun hp=>?_) (fun hp=>?_)
 ·refine gO ?_
  exact⟨⟨i,rfl,.inr ⟨i,rfl,hlt,hp,hany⟩⟩,ho.nil ho2⟩
 ·refine gO2 h8 (i64_succ i (by omega)) ?_
  refine hnext _ w2 ?_ ⟨i+1,?_,by omega,by rw[any_take_succ hlt,hany,hp];rfl,ho.nil ho2⟩ ?_
  ·(repeat(first|with_reducible exact k_1|with_reducible exact Keeps.ovr _ _ _|refine Keeps.put ?_ rfl _|exact k_1|exact Keeps.ovr _ _ _|refine Keeps.ovr2 ?_ rfl _))
  ·simp only[go_sem]
  ·rw[upTo_int h8,upTo_int (k:=.i64) (i:=i+1) (by simp only[go_sem])];omega
theorem slcO_h {size n cap h:Nat} {k:IntKind} {g:Nat} (h1:h≤cap):slcO size (.slice (some ⟨g,0,none⟩) n cap) none (some (.int k (h:Int)))=some (.slice (some ⟨g,0,none⟩) h cap):=by
 have e2:(0:Int)≤(h:Int)∧(h:Int)≤(cap:Int):=by omega
 have e3:(⟨g,0,none⟩:Addr).add (0*size)=⟨g,0,none⟩:=by rw[addr_add];simp
 simp[slcO,boundO,e2]
 intro _
 rw[addr_add]
theorem filt_succ {xs:List Int} {p:Int→Bool} {i:Nat} (h:i<xs.length):(xs.take (i+1)).filter p=(xs.take i).filter p++if p (xs.getD i 0)then [xs.getD i 0]else []:=by
 rw[List.take_succ_eq_append_getElem h,List.filter_append]
 congr 1
 simp[List.filter_cons,h]
theorem deleteFunc {w:World} {F:Nat} {caps:Array Value} {p:Int→Bool} {v0:Value} {xs:List Int} {fq:List Nat} (hsl:Sl w 1 v0 xs.length (ints xs) fq) (hok:okF Tryz.prog F=true)
  (hlen:xs.length≤4000) (hF: ∀w' x,Only fq w w'→x∈xs→Cs Tryz.prog F ([.int .i64 x]++caps.toList) w' fun v w''=>v=.bool (p x)∧Only [] w' w''):
  Cs Tryz.prog 59 [v0,.func (.func F) #[] caps] w fun v w'=>Only fq w w'∧Sl w' 1 v (xs.filter fun x=>!p x).length (ints (xs.filter fun x=>!p x)) fq:=by
 obtain⟨a0,cap,rfl⟩:=hsl.val
 refine enter_slices_DeleteFunc___int_int_ rfl ?_
 unfold x_slices_DeleteFunc___int_int_
 refine gO ?_
 refine callT (indexFuncX (p:=p) (fun hne=>?_) hok hlen fun w' x ho hx=>hF w' x (ho.mono (by simp)) hx) ?_
 ·obtain⟨g,cap',ys,e,hat,_⟩:=hsl.pos (List.length_pos_iff.2 hne)
  cases e
  exact⟨g,ys,rfl,hat⟩
 rintro _ w1 ⟨⟨k,rfl,hk⟩,ho1⟩
 rcases hk with⟨rfl,hk⟩|⟨i0,rfl,hi0,hp0,hk0⟩
 ·refine gO ?_
  have e:(xs.filter fun x=>!p x)=xs:=List.filter_eq_self.2 fun x hx=>by
   have:=List.any_eq_false.1 hk x hx
   simpa using this
  rw[e]
  exact⟨ho1.mono (by simp),hsl.keep0 ho1⟩
 obtain⟨g,ys,e,hat,rfl,hcl⟩: ∃g ys,a0=some ⟨g,0,none⟩∧At w g (ints xs++ys)∧fq=[g]∧(ints xs++ys).length=cap:=by
  rcases hsl.2 with⟨_,h0,_⟩|⟨g,cap',ys,T,h1,h2,h3,h4,h5⟩
  ·omega
  ·cases h1;exact⟨g,ys,rfl,⟨T,h3⟩,h2,by simpa using h4⟩
 subst e
 have hcap:xs.length≤cap:=by rw[List.length_append,ints_length]at hcl;omega
 have e1:((i0:Int)== -1)=false:=beq_int_false (by omega)
 refine gO2 e1 (i64_succ i0 (by omega)) ?_
 have f0:(xs.take i0).filter (fun x=>!p x)=xs.take i0:=List.filter_eq_self.2 fun x hx=>by
  have:=List.any_eq_false.1 hk0 x hx
  simpa using this
 refine run_loop (5::6::7::16::17::18::19::20::21::22::23::24::25::26::27::28::29::30::31::32::33::34::35::[]) (fun gg w'=> ∃(i j:Nat) (mid:List Int),gg 5=.int .i64 (i:Int)∧gg 6=.int .i64 (j:Int)∧j≤xs.length∧((xs.take j).filter fun x=>!p x).length=i∧i+mid.length=j∧0<mid.length∧Only [g] w w'∧At w' g (ints ((xs.take j).filter (fun x=>!p x)++mid++xs.drop j)++ys))
  (fun gg _=>upTo xs.length 6 gg) ⟨i0,i0+1,[xs.getD i0 0],by simp only[go_sem],by simp only[go_sem],by omega,?_,rfl,Nat.one_pos,ho1.mono (by simp),?_⟩ fun gg w2 hI hnext=>?_
 ·rw[filt_succ hi0,f0];simp only[hp0,Bool.not_true,Bool.false_eq_true,if_false,List.append_nil,List.length_take];omega
 ·rw[filt_succ hi0,f0]
  have:xs.take i0++[xs.getD i0 0]++xs.drop (i0+1)=xs:=by
   conv=>rhs;rw[←List.take_append_drop i0 xs,List.drop_eq_getElem_cons hi0]
   simp[hi0]
  simp only[hp0,Bool.not_true,Bool.false_eq_true,if_false,List.append_nil,this]
  exact hat.keep0 ho1
 obtain⟨i,j,mid,h5,h6,hj,hf,hij,hm,ho2,hat2⟩:=hI
 by_cases c:j<xs.length
 rotate_left
 ·have hje:j=xs.length:=by omega
  subst hje
  rw[List.take_length]at hf hat2
  rw[List.drop_length,List.append_nil]at hat2
  refine gO3 h5 h6 (decide_eq_false (show¬((xs.length:Nat):Int)<(xs.length:Int) by omega)) ?_
  rw[slcO_l (show i≤xs.length by omega) (by omega)]
  (repeat(first|with_reducible(first|refine nx ?_|refine r_6 rfl ?_)|simp only[go_sem,addr_add,Nat.zero_add,Nat.mul_one]))
  refine clearT Tryz.underlying33 (Tryz.zeroValue3 w2) rfl hat2 (by rw[List.length_append,ints_length,List.length_append];omega) fun w3 hs3 hat3 ho3=>?_
  refine gO1 h5 ?_
  rw[slcO_h (show i≤cap by omega)]
  refine gO ?_
  refine⟨ho2.trans ho3 (fun x hx=>.inl hx),?_⟩
  rw[ints_append,List.append_assoc,List.append_assoc,List.take_left' (by rw[ints_length];exact hf)]at hat3
  rw[hf]
  refine Sl.mk1 (hat3) (by rw[ints_length];exact hf) ?_
  rw[←hcl]
  simp only[List.length_append,ints_length,List.length_replicate,List.length_drop,hf]
  omega
 obtain⟨m0,mid',rfl⟩:=List.exists_cons_of_length_pos hm
 have hdj:xs.drop j=xs.getD j 0::xs.drop (j+1):=by rw[List.drop_eq_getElem_cons c];simp[c]
 have cj:(0:Int)≤(j:Int)∧(j:Int)<(xs.length:Int):=by omega
 obtain⟨K,hK⟩: ∃K,K=(xs.take j).filter fun x=>!p x:=⟨_,rfl⟩
 rw[←hK]at hf hat2
 have vr:w2.cell? ⟨g,j,none⟩=some (.int .i64 (xs.getD j 0)):=by
  rw[hat2.cell,ints_append_get ys (by simp only[List.length_append,List.length_drop,hf]at*;omega),hdj]
  congr 2
  rw[List.getD_eq_getElem?_getD,List.getElem?_append_right (by simp only[List.length_append,hf];omega),show j-(K++m0::mid').length=0 by simp only[List.length_append,hf];omega]
  rfl
 refine gJ5 h5 h6 (decide_eq_true cj.2) (eq_true cj) vr ?_
 have hF':Cs Tryz.prog F ((#[]:Array Value).toList++[.int .i64 (xs.getD j 0)]++caps.toList) w2 fun v w''=>v=.bool (p (xs.getD j 0))∧Only [] w2 w'':=by
  have:=hF w2 (xs.getD j 0) ho2 (by simp[c])
  simpa using this
 refine callVT (callVals_f F #[] [.int .i64 (xs.getD j 0)] caps) hok hF' ?_
 rintro v w3 ⟨rfl,ho3⟩
 have hat3:=hat2.keep0 ho3
 cases hp:p (xs.getD j 0)with
 |true=>
  refine gO2 h6 (i64_succ j (by omega)) ?_
  refine hnext _ w3 ?_ ⟨i,j+1,m0::mid'++[xs.getD j 0],?_,?_,by omega,?_,?_,by simp,ho2.nil ho3,?_⟩ ?_
  ·(repeat(first|with_reducible exact k_1|with_reducible exact Keeps.ovr _ _ _|refine Keeps.put ?_ rfl _|exact k_1|exact Keeps.ovr _ _ _|refine Keeps.ovr2 ?_ rfl _))
  ·simp only[go_sem,h5]
  ·simp only[go_sem]
  ·rw[filt_succ c,hp];simp[←hK,hf]
  ·simp at hij⊢;omega
  ·rw[filt_succ c,hp,←hK]
   rw[hdj]at hat3
   simpa using hat3
  ·rw[upTo_int (i:=j) h6,upTo_int (k:=.i64) (i:=j+1) (by simp only[go_sem])];omega
 |false=>
  have ci:(0:Int)≤(i:Int)∧(i:Int)<(xs.length:Int):=by omega
  refine gJ2 h5 (eq_true ci) ?_
  refine stT hat3 (by simp only[List.length_append,ints_length,List.length_drop,hf];omega) rfl fun w4 hs4 hat4 ho4=>?_
  refine gO4 h5 h6 (i64_succ i (by omega)) (i64_succ j (by omega)) ?_
  refine hnext _ w4 ?_ ⟨i+1,j+1,mid'++[xs.getD j 0],?_,?_,by omega,?_,?_,by simp,(ho2.nil ho3).trans ho4 (fun x hx=>.inl hx),?_⟩ ?_
  ·(repeat(first|with_reducible exact k_1|with_reducible exact Keeps.ovr _ _ _|refine Keeps.put ?_ rfl _|exact k_1|exact Keeps.ovr _ _ _|refine Keeps.ovr2 ?_ rfl _))
  ·simp only[go_sem]
  ·simp only[go_sem]
  ·rw[filt_succ c,hp];simp[←hK,hf]
  ·simp at hij⊢;omega
  ·rw[filt_succ c,hp,←hK]
   rw[hdj]at hat4
   have e:(ints (K++m0::mid'++xs.getD j 0::xs.drop (j+1))++ys).set i (.int .i64 (xs.getD j 0))=ints (K++[xs.getD j 0]++(mid'++[xs.getD j 0])++xs.drop (j+1))++ys:=by
    rw[List.set_append_left _ _ (by simp only[List.length_append,ints_length,hf,List.length_cons];omega)]
    congr 1
    simp only[ints_append,List.append_assoc]
    rw[List.set_append_right _ _ (by rw[ints_length,hf];exact Nat.le_refl _),ints_length,hf,Nat.sub_self]
    simp[ints]
   rw[e]at hat4
   simpa using hat4
  ·rw[upTo_int (i:=j) h6,upTo_int (k:=.i64) (i:=j+1) (by simp only[go_sem])];omega
end Go.Proofs.YteiildhelefodaaGreat
end
section
namespace Go.Proofs.YteiildhelefodaaGreat
set_option maxRecDepth 8000
def adO (s:HL) (k:Int):Option Int:=match getM s.pl k with
 |some (.int _ a)=>some a
 |_=>none
def adE (s:HL) (k:Int):Int×Int:=match adO s k with
 |some a=>(a,0)
 |none=>(0,4)
theorem hAt {w:World} {hp:Addr} {fp:List Nat} {s:HL} (h:HR w (some hp) fp (some s)) (hi:s.Inv) (x:Int):Cs Tryz.prog 76 [.pointer (some hp),.int .i64 x] w fun r w'=>r=.tuple #[.int .i64 (adE s x).1,.int .i64 (adE s x).2]∧Only [] w w':=by
 refine enter_heap_Heap_At rfl ?_
 unfold x_heap_Heap_At
 have hm:=hMade h
 obtain⟨b,e,gB,gW,cB,cW,yB,yW,sb,sg,pb,pg,bl,bf,h2,h3⟩:=h
 cases e
 refine gO ?_
 refine callT0 hm ?_
 refine gO1 h3.hb.cell ?_
 refine lkp2T Tryz.underlying67 Tryz.underlying3 (Tryz.zeroValue3 _) h3.hl ?_
 cases e:getM s.pl x with
 |none=>
  refine gO ?_
  exact⟨by simp[adE,adO,e],Only.refl _ _⟩
 |some v=>
  obtain⟨i,_,rfl,_⟩:=hi.pm.b x v e
  refine gO ?_
  exact⟨by simp[adE,adO,e],Only.refl _ _⟩
def RG (w:World) (b:Nat) (hp:Addr) (ar:Option Addr) (L:List Int) (fl:List Nat):Prop:= ∃v,At w b [.pointer (some hp),.pointer ar,v]∧Sl w 1 v L.length (ints L) fl∧b∉fl
theorem RG.keep {w w':World} {b:Nat} {hp:Addr} {ar:Option Addr} {L:List Int} {fl S:List Nat} (h:RG w b hp ar L fl) (k:Only S w w') (hb:b∉S) (hf: ∀x,x∈fl→x∉S):RG w' b hp ar L fl:=by
 obtain⟨v,h1,h2,h3⟩:=h
 exact⟨v,h1.keep k hb,h2.keep k hf,h3⟩
theorem RG.keep0 {w w':World} {b:Nat} {hp:Addr} {ar:Option Addr} {L:List Int} {fl:List Nat} (h:RG w b hp ar L fl) (k:Only [] w w'):RG w' b hp ar L fl:=h.keep k (by simp) (by simp)
theorem gMade {w:World} {b:Nat} {hp:Addr} {ar:Option Addr} {L:List Int} {fl:List Nat} (h:RG w b hp ar L fl):Cs Tryz.prog 49 [.pointer (some ⟨b,0,none⟩)] w fun v w'=>v=.bool true∧w'=w:=by
 obtain⟨v,h1,h2,h3⟩:=h
 refine enter_final_Registry_made rfl ?_
 unfold x_final_Registry_made
 (repeat(first|with_reducible(first|refine nx ?_|refine r_6 rfl ?_)|simp only[go_sem,h1.cell]))
theorem cGone {w:World} {q b:Nat} {hp:Addr} {fp:List Nat} {s:HL} {y:List Value} (hq:At w q [.pointer (some ⟨b,0,none⟩)]) (hb:At w b (.pointer (some hp)::y)) (h:HR w (some hp) fp (some s)) (hi:s.Inv) (x:Int):
  Cs Tryz.prog 133 [.int .i64 x,.pointer (some ⟨q,0,none⟩)] w fun v w'=>v=.bool (!(adO s x).isSome)∧Only [] w w':=by
 refine enter_final_Registry_tidy_1 rfl ?_
 unfold x_final_Registry_tidy_1
 refine gO2 hq.cell hb.cell ?_
 refine callT (hAt h hi x) ?_
 rintro _ w1 ⟨rfl,ho1⟩
 cases e:adO s x with
 |none=>
  (repeat(first|with_reducible(first|refine nx ?_|refine r_6 rfl ?_)|simp only[go_sem,adE,e]))
  exact ho1
 |some a=>
  (repeat(first|with_reducible(first|refine nx ?_|refine r_6 rfl ?_)|simp only[go_sem,adE,e]))
  exact ho1
def tidyL (s:HL) (L:List Int):List Int:=L.filter fun x=>(adO s x).isSome
theorem gTidy {w:World} {b:Nat} {hp:Addr} {ar:Option Addr} {L:List Int} {fl fp:List Nat} {s:HL} (h:RG w b hp ar L fl) (hl:L.length≤4000) (hr:HR w (some hp) fp (some s)) (hi:s.Inv) (hbf:b∉fp):Cs Tryz.prog 50 [.pointer (some ⟨b,0,none⟩)] w fun _ w'=> ∃fl',RG w' b hp ar (tidyL s L) fl'∧Only [b] w w'∧(∀x,x∈fl'→w.heap.size≤x):=by
 obtain⟨v,h1,h2,h3⟩:=h
 refine enter_final_Registry_tidy rfl ?_
 unfold x_final_Registry_tidy
 refine gO ?_
 refine boxT fun q w1 hq hs1 hat1 ho1=>?_
 refine gO ?_
 have hb1:=h1.keep0 ho1
 refine run_drt [q,b] ?_
 have lts: ∀z,z∈[q,b]→z<w1.drew.heap.size:=fun z hz=>by
  simp only[List.mem_cons,List.not_mem_nil,or_false]at hz
  rcases hz with rfl|rfl
  ·exact hat1.lt
  ·exact hb1.lt
 have hq1:=hat1.keep0 (Only.drew [] w1)
 have hb2:=hb1.keep0 (Only.drew [] w1)
 have od:=ho1.nil (Only.drew [] w1)
 refine gO2 hq1.cell hb2.cell ?_
 refine callS (sclone (h2.keep0 od).src ints_one (by omega)) ?_
 rintro vc w2 ⟨ho2,fc,hc2,gc⟩
 refine⟨.inr ((SB.refl _ _).only ho2 fun z hz=>⟨lts z hz,by simp⟩),?_⟩
 have o2:=od.nil ho2
 have gc0: ∀z,z∈fc→w.heap.size≤z:=fun z hz=>Nat.le_trans od.size (gc z hz)
 have dis: ∀z,z<w1.drew.heap.size→z∉fc:=fun z hz e=>by have:=gc z e;omega
 refine gO ?_
 refine callS (deleteFunc (p:=fun x=>!(adO s x).isSome) (F:=133) (caps:=#[.pointer (some ⟨q,0,none⟩)]) hc2 (by kernel_rfl) hl fun w' x ho hx=>?_) ?_
 ·refine cGone ((hq1.keep0 ho2).keep ho (dis q (lts q (by simp)))) ((hb2.keep0 ho2).keep ho (dis b (lts b (by simp)))) ((hr.keep0 o2).keep ho fun z hz=>dis z ?_) hi x
  exact Nat.lt_of_lt_of_le (hr.lt z hz) od.size
 rintro vd w3 ⟨ho3,hd3⟩
 refine⟨.inr (((SB.refl _ _).only ho2 fun z hz=>⟨lts z hz,by simp⟩).only ho3 fun z hz=>⟨Nat.lt_of_lt_of_le (lts z hz) ho2.size,dis z (lts z hz)⟩),?_⟩
 have hb3:=(hb2.keep0 ho2).keep ho3 (dis b (lts b (by simp)))
 have ev:(L.filter fun x=>!(!(adO s x).isSome))=tidyL s L:=by unfold tidyL;congr 1;funext x;simp
 rw[ev]at hd3
 refine gO ?_
 refine stS hb3 (by simp) hd3.oneC' fun w4 hs4 hat4 ho4=>⟨.inl rfl,?_⟩
 refine gO ?_
 exact⟨fc,⟨vd,hat4,hd3.keep ho4 fun z hz e=>dis b (lts b (by simp)) (by simp only[List.mem_singleton]at e;exact e▸hz),fun e=>dis b (lts b (by simp)) e⟩,(o2.trans ho3 fun z hz=>.inr (gc0 z hz)).of_nil.trans ho4 fun z hz=>.inl hz,gc0⟩
end Go.Proofs.YteiildhelefodaaGreat
end
section
namespace Go.Proofs.YteiildhelefodaaGreat
set_option maxRecDepth 8000
theorem gNew {w:World} {hp:Addr} {ar:Option Addr} {fp fr:List Nat} {s:HL} {R:Rt.MS} (h:HR w (some hp) fp (some s)) (hs:s.Ok) (hR:Rt.PR w ar fr (some R)) (hm:Rt.mutO (some R)≠0):
  Cs Tryz.prog 29 [.pointer (some hp),.pointer ar] w fun v w'=>Only [] w w'∧ ∃b,v=.tuple #[.pointer (some ⟨b,0,none⟩),.int .i64 0]∧RG w' b hp ar [] []∧w.heap.size≤b:=by
 refine enter_final_New rfl ?_
 unfold x_final_New
 have hb2:=hs.b2
 refine gO ?_
 refine callT0 (hBlocks h) ?_
 have e1:decide ((blocksO (some s):Int)≤0)=false:=decide_eq_false (by show¬((s.B.length:Nat):Int)≤0;omega)
 have e2:(Rt.mutO (some R)==0)=false:=beq_int_false hm
 refine gO1 e1 ?_
 refine callT0 (Rt.Mutators_m hR) ?_
 refine gO1 e2 ?_
 rw[fillL_one rfl rfl,fillL_one rfl rfl]
 refine gO ?_
 refine boxT fun b w1 hb hs1 hat1 ho1=>?_
 refine gO ?_
 exact⟨ho1,b,rfl,⟨_,hat1,Sl.nil1 _,by simp⟩,by omega⟩
def regE (s:HL) (L:List Int) (x:Int):Int:=if(identO (some s) x).2≠0 then(identO (some s) x).2 else if(identO (some s) x).1∈tidyL s L then 8 else if 64≤(tidyL s L).length then 6 else 0
def regL (s:HL) (L:List Int) (x:Int):List Int:=if(identO (some s) x).2≠0 then L else if(identO (some s) x).1∈tidyL s L then tidyL s L else if 64≤(tidyL s L).length then tidyL s L else tidyL s L++[(identO (some s) x).1]
theorem gRegister {w:World} {b:Nat} {hp:Addr} {ar:Option Addr} {L:List Int} {fl fp:List Nat} {s:HL} (h:RG w b hp ar L fl) (hl:L.length≤4000) (hr:HR w (some hp) fp (some s)) (hi:s.Inv) (hbf:b∉fp) (x:Int) (hx:x≤4611686018427387904):
  Cs Tryz.prog 12 [.pointer (some ⟨b,0,none⟩),.int .i64 x] w fun v w'=>v=.int .i64 (regE s L x)∧ ∃fl',RG w' b hp ar (regL s L x) fl'∧Only [b] w w'∧(∀y,y∈fl'→y∈fl∨w.heap.size≤y):=by
 refine enter_final_Registry_Register rfl ?_
 unfold x_final_Registry_Register
 refine gO ?_
 refine callT0 (gMade h) ?_
 obtain⟨v0,h1,h2,h3⟩:=id h
 refine gO1 h1.cell ?_
 refine callT (hIdent hr x hx) ?_
 rintro _ w1 ⟨rfl,ho1⟩
 by_cases c:(identO (some s) x).2=0
 rotate_left
 ·refine gO1 (bne_int_true c) ?_
  refine⟨by unfold regE;rw[if_pos c],fl,?_,ho1.of_nil,fun y hy=>.inl hy⟩
  unfold regL;rw[if_pos c];exact h.keep0 ho1
 unfold regE regL
 simp only[ne_eq,c,not_true_eq_false,if_false]
 refine gO1 (bne_int_false c) ?_
 refine callT (gTidy (h.keep0 ho1) hl (hr.keep0 ho1) hi hbf) ?_
 rintro _ w2 ⟨f2,hg2,ho2,ge2⟩
 obtain⟨v2,hb2,hl2,hn2⟩:=id hg2
 have z1:=ho1.size
 have o2:Only [b] w w2:=(ho1.of_nil).trans ho2 fun y hy=>.inl hy
 have g2: ∀y,y∈f2→y∈fl∨w.heap.size≤y:=fun y hy=>.inr (Nat.le_trans z1 (ge2 y hy))
 have hLl:(tidyL s L).length≤4000:=Nat.le_trans (List.length_filter_le _ _) hl
 refine gO1 hb2.cell ?_
 refine callT0 (Contains_m hl2.rd (by omega) (identO (some s) x).1) ?_
 by_cases c2:(identO (some s) x).1∈tidyL s L
 ·have e:(tidyL s L).contains (identO (some s) x).1=true:=List.contains_iff_mem.2 c2
  rw[e]
  refine gO ?_
  rw[if_pos c2,if_pos c2]
  exact⟨rfl,f2,hg2,o2,g2⟩
 have e:(tidyL s L).contains (identO (some s) x).1=false:=by rw[Bool.eq_false_iff];exact fun e=>c2 (List.contains_iff_mem.1 e)
 rw[e,if_neg c2,if_neg c2]
 obtain⟨a2,c2',e2⟩:=hl2.val
 by_cases c3:64≤(tidyL s L).length
 ·subst e2
  refine gO2 hb2.cell (decide_eq_true (show(64:Int)≤((tidyL s L).length:Int) by omega)) ?_
  rw[if_pos c3,if_pos c3]
  exact⟨rfl,f2,hg2,o2,g2⟩
 rw[if_neg c3,if_neg c3]
 subst e2
 refine gO2 hb2.cell (decide_eq_false (show¬(64:Int)≤((tidyL s L).length:Int) by omega)) ?_
 rw[fillL_one rfl rfl]
 refine gO ?_
 refine bslT fun q6 w6 hq6 hs6 hat6 ho6=>?_
 refine gO ?_
 refine appT (hl2.keep0 ho6) (SrcIs.at (us:=[.int .i64 (identO (some s) x).1]) hat6 rfl) (by simp[oneC]) (by omega) (by omega) ?_
 intro v7 w7 f7 hs7 hf7 ho7 _
 have hbw:=hb2.lt
 have hne:b∉f7:=by
  rcases hf7 with rfl|rfl
  ·exact hn2
  ·have:=ho6.size;simp only[List.mem_singleton];omega
 have hb7:=(hb2.keep0 ho6).keep ho7 hn2
 refine gO ?_
 refine stT hb7 (by simp) hs7.oneC' fun w8 hs8 hat8 ho8=>?_
 refine gO ?_
 refine⟨f7,⟨v7,hat8,?_,hne⟩,((o2.nil ho6).trans ho7 fun y hy=>.inr (Nat.le_trans z1 (ge2 y hy))).trans ho8 fun y hy=>.inl hy,?_⟩
 ·have:=hs7.keep ho8 fun z hz e=>hne (by simp only[List.mem_singleton]at e;exact e▸hz)
  rw[List.length_append,ints_append];exact this
 ·intro y hy
  rcases hf7 with rfl|rfl
  ·exact g2 y hy
  ·have:=ho6.size;have:=o2.size;simp only[List.mem_singleton]at hy;omega
end Go.Proofs.YteiildhelefodaaGreat
end
section
namespace Go.Proofs.YteiildhelefodaaGreat
set_option maxRecDepth 8000
def listA (s:HL) (L:List Int):List Int:=L.filterMap (adO s)
theorem listA_snoc {s:HL} {L:List Int} {i:Nat} (h:i<L.length):listA s (L.take (i+1))=listA s (L.take i)++(match adO s (L.getD i 0)with|some a=>[a]|none=>[]):=by
 unfold listA
 rw[List.take_succ_eq_append_getElem h,List.filterMap_append]
 congr 1
 simp only[List.filterMap_cons,List.filterMap_nil,List.getD_eq_getElem?_getD,List.getElem?_eq_getElem h,Option.getD_some]
 cases adO s L[i]<;>rfl
theorem listA_len (s:HL) (L:List Int):(listA s L).length≤L.length:=List.length_filterMap_le _ _
theorem gList {w:World} {b:Nat} {hp:Addr} {ar:Option Addr} {L:List Int} {fl fp:List Nat} {s:HL} (h:RG w b hp ar L fl) (hl:L.length≤4000) (hr:HR w (some hp) fp (some s)) (hi:s.Inv):
  Cs Tryz.prog 19 [.pointer (some ⟨b,0,none⟩)] w fun v w'=>Only [] w w'∧ ∃fq,Sl w' 1 v (listA s L).length (ints (listA s L)) fq∧ ∀y,y∈fq→w.heap.size≤y:=by
 refine enter_final_Registry_List rfl ?_
 unfold x_final_Registry_List
 refine gO ?_
 refine callT0 (gMade h) ?_
 obtain⟨v0,h1,h2,h3⟩:=id h
 obtain⟨a0,c0,rfl⟩:=h2.val
 refine gO1 h1.cell ?_
 refine run_loop (3::5::6::7::16::17::18::19::20::21::22::23::24::25::26::27::28::29::30::31::32::33::34::35::[]) (fun g w'=> ∃(i:Nat) (fq:List Nat),g 16=.int .i64 (i:Int)∧i≤L.length∧Only [] w w'∧Sl w' 1 (g 3) (listA s (L.take i)).length (ints (listA s (L.take i))) fq∧ ∀y,y∈fq→w.heap.size≤y) (fun g _=>upTo L.length 16 g)
  ⟨0,[],by simp only[go_sem];rfl,by omega,Only.refl _ _,by simp only[go_sem];exact Sl.nil1 _,fun y hy=>absurd hy (by simp)⟩ fun g w5 hI hnext=>?_
 obtain⟨i,fq,h16,hi1,ho5,hq5,ge5⟩:=hI
 by_cases c1:i<L.length
 rotate_left
 ·refine gO2 h16 (decide_eq_false (show¬(i:Int)<(L.length:Int) by omega)) ?_
  rw[List.take_of_length_le (by omega)]at hq5
  exact⟨ho5,fq,hq5,ge5⟩
 obtain⟨gr,_,yr,er,hatr,_,_⟩:=(h2.keep0 ho5).pos (by omega)
 cases er
 have ci:(0:Int)≤(i:Int)∧(i:Int)<(L.length:Int):=by omega
 have vr:w5.cell? ⟨gr,i,none⟩=some (.int .i64 (L.getD i 0)):=by rw[hatr.cell];exact ints_append_get yr (by omega)
 have hsn:=listA_snoc (s:=s) c1
 have hll:=listA_len s (L.take i)
 rw[List.length_take]at hll
 have zz:=i64_succ i (by omega)
 (repeat(first|with_reducible(first|refine nx ?_|refine r_6 rfl ?_)|simp only[go_sem,h16,decide_eq_true ci.2,if_pos ci,Int.toNat_natCast,Nat.mul_one,vr,(h1.keep0 ho5).cell]))
 refine callT (hAt (hr.keep0 ho5) hi (L.getD i 0)) ?_
 rintro _ w6 ⟨rfl,ho6⟩
 unfold adE
 cases ha:adO s (L.getD i 0)with
 |none=>
  rw[ha]at hsn
  refine gO2 h16 zz ?_
  refine hnext _ w6 ?_ ⟨i+1,fq,?_,by omega,ho5.nil ho6,?_,ge5⟩ ?_
  ·(repeat(first|with_reducible exact k_1|with_reducible exact Keeps.ovr _ _ _|refine Keeps.put ?_ rfl _|exact k_1|exact Keeps.ovr _ _ _|refine Keeps.ovr2 ?_ rfl _))
  ·simp only[go_sem]
  ·simp only[go_sem];rw[hsn,List.append_nil];exact hq5.keep0 ho6
  ·rw[upTo_int (i:=i) h16,upTo_int (k:=.i64) (i:=i+1) (by simp only[go_sem])];omega
 |some a=>
  rw[ha]at hsn
  refine gO1 h16 ?_
  rw[fillL_one rfl rfl]
  refine gO ?_
  refine bslT fun q6 w7 hq6 hs7 hat7 ho7=>?_
  refine gO ?_
  refine appT ((hq5.keep0 ho6).keep0 ho7) (SrcIs.at (us:=[.int .i64 a]) hat7 rfl) (by simp[oneC]) (by omega) (by omega) ?_
  intro v8 w8 f8 hs8 hf8 ho8 _
  have z5:=ho5.size
  have z6:=ho6.size
  have z7:=ho7.size
  have o58:Only [] w w8:=((ho5.nil ho6).nil ho7).trans ho8 fun y hy=>.inr (ge5 y hy)
  refine gO2 h16 zz ?_
  refine hnext _ w8 ?_ ⟨i+1,f8,?_,by omega,o58,?_,?_⟩ ?_
  ·(repeat(first|with_reducible exact k_1|with_reducible exact Keeps.ovr _ _ _|refine Keeps.put ?_ rfl _|exact k_1|exact Keeps.ovr _ _ _|refine Keeps.ovr2 ?_ rfl _))
  ·simp only[go_sem]
  ·simp only[go_sem];rw[hsn,List.length_append,ints_append];exact hs8
  ·intro y hy
   rcases hf8 with e|e<;>rw[e]at hy
   ·exact ge5 y hy
   ·simp only[List.mem_singleton]at hy;omega
  ·rw[upTo_int (i:=i) h16,upTo_int (k:=.i64) (i:=i+1) (by simp only[go_sem])];omega
end Go.Proofs.YteiildhelefodaaGreat
end
section
namespace Go.Proofs.YteiildhelefodaaGreat
set_option maxRecDepth 8000
theorem setM_filter (T:List Int) (x:Int):(setM T).filter (fun q=>q.1 !=x)=setM (T.filter (·!=x)):=by
 unfold setM
 rw[List.filter_map]
 rfl
theorem mem_setM {T:List Int} {p:Int×Value} (h:p∈setM T):p.1∈T∧p=(p.1,.bool true):=by
 unfold setM at h
 obtain⟨y,hy,rfl⟩:=List.mem_map.1 h
 exact⟨hy,rfl⟩
theorem mDeleteFunc {w:World} {F bm:Nat} {caps:Array Value} {p:Int→Bool} {K:List Int} (hK:MB w bm K) (hok:okF Tryz.prog F=true)
  (hF: ∀w' x,Only [bm] w w'→x∈K→Cs Tryz.prog F ([.int .i64 x,.bool true]++caps.toList) w' fun v w''=>v=.bool (p x)∧Only [] w' w''):
  Cs Tryz.prog 137 [.map (some bm),.func (.func F) #[] caps] w fun _ w'=>Only [bm] w w'∧MB w' bm (K.filter fun x=>!p x):=by
 have hbm:=MpAt.lt hK
 have hnd:=hK.nodup
 refine enter_maps_DeleteFunc_map_int_bool_int_bool_ rfl ?_
 unfold x_maps_DeleteFunc_map_int_bool_int_bool_
 refine gO ?_
 refine rangeT Tryz.underlying115 hK fun r w1 hr hs1 hit1 ho1=>?_
 refine gO ?_
 refine run_loop (4::5::8::9::10::11::12::13::14::15::16::17::18::[]) (fun _ w'=> ∃T:List Int,ItAt w' r bm (setM (K.filter fun x=>decide (x∈T)||!p x)) (setM T)∧(∀x,x∈T→x∈K)∧Only [bm] w w') (fun _ w'=>itLeft w' r bm)
  ⟨K,?_,fun _ h=>h,ho1.of_nil⟩ fun g w2 hI hnext=>?_
 ·have:(K.filter fun x=>decide (x∈K)||!p x)=K:=List.filter_eq_self.2 fun x hx=>by simp[hx]
  rw[this];exact hit1
 obtain⟨T,hit,hTK,ho2⟩:=hI
 have hl2:=hit.left
 have hrb:r≠bm:=by omega
 refine gO ?_
 refine nextT hit (fun h0=>?_) (fun e w3 hp hs3 ho3 hit3 hen3=>?_)
 ·have hT:T=[]:=by cases T with
   |nil=>rfl
   |cons a T=>cases h0
  subst hT
  refine gO ?_
  refine⟨ho2,?_⟩
  have:=hit.map
  simp at this
  exact this
 obtain⟨hx,he⟩:=mem_setM hp
 obtain⟨x,v⟩:=e
 simp only at hx he
 obtain rfl:v=.bool true:=(Prod.mk.inj he).2
 rw[setM_filter]at hit3
 have o3:Only [bm] w w3:=ho2.trans ho3 fun y hy=>by simp only[List.mem_singleton]at hy;exact .inr (by omega)
 refine gO ?_
 refine entryT hen3 ?_
 refine gO ?_
 have hF':Cs Tryz.prog F ((#[]:Array Value).toList++[.int .i64 x,.bool true]++caps.toList) w3 fun v w''=>v=.bool (p x)∧Only [] w3 w'':=by
  have:=hF w3 x o3 (hTK x hx)
  simpa using this
 refine callVT (callVals_f F #[] [.int .i64 x,.bool true] caps) hok hF' ?_
 rintro _ w4 ⟨rfl,ho4⟩
 have hit4:=hit3.keep0 ho4
 have hlt:(setM (T.filter (·!=x))).length<(setM T).length:=by
  rw[setM_len,setM_len]
  rcases Nat.lt_or_ge (T.filter (·!=x)).length T.length with h|h
  ·exact h
  ·have:=List.filter_eq_self.1 (List.Sublist.eq_of_length_le List.filter_sublist h) x hx
   simp at this
 cases hpx:p x with
 |false=>
  refine gO ?_
  refine hnext _ w4 ?_ ⟨T.filter (·!=x),?_,fun y hy=>hTK y (List.mem_filter.1 hy).1,o3.nil ho4⟩ ?_
  ·(repeat(first|with_reducible exact k_1|with_reducible exact Keeps.ovr _ _ _|refine Keeps.put ?_ rfl _|exact k_1|exact Keeps.ovr _ _ _|refine Keeps.ovr2 ?_ rfl _))
  ·have:(K.filter fun y=>decide (y∈T.filter (·!=x))||!p y)=K.filter fun y=>decide (y∈T)||!p y:=by
    refine List.filter_congr fun y _=>?_
    by_cases c:y=x
    ·subst c;simp[hpx]
    ·simp[c]
   rw[this];exact hit4
  ·rw[hl2,hit4.left];exact hlt
 |true=>
  refine gO ?_
  refine mdelI Tryz.underlying115 Tryz.underlying3 (k:=x) hit4 (fun q hq e=>?_) fun w5 hs5 hit5 ho5=>?_
  ·have:=(mem_setM hq).1
   rw[e]at this
   simp at this
  refine gO ?_
  rw[delM_set]at hit5
  refine hnext _ w5 ?_ ⟨T.filter (·!=x),?_,fun y hy=>hTK y (List.mem_filter.1 hy).1,(o3.nil ho4).trans ho5 fun y hy=>.inl hy⟩ ?_
  ·(repeat(first|with_reducible exact k_1|with_reducible exact Keeps.ovr _ _ _|refine Keeps.put ?_ rfl _|exact k_1|exact Keeps.ovr _ _ _|refine Keeps.ovr2 ?_ rfl _))
  ·have:(K.filter fun y=>decide (y∈T.filter (·!=x))||!p y)=(K.filter fun y=>decide (y∈T)||!p y).erase x:=by
    rw[List.Nodup.erase_eq_filter (List.Nodup.sublist List.filter_sublist hnd),List.filter_filter]
    refine List.filter_congr fun y _=>?_
    by_cases c:y=x
    ·subst c;simp[hpx]
    ·simp[c]
   rw[this];exact hit5
  ·rw[hl2,hit5.left];exact hlt
end Go.Proofs.YteiildhelefodaaGreat
end
