/- What the walks need, joined: RtD, RtE, RtF, RtG, RtH, RtR, RtS, RtT, RtU, RtV, RtW, RtX, RtY, EngL, HpU, HpV, HpW, FxM, FxA, FxB, FxC, FxD, FxE, FxF, FxG, FxH, FxI, FxJ -/
import Derived.Test.YteiildhelefodaaGreatZPk1
set_option linter.unusedSimpArgs false
set_option linter.unusedVariables false
namespace Go.Proofs.YteiildhelefodaaGreat
set_option maxRecDepth 100000
section
namespace Rt
variable {f:Int→Int} {L:List Int} {fg fq fs:List Nat} {s:MS} {b i k t x:Nat} {vg vq vs:Value} {w w':World}
def stg (f:Int→Int) (L:List Int) (i:Nat):List Int:=(L.take i).map f++L.drop i
theorem stg_length (f:Int→Int) (L:List Int) (i:Nat):(stg f L i).length=L.length:=by simp only[stg,lla,List.length_map,List.length_take,List.length_drop];omega
theorem stg_zero (f:Int→Int) (L:List Int):stg f L 0=L:=by simp[stg]
theorem stg_end (f:Int→Int) (L:List Int):stg f L L.length=L.map f:=by simp[stg]
theorem stg_get (f:Int→Int) (h:i<L.length):(stg f L i).getD i 0=L.getD i 0:=by
 simp only[stg,List.getD_eq_getElem?_getD]
 rw[List.getElem?_append_right (by simp;omega),List.length_map,List.length_take,Nat.min_eq_left (by omega),Nat.sub_self]
 simp
theorem stg_set (f:Int→Int) (h:i<L.length):(stg f L i).set i (f (L.getD i 0))=stg f L (i+1):=by
 have hl:((L.take i).map f).length=i:=by simp;omega
 unfold stg
 rw[List.set_append_right _ _ (by omega),hl,Nat.sub_self,List.drop_eq_getElem_cons h,List.set_cons_zero,List.take_succ_eq_append_getElem h,List.map_append,List.append_assoc]
 simp[h]
theorem stg_skip (f:Int→Int) (hf:f 0=0) (h:i<L.length) (h0:L.getD i 0=0):stg f L i=stg f L (i+1):=by
 rw[←stg_set f h,h0,hf]
 apply List.ext_getElem (by simp)
 intro k h1 h2
 rw[List.getElem_set]
 split
 ·rename_i e;subst e
  have:=stg_get f h
  rw[h0]at this
  simp only[List.getD_eq_getElem?_getD,List.getElem?_eq_getElem h1,Option.getD_some]at this
  exact this
 ·rfl
def rowL (s:MS):Nat→List Int
 |0=>s.S
 |1=>s.G
 |_=>s.Q
def pick3 {α:Type} (a b c:α):Nat→α
 |0=>a
 |1=>b
 |_=>c
def pl (k i:Nat):PT:=if k=0 then(0,((i/16:Nat):Int),((i%16:Nat):Int))else((k:Int),0,(i:Int))
def fl (k:Nat) (L:List Int):List (PT×Int):=(((List.range L.length).map (pl k)).zip L).filter fun x=>x.2 !=0
theorem fl_nil (k:Nat):fl k []=[]:=rfl
theorem fl_succ (k:Nat) (h:i<L.length):fl k (L.take (i+1))=fl k (L.take i)++(if L.getD i 0=0 then []else [(pl k i,L.getD i 0)]):=by
 have e:L.take (i+1)=L.take i++[L.getD i 0]:=by rw[List.take_succ_eq_append_getElem h];simp[h]
 have hl:(L.take i).length=i:=by simp;omega
 unfold fl
 rw[e,lla,hl]
 simp only[List.length_singleton]
 rw[List.range_succ,List.map_append,List.zip_append (by simp[hl]),List.filter_append]
 congr 1
 by_cases h0:L.getD i 0=0
 ·rw[if_pos h0];simp only[List.map_cons,List.map_nil,List.zip_cons_cons,List.zip_nil_right];rw[List.filter_cons];simp only[h0];rfl
 ·rw[if_neg h0];simp only[List.map_cons,List.map_nil,List.zip_cons_cons,List.zip_nil_right];rw[List.filter_cons,if_pos (by simpa using h0)];rfl
theorem fl_length (k:Nat) (L:List Int):(fl k L).length≤L.length:=by
 unfold fl
 refine Nat.le_trans (List.length_filter_le _ _) ?_
 simp
theorem filled_rows (h:s.Ok):filled s=fl 0 s.S++(fl 1 s.G++fl 2 s.Q):=by
 unfold filled everyS MS.V fl
 rw[List.zip_append (by simp[h.ls,h.lg]),List.zip_append (by simp[h.ls]),List.filter_append,List.filter_append,List.append_assoc,h.ls,h.lg]
 congr 1
def flB (s:MS) (k:Nat):List (PT×Int):=(if 0<k then fl 0 s.S else [])++((if 1<k then fl 1 s.G else [])++(if 2<k then fl 2 s.Q else []))
theorem flB_succ (s:MS) (h:k<3):flB s (k+1)=flB s k++fl k (rowL s k):=by
 have:k=0∨k=1∨k=2:=by omega
 rcases this with rfl|rfl|rfl<;>simp[flB,rowL]
theorem flB_length (s:MS) (k:Nat):(flB s k).length≤s.S.length+(s.G.length+s.Q.length):=by
 unfold flB
 simp only[lla]
 refine Nat.add_le_add ?_ (Nat.add_le_add ?_ ?_)
 ·split
  ·exact fl_length _ _
  ·simp
 ·split
  ·exact fl_length _ _
  ·simp
 ·split
  ·exact fl_length _ _
  ·simp
def stR (f:Int→Int) (s:MS) (k i t:Nat):List Int:=if t<k then(rowL s t).map f else if t=k then stg f (rowL s t) i else rowL s t
theorem stR_start (f:Int→Int) (s:MS) (t:Nat):stR f s 0 0 t=rowL s t:=by
 unfold stR;rw[if_neg (by omega)];split
 ·exact stg_zero _ _
 ·rfl
theorem stR_next (f:Int→Int) (s:MS) (k t:Nat):stR f s k (rowL s k).length t=stR f s (k+1) 0 t:=by
 unfold stR
 by_cases h1:t<k
 ·rw[if_pos h1,if_pos (by omega)]
 ·rw[if_neg h1]
  by_cases h2:t=k
  ·subst h2;rw[if_pos rfl,if_pos (by omega),stg_end]
  ·rw[if_neg h2,if_neg (by omega)]
   split
   ·exact(stg_zero _ _).symm
   ·rfl
def Rows (w:World) (s:MS) (f:Int→Int) (vs vg vq:Value) (fs fg fq:List Nat) (k i:Nat):Prop:=
 ∀t,t<3→Sl w 1 (pick3 vs vg vq t) (rowL s t).length (ints (stR f s k i t)) (pick3 fs fg fq t)
theorem PMs.rows (h:PMs w b s vs vg vq fs fg fq) (f:Int→Int):Rows w s f vs vg vq fs fg fq 0 0:=by
 intro t ht
 rw[stR_start]
 have:t=0∨t=1∨t=2:=by omega
 rcases this with rfl|rfl|rfl
 ·have:=h.h0;rw[←h.ok.ls]at this;exact this
 ·have:=h.h1;rw[←h.ok.lg]at this;exact this
 ·exact h.h2
theorem Rows.keep0 (h:Rows w s f vs vg vq fs fg fq k i) (ho:Only [] w w'):Rows w' s f vs vg vq fs fg fq k i:=fun t ht=>(h t ht).keep0 ho
theorem pick3_mem (h:x∈pick3 fs fg fq t):x∈fs++(fg++fq):=by
 unfold pick3 at h
 split at h<;>simp[h]
theorem nd_pick {u:Nat} (h:(b::(fs++(fg++fq))).Nodup) (ht:t<3) (hu:u<3) (hne:t≠u) (hx:x∈pick3 fs fg fq t) (hy:x∈pick3 fs fg fq u):False:=by
 simp only[List.nodup_cons,List.mem_append,not_or,List.nodup_append]at h
 obtain⟨_,_,⟨_,_,n7⟩,n8⟩:=h
 have h1:t=0∨t=1∨t=2:=by omega
 have h2:u=0∨u=1∨u=2:=by omega
 rcases h1 with rfl|rfl|rfl<;>rcases h2 with rfl|rfl|rfl<;>simp only[pick3]at hx hy
 ·exact hne rfl
 ·exact n8 x hx x (.inl hy) rfl
 ·exact n8 x hx x (.inr hy) rfl
 ·exact n8 x hy x (.inl hx) rfl
 ·exact hne rfl
 ·exact n7 x hx x hy rfl
 ·exact n8 x hy x (.inr hx) rfl
 ·exact n7 x hy x hx rfl
 ·exact hne rfl
theorem Rows.at (h:Rows w s f vs vg vq fs fg fq k i) (hk:k<3) (hi:i<(rowL s k).length):
  ∃g cap ys,pick3 vs vg vq k=.slice (some ⟨g,0,none⟩) (rowL s k).length cap∧pick3 fs fg fq k=[g]∧At w g (ints (stg f (rowL s k) i)++ys)∧(ints (stg f (rowL s k) i)++ys).length=cap:=by
 have h0:=h k hk
 rcases h0.2 with⟨_,h1,_⟩|⟨g,cap,ys,T,h1,h2,h3,h4,h5⟩
 ·omega
 ·have e:stR f s k i k=stg f (rowL s k) i:=by unfold stR;rw[if_neg (by omega),if_pos rfl]
  rw[e]at h3 h4
  exact⟨g,cap,ys,h1,h2,⟨T,h3⟩,by simpa using h4⟩
theorem Rows.step {g cap:Nat} {ys:List Value} (hnd:(b::(fs++(fg++fq))).Nodup) (h:Rows w s f vs vg vq fs fg fq k i) (hk:k<3) (hi:i<(rowL s k).length)
  (hv:pick3 vs vg vq k=.slice (some ⟨g,0,none⟩) (rowL s k).length cap) (hfp:pick3 fs fg fq k=[g]) (hc:(ints (stg f (rowL s k) i)++ys).length=cap)
  (hat:At w' g ((ints (stg f (rowL s k) i)++ys).set i (.int .i64 (f ((rowL s k).getD i 0))))) (ho: ∀x,x∈fs++(fg++fq)→x≠g→w'.heap[x]? =w.heap[x]?):Rows w' s f vs vg vq fs fg fq k (i+1):=by
 intro t ht
 by_cases e:t=k
 ·subst e
  rw[ints_set ys (by rw[stg_length];exact hi),stg_set f hi]at hat
  rw[hv,hfp]
  have e1:stR f s t (i+1) t=stg f (rowL s t) (i+1):=by unfold stR;rw[if_neg (by omega),if_pos rfl]
  rw[e1]
  refine Sl.mk1 hat (by rw[ints_length,stg_length]) ?_
  rw[←hc];simp[ints_length,stg_length]
 ·have h0:=h t ht
  have e1:stR f s k (i+1) t=stR f s k i t:=by unfold stR;simp[e]
  rw[e1]
  refine⟨h0.1,?_⟩
  rcases h0.2 with h1|⟨g',cap',ys',T,h1,h2,h3,h4⟩
  ·exact .inl h1
  ·refine .inr ⟨g',cap',ys',T,h1,h2,?_,h4⟩
   rw[ho g' (pick3_mem (t:=t) (by rw[h2];simp)) (fun e2=>nd_pick hnd ht hk e (x:=g') (by rw[h2];simp) (by rw[hfp,e2];simp))]
   exact h3
theorem Rows.skip (h:Rows w s f vs vg vq fs fg fq k i) (hf:f 0=0) (hi:i<(rowL s k).length) (h0:(rowL s k).getD i 0=0):Rows w s f vs vg vq fs fg fq k (i+1):=by
 intro t ht
 have e:stR f s k (i+1) t=stR f s k i t:=by
  unfold stR
  by_cases e:t=k
  ·subst e;rw[if_neg (by omega),if_pos rfl,if_neg (by omega),if_pos rfl,stg_skip f hf hi h0]
  ·simp[e]
 rw[e];exact h t ht
theorem Rows.next (h:Rows w s f vs vg vq fs fg fq k (rowL s k).length):Rows w s f vs vg vq fs fg fq (k+1) 0:=by
 intro t ht;rw[←stR_next];exact h t ht
theorem tdiv16 (n:Nat) (h:n≤4611686018427387904):IntKind.i64.wrap ((n:Int).tdiv 16)=((n/16:Nat):Int):=by
 rw[Int.tdiv_eq_ediv_of_nonneg (by omega),show((n:Int)/16)=((n/16:Nat):Int) by omega,i64_of_nat _ (by omega)]
theorem tmod16 (n:Nat):((n:Int).tmod 16)=((n%16:Nat):Int):=by
 rw[Int.tmod_eq_emod_of_nonneg (by omega)];omega
theorem setL_three (x y z a b c:Value):setL [x,y,z] 0 [a,b,c]=[a,b,c]:=Eq.trans rfl rfl
theorem divO_16 (v:Value):divO 16 v=some v:=Eq.trans rfl rfl
theorem all1_m {l rb : Nat} (hp : PMs w b s vs vg vq fs fg fq) (hrb : At w rb [.pointer (some ⟨b, 0, none⟩)]) (f : Int → Int) (hf0 : f 0 = 0)
    (J : List (PT × Int) → List Nat → World → Prop) (B : List Nat) (hB : ∀ x, x ∈ B → x < w.heap.size) (hJ0 : J [] [] w) (hJk : ∀ pre F w1 w2, J pre F w1 → Only [] w1 w2 → J pre F w2)
    (hY : ∀ pre F k i g xs w1, k < 3 → i < (rowL s k).length → J pre F w1 → (∀ x, x ∈ F → w.heap.size ≤ x) → pre.length ≤ 300 → w.heap.size ≤ w1.heap.size → Only B w w1 → g ∈ pick3 fs fg fq k → At w1 g xs → xs[i]? = some (.int .i64 ((rowL s k).getD i 0)) → (rowL s k).getD i 0 ≠ 0 →
      Ys Tryz.prog l [.agg ⟨plV (pl k i)⟩, .pointer (some ⟨g, i, none⟩)] w1 fun r w2 => r = .bool true ∧ (∃ F', J (pre ++ [(pl k i, (rowL s k).getD i 0)]) F' w2 ∧ ∀ x, x ∈ F' → x ∈ F ∨ w1.heap.size ≤ x) ∧ Only (B ++ F) w1 w2 ∧ At w2 g (xs.set i (.int .i64 (f ((rowL s k).getD i 0)))) ∧
        ∀ g', g' ∈ fs ++ (fg ++ fq) → g' ≠ g → w2.heap[g']? = w1.heap[g']?) :
    Cs Tryz.prog 246 [.func (.yield l) #[] #[], .pointer (some ⟨rb, 0, none⟩)] w fun _ w' => (∃ F, J (filled s) F w' ∧ ∀ x, x ∈ F → w.heap.size ≤ x) ∧ Only B w w' ∧ Rows w' s f vs vg vq fs fg fq 3 0 := by
  refine enter_roots_Roots_all_1 rfl ?_
  unfold x_roots_Roots_all_1
  refine gO ?_
  refine run_drt [rb, b] ?_
  have hok := hp.ok
  have hlen : ∀ k, (rowL s k).length ≤ 64 := by
    intro k
    have h1 := hok.ls; have h2 := hok.lg; have h3 := hok.lq; have h4 := hok.m4
    unfold rowL; split <;> omega
  refine gO2 hrb.cell hp.hb.cell ?_
  have hone : ∀ t, t < 3 → oneC (pick3 vs vg vq t) = true := by
    intro t ht
    obtain ⟨a, c, e⟩ := (hp.rows f t ht).val
    rw [e]; rfl
  have one0 : oneC vs = true := hone 0 (by omega)
  have one1 : oneC vg = true := hone 1 (by omega)
  have one2 : oneC vq = true := hone 2 (by omega)
  rw [fillL_one one0 rfl]
  refine gO ?_
  rw [fillL_one one1 rfl]
  refine gO ?_
  rw [fillL_one one2 rfl]
  refine gO ?_
  refine bslS fun g19 w1 hg19 hs1 hat1 ho1 => ?_
  have hd : w.drew.heap.size = w.heap.size := rfl
  have hO1 : Only [] w w1 := Only.drew_left ho1
  refine ⟨.inr ((SB.refl _ _).only ho1 (fun x hx => by
    simp only [List.mem_cons, List.not_mem_nil, or_false] at hx
    rcases hx with rfl | rfl
    · exact ⟨hrb.lt, by simp⟩
    · exact ⟨hp.hb.lt, by simp⟩)), ?_⟩
  refine gO ?_
  have hsz : w.heap.size ≤ g19 := by omega
  have hg19B : g19 ∉ B := fun hx => by have := hB _ hx; omega
  have upTo3 : ∀ {t : Nat} {g : Env} {i : Nat}, g t = .int .i64 i → upTo 3 t g = 3 - i := fun h => upTo_int h
  refine run_loop (3 :: 4 :: 5 :: 6 :: 21 :: 22 :: 23 :: 24 :: 25 :: 26 :: 27 :: 28 :: 29 :: 30 :: 31 :: 32 :: 33 :: 34 :: 35 :: 36 :: 37 :: 38 :: 39 :: 40 :: 41 :: 42 :: 43 :: 44 :: 45 :: 46 :: 47 :: 48 :: 49 :: 50 :: 51 :: 52 :: 53 :: 54 :: 55 :: 56 :: 57 :: []) (fun g w' => ∃ k : Nat, g 21 = .int .i64 k ∧ k ≤ 3 ∧ (∃ F, J (flB s k) F w' ∧ g19 ∉ F ∧ ∀ x, x ∈ F → w.heap.size ≤ x) ∧ Only B w w' ∧ Rows w' s f vs vg vq fs fg fq k 0 ∧ At w' g19 [vs, vg, vq]) (fun g _ => upTo 3 21 g)
    ⟨0, by simp only [go_sem]; rfl, by omega, ⟨[], hJk _ _ _ _ (by simpa [flB] using hJ0) hO1, by simp, by simp⟩, hO1.of_nil, (hp.rows f).keep0 hO1, hat1⟩ fun g w2 hI hnext => ?_
  obtain ⟨k, h21, hk, ⟨F0, hJ, hF0, hFl0⟩, ho, hR, hat⟩ := hI
  have e3 : ((3 : Nat) : Int) = 3 := rfl
  refine gO2 h21 e3 ?_
  refine condT (fun hlt => ?_) (fun hge => ?_)
  rotate_left
  · have : k = 3 := by have : ¬ ((k : Int) < 3) := by simpa using hge
                       omega
    subst this
    refine gO ?_
    refine ⟨⟨F0, ?_, hFl0⟩, ho, hR⟩
    rw [filled_rows hok]
    simpa [flB] using hJ
  have hlt : k < 3 := by have : (k : Int) < 3 := by simpa using hlt
                         omega
  have hget : [vs, vg, vq][k]? = some (pick3 vs vg vq k) := by
    have : k = 0 ∨ k = 1 ∨ k = 2 := by omega
    rcases this with rfl | rfl | rfl <;> rfl
  have c1 : (0 : Int) ≤ (k : Int) ∧ (k : Int) < 3 := ⟨by omega, by omega⟩
  obtain ⟨a4, c4, hv4⟩ := (hR k hlt).val
  have hl64 := hlen k
  (repeat (first | with_reducible (first | refine r_1 ?_ | refine r_2 ?_ | refine r_4 ?_ | refine r_5 ?_ | refine r_6 rfl ?_ | refine r_7 ?_ | refine r_8 ?_ | refine r_9 ?_ | refine r_0 ?_) | simp only [go_sem, h21, e3, if_pos c1, tnc, Nat.mul_one, hat.cell, hget, hv4]))
  refine run_block ?_
  (repeat (first | with_reducible (first | refine r_1 ?_ | refine r_2 ?_ | refine r_4 ?_ | refine r_5 ?_ | refine r_6 rfl ?_ | refine r_7 ?_ | refine r_8 ?_ | refine r_9 ?_ | refine r_0 ?_) | simp only [go_sem, h21, e3, if_pos c1, tnc, Nat.mul_one, hat.cell, hget, hv4]))
  refine run_block ?_
  refine run_loop (5 :: 6 :: 28 :: 29 :: 30 :: 31 :: 32 :: 33 :: 34 :: 35 :: 36 :: 37 :: 38 :: 39 :: 40 :: 41 :: 42 :: 43 :: 44 :: 45 :: 46 :: 47 :: 48 :: 49 :: 50 :: 51 :: 52 :: 53 :: 54 :: 55 :: 56 :: []) (fun g' w' => ∃ i : Nat, g' 28 = .int .i64 i ∧ i ≤ (rowL s k).length ∧ (∃ F, J (flB s k ++ fl k ((rowL s k).take i)) F w' ∧ g19 ∉ F ∧ ∀ x, x ∈ F → w.heap.size ≤ x) ∧ Only B w w' ∧ Rows w' s f vs vg vq fs fg fq k i ∧ At w' g19 [vs, vg, vq]) (fun g' _ => upTo (rowL s k).length 28 g')
    ⟨0, by simp only [go_sem]; rfl, by omega, ⟨F0, by simpa [fl_nil] using hJ, hF0, hFl0⟩, ho, hR, hat⟩ fun g' w3 hI hnext' => ?_
  obtain ⟨i, h28, hi, ⟨F, hJ3, hF, hFl⟩, ho3, hR3, hat3⟩ := hI
  refine gO1 h28 ?_
  refine condT (fun hilt => ?_) (fun hige => ?_)
  rotate_left
  · have : i = (rowL s k).length := by have : ¬ (i < (rowL s k).length) := by simpa using hige
                                       omega
    subst this
    refine gO2 h21 (i64_succ k (by omega)) ?_
    refine hnext _ w3 ⟨k + 1, ?_, by omega, ?_, ho3, hR3.next, hat3⟩ ?_
    · simp only [go_sem]
    · rw [flB_succ s hlt]; rw [List.take_length] at hJ3; exact ⟨F, hJ3, hF, hFl⟩
    · rw [upTo3 h21, upTo3 (i := k + 1) (by simp only [go_sem])]; omega
  have hilt : i < (rowL s k).length := by simpa using hilt
  (repeat (first | with_reducible (first | refine r_1 ?_ | refine r_2 ?_ | refine r_4 ?_ | refine r_5 ?_ | refine r_6 rfl ?_ | refine r_7 ?_ | refine r_8 ?_ | refine r_9 ?_ | refine r_0 ?_) | simp only [go_sem, h28, h21]))
  refine run_block ?_
  (repeat (first | with_reducible (first | refine r_1 ?_ | refine r_2 ?_ | refine r_4 ?_ | refine r_5 ?_ | refine r_6 rfl ?_ | refine r_7 ?_ | refine r_8 ?_ | refine r_9 ?_ | refine r_0 ?_) | simp only [go_sem, h28, h21]))
  rw [fillL_one rfl rfl]
  refine gO ?_
  rw [fillL_one rfl rfl]
  refine gO ?_
  refine boxT fun q w4 hq hs4 hat4 ho4 => ?_
  refine gO ?_
  refine stNT hat4 rfl (by simp) (by simp [oneC]) fun w5 hs5 hat5 ho5 => ?_
  rw [setL_three] at hat5
  have hO5 : Only [] w3 w5 := ho4.trans ho5 fun x hx => .inr (by simp only [lms] at hx; omega)
  simp only [go_sem]
  refine run_seq ?_
  refine run_cut (34 :: 35 :: 36 :: 37 :: 38 :: 39 :: 40 :: 41 :: []) (fun _ w' => Only [] w3 w' ∧ At w' q (plV (pl k i))) (fun kk hkk => ?_) (fun g6 w6 hJ6 => ?_)
  · by_cases hk0 : k = 0
    · subst hk0
      have b0 : ((0 : Nat) : Int) = 0 := rfl
      (repeat (first | with_reducible (first | refine nx ?_ | refine r_6 rfl ?_) | simp only [go_sem, h21, h28, bqt b0, divO_16, tdiv16 i (by omega), tmod16 i]))
      refine stT hat5 (by simp) rfl fun w6 hs6 hat6 ho6 => ?_
      refine gO ?_
      refine stT hat6 (by simp) rfl fun w7 hs7 hat7 ho7 => ?_
      refine gO ?_
      refine hkk _ w7 ⟨(hO5.trans ho6 fun x hx => .inr ?_).trans ho7 fun x hx => .inr ?_, hat7⟩
      · simp only [lms] at hx; omega
      · simp only [lms] at hx; omega
    · refine gO3 h21 h28 (bqf (show ¬ (k : Int) = 0 by omega)) ?_
      refine hkk _ w5 ⟨hO5, ?_⟩
      have : pl k i = ((k : Int), 0, (i : Int)) := by unfold pl; rw [if_neg hk0]
      rw [this]; exact hat5
  obtain ⟨hO6, hat6⟩ := hJ6
  have hR6 := hR3.keep0 hO6
  obtain ⟨g, cap, ys, hv, hfp, hrow, hcap⟩ := hR6.at hlt hilt
  rw [hv4] at hv
  cases hv
  have hgI : (ints (stg f (rowL s k) i) ++ ys)[i]? = some (.int .i64 ((rowL s k).getD i 0)) := by
    rw [ints_get ys (by rw [stg_length]; exact hilt), stg_get f hilt]
  have hcs : cellsAt w6 ⟨q, 0, none⟩ 3 = some (plV (pl k i)) := cellsAt_at hat6 0 3 (by simp [plV])
  have c2 : (0 : Int) ≤ (i : Int) ∧ (i : Int) < ((rowL s k).length : Int) := ⟨by omega, by omega⟩
  have ho6 : Only B w w6 := ho3.nil hO6
  have hat19 := hat3.keep0 hO6
  have hpl : (flB s k ++ fl k ((rowL s k).take i)).length ≤ 300 := by
    rw [lla]
    have h1 := flB_length s k
    have h2 := fl_length k ((rowL s k).take i)
    have h3 : ((rowL s k).take i).length ≤ 64 := by rw [List.length_take]; omega
    have h4 : s.S.length ≤ 64 := hlen 0
    have h5 : s.G.length ≤ 64 := hlen 1
    have h6 : s.Q.length ≤ 64 := hlen 2
    omega
  refine run_seq ?_
  refine run_drt [g, q] ?_
  by_cases hz : (rowL s k).getD i 0 = 0
  · (repeat (first | with_reducible (first | refine nx ?_ | refine r_6 rfl ?_) | simp only [go_sem, h21, h28, if_pos c2, tnc, Nat.mul_one, hrow.cell, hgI, bnf hz, hcs, i64_succ i (by omega)]))
    refine hnext' _ w6.drew ⟨i + 1, ?_, by omega, ?_, ho6.nil (Only.drew [] _), (hR6.keep0 (Only.drew [] _)).skip hf0 hilt hz, hat19⟩ ?_
    · simp only [go_sem]
    · rw [fl_succ k hilt, if_pos hz, List.append_nil]; exact ⟨F, hJk _ _ _ _ hJ3 (hO6.nil (Only.drew [] _)), hF, hFl⟩
    · exact up_lt h28
  · refine gJ7 h21 h28 (eq_true c2) hrow.cell hgI (bnt hz) hcs ?_
    refine yieldS (hY (flB s k ++ fl k ((rowL s k).take i)) F k i g _ w6.drew hlt hilt (hJk _ _ _ _ hJ3 (hO6.nil (Only.drew [] _))) hFl hpl (by have := ho6.size; exact this) (ho6.nil (Only.drew [] _)) (by rw [hfp]; simp) hrow hgI hz) ?_
    rintro v w7 ⟨rfl, ⟨F', hJ7, hF'⟩, hO7, hat7, hoth⟩
    have hd6 : w6.drew.heap.size = w6.heap.size := rfl
    have h19lt := hat19.lt
    have hz6 := ho6.size
    have hF19 : g19 ∉ F' := fun hx => (hF' _ hx).elim hF (fun h => by omega)
    have hFl' : ∀ x, x ∈ F' → w.heap.size ≤ x := fun x hx => (hF' x hx).elim (hFl x) (fun h => by omega)
    refine ⟨.inl rfl, ?_⟩
    refine gO2 h28 (i64_succ i (by omega)) ?_
    refine hnext' _ w7 ⟨i + 1, ?_, by omega, ?_, (ho6.nil (Only.drew [] _)).trans hO7 (fun x hx => (List.mem_append.1 hx).imp id (hFl x)), ?_, (hat19.drew).keep hO7 (by simp only [List.mem_append, not_or]; exact ⟨hg19B, hF⟩)⟩ ?_
    · simp only [go_sem]
    · rw [fl_succ k hilt, if_neg hz, ← List.append_assoc]; exact ⟨F', hJ7, hF19, hFl'⟩
    · exact (hR6.keep0 (Only.drew [] _)).step hp.nd hlt hilt hv4 hfp hcap hat7 hoth
    · exact up_lt h28
end Rt
end
section
namespace Rt
variable {fp:List Nat} {xs:List Value} {n:Nat} {v:Value} {w:World}
def plsV (l:List PT):List Value:=l.flatMap plV
theorem plsV_length (l:List PT):(plsV l).length=l.length*3:=by induction l with
 |nil=>rfl
 |cons a l ih=>simp only[plsV,List.flatMap_cons,lla,List.length_cons]at ih⊢;rw[ih];simp[plV];omega
theorem plsV_append (l m:List PT):plsV (l++m)=plsV l++plsV m:=by simp[plsV]
theorem set_self {i:Nat} (h:xs[i]? =some v):xs.set i v=xs:=by
 apply List.ext_getElem?
 intro k
 rw[List.getElem?_set]
 split
 ·rename_i e;subst e
  have hl:=lt_of_get h
  rw[if_pos hl,h]
 ·rfl
theorem _root_.Go.Proofs.YteiildhelefodaaGreat.Sl.nil3 (w:World):Sl w 3 (.slice none 0 0) 0 [] []:=⟨rfl,.inl ⟨rfl,rfl,rfl⟩⟩
theorem _root_.Go.Proofs.YteiildhelefodaaGreat.Sl.oneC {sz:Nat} (h:Sl w sz v n xs fp):Go.Proofs.YteiildhelefodaaGreat.oneC v=true:=by
 obtain⟨a,c,e⟩:=h.val;rw[e];rfl
theorem fillL_agg {cs vs:List Value} {off:Nat} {r:List (Nat×Nat×Value)} (h1:vs.length=n) (h2:Nat.ble (off+n) cs.length=true):fillL cs ((off,n,.agg ⟨vs⟩)::r)=fillL (setL cs off vs) r:=by
 have hc:(Value.agg ⟨vs⟩).cells.size=n∧off+n≤cs.length:=⟨by show(⟨vs⟩:Array Value).size=n;simpa using h1,Nat.le_of_ble_eq_true h2⟩
 rw[fillL]
 exact if_pos hc
theorem setL_pl (x y z:Value) (p:PT):setL [x,y,z] 0 (plV p)=plV p:=Eq.trans rfl rfl
theorem all_m (w:World) (a:Option Addr):Cs Tryz.prog 188 [.pointer a] w fun v w'=>Only [] w w'∧ ∃rb,v=.func (.func 246) #[] #[.pointer (some ⟨rb,0,none⟩)]∧At w' rb [.pointer a]∧w.heap.size≤rb:=by
 refine enter_roots_Roots_all rfl ?_
 unfold x_roots_Roots_all
 refine gO ?_
 refine boxT fun q w1 hq hs1 hat1 ho1=>?_
 refine gO ?_
 exact⟨ho1,q,rfl,hat1,by omega⟩
theorem Places_m {a:Option Addr} {m:MO} (h:PR w a fp m):Cs Tryz.prog 106 [.pointer a] w fun v w'=>Only [] w w'∧ ∃fp',Sl w' 3 v (placesO m).length (plsV (placesO m)) fp'∧ ∀x,x∈fp'→w.heap.size≤x:=by
 refine enter_roots_Roots_Places rfl ?_
 unfold x_roots_Roots_Places
 refine gO ?_
 refine callT0 (made_m h) ?_
 match m,h with
 |none,_=>
  (repeat(first|with_reducible(first|refine nx ?_|refine r_6 rfl ?_)|simp only[go_sem,Option.isSome_none]))
  exact⟨Only.refl _ _,[],Sl.nil3 w,by simp⟩
 |some s,⟨b,hb,vs,vg,vq,fs,fg,fq,hfp,hp⟩=>
  subst hb
  (repeat(first|with_reducible(first|refine nx ?_|refine r_6 rfl ?_)|simp only[go_sem,Option.isSome_some]))
  refine boxT fun q3 w1 hq3 hs1 hat1 ho1=>?_
  refine gO ?_
  refine callT (all_m w1 _) ?_
  rintro v w2 ⟨ho2,rb,rfl,hrb,hrl⟩
  refine gO ?_
  refine run_rng (it:=246) (caps:=[.pointer (some ⟨rb,0,none⟩)]) rfl rfl (by simp only[go_sem]) (by kernel_rfl) fun D l w3 hD hl hs3 ho3 hat3 hloop=>?_
  have hO3:Only [] w w3:=(ho1.nil ho2).nil ho3
  have hp3:=hp.keep0 hO3
  have hltp:=hp.hb.lt
  have hz2:=ho2.size
  have hrows: ∀x,x∈b::(fs++(fg++fq))→x<w.heap.size:=(show PM w b s (b::(fs++(fg++fq)))from⟨vs,vg,vq,fs,fg,fq,rfl,hp⟩).lt
  have hB1: ∀x,x∈[q3,l]→w.heap.size≤x:=by
   intro x hx;simp only[List.mem_cons,List.not_mem_nil,or_false]at hx;rcases hx with rfl|rfl<;>omega
  refine(all1_m hp3 (hrb.keep0 ho3) id rfl
   (fun pre F w'=>LoopAt Tryz.prog fx_roots_Roots_Places l w' _ _ _ _ .ready D∧w'.heap[D]? =some (.deferred (some []))∧ ∃v,At w' q3 [v]∧Sl w' 3 v pre.length (plsV (pre.map (·.1))) F)
   [q3,l] ?_ ⟨hloop,hat3,_,(hat1.keep0 ho2).keep0 ho3,Sl.nil3 _⟩ ?_ ?_).mono ?_
  ·intro x hx;simp only[List.mem_cons,List.not_mem_nil,or_false]at hx;rcases hx with rfl|rfl<;>omega
  ·rintro pre F w4 w5 ⟨k1,k2,v,k4,k5⟩ ho
   exact⟨k1.keep ho (by simp),by rw[ho.block D (Array.getElem?_eq_some_iff.1 k2).1 (by simp)];exact k2,v,k4.keep0 ho,k5.keep0 ho⟩
  ·rintro pre F k i g xs w4 hk hi ⟨k1,k2,v,k4,k5⟩ hFl hpl hsz hO4 hg hgat hget hne
   refine ys_run ok_roots_Roots_Places k1 rfl ?_
   refine gO ?_
   refine boxT fun q w5 hq hs5 hat5 ho5=>?_
   refine gO ?_
   refine stNT hat5 rfl (by simp[plV]) plV_one fun w6 hs6 hat6 ho6=>?_
   rw[setL_pl]at hat6
   refine gO ?_
   have l1:=k1.lt
   have l2:=(Array.getElem?_eq_some_iff.1 k2).1
   have l4:=k4.lt
   have l5:=k5.lt
   have hO6:Only [] w4 w6:=ho5.trans ho6 fun x hx=>.inr (by simp only[lms]at hx;omega)
   refine run_bgn (l:=l) rfl (k1.keep hO6 (by simp)) fun w7 hs7 ho7 hl7=>?_
   have hql:q≠l:=by omega
   have hq3l:q3≠l:=by omega
   have hFo: ∀x,x∈F→x≠l∧x≠q3∧x≠D:=fun x hx=>by have:=hFl x hx;exact⟨by omega,by omega,by omega⟩
   have a7:At w7 q (plV (pl k i)):=hat6.keep ho7 (by simpa using hql)
   have k47:At w7 q3 [v]:=(k4.keep0 hO6).keep ho7 (by simpa using hq3l)
   have k57:=(k5.keep0 hO6).keep ho7 (fun x hx=>by simpa using(hFo x hx).1)
   have hcs:cellsAt w7 ⟨q,0,none⟩ 3=some (plV (pl k i)):=cellsAt_at a7 0 3 (by simp[plV])
   refine gO2 k47.cell hcs ?_
   rw[fillL_agg (by simp[plV]) rfl,setL_pl]
   refine gO ?_
   refine bslT fun q8 w8 hq8 hs8 hat8 ho8=>?_
   refine gO ?_
   refine appT (k57.keep0 ho8) (SrcIs.at hat8 (by simp[plV])) plV_one (by omega) (by omega) ?_
   intro v' w9 F' hs9 hF' ho9 _
   have hq3F:q3∉F:=fun hx=>(hFo q3 hx).2.1 rfl
   have k49:=(k47.keep0 ho8).keep ho9 hq3F
   refine gO ?_
   refine stT k49 (by simp) hs9.oneC fun w10 hs10 hat10 ho10=>?_
   refine gO ?_
   have hz4:w4.heap.size≤w8.heap.size:=by omega
   have hF'm: ∀x,x∈F'→x∈F∨w4.heap.size≤x:=by
    intro x hx
    rcases hF' with rfl|rfl
    ·exact .inl hx
    ·simp only[lms]at hx;right;omega
   have hF'o: ∀x,x∈F'→x≠l∧x≠q3:=fun x hx=>(hF'm x hx).elim (fun h=>⟨(hFo x h).1,(hFo x h).2.1⟩) (fun h=>⟨by omega,by omega⟩)
   have hlF:l∉F:=fun hx=>(hFo l hx).1 rfl
   have hl10:=(((hl7.keep ho8 (by simp)).keep ho9 hlF).keep ho10 (by simpa using fun e:l=q3=>hq3l e.symm))
   refine run_endR (l:=l) rfl hl10 fun w11 hs11 ho11 hl11=>?_
   have hO:Only ([q3,l]++F) w4 w11:=by
    refine((((hO6.of_nil.same (ho7.mono ?_)).same ho8.of_nil).same (ho9.mono ?_)).same (ho10.mono ?_)).same (ho11.mono ?_)
    ·intro x hx;simp only[lms]at hx;subst hx;exact .inl (by simp)
    ·intro x hx;exact .inl (by simp[hx])
    ·intro x hx;simp only[lms]at hx;subst hx;exact .inl (by simp)
    ·intro x hx;simp only[lms]at hx;subst hx;exact .inl (by simp)
   have hnot: ∀x,x∈b::(fs++(fg++fq))→x∉ [q3,l]++F:=fun x hx hx2=>by
    have:=hrows x hx
    rcases List.mem_append.1 hx2 with h1|h1
    ·have:=hB1 x h1;omega
    ·have:=hFl x h1;omega
   have hgm:g∈b::(fs++(fg++fq)):=by have:=pick3_mem hg;simp only[List.mem_cons];exact .inr this
   refine⟨rfl,⟨F',⟨hl11,?_,v',hat10.keep ho11 (by simpa using hq3l),?_⟩,hF'm⟩,hO,?_,fun g' hg' _=>?_⟩
   ·rw[hO.block D l2 (by simp only[List.mem_append,List.mem_cons,List.not_mem_nil,or_false,not_or];exact⟨⟨by omega,by omega⟩,fun hx=>(hFo D hx).2.2 rfl⟩)];exact k2
   ·have:=(hs9.keep ho10 (fun x hx=>by simpa using(hF'o x hx).2)).keep ho11 (fun x hx=>by simpa using(hF'o x hx).1)
    rw[List.map_append,plsV_append,lla]
    simpa[plsV]using this
   ·rw[show(id ((rowL s k).getD i 0))=(rowL s k).getD i 0 from rfl,set_self hget]
    exact hgat.keep hO (hnot g hgm)
   ·exact hO.block g' (by have:=hrows g' (by simp only[List.mem_cons];exact .inr hg');omega) (hnot g' (by simp only[List.mem_cons];exact .inr hg'))
  ·rintro _ w4 ⟨⟨F,⟨k1,k2,v,k4,k5⟩,hFl⟩,hO4,hR4⟩
   refine⟨k1,fun w5 hs5 ho5=>?_⟩
   have l1:=k1.lt
   have hq3l:q3≠l:=by omega
   have hFo: ∀x,x∈F→x≠l∧x≠q3∧x≠D:=fun x hx=>by have:=hFl x hx;exact⟨by omega,by omega,by omega⟩
   have k45:=k4.keep ho5 (by simpa using hq3l)
   have k55:=k5.keep ho5 (fun x hx=>by simpa using(hFo x hx).1)
   have hD5:w5.heap[D]? =some (.deferred (some [])):=by rw[ho5.block D (Array.getElem?_eq_some_iff.1 k2).1 (by simp;omega)];exact k2
   refine gO1 k45.cell ?_
   refine run_retM' hD5 fun w6 hs6 ho6=>?_
   refine gO ?_
   have hO6:Only [] w w6:=by
    refine((hO3.trans hO4 fun x hx=>.inr (hB1 x hx)).trans ho5 fun x hx=>.inr ?_).trans ho6 fun x hx=>.inr ?_
    ·simp only[lms]at hx;omega
    ·simp only[lms]at hx;omega
   refine⟨hO6,F,?_,fun x hx=>by have:=hFl x hx;omega⟩
   have:=k55.keep ho6 (fun x hx=>by simpa using(hFo x hx).2.2)
   simpa[placesO]using this
end Rt
end
section
namespace Rt
set_option maxRecDepth 8000
variable {xs:List Int} {D:List Nat} {v:Value} {w:World}
theorem take_contains_succ {i:Nat} {y:Int} (h:i<xs.length):(xs.take (i+1)).contains y=((xs.take i).contains y||decide (y=xs.getD i 0)):=by
 have e:xs.take (i+1)=xs.take i++[xs.getD i 0]:=by rw[List.take_succ_eq_append_getElem h];simp[h]
 rw[e,Bool.eq_iff_iff]
 simp
theorem Index_m (h : RdB w D v xs) (hl : xs.length ≤ 100000) (y : Int) : Cs Tryz.prog 103 [v, .int .i64 y] w fun r w' => (∃ k : Int, r = .int .i64 k ∧ decide (0 ≤ k) = xs.contains y) ∧ w' = w := by
  refine enter_slices_Index___int_int_ rfl ?_
  unfold x_slices_Index___int_int_
  obtain ⟨a, cap, rfl, hrd⟩ := h
  refine gO ?_
  refine run_loop (4 :: 5 :: 6 :: 7 :: 8 :: 9 :: 10 :: 11 :: 12 :: 13 :: 14 :: 15 :: 16 :: 17 :: 18 :: []) (fun g w' => ∃ i : Nat, g 8 = .int .i64 i ∧ g 7 = .int .i64 xs.length ∧ i ≤ xs.length ∧ (xs.take i).contains y = false ∧ w' = w) (fun g _ => upTo xs.length 8 g) ⟨0, by simp only [go_sem]; rfl, by simp only [go_sem], by omega, by simp, rfl⟩ fun g w' hI hnext => ?_
  obtain ⟨i, h8, h7, hi, hno, rfl⟩ := hI
  refine gO2 h8 h7 ?_
  refine condT (fun hlt => ?_) (fun hge => ?_)
  · have hlt : i < xs.length := by simpa using hlt
    obtain ⟨p, rfl, _, hc⟩ := hrd i hlt
    have c1 : (0 : Int) ≤ (i : Int) ∧ (i : Int) < (xs.length : Int) := ⟨by omega, by omega⟩
    by_cases e : y = xs.getD i 0
    · refine gJ5 h8 h7 (eq_true c1) hc (bqt e) ?_
      refine ⟨i, rfl, ?_⟩
      have : xs.contains y = true := by
        rw [List.contains_iff_mem, e, List.getD_eq_getElem?_getD, List.getElem?_eq_getElem hlt]; simp
      rw [this]; simp
    · refine gJ6 h8 h7 (eq_true c1) hc (bqf e) (i64_succ i (by omega)) ?_
      refine hnext _ w' ⟨i + 1, ?_, ?_, by omega, by rw [take_contains_succ hlt, hno]; simpa using e, rfl⟩ ?_
      · simp only [go_sem]
      · simp only [go_sem, h7]
      · exact up_lt h8
  · have : i = xs.length := by have : ¬ (i < xs.length) := by simpa using hge
                               omega
    subst this
    refine gO ?_
    refine ⟨-1, rfl, ?_⟩
    rw [List.take_length] at hno
    rw [hno]; rfl
theorem Contains_m (h:RdB w D v xs) (hl:xs.length≤100000) (y:Int):Cs Tryz.prog 51 [v,.int .i64 y] w fun r w'=>r=.bool (xs.contains y)∧w'=w:=by
 refine enter_slices_Contains___int_int_ rfl ?_
 unfold x_slices_Contains___int_int_
 refine gO ?_
 refine callT (Index_m h hl y) ?_
 rintro r w' ⟨⟨k,rfl,hk⟩,rfl⟩
 (repeat(first|with_reducible(first|refine nx ?_|refine r_6 rfl ?_)|simp only[go_sem,hk]))
end Rt
end
namespace Rt
def leadL (l:List Int):List Int:=l.foldl addNew []
theorem addNew_length (acc:List Int) (x:Int):(addNew acc x).length≤acc.length+1:=by unfold addNew;split<;>simp
theorem foldl_addNew_length: ∀(l acc:List Int),(l.foldl addNew acc).length≤acc.length+l.length
 | [],acc=>by simp
 |x::l,acc=>by
  have h1:=foldl_addNew_length l (addNew acc x)
  have h2:=addNew_length acc x
  simp only[List.foldl_cons,List.length_cons];omega
theorem leadL_length (l:List Int):(leadL l).length≤l.length:=by have:=foldl_addNew_length l [];simpa[leadL]using this
theorem leadL_snoc (l:List Int) (x:Int):leadL (l++[x])=addNew (leadL l) x:=by simp[leadL]
theorem Leads_m {w:World} {a:Option Addr} {fp:List Nat} {m:MO} (h:PR w a fp m):Cs Tryz.prog 135 [.pointer a] w fun v w'=>Only [] w w'∧ ∃fp',Sl w' 1 v (leadsO m).length (ints (leadsO m)) fp'∧ ∀x,x∈fp'→w.heap.size≤x:=by
 refine enter_roots_Roots_Leads rfl ?_
 unfold x_roots_Roots_Leads
 refine gO ?_
 refine callT0 (made_m h) ?_
 match m,h with
 |none,_=>
  (repeat(first|with_reducible(first|refine nx ?_|refine r_6 rfl ?_)|simp only[go_sem,Option.isSome_none]))
  exact⟨Only.refl _ _,[],Sl.nil1 w,by simp⟩
 |some s,⟨b,hb,vs,vg,vq,fs,fg,fq,hfp,hp⟩=>
  subst hb
  (repeat(first|with_reducible(first|refine nx ?_|refine r_6 rfl ?_)|simp only[go_sem,Option.isSome_some]))
  refine boxT fun q3 w1 hq3 hs1 hat1 ho1=>?_
  refine gO ?_
  refine callT (all_m w1 _) ?_
  rintro v w2 ⟨ho2,rb,rfl,hrb,hrl⟩
  refine gO ?_
  refine run_rng (it:=246) (caps:=[.pointer (some ⟨rb,0,none⟩)]) rfl rfl (by simp only[go_sem]) (by kernel_rfl) fun D l w3 hD hl hs3 ho3 hat3 hloop=>?_
  have hO3:Only [] w w3:=(ho1.nil ho2).nil ho3
  have hp3:=hp.keep0 hO3
  have hltp:=hp.hb.lt
  have hz2:=ho2.size
  have hrows: ∀x,x∈b::(fs++(fg++fq))→x<w.heap.size:=(show PM w b s (b::(fs++(fg++fq)))from⟨vs,vg,vq,fs,fg,fq,rfl,hp⟩).lt
  have hB1: ∀x,x∈[q3,l]→w.heap.size≤x:=by
   intro x hx;simp only[List.mem_cons,List.not_mem_nil,or_false]at hx;rcases hx with rfl|rfl<;>omega
  refine(all1_m hp3 (hrb.keep0 ho3) id rfl
   (fun pre F w'=>LoopAt Tryz.prog fx_roots_Roots_Leads l w' _ _ _ _ .ready D∧w'.heap[D]? =some (.deferred (some []))∧ ∃v,At w' q3 [v]∧Sl w' 1 v (leadL (pre.map (·.2))).length (ints (leadL (pre.map (·.2)))) F)
   [q3,l] ?_ ⟨hloop,hat3,_,(hat1.keep0 ho2).keep0 ho3,Sl.nil1 _⟩ ?_ ?_).mono ?_
  ·intro x hx;simp only[List.mem_cons,List.not_mem_nil,or_false]at hx;rcases hx with rfl|rfl<;>omega
  ·rintro pre F w4 w5 ⟨k1,k2,v,k4,k5⟩ ho
   exact⟨k1.keep ho (by simp),by rw[ho.block D (Array.getElem?_eq_some_iff.1 k2).1 (by simp)];exact k2,v,k4.keep0 ho,k5.keep0 ho⟩
  ·rintro pre F k i g xs w4 hk hi ⟨k1,k2,v,k4,k5⟩ hFl hpl hsz hO4 hg hgat hget hne
   have hplen:(leadL (pre.map (·.2))).length≤300:=by have:=leadL_length (pre.map (·.2));rw[List.length_map]at this;omega
   refine ys_run ok_roots_Roots_Leads k1 rfl ?_
   refine gO ?_
   have l1:=k1.lt
   have l2:=(Array.getElem?_eq_some_iff.1 k2).1
   have l4:=k4.lt
   have l5:=k5.lt
   have hgm:g∈b::(fs++(fg++fq)):=by have:=pick3_mem hg;simp only[List.mem_cons];exact .inr this
   have hglt:=hrows g hgm
   have hq3l:q3≠l:=by omega
   have hFo: ∀x,x∈F→x≠l∧x≠q3∧x≠D:=fun x hx=>by have:=hFl x hx;exact⟨by omega,by omega,by omega⟩
   refine run_bgn (l:=l) rfl k1 fun w7 hs7 ho7 hl7=>?_
   have k47:At w7 q3 [v]:=k4.keep ho7 (by simpa using hq3l)
   have k57:=k5.keep ho7 (fun x hx=>by simpa using(hFo x hx).1)
   have g7:At w7 g xs:=hgat.keep ho7 (by simp;omega)
   have hnot: ∀x,x∈b::(fs++(fg++fq))→x∉ [q3,l]++F:=fun x hx hx2=>by
    have:=hrows x hx
    rcases List.mem_append.1 hx2 with h1|h1
    ·have:=hB1 x h1;omega
    ·have:=hFl x h1;omega
   have fin: ∀w10 w11 F' v',Only ([q3,l]++F) w7 w10→Only [l] w10 w11→At w10 q3 [v']→Sl w10 1 v' (leadL ((pre++[(pl k i,(rowL s k).getD i 0)]).map (·.2))).length (ints (leadL ((pre++[(pl k i,(rowL s k).getD i 0)]).map (·.2)))) F'→
     (∀x,x∈F'→x∈F∨w4.heap.size≤x)→w11.heap[D]? =some (.deferred (some []))∧At w11 q3 [v']∧Sl w11 1 v' (leadL ((pre++[(pl k i,(rowL s k).getD i 0)]).map (·.2))).length (ints (leadL ((pre++[(pl k i,(rowL s k).getD i 0)]).map (·.2)))) F'∧
      Only ([q3,l]++F) w4 w11∧At w11 g (xs.set i (.int .i64 (id ((rowL s k).getD i 0))))∧ ∀g',g'∈fs++(fg++fq)→g'≠g→w11.heap[g']? =w4.heap[g']? :=by
    intro w10 w11 F' v' hO10 ho11 a10 s10 hF'
    have hO:Only ([q3,l]++F) w4 w11:=((ho7.mono (T:=[q3,l]++F) fun x hx=>by simp only[lms]at hx;subst hx;exact .inl (by simp)).same hO10).same (ho11.mono fun x hx=>by simp only[lms]at hx;subst hx;exact .inl (by simp))
    have hF'o: ∀x,x∈F'→x≠l:=fun x hx=>(hF' x hx).elim (fun h=>(hFo x h).1) (fun h=>by omega)
    refine⟨?_,a10.keep ho11 (by simpa using hq3l),s10.keep ho11 (fun x hx=>by simpa using hF'o x hx),hO,?_,fun g' hg' _=>?_⟩
    ·rw[hO.block D l2 (by simp only[List.mem_append,List.mem_cons,List.not_mem_nil,or_false,not_or];exact⟨⟨by omega,by omega⟩,fun hx=>(hFo D hx).2.2 rfl⟩)];exact k2
    ·rw[show(id ((rowL s k).getD i 0))=(rowL s k).getD i 0 from rfl,set_self hget]
     exact hgat.keep hO (hnot g hgm)
    ·exact hO.block g' (by have:=hrows g' (by simp only[List.mem_cons];exact .inr hg');omega) (hnot g' (by simp only[List.mem_cons];exact .inr hg'))
   refine gO ?_
   refine run_drt [q3,g] ?_
   refine gO3 k47.cell g7.cell hget ?_
   refine callS0 (Contains_m (k57.keep0 (Only.drew [] w7)).rd (by omega) _) (.inl rfl) ?_
   cases hc:(leadL (pre.map (·.2))).contains ((rowL s k).getD i 0)with
   |true=>
    refine gO ?_
    refine run_endR (l:=l) rfl (hl7.heap (w':=w7.drew) rfl) fun w11 hs11 ho11 hl11=>?_
    obtain⟨e1,e2,e3,e4,e5,e6⟩:=fin w7.drew w11 F v (Only.drew _ _) ho11 k47 (by
     rw[List.map_append,List.map_cons,List.map_nil,leadL_snoc,addNew,if_pos hc]
     exact k57.keep0 (Only.drew [] w7)) (fun x hx=>.inl hx)
    exact⟨rfl,⟨F,⟨hl11,e1,v,e2,e3⟩,fun x hx=>.inl hx⟩,e4,e5,e6⟩
   |false=>
    refine gO ?_
    refine run_drt [q3,g] ?_
    refine gO3 k47.cell g7.cell hget ?_
    rw[fillL_one rfl rfl]
    refine gO ?_
    refine bslS fun q8 w8 hq8 hs8 hat8 ho8=>?_
    have hO8:Only [] w7 w8:=Only.drew_left (Only.drew_left ho8)
    refine⟨.inr ((SB.refl _ _).only ho8 (fun x hx=>⟨?_,by simp⟩)),?_⟩
    ·simp only[List.mem_cons,List.not_mem_nil,or_false]at hx
     rcases hx with rfl|rfl
     ·exact k47.lt
     ·exact g7.lt
    refine gO ?_
    refine appS (k57.keep0 hO8) (SrcIs.at hat8 rfl) (by simp[Go.Proofs.YteiildhelefodaaGreat.oneC]) (by omega) (by omega) ?_
    intro v' w9 F' hs9 hF' ho9 _
    refine⟨.inl rfl,?_⟩
    have hq3F:q3∉F:=fun hx=>(hFo q3 hx).2.1 rfl
    have k49:=(k47.keep0 hO8).keep ho9 hq3F
    have hd7:w7.drew.drew.heap.size=w7.heap.size:=rfl
    refine gO ?_
    refine stS k49 (by simp) hs9.oneC fun w10 hs10 hat10 ho10=>⟨.inl rfl,?_⟩
    refine gO ?_
    have hF'm: ∀x,x∈F'→x∈F∨w4.heap.size≤x:=by
     intro x hx
     rcases hF' with rfl|rfl
     ·exact .inl hx
     ·simp only[lms]at hx;right;omega
    have hF'o: ∀x,x∈F'→x≠q3:=fun x hx=>(hF'm x hx).elim (fun h=>(hFo x h).2.1) (fun h=>by omega)
    have hlF:l∉F:=fun hx=>(hFo l hx).1 rfl
    refine run_endR (l:=l) rfl (((hl7.keep hO8 (by simp)).keep ho9 hlF).keep ho10 (by simp;omega)) fun w11 hs11 ho11 hl11=>?_
    obtain⟨e1,e2,e3,e4,e5,e6⟩:=fin w10 w11 F' v' ((hO8.of_nil.same (ho9.mono fun x hx=>.inl (by simp[hx]))).same (ho10.mono fun x hx=>.inl (by simp only[lms]at hx;subst hx;simp))) ho11 hat10 (by
     rw[List.map_append,List.map_cons,List.map_nil,leadL_snoc,addNew,if_neg (by rw[hc];simp),lla,ints_append]
     exact hs9.keep ho10 (fun x hx=>by simpa using hF'o x hx)) hF'm
    exact⟨rfl,⟨F',⟨hl11,e1,v',e2,e3⟩,hF'm⟩,e4,e5,e6⟩
  ·rintro _ w4 ⟨⟨F,⟨k1,k2,v,k4,k5⟩,hFl⟩,hO4,hR4⟩
   refine⟨k1,fun w5 hs5 ho5=>?_⟩
   have l1:=k1.lt
   have hq3l:q3≠l:=by omega
   have hFo: ∀x,x∈F→x≠l∧x≠q3∧x≠D:=fun x hx=>by have:=hFl x hx;exact⟨by omega,by omega,by omega⟩
   have k45:=k4.keep ho5 (by simpa using hq3l)
   have k55:=k5.keep ho5 (fun x hx=>by simpa using(hFo x hx).1)
   have hD5:w5.heap[D]? =some (.deferred (some [])):=by rw[ho5.block D (Array.getElem?_eq_some_iff.1 k2).1 (by simp;omega)];exact k2
   refine gO1 k45.cell ?_
   refine run_retM' hD5 fun w6 hs6 ho6=>?_
   refine gO ?_
   have hO6:Only [] w w6:=by
    refine((hO3.trans hO4 fun x hx=>.inr (hB1 x hx)).trans ho5 fun x hx=>.inr ?_).trans ho6 fun x hx=>.inr ?_
    ·simp only[lms]at hx;omega
    ·simp only[lms]at hx;omega
   refine⟨hO6,F,?_,fun x hx=>by have:=hFl x hx;omega⟩
   exact k55.keep ho6 (fun x hx=>by simpa using(hFo x hx).2.2)
end Rt
namespace Rt
end Rt
section
namespace Rt
variable {rows:List (Nat×Nat)} {S:List Int} {fg fp fq fs:List Nat} {m:MO} {s:MS} {b i t:Nat} {a:Option Addr} {vg vq vs:Value} {w w':World}
def rowS (S:List Int) (t:Nat):List Int:=(S.drop (16*t)).take 16
theorem rowS_length (h:16*t+16≤S.length):(rowS S t).length=16:=by simp only[rowS,List.length_take,List.length_drop];omega
theorem rowS_get? (hi:i<16):(rowS S t)[i]? =S[16*t+i]? :=by
 unfold rowS;rw[List.getElem?_take,if_pos hi,List.getElem?_drop]
theorem rowS_getD (hi:i<16):(rowS S t).getD i 0=S.getD (16*t+i) 0:=by
 simp only[List.getD_eq_getElem?_getD,rowS_get? hi]
theorem rowS_set_same {a:Int} (hi:i<16):rowS (S.set (16*t+i) a) t=(rowS S t).set i a:=by
 apply List.ext_getElem?
 intro k
 by_cases hk:k<16
 ·rw[rowS_get? hk,List.getElem?_set,List.getElem?_set,rowS_get? hk]
  by_cases e:i=k
  ·subst e;rw[if_pos rfl,if_pos rfl]
   by_cases h1:16*t+i<S.length
   ·rw[if_pos h1,if_pos (by simp only[rowS,List.length_take,List.length_drop];omega)]
   ·rw[if_neg h1,if_neg (by simp only[rowS,List.length_take,List.length_drop];omega)]
  ·rw[if_neg (by omega),if_neg e]
 ·rw[List.getElem?_eq_none (by simp only[rowS,List.length_take,List.length_drop,List.length_set];omega),List.getElem?_eq_none (by simp only[rowS,List.length_take,List.length_drop,List.length_set];omega)]
theorem rowS_set_other {u:Nat} {a:Int} (hi:i<16) (h:u≠t):rowS (S.set (16*t+i) a) u=rowS S u:=by
 apply List.ext_getElem?
 intro k
 by_cases hk:k<16
 ·rw[rowS_get? hk,rowS_get? hk,List.getElem?_set,if_neg (by omega)]
 ·rw[List.getElem?_eq_none (by simp only[rowS,List.length_take,List.length_drop,List.length_set];omega),List.getElem?_eq_none (by simp only[rowS,List.length_take,List.length_drop];omega)]
def rowsV (rows:List (Nat×Nat)):List Value:=rows.map fun r=>.slice (some ⟨r.1,0,none⟩) 16 r.2
theorem rowsV_get (ys:List Value) (h:t<rows.length):(rowsV rows++ys)[t]? =some (.slice (some ⟨(rows.getD t (0,0)).1,0,none⟩) 16 (rows.getD t (0,0)).2):=by
 rw[List.getElem?_append_left (by simpa[rowsV]using h)]
 simp[rowsV,h]
structure RMs (w:World) (b:Nat) (s:MS) (vs vg vq:Value) (fs:List Nat) (rows:List (Nat×Nat)) (fg fq:List Nat):Prop where
 ok:s.Ok
 len:rows.length=s.M
 nd:(b::(fs++(rows.map (·.1)++(fg++fq)))).Nodup
 hb:At w b [vs,vg,vq]
 h0:Sl w 1 vs s.M (rowsV rows) fs
 hr: ∀t,t<s.M→ ∃ys,At w (rows.getD t (0,0)).1 (ints (rowS s.S t)++ys)
 h1:Sl w 1 vg 16 (ints s.G) fg
 h2:Sl w 1 vq s.Q.length (ints s.Q) fq
def RM (w:World) (b:Nat) (s:MS) (fp:List Nat):Prop:= ∃vs vg vq fs rows fg fq,fp=b::(fs++(rows.map (·.1)++(fg++fq)))∧RMs w b s vs vg vq fs rows fg fq
def RR (w:World) (a:Option Addr) (fp:List Nat) (m:MO):Prop:=match m with
 |some s=> ∃b,a=some ⟨b,0,none⟩∧RM w b s fp
 |none=>a=none∧fp=[]
theorem getD_mem (h:t<rows.length):(rows.getD t (0,0)).1∈rows.map (·.1):=by
 rw[List.mem_map]
 exact⟨rows[t],List.getElem_mem h,by simp[h]⟩
theorem RMs.keep {S:List Nat} (h:RMs w b s vs vg vq fs rows fg fq) (k:Only S w w') (hd: ∀x,x∈b::(fs++(rows.map (·.1)++(fg++fq)))→x∉S):RMs w' b s vs vg vq fs rows fg fq:=
 ⟨h.ok,h.len,h.nd,h.hb.keep k (hd b (by simp)),h.h0.keep k fun x hx=>hd x (by simp only[List.mem_cons,List.mem_append];exact .inr (.inl hx)),fun t ht=>let ⟨ys,hy⟩:=h.hr t ht;⟨ys,hy.keep k (hd _ (by simp only[List.mem_cons,List.mem_append];exact .inr (.inr (.inl (getD_mem (by rw[h.len];exact ht))))))⟩,
  h.h1.keep k fun x hx=>hd x (by simp only[List.mem_cons,List.mem_append];exact .inr (.inr (.inr (.inl hx)))),h.h2.keep k fun x hx=>hd x (by simp only[List.mem_cons,List.mem_append];exact .inr (.inr (.inr (.inr hx))))⟩
theorem RMs.keep0 (h:RMs w b s vs vg vq fs rows fg fq) (k:Only [] w w'):RMs w' b s vs vg vq fs rows fg fq:=h.keep k fun _ _=>by simp
theorem RM.keep {S:List Nat} (h:RM w b s fp) (k:Only S w w') (hd: ∀x,x∈fp→x∉S):RM w' b s fp:=by
 obtain⟨vs,vg,vq,fs,rows,fg,fq,rfl,h⟩:=h
 exact⟨vs,vg,vq,fs,rows,fg,fq,rfl,h.keep k hd⟩
theorem RM.keep0 (h:RM w b s fp) (k:Only [] w w'):RM w' b s fp:=h.keep k fun _ _=>by simp
theorem RM.lt (h:RM w b s fp): ∀x,x∈fp→x<w.heap.size:=by
 obtain⟨vs,vg,vq,fs,rows,fg,fq,rfl,h⟩:=h
 intro x hx
 simp only[List.mem_cons,List.mem_append]at hx
 rcases hx with rfl|hx|hx|hx|hx
 ·exact h.hb.lt
 ·exact h.h0.lt x hx
 ·rw[List.mem_map]at hx
  obtain⟨r,hr,rfl⟩:=hx
  obtain⟨t,ht,rfl⟩:=List.mem_iff_getElem.1 hr
  obtain⟨ys,hy⟩:=h.hr t (by rw[←h.len];exact ht)
  have:=hy.lt
  simpa[ht]using this
 ·exact h.h1.lt x hx
 ·exact h.h2.lt x hx
theorem RR.keep {S:List Nat} (h:RR w a fp m) (k:Only S w w') (hd: ∀x,x∈fp→x∉S):RR w' a fp m:=by
 match m,h with
 |some s,⟨b,h1,h2⟩=>exact⟨b,h1,h2.keep k hd⟩
 |none,h=>exact h
theorem RR.keep0 (h:RR w a fp m) (k:Only [] w w'):RR w' a fp m:=h.keep k fun _ _=>by simp
theorem RR.lt (h:RR w a fp m): ∀x,x∈fp→x<w.heap.size:=by
 match m,h with
 |some s,⟨b,h1,h2⟩=>exact h2.lt
 |none,h=>rw[h.2];intro x hx;cases hx
theorem rmade (h:RR w a fp m):Cs Tryz.prog 109 [.pointer a] w fun v w'=>v=.bool m.isSome∧w'=w:=by
 refine enter_ref03_Roots_Made rfl ?_
 unfold x_ref03_Roots_Made
 match m,h with
 |none,⟨h1,_⟩=>
  subst h1
  (repeat(first|with_reducible(first|refine nx ?_|refine r_6 rfl ?_)|simp only[go_sem,Option.isSome_none]))
 |some s,⟨b,h1,vs,vg,vq,fs,rows,fg,fq,_,k⟩=>
  subst h1
  obtain⟨a,c,e⟩:=k.h0.val
  subst e
  have hp:(0:Int)<(s.M:Int):=by have:=k.ok.m1;omega
  (repeat(first|with_reducible(first|refine nx ?_|refine r_6 rfl ?_)|simp only[go_sem,k.hb.cell,dtr hp,Option.isSome_some]))
theorem rhas (h:RM w b s fp) (p:PT):Cs Tryz.prog 190 [.pointer (some ⟨b,0,none⟩),.agg ⟨plV p⟩] w fun v w'=>v=.bool (seg s p).isSome∧Only [] w w':=by
 refine enter_ref03_Roots_has rfl ?_
 unfold x_ref03_Roots_has
 refine gO ?_
 refine boxT fun q w1 hq hs1 hat1 ho1=>?_
 obtain⟨vs,vg,vq,fs,rows,fg,fq,rfl,hm⟩:=h
 have hb:=(hm.keep0 ho1).hb
 obtain⟨k,m,i⟩:=p
 have hc:At w1 q [.int .i64 k,.int .i64 m,.int .i64 i]:=hat1
 obtain⟨a1,c1,e1⟩:=hm.h0.val
 obtain⟨a2,c2,e2⟩:=hm.h2.val
 subst e1 e2
 by_cases k0:k=0
 ·by_cases k1:0≤m
  ·by_cases k2:m<(s.M:Int)
   ·by_cases k3:0≤i
    ·by_cases k4:i<16
     ·refine gO7 hc.cell hb.cell (bqt k0) (dtr k1) (dtr k2) (dtr k3) (dtr k4) ?_
      exact⟨by simp[seg,k0,k1,k2,k3,k4],ho1.nil (Only.drew [] _)⟩
     ·refine gO7 hc.cell hb.cell (bqt k0) (dtr k1) (dtr k2) (dtr k3) (dfl k4) ?_
      exact⟨by simp[seg,k0,k1,k2,k4],ho1.nil (Only.drew [] _)⟩
    ·refine gO6 hc.cell hb.cell (bqt k0) (dtr k1) (dtr k2) (dfl k3) ?_
     exact⟨by simp[seg,k0,k1,k2,k3],ho1.nil (Only.drew [] _)⟩
   ·refine gO5 hc.cell hb.cell (bqt k0) (dtr k1) (dfl k2) ?_
    exact⟨by simp[seg,k0,k2],ho1.nil (Only.drew [] _)⟩
  ·refine gO4 hc.cell hb.cell (bqt k0) (dfl k1) ?_
   exact⟨by simp[seg,k0,k1],ho1.nil (Only.drew [] _)⟩
 ·by_cases k1:k=1
  ·have n0: ¬k=0:=k0
   by_cases k2:m=0
   ·by_cases k3:0≤i
    ·by_cases k4:i<16
     ·refine gO7 hc.cell hb.cell (bqf n0) (bqt k1) (bqt k2) (dtr k3) (dtr k4) ?_
      exact⟨by simp[seg,k1,k2,k3,k4],ho1⟩
     ·refine gO7 hc.cell hb.cell (bqf n0) (bqt k1) (bqt k2) (dtr k3) (dfl k4) ?_
      exact⟨by simp[seg,k1,k2,k4],ho1⟩
    ·refine gO6 hc.cell hb.cell (bqf n0) (bqt k1) (bqt k2) (dfl k3) ?_
     exact⟨by simp[seg,k1,k2,k3],ho1⟩
   ·refine gO5 hc.cell hb.cell (bqf n0) (bqt k1) (bqf k2) ?_
    exact⟨by simp[seg,k1,k2],ho1⟩
  ·by_cases k1':k=2
   ·by_cases k2:m=0
    ·by_cases k3:0≤i
     ·by_cases k4:i<(s.Q.length:Int)
      ·(repeat(first|with_reducible(first|refine nx ?_|refine r_6 rfl ?_)|simp only[go_sem,hc.cell,hb.cell,bqf k0,bqf k1,bqt k1',bqt k2,dtr k3,dtr k4]))
       exact⟨by simp[seg,k1',k2,k3,k4],ho1.nil (Only.drew [] _)⟩
      ·(repeat(first|with_reducible(first|refine nx ?_|refine r_6 rfl ?_)|simp only[go_sem,hc.cell,hb.cell,bqf k0,bqf k1,bqt k1',bqt k2,dtr k3,dfl k4]))
       exact⟨by simp[seg,k1',k2,k4],ho1.nil (Only.drew [] _)⟩
     ·refine gO7 hc.cell hb.cell (bqf k0) (bqf k1) (bqt k1') (bqt k2) (dfl k3) ?_
      exact⟨by simp[seg,k1',k2,k3],ho1.nil (Only.drew [] _)⟩
    ·refine gO6 hc.cell hb.cell (bqf k0) (bqf k1) (bqt k1') (bqf k2) ?_
     exact⟨by simp[seg,k1',k2],ho1.nil (Only.drew [] _)⟩
   ·refine gO5 hc.cell hb.cell (bqf k0) (bqf k1) (bqf k1') ?_
    exact⟨by simp[seg,k0,k1,k1'],ho1⟩
theorem RMs.row (h:RMs w b s vs vg vq fs rows fg fq) (ht:t<s.M):
  ∃g cap ys g' c' zs,vs=.slice (some ⟨g,0,none⟩) s.M cap∧At w g (rowsV rows++ys)∧(rowsV rows++ys)[t]? =some (.slice (some ⟨g',0,none⟩) 16 c')∧g'=(rows.getD t (0,0)).1∧At w g' (ints (rowS s.S t)++zs):=by
 obtain⟨g,cap,ys,h1,h2,_⟩:=h.h0.pos (by omega)
 obtain⟨zs,hz⟩:=h.hr t ht
 exact⟨g,cap,ys,_,_,zs,h1,h2,rowsV_get ys (by rw[h.len];exact ht),rfl,hz⟩
theorem rget (h:RM w b s fp) {p:PT} {x:Nat×Nat} (hx:seg s p=some x):Cs Tryz.prog 156 [.pointer (some ⟨b,0,none⟩),.agg ⟨plV p⟩] w fun v w'=>v=.int .i64 (s.rd x)∧Only [] w w':=by
 refine enter_ref03_Roots_get rfl ?_
 unfold x_ref03_Roots_get
 refine gO ?_
 refine boxT fun q w1 hq hs1 hat1 ho1=>?_
 obtain⟨vs,vg,vq,fs,rows,fg,fq,rfl,hm0⟩:=h
 have hm:=hm0.keep0 ho1
 have hb:=hm.hb
 obtain⟨k,m,i⟩:=p
 have hc:At w1 q [.int .i64 k,.int .i64 m,.int .i64 i]:=hat1
 rcases seg_cases hm.ok hx with⟨e1,e2,e3,e4,e5,j,rfl,ej,hj⟩|⟨e1,e2,e4,e5,j,rfl,ej,hj⟩|⟨e1,e2,e4,e5,j,rfl,ej,hj⟩
 ·simp only at e1 e2 e3 e4 e5 ej
  subst e1
  obtain⟨m,rfl⟩: ∃n:Nat,m=n:=⟨m.toNat,by omega⟩
  obtain⟨i,rfl⟩: ∃n:Nat,i=n:=⟨i.toNat,by omega⟩
  obtain⟨g,cap,ys,g',c',zs,rfl,hg,hgt,_,hg'⟩:=hm.row (t:=m) (by omega)
  have c1:(0:Int)≤(m:Int)∧(m:Int)<(s.M:Int):=⟨by omega,by omega⟩
  have c2:(0:Int)≤(i:Int)∧(i:Int)<((16:Nat):Int):=⟨by omega,by omega⟩
  have hgi:(ints (rowS s.S m)++zs)[i]? =some (.int .i64 (s.S.getD j 0)):=by
   rw[ints_get zs (by rw[rowS_length (by have:=hm.ok.ls;omega)];omega),rowS_getD (by omega)]
   congr 3;omega
  (repeat(first|with_reducible(first|refine nx ?_|refine r_6 rfl ?_)|simp only[go_sem,hc.cell,hb.cell,bqt (rfl:(0:Int)=0),if_pos c1,if_pos c2,tnc,Nat.mul_one,hg.cell,hgt,hg'.cell,hgi]))
  exact⟨rfl,ho1.nil (Only.drew [] _)⟩
 ·simp only at e1 e2 e4 e5 ej
  subst e1
  obtain⟨g,cap,ys,rfl,hg,_,_⟩:=hm.h1.pos (by omega)
  have c2:(0:Int)≤i∧i<((16:Nat):Int):=⟨by omega,by omega⟩
  subst ej
  (repeat(first|with_reducible(first|refine nx ?_|refine r_6 rfl ?_)|simp only[go_sem,hc.cell,hb.cell,bqt (rfl:(1:Int)=1),bqf (show¬(1:Int)=0 by omega),if_pos c2,tnc,Nat.mul_one,hg.cell,ints_get ys hj]))
  exact⟨rfl,ho1.nil (Only.drew [] _)⟩
 ·simp only at e1 e2 e4 e5 ej
  subst e1
  obtain⟨g,cap,ys,rfl,hg,_,_⟩:=hm.h2.pos (by omega)
  have c2:(0:Int)≤i∧i<(s.Q.length:Int):=⟨by omega,by omega⟩
  subst ej
  (repeat(first|with_reducible(first|refine nx ?_|refine r_6 rfl ?_)|simp only[go_sem,hc.cell,hb.cell,bqf (show¬(2:Int)=1 by omega),bqf (show¬(2:Int)=0 by omega),if_pos c2,tnc,Nat.mul_one,hg.cell,ints_get ys hj]))
  exact⟨rfl,ho1.nil (Only.drew [] _)⟩
end Rt
end
section
namespace Rt
set_option maxRecDepth 8000
variable {rows:List (Nat×Nat)} {fg fp fq fs:List Nat} {ys:List Value} {m:MO} {s:MS} {b g j:Nat} {a:Option Addr} {vg vq vs:Value} {w w':World}
theorem rnd {rs:List Nat} (h:(b::(fs++(rs++(fg++fq)))).Nodup):
  b∉fs∧b∉rs∧b∉fg∧b∉fq∧fs.Nodup∧rs.Nodup∧fg.Nodup∧fq.Nodup∧(∀x,x∈fs→x∉rs∧x∉fg∧x∉fq)∧(∀x,x∈rs→x∉fg∧x∉fq)∧(∀x,x∈fg→x∉fq):=by
 simp only[List.nodup_cons,List.mem_append,not_or,List.nodup_append]at h
 obtain⟨⟨h1,h2,h3,h4⟩,h5,⟨h6,⟨h7,h8,h9⟩,h10⟩,h11⟩:=h
 refine⟨h1,h2,h3,h4,h5,h6,h7,h8,fun x hx=>⟨fun hy=>h11 x hx x (.inl hy) rfl,fun hy=>h11 x hx x (.inr (.inl hy)) rfl,fun hy=>h11 x hx x (.inr (.inr hy)) rfl⟩,fun x hx=>⟨fun hy=>h10 x hx x (.inl hy) rfl,fun hy=>h10 x hx x (.inr hy) rfl⟩,fun x hx hy=>h9 x hx x hy rfl⟩
theorem rows_ne (h:(rows.map (·.1)).Nodup) {t u:Nat} (ht:t<rows.length) (hu:u<rows.length) (hne:t≠u):(rows.getD t (0,0)).1≠(rows.getD u (0,0)).1:=by
 intro e
 apply hne
 have h1:t<(rows.map (·.1)).length:=by simpa using ht
 have h2:u<(rows.map (·.1)).length:=by simpa using hu
 have hp:=List.pairwise_iff_getElem.1 h
 have e':(rows.map (·.1))[t]=(rows.map (·.1))[u]:=by simpa[ht,hu]using e
 rcases Nat.lt_trichotomy t u with h3|h3|h3
 ·exact absurd e' (hp t u h1 h2 h3)
 ·exact h3
 ·exact absurd e'.symm (hp u t h2 h1 h3)
theorem RMs.upd0 {m i:Nat} {a:Int} {zs:List Value} (h:RMs w b s vs vg vq fs rows fg fq) (hm:m<s.M) (hi:i<16) (hj:j=16*m+i)
  (hat:At w' (rows.getD m (0,0)).1 (ints ((rowS s.S m).set i a)++zs)) (ho:Only [(rows.getD m (0,0)).1] w w'):RMs w' b (s.wr (0,j) a) vs vg vq fs rows fg fq:=by
 have hmem:=getD_mem (rows:=rows) (t:=m) (by rw[h.len];exact hm)
 obtain⟨n1,n2,n3,n4,n5,n6,n7,n8,n9,n10,n11⟩:=rnd h.nd
 refine⟨h.ok.wr _ _,h.len,h.nd,h.hb.keep ho (by simp only[lms];rintro rfl;exact n2 hmem),h.h0.keep ho fun x hx=>?_,fun t ht=>?_,h.h1.keep ho fun x hx=>?_,h.h2.keep ho fun x hx=>?_⟩
 ·simp only[lms];rintro rfl;exact(n9 _ hx).1 hmem
 ·subst hj
  by_cases e:t=m
  ·subst e
   exact⟨zs,by show At w' _ (ints (rowS (s.S.set (16*t+i) a) t)++zs);rw[rowS_set_same hi];exact hat⟩
  ·obtain⟨ys,hy⟩:=h.hr t ht
   refine⟨ys,?_⟩
   show At w' _ (ints (rowS (s.S.set (16*m+i) a) t)++ys)
   rw[rowS_set_other hi e]
   exact hy.keep ho (by simp only[lms];exact rows_ne n6 (by rw[h.len];exact ht) (by rw[h.len];exact hm) e)
 ·simp only[lms];rintro rfl;exact(n10 _ hmem).1 hx
 ·simp only[lms];rintro rfl;exact(n10 _ hmem).2 hx
theorem RMs.upd1 {cap:Nat} {a:Int} (h:RMs w b s vs vg vq fs rows [g] fq) (hv:vg=.slice (some ⟨g,0,none⟩) 16 cap) (hc:(ints s.G++ys).length=cap)
  (hat:At w' g (ints (s.G.set j a)++ys)) (ho:Only [g] w w'):RMs w' b (s.wr (1,j) a) vs vg vq fs rows [g] fq:=by
 obtain⟨n1,n2,n3,n4,n5,n6,n7,n8,n9,n10,n11⟩:=rnd h.nd
 refine⟨h.ok.wr _ _,h.len,h.nd,h.hb.keep ho n3,h.h0.keep ho fun x hx=>(n9 x hx).2.1,fun t ht=>?_,?_,h.h2.keep ho fun x hx=>?_⟩
 ·obtain⟨zs,hz⟩:=h.hr t ht
  exact⟨zs,hz.keep ho (n10 _ (getD_mem (by rw[h.len];exact ht))).1⟩
 ·rw[hv]
  exact Sl.mk1 hat (by have:=h.ok.lg;simpa[ints_length,MS.wr]using this) (by rw[←hc];simp[ints_length,MS.wr])
 ·simp only[lms];rintro rfl;exact n11 _ (by simp) hx
theorem RMs.upd2 {cap:Nat} {a:Int} (h:RMs w b s vs vg vq fs rows fg [g]) (hv:vq=.slice (some ⟨g,0,none⟩) s.Q.length cap) (hc:(ints s.Q++ys).length=cap)
  (hat:At w' g (ints (s.Q.set j a)++ys)) (ho:Only [g] w w'):RMs w' b (s.wr (2,j) a) vs vg vq fs rows fg [g]:=by
 obtain⟨n1,n2,n3,n4,n5,n6,n7,n8,n9,n10,n11⟩:=rnd h.nd
 refine⟨h.ok.wr _ _,h.len,h.nd,h.hb.keep ho n4,h.h0.keep ho fun x hx=>(n9 x hx).2.2,fun t ht=>?_,h.h1.keep ho fun x hx=>n11 x hx,?_⟩
 ·obtain⟨zs,hz⟩:=h.hr t ht
  exact⟨zs,hz.keep ho (n10 _ (getD_mem (by rw[h.len];exact ht))).2⟩
 ·rw[hv]
  show Sl w' 1 _ (s.Q.set j a).length _ [g]
  rw[List.length_set]
  exact Sl.mk1 hat (by simp[ints_length,MS.wr]) (by rw[←hc];simp[ints_length,MS.wr])
theorem _root_.Go.Proofs.YteiildhelefodaaGreat.Sl.cap {n cap:Nat} {xs:List Value} (h:Sl w 1 (.slice (some ⟨g,0,none⟩) n cap) n xs fp) (hat:At w g (xs++ys)):(xs++ys).length=cap:=by
 rcases h.2 with⟨h1,_⟩|⟨g',cap',ys',T,h1,h2,h3,h4,h5⟩
 ·cases h1
 ·cases h1
  obtain⟨T',hat⟩:=hat
  rw[hat]at h3
  simp at h3
  rw[h3.1];simpa using h4
theorem rset (h:RM w b s fp) {p:PT} {x:Nat×Nat} (hx:seg s p=some x) (a:Int):Cs Tryz.prog 191 [.pointer (some ⟨b,0,none⟩),.agg ⟨plV p⟩,.int .i64 a] w fun v w'=>RM w' b (s.wr x a) fp∧Only fp w w':=by
 refine enter_ref03_Roots_set rfl ?_
 unfold x_ref03_Roots_set
 refine gO ?_
 refine boxT fun q w1 hq hs1 hat1 ho1=>?_
 have hlt:=h.lt
 obtain⟨vs,vg,vq,fs,rows,fg,fq,rfl,hm0⟩:=h
 have hm:=hm0.keep0 ho1
 have hb:=hm.hb
 obtain⟨k,m,i⟩:=p
 have hc:At w1 q [.int .i64 k,.int .i64 m,.int .i64 i]:=hat1
 have fin: ∀g w',g∈b::(fs++(rows.map (·.1)++(fg++fq)))→Only [g] w1 w'→Only (b::(fs++(rows.map (·.1)++(fg++fq)))) w w':=fun g w' hg ho=>ho1.of_nil.same (ho.mono fun y hy=>by simp only[lms]at hy;subst hy;exact .inl hg)
 rcases seg_cases hm.ok hx with⟨e1,e2,e3,e4,e5,j,rfl,ej,hj⟩|⟨e1,e2,e4,e5,j,rfl,ej,hj⟩|⟨e1,e2,e4,e5,j,rfl,ej,hj⟩
 ·simp only at e1 e2 e3 e4 e5 ej
  subst e1
  obtain⟨m,rfl⟩: ∃n:Nat,m=n:=⟨m.toNat,by omega⟩
  obtain⟨i,rfl⟩: ∃n:Nat,i=n:=⟨i.toNat,by omega⟩
  obtain⟨g,cap,ys,g',c',zs,rfl,hg,hgt,hg'e,hg'⟩:=hm.row (t:=m) (by omega)
  have c1:(0:Int)≤(m:Int)∧(m:Int)<(s.M:Int):=⟨by omega,by omega⟩
  have c2:(0:Int)≤(i:Int)∧(i:Int)<((16:Nat):Int):=⟨by omega,by omega⟩
  have hl:(rowS s.S m).length=16:=rowS_length (by have:=hm.ok.ls;omega)
  refine gJ7 hc.cell hb.cell (bqt (rfl:(0:Int)=0)) (eq_true c1) (eq_true c2) hg.cell hgt ?_
  refine stT (w:=w1.drew) (hg'.keep0 (Only.drew [] w1)) (by simp[ints_length,hl];omega) rfl fun w2 hs2 hat2 ho2=>?_
  refine gO ?_
  rw[ints_set zs (by omega)]at hat2
  subst hg'e
  refine⟨⟨_,_,_,_,_,_,_,rfl,(hm.keep0 (Only.drew [] w1)).upd0 (by omega) (by omega) (by omega) hat2 ho2⟩,fin _ w2 ?_ (Only.drew_left ho2)⟩
  simp only[List.mem_cons,List.mem_append]
  exact .inr (.inr (.inl (getD_mem (by rw[hm.len];omega))))
 ·simp only at e1 e2 e4 e5 ej
  subst e1
  obtain⟨g,cap,ys,rfl,hg,rfl,_⟩:=hm.h1.pos (by omega)
  have hcap:=hm.h1.cap hg
  have c2:(0:Int)≤i∧i<((16:Nat):Int):=⟨by omega,by omega⟩
  subst ej
  refine gJ5 hc.cell hb.cell (bqt (rfl:(1:Int)=1)) (bqf (show¬(1:Int)=0 by omega)) (eq_true c2) ?_
  refine stT (w:=w1.drew) (hg.keep0 (Only.drew [] w1)) (by simp[ints_length];omega) rfl fun w2 hs2 hat2 ho2=>?_
  refine gO ?_
  rw[ints_set ys hj]at hat2
  exact⟨⟨_,_,_,_,_,_,_,rfl,(hm.keep0 (Only.drew [] w1)).upd1 rfl hcap hat2 ho2⟩,fin g w2 (by simp) (Only.drew_left ho2)⟩
 ·simp only at e1 e2 e4 e5 ej
  subst e1
  obtain⟨g,cap,ys,rfl,hg,rfl,_⟩:=hm.h2.pos (by omega)
  have hcap:=hm.h2.cap hg
  have c2:(0:Int)≤i∧i<(s.Q.length:Int):=⟨by omega,by omega⟩
  subst ej
  refine gJ5 hc.cell hb.cell (bqf (show¬(2:Int)=1 by omega)) (bqf (show¬(2:Int)=0 by omega)) (eq_true c2) ?_
  refine stT (w:=w1.drew) (hg.keep0 (Only.drew [] w1)) (by simp[ints_length];omega) rfl fun w2 hs2 hat2 ho2=>?_
  refine gO ?_
  rw[ints_set ys hj]at hat2
  exact⟨⟨_,_,_,_,_,_,_,rfl,(hm.keep0 (Only.drew [] w1)).upd2 rfl hcap hat2 ho2⟩,fin g w2 (by simp) (Only.drew_left ho2)⟩
theorem rGet (h:RR w a fp m) (p:PT):Cs Tryz.prog 114 [.pointer a,.agg ⟨plV p⟩] w fun v w'=>v=.tuple #[.int .i64 (getO m p).1,.int .i64 (getO m p).2]∧Only [] w w':=by
 refine enter_ref03_Roots_Get rfl ?_
 unfold x_ref03_Roots_Get
 refine gO ?_
 refine boxT fun q w1 hq hs1 hat1 ho1=>?_
 have h':=h.keep0 ho1
 have hcs:cellsAt w1 ⟨q,0,none⟩ 3=some (plV p):=cellsAt_at hat1 0 3 (by simp[plV])
 refine gO ?_
 refine callT0 (rmade h') ?_
 match m,h,h' with
 |none,_,_=>
  (repeat(first|with_reducible(first|refine nx ?_|refine r_6 rfl ?_)|simp only[go_sem,Option.isSome_none]))
  exact⟨rfl,ho1⟩
 |some s,_,⟨b,hb,hp⟩=>
  subst hb
  (repeat(first|with_reducible(first|refine nx ?_|refine r_6 rfl ?_)|simp only[go_sem,Option.isSome_some,hcs]))
  refine callT (rhas hp p) ?_
  rintro v w2 ⟨rfl,ho2⟩
  cases e:seg s p with
  |none=>
   (repeat(first|with_reducible(first|refine nx ?_|refine r_6 rfl ?_)|simp only[go_sem,Option.isSome_none]))
   exact⟨by simp only[getO,e],ho1.nil ho2⟩
  |some x=>
   have hcs2:cellsAt w2 ⟨q,0,none⟩ 3=some (plV p):=cellsAt_at (hat1.keep0 ho2) 0 3 (by simp[plV])
   (repeat(first|with_reducible(first|refine nx ?_|refine r_6 rfl ?_)|simp only[go_sem,Option.isSome_some,hcs2]))
   refine callT (rget (hp.keep0 ho2) e) ?_
   rintro v w3 ⟨rfl,ho3⟩
   refine gO ?_
   exact⟨by simp only[getO,e],(ho1.nil ho2).nil ho3⟩
theorem rSet (h:RR w a fp m) (p:PT) (y:Int):Cs Tryz.prog 108 [.pointer a,.agg ⟨plV p⟩,.int .i64 y] w fun v w'=>v=.int .i64 (setO m p y).1∧RR w' a fp (setO m p y).2∧Only fp w w':=by
 refine enter_ref03_Roots_Set rfl ?_
 unfold x_ref03_Roots_Set
 refine gO ?_
 refine boxT fun q w1 hq hs1 hat1 ho1=>?_
 have h':=h.keep0 ho1
 have hcs:cellsAt w1 ⟨q,0,none⟩ 3=some (plV p):=cellsAt_at hat1 0 3 (by simp[plV])
 have hc:At w1 q [.int .i64 p.1,.int .i64 p.2.1,.int .i64 p.2.2]:=hat1
 refine gO ?_
 refine callT0 (rmade h') ?_
 match m,h,h' with
 |none,_,h'=>
  (repeat(first|with_reducible(first|refine nx ?_|refine r_6 rfl ?_)|simp only[go_sem,Option.isSome_none]))
  exact⟨rfl,h',ho1.of_nil⟩
 |some s,_,⟨b,hb,hp⟩=>
  subst hb
  (repeat(first|with_reducible(first|refine nx ?_|refine r_6 rfl ?_)|simp only[go_sem,Option.isSome_some,hcs]))
  refine callT (rhas hp p) ?_
  rintro v w2 ⟨rfl,ho2⟩
  have hp2:=hp.keep0 ho2
  have hc2:=hc.keep0 ho2
  have hcs2:cellsAt w2 ⟨q,0,none⟩ 3=some (plV p):=cellsAt_at (hat1.keep0 ho2) 0 3 (by simp[plV])
  cases e:seg s p with
  |none=>
   (repeat(first|with_reducible(first|refine nx ?_|refine r_6 rfl ?_)|simp only[go_sem,Option.isSome_none]))
   rw[show setO (some s) p y=(1,some s) by simp only[setO,e]]
   exact⟨rfl,⟨b,rfl,hp2⟩,(ho1.nil ho2).of_nil⟩
  |some x=>
   have bad:badA p y=true→(setO (some s) p y)=(1,some s):=fun hb=>by simp only[setO,e,hb,if_true]
   have good:badA p y=false→(setO (some s) p y)=(0,some (s.wr x y)):=fun hb=>by simp only[setO,e,hb,Bool.false_eq_true,if_false]
   by_cases c1:y<0
   ·(repeat(first|with_reducible(first|refine nx ?_|refine r_6 rfl ?_)|simp only[go_sem,Option.isSome_some,dtr c1]))
    rw[bad (by simp[badA,c1])]
    exact⟨rfl,⟨b,rfl,hp2⟩,(ho1.nil ho2).of_nil⟩
   ·by_cases c2:y=0
    ·by_cases c3:p.1=2
     ·(repeat(first|with_reducible(first|refine nx ?_|refine r_6 rfl ?_)|simp only[go_sem,Option.isSome_some,dfl c1,bqt c2,bqt c3,hc2.cell]))
      rw[bad (by simp[badA,c2,c3])]
      exact⟨rfl,⟨b,rfl,hp2⟩,(ho1.nil ho2).of_nil⟩
     ·(repeat(first|with_reducible(first|refine nx ?_|refine r_6 rfl ?_)|simp only[go_sem,Option.isSome_some,dfl c1,bqt c2,bqf c3,hc2.cell,hcs2]))
      refine callT (rset hp2 e y) ?_
      rintro v w3 ⟨hp3,ho3⟩
      refine gO ?_
      rw[good (by simp[badA,c1,c3])]
      exact⟨rfl,⟨b,rfl,hp3⟩,(ho1.nil ho2).of_nil.same ho3⟩
    ·(repeat(first|with_reducible(first|refine nx ?_|refine r_6 rfl ?_)|simp only[go_sem,Option.isSome_some,dfl c1,bqf c2,hc2.cell,hcs2]))
     refine callT (rset hp2 e y) ?_
     rintro v w3 ⟨hp3,ho3⟩
     refine gO ?_
     rw[good (by simp[badA,c1,c2])]
     exact⟨rfl,⟨b,rfl,hp3⟩,(ho1.nil ho2).of_nil.same ho3⟩
theorem rMutators (h:RR w a fp m):Cs Tryz.prog 210 [.pointer a] w fun v w'=>v=.int .i64 (mutO m)∧w'=w:=by
 refine enter_ref03_Roots_Mutators rfl ?_
 unfold x_ref03_Roots_Mutators
 refine gO ?_
 refine callT0 (rmade h) ?_
 match m,h with
 |none,_=>
  (repeat(first|with_reducible(first|refine nx ?_|refine r_6 rfl ?_)|simp only[go_sem,Option.isSome_none]))
  rfl
 |some s,⟨b,hb,vs,vg,vq,fs,rows,fg,fq,_,hp⟩=>
  subst hb
  obtain⟨a1,c1,e1⟩:=hp.h0.val
  subst e1
  (repeat(first|with_reducible(first|refine nx ?_|refine r_6 rfl ?_)|simp only[go_sem,Option.isSome_some,hp.hb.cell]))
  rfl
theorem _root_.Go.Proofs.YteiildhelefodaaGreat.Sl.empty1 {q:Nat} (h:At w q []):Sl w 1 (.slice (some ⟨q,0,none⟩) 0 0) 0 [] [q]:=Sl.mk1 (ys:=[]) h rfl rfl
theorem rQueue (h:RR w a fp m):Cs Tryz.prog 168 [.pointer a] w fun v w'=>Only [] w w'∧ ∃fp',Sl w' 1 v (queueO m).length (ints (queueO m)) fp'∧ ∀x,x∈fp'→w.heap.size≤x:=by
 refine enter_ref03_Roots_Queue rfl ?_
 unfold x_ref03_Roots_Queue
 refine gO ?_
 refine callT0 (rmade h) ?_
 match m,h with
 |none,_=>
  (repeat(first|with_reducible(first|refine nx ?_|refine r_6 rfl ?_)|simp only[go_sem,Option.isSome_none]))
  exact⟨Only.refl _ _,[],Sl.nil1 w,by simp⟩
 |some s,⟨b,hb,vs,vg,vq,fs,rows,fg,fq,_,hp⟩=>
  subst hb
  (repeat(first|with_reducible(first|refine nx ?_|refine r_6 rfl ?_)|simp only[go_sem,Option.isSome_some]))
  refine bslT fun q w1 hq hs1 hat1 ho1=>?_
  (repeat(first|with_reducible(first|refine nx ?_|refine r_6 rfl ?_)|simp only[go_sem,(hp.keep0 ho1).hb.cell]))
  refine appT (Sl.empty1 hat1) (hp.h2.src.keep0 ho1) ints_one (by have:=hp.ok.lq;omega) (by have:=hp.ok.lq;omega) ?_
  intro v' w2 fp' hs2 hf2 ho2 _
  refine gO ?_
  refine⟨ho1.trans ho2 fun x hx=>.inr (by simp only[lms]at hx;omega),fp',by simpa[queueO]using hs2,fun x hx=>?_⟩
  rcases hf2 with rfl|rfl<;>simp only[lms]at hx<;>omega
theorem RMs.turn {vq':Value} {fq':List Nat} {q:List Int} (h:RMs w b s vs vg vq fs rows fg fq) (hl:q.length≤64) (hq:Sl w' 1 vq' q.length (ints q) fq') (hb:At w' b [vs,vg,vq'])
  (ho:Only (b::fq) w w') (hf: ∀x,x∈fq'→x∈fq∨w.heap.size≤x):RM w' b {s with Q:=q} (b::(fs++(rows.map (·.1)++(fg++fq')))):=by
 obtain⟨n1,n2,n3,n4,n5,n6,n7,n8,n9,n10,n11⟩:=rnd h.nd
 have hlt: ∀x,x∈b::(fs++(rows.map (·.1)++(fg++fq)))→x<w.heap.size:=(show RM w b s _ from⟨_,_,_,_,_,_,_,rfl,h⟩).lt
 have hbf:b∉fq':=fun hx=>(hf b hx).elim n4 (fun h2=>by have:=hlt b (by simp);omega)
 refine⟨vs,vg,vq',fs,rows,fg,fq',rfl,⟨⟨h.ok.m1,h.ok.m4,h.ok.ls,h.ok.lg,hl⟩,h.len,?_,hb,h.h0.keep ho ?_,fun t ht=>?_,h.h1.keep ho ?_,hq⟩⟩
 ·simp only[List.nodup_cons,List.mem_append,not_or,List.nodup_append]
  refine⟨⟨n1,n2,n3,hbf⟩,n5,⟨n6,⟨n7,hq.nodup,fun x hx y hy e=>?_⟩,fun x hx y hy e=>?_⟩,fun x hx y hy e=>?_⟩
  ·subst e
   rcases hf x hy with hy|hy
   ·exact n11 x hx hy
   ·have:=hlt x (by simp[hx]);omega
  ·subst e
   rcases hy with hy|hy
   ·exact(n10 x hx).1 hy
   ·rcases hf x hy with hy|hy
    ·exact(n10 x hx).2 hy
    ·have:=hlt x (by simp only[List.mem_cons,List.mem_append];exact .inr (.inr (.inl hx)));omega
  ·subst e
   rcases hy with hy|hy|hy
   ·exact(n9 x hx).1 hy
   ·exact(n9 x hx).2.1 hy
   ·rcases hf x hy with hy|hy
    ·exact(n9 x hx).2.2 hy
    ·have:=hlt x (by simp[hx]);omega
 ·intro x hx hx2
  simp only[List.mem_cons]at hx2
  rcases hx2 with rfl|hx2
  ·exact n1 hx
  ·exact(n9 x hx).2.2 hx2
 ·obtain⟨ys,hy⟩:=h.hr t ht
  have hm:=getD_mem (rows:=rows) (t:=t) (by rw[h.len];exact ht)
  refine⟨ys,hy.keep ho fun hx2=>?_⟩
  simp only[List.mem_cons]at hx2
  rcases hx2 with hx2|hx2
  ·rw[hx2]at hm;exact n2 hm
  ·exact(n10 _ hm).2 hx2
 ·intro x hx hx2
  simp only[List.mem_cons]at hx2
  rcases hx2 with rfl|hx2
  ·exact n3 hx
  ·exact n11 x hx hx2
end Rt
end
section
namespace Rt
set_option maxRecDepth 8000
variable {rows:List (Nat×Nat)} {S:List Int} {fs:List Nat} {n0 t:Nat} {v:Value} {w w':World}
theorem rPush {a:Option Addr} {fp:List Nat} {m:MO} (h:RR w a fp m) (y:Int):Cs Tryz.prog 125 [.pointer a,.int .i64 y] w fun v w'=>v=.int .i64 (pushO m y).1∧Only fp w w'∧ ∃fp',RR w' a fp' (pushO m y).2∧ ∀x,x∈fp'→x∈fp∨w.heap.size≤x:=by
 refine enter_ref03_Roots_Push rfl ?_
 unfold x_ref03_Roots_Push
 refine gO ?_
 refine callT0 (rmade h) ?_
 match m,h with
 |none,h=>
  (repeat(first|with_reducible(first|refine nx ?_|refine r_6 rfl ?_)|simp only[go_sem,Option.isSome_none]))
  exact⟨rfl,Only.refl _ _,fp,h,fun x hx=>.inl hx⟩
 |some s,⟨b,hb,vs,vg,vq,fs,rows,fg,fq,hfp,hp⟩=>
  subst hb
  subst hfp
  have h0:RR w (some ⟨b,0,none⟩) (b::(fs++(rows.map (·.1)++(fg++fq)))) (some s):=⟨b,rfl,vs,vg,vq,fs,rows,fg,fq,rfl,hp⟩
  obtain⟨aq,cq,hvq⟩:=hp.h2.val
  subst hvq
  have hl64:=hp.ok.lq
  by_cases c1:y≤0
  ·(repeat(first|with_reducible(first|refine nx ?_|refine r_6 rfl ?_)|simp only[go_sem,Option.isSome_some,dtr c1]))
   rw[show pushO (some s) y=(1,some s) by simp[pushO,c1]]
   exact⟨rfl,Only.refl _ _,_,h0,fun x hx=>.inl (by simpa using hx)⟩
  ·by_cases c2:s.Q.length=64
   ·(repeat(first|with_reducible(first|refine nx ?_|refine r_6 rfl ?_)|simp only[go_sem,Option.isSome_some,dfl c1,hp.hb.cell,dtr (show(64:Int)≤(s.Q.length:Int) by omega)]))
    rw[show pushO (some s) y=(6,some s) by simp[pushO,c1,c2]]
    exact⟨rfl,Only.refl _ _,_,h0,fun x hx=>.inl (by simpa using hx)⟩
   ·(repeat(first|with_reducible(first|refine nx ?_|refine r_6 rfl ?_)|simp only[go_sem,Option.isSome_some,dfl c1,hp.hb.cell,dfl (show¬(64:Int)≤(s.Q.length:Int) by omega)]))
    rw[fillL_one rfl rfl]
    refine gO ?_
    refine bslT fun q w1 hq hs1 hat1 ho1=>?_
    refine gO ?_
    refine appT (hp.h2.keep0 ho1) (SrcIs.at hat1 rfl) (by simp[oneC]) (by omega) (by omega) ?_
    intro v' w2 fp' hs2 hfp ho2 _
    obtain⟨n1,n2,n3,n4,n5,n6,n7,n8,n9,n10,n11⟩:=rnd hp.nd
    have hb2:=(hp.hb.keep0 ho1).keep ho2 n4
    refine gO ?_
    refine stT hb2 (by simp) hs2.oneC fun w3 hs3 hat3 ho3=>?_
    refine gO ?_
    have hlt:=hp.hb.lt
    have hmem: ∀x,x∈fp'→x∈fq∨w.heap.size≤x:=by
     intro x hx
     rcases hfp with rfl|rfl
     ·exact .inl hx
     ·simp only[lms]at hx;right;omega
    have hbf:b∉fp':=fun hx=>(hmem b hx).elim n4 (fun h=>by omega)
    have hO:Only (b::fq) w w3:=(ho1.of_nil.same (ho2.mono fun x hx=>.inl (by simp[hx]))).same (ho3.mono fun x hx=>.inl (by simp only[lms]at hx;simp[hx]))
    have hq3:Sl w3 1 v' (s.Q++[y]).length (ints (s.Q++[y])) fp':=by
     rw[ints_append,lla]
     exact hs2.keep ho3 fun x hx hx2=>by simp only[lms]at hx2;subst hx2;exact hbf hx
    have hp3:=hp.turn (q:=s.Q++[y]) (by simp;omega) hq3 hat3 hO hmem
    rw[show pushO (some s) y=(0,some {s with Q:=s.Q++[y]}) by simp[pushO,c1,c2]]
    refine⟨rfl,hO.mono fun x hx=>.inl ?_,_,⟨b,rfl,hp3⟩,fun x hx=>?_⟩
    ·simp only[List.mem_cons]at hx
     rcases hx with rfl|hx<;>simp_all
    ·simp only[List.mem_cons,List.mem_append]at hx⊢
     rcases hx with rfl|hx|hx|hx|hx
     ·exact .inl (.inl rfl)
     ·exact .inl (.inr (.inl hx))
     ·exact .inl (.inr (.inr (.inl hx)))
     ·exact .inl (.inr (.inr (.inr (.inl hx))))
     ·exact(hmem x hx).imp (fun h=>.inr (.inr (.inr (.inr h)))) id
structure RowsAt (w:World) (n0:Nat) (S:List Int) (t:Nat) (v:Value) (rows:List (Nat×Nat)) (fs:List Nat):Prop where
 len:rows.length=t
 nd:(fs++rows.map (·.1)).Nodup
 sl:Sl w 1 v t (rowsV rows) fs
 hr: ∀u,u<t→ ∃ys,At w (rows.getD u (0,0)).1 (ints (rowS S u)++ys)
 new: ∀x,x∈fs++rows.map (·.1)→n0≤x
theorem RowsAt.keep {T:List Nat} (h:RowsAt w n0 S t v rows fs) (k:Only T w w') (hd: ∀x,x∈fs++rows.map (·.1)→x∉T):RowsAt w' n0 S t v rows fs:=
 ⟨h.len,h.nd,h.sl.keep k fun x hx=>hd x (by simp[hx]),fun u hu=>let ⟨ys,hy⟩:=h.hr u hu;⟨ys,hy.keep k (hd _ (by rw[List.mem_append];exact .inr (getD_mem (by rw[h.len];exact hu))))⟩,h.new⟩
theorem RowsAt.keep0 (h:RowsAt w n0 S t v rows fs) (k:Only [] w w'):RowsAt w' n0 S t v rows fs:=h.keep k fun _ _=>by simp
theorem RowsAt.zero (w:World) (n0:Nat) (S:List Int):RowsAt w n0 S 0 (.slice none 0 0) [] []:=⟨rfl,by simp,Sl.nil1 w,fun u hu=>absurd hu (by omega),by simp⟩
theorem RowsAt.lt (h:RowsAt w n0 S t v rows fs): ∀x,x∈fs++rows.map (·.1)→x<w.heap.size:=by
 intro x hx
 rcases List.mem_append.1 hx with hx|hx
 ·exact h.sl.lt x hx
 ·rw[List.mem_map]at hx
  obtain⟨r,hr,rfl⟩:=hx
  obtain⟨u,hu,rfl⟩:=List.mem_iff_getElem.1 hr
  obtain⟨ys,hy⟩:=h.hr u (by rw[←h.len];exact hu)
  have:=hy.lt
  simpa[hu]using this
theorem RowsAt.snoc {g c:Nat} {v':Value} {fs':List Nat} {ys:List Value} (h:RowsAt w n0 S t v rows fs) (hs:Sl w' 1 v' (t+1) (rowsV rows++[.slice (some ⟨g,0,none⟩) 16 c]) fs') (hf:fs'=fs∨fs'=[w.heap.size])
  (ho:Only fs w w') (hg:At w g (ints (rowS S t)++ys)) (hgn:g∉fs++rows.map (·.1)) (hg0:n0≤g) (h0:n0≤w.heap.size):RowsAt w' n0 S (t+1) v' (rows++[(g,c)]) fs':=by
 have hlt:=h.lt
 have hglt:=hg.lt
 simp only[List.mem_append,not_or]at hgn
 have hnd:=h.nd
 rw[List.nodup_append]at hnd
 obtain⟨nd1,nd2,nd3⟩:=hnd
 have hf': ∀x,x∈fs'→x∈fs∨x=w.heap.size:=by
  intro x hx
  rcases hf with rfl|rfl
  ·exact .inl hx
  ·simp only[lms]at hx;exact .inr hx
 refine⟨by simp[h.len],?_,by simpa[rowsV]using hs,fun u hu=>?_,fun x hx=>?_⟩
 ·rw[List.nodup_append]
  refine⟨hs.nodup,?_,fun x hx y hy e=>?_⟩
  ·rw[List.map_append,List.nodup_append]
   refine⟨nd2,by simp,fun x hx y hy e=>?_⟩
   simp only[List.map_cons,List.map_nil,lms]at hy
   subst hy;subst e;exact hgn.2 hx
  ·subst e
   rw[List.map_append,List.mem_append]at hy
   rcases hf' x hx with h1|h1
   ·rcases hy with hy|hy
    ·exact nd3 x h1 x hy rfl
    ·simp only[List.map_cons,List.map_nil,lms]at hy;subst hy;exact hgn.1 h1
   ·rcases hy with hy|hy
    ·have:=hlt x (by simp only[List.mem_append];exact .inr hy);omega
    ·simp only[List.map_cons,List.map_nil,lms]at hy;omega
 ·by_cases e:u<t
  ·obtain⟨zs,hz⟩:=h.hr u e
   have e1:(rows++[(g,c)]).getD u (0,0)=rows.getD u (0,0):=by simp[List.getElem?_append_left (show u<rows.length by rw[h.len];exact e)]
   rw[e1]
   refine⟨zs,hz.keep ho fun hx=>?_⟩
   exact nd3 _ hx _ (getD_mem (by rw[h.len];exact e)) rfl
  ·have:u=t:=by omega
   subst this
   have e1:(rows++[(g,c)]).getD u (0,0)=(g,c):=by simp[←h.len]
   rw[e1]
   exact⟨ys,hg.keep ho hgn.1⟩
 ·rw[List.map_append,←List.append_assoc]at hx
  simp only[List.mem_append,List.map_cons,List.map_nil,lms]at hx
  rcases hx with(hx|hx)|hx
  ·rcases hf' x hx with h1|h1
   ·exact h.new x (by simp[h1])
   ·omega
  ·exact h.new x (by simp only[List.mem_append];exact .inr hx)
  ·omega
end Rt
end
namespace Rt
set_option maxRecDepth 8000
theorem rowS_replicate {n t:Nat} (h:t<n):rowS (List.replicate (16*n) 0) t=List.replicate 16 0:=by
 unfold rowS
 rw[List.drop_replicate,List.take_replicate]
 congr 1;omega
theorem rNew (w : World) (n : Int) : Cs Tryz.prog 82 [.int .i64 n] w fun v w' => Only [] w w' ∧ ∃ a fp, v = .tuple #[.pointer a, .int .i64 (if (newO n).isSome then 0 else 1)] ∧ RR w' a fp (newO n) ∧ (newO n = none → a = none) ∧ ∀ x, x ∈ fp → w.heap.size ≤ x := by
  refine enter_ref03_New rfl ?_
  unfold x_ref03_New
  by_cases c1 : n < 1
  · refine gO1 (dtr c1) ?_
    have : newO n = none := by unfold newO; rw [if_neg (by omega)]
    rw [this]
    exact ⟨Only.refl _ _, none, [], rfl, ⟨rfl, rfl⟩, fun _ => rfl, by simp⟩
  by_cases c2 : 4 < n
  · refine gO2 (dfl c1) (dtr c2) ?_
    have : newO n = none := by unfold newO; rw [if_neg (by omega)]
    rw [this]
    exact ⟨Only.refl _ _, none, [], rfl, ⟨rfl, rfl⟩, fun _ => rfl, by simp⟩
  obtain ⟨k, rfl⟩ : ∃ k : Nat, n = k := ⟨n.toNat, by omega⟩
  have hnew : newO (k : Int) = some ⟨k, List.replicate (16 * k) 0, List.replicate 16 0, []⟩ := by
    unfold newO; rw [if_pos (by omega)]; simp
  refine gO2 (dfl c1) (dfl c2) ?_
  refine mksT (n := 16) (m := 16) (Nat.le_refl _) (by omega) (by omega) fun gg w1 hgg hs1 hat1 ho1 => ?_
  refine gO ?_
  rw [fillL_one rfl rfl]
  refine gO ?_
  refine boxT fun b w2 hb hs2 hat2 ho2 => ?_
  refine gO ?_
  have hO2 := ho1.nil ho2
  have hG2 := hat1.keep0 ho2
  rw [rowZ_one] at hG2
  refine run_loop (5 :: 15 :: 16 :: 17 :: 18 :: 19 :: 20 :: 21 :: 22 :: 23 :: 24 :: 25 :: 26 :: 27 :: 28 :: 29 :: []) (fun g w' => ∃ (t : Nat) (v : Value) (rows : List (Nat × Nat)) (fs : List Nat), g 5 = .int .i64 t ∧ t ≤ k ∧ At w' b [v, .slice (some ⟨gg, 0, none⟩) 16 16, .slice none 0 0] ∧ RowsAt w' w2.heap.size (List.replicate (16 * k) 0) t v rows fs ∧ At w' gg (List.replicate 16 (.int .i64 0)) ∧ Only [] w w')
    (fun g _ => upTo k 5 g) ⟨0, _, [], [], by simp only [go_sem]; rfl, by omega, hat2, RowsAt.zero _ _ _, hG2, hO2⟩ fun g w3 hI hnext => ?_
  obtain ⟨t, v, rows, fs, h5, ht, hbt, hrows, hG, hO⟩ := hI
  refine gO1 h5 ?_
  refine condT (fun hlt => ?_) (fun hge => ?_)
  · have hlt : t < k := by have : (t : Int) < (k : Int) := by simpa using hlt
                           omega
    refine gO ?_
    refine run_drt [b] ?_
    have hd3 : w3.drew.heap.size = w3.heap.size := rfl
    have hbt' := hbt.lt
    have hz2 := hO.size
    have hz3 : w2.heap.size ≤ w3.heap.size := by
      have := hG.lt; omega
    have sbk : ∀ w', Only [] w3.drew w' → SB [b] w3.drew w' := fun w' ho => (SB.refl _ _).only ho fun x hx => by simp only [lms] at hx; subst hx; exact ⟨hbt', by simp⟩
    refine gO1 hbt.cell ?_
    refine mksS (n := 16) (m := 16) (Nat.le_refl _) (by omega) (by omega) fun g1 w4 hg1 hs4 hat4 ho4 => ⟨.inr (sbk _ ho4), ?_⟩
    refine gO ?_
    rw [fillL_one rfl rfl]
    refine gO ?_
    refine bslS fun q w5 hq hs5 hat5 ho5 => ⟨.inr (sbk _ (ho4.nil ho5)), ?_⟩
    have hO35 : Only [] w3 w5 := Only.drew_left (ho4.nil ho5)
    refine gO ?_
    have hr5 := hrows.keep0 hO35
    refine appS hr5.sl (SrcIs.at hat5 rfl) (by simp [oneC]) (by omega) (by omega) ?_
    intro v' w6 fs' hs6 hf6 ho6 _
    refine ⟨.inl rfl, ?_⟩
    have hbfs : b ∉ fs := fun hx => by have := hrows.new b (by simp [hx]); omega
    have hb6 := (hbt.keep0 hO35).keep ho6 hbfs
    refine gO ?_
    refine stS hb6 (by simp) hs6.oneC fun w7 hs7 hat7 ho7 => ⟨.inl rfl, ?_⟩
    refine gO2 h5 (i64_succ t (by omega)) ?_
    have hltr := hrows.lt
    have hr6 := hr5.snoc (g := g1) (c := 16) (ys := []) hs6 hf6 ho6 (by rw [rowS_replicate hlt, ints_replicate, List.append_nil]; rw [rowZ_one] at hat4; exact hat4.keep0 ho5) (fun hx => by have := hltr g1 hx; omega) (by omega) (by omega)
    have hggfs : gg ∉ fs := fun hx => by have := hrows.new gg (by simp [hx]); omega
    refine hnext _ w7 ⟨t + 1, v', _, fs', ?_, by omega, hat7, hr6.keep ho7 ?_, ((hG.keep0 hO35).keep ho6 hggfs).keep ho7 (by simp only [lms]; omega), ?_⟩ ?_
    · simp only [go_sem]
    · intro x hx; have := hr6.new x hx; simp only [lms]; omega
    · refine (hO.trans (hO35.of_nil.same (ho6.mono (T := fs) fun x hx => .inl hx)) fun x hx => .inr ?_).trans ho7 fun x hx => .inr ?_
      · have := hrows.new x (by simp [hx]); omega
      · simp only [lms] at hx; omega
    · exact up_lt h5
  · have : t = k := by have : ¬ (t : Int) < (k : Int) := by simpa using hge
                       omega
    subst this
    refine gO ?_
    rw [hnew]
    have hok := newO_ok hnew
    have hnd := hrows.nd
    have hG' : At w3 gg (ints (List.replicate 16 0) ++ []) := by rw [ints_replicate, List.append_nil]; exact hG
    refine ⟨hO, some ⟨b, 0, none⟩, b :: (fs ++ (rows.map (·.1) ++ ([gg] ++ []))), rfl, ⟨b, rfl, v, _, _, fs, rows, [gg], [], rfl, ⟨hok, hrows.len, ?_, hbt, hrows.sl, hrows.hr, Sl.mk1 hG' (by simp [ints_length]) (by simp [ints_length]), Sl.nil1 _⟩⟩, (fun h => by cases h), fun x hx => ?_⟩
    · have hn := hrows.new
      rw [List.nodup_append] at hnd
      simp only [List.append_nil, List.nodup_cons, List.mem_append, not_or, List.nodup_append, lms]
      refine ⟨⟨fun hx => by have := hn b (by simp [hx]); omega, fun hx => by have := hn b (by simp only [List.mem_append]; exact .inr hx); omega, by omega⟩, hnd.1, ⟨hnd.2.1, by simp, fun x hx y hy e => ?_⟩, fun x hx y hy e => ?_⟩
      · subst hy; subst e; have := hn x (by simp only [List.mem_append]; exact .inr hx); omega
      · subst e
        rcases hy with hy | hy
        · exact hnd.2.2 x hx x hy rfl
        · subst hy; have := hn x (by simp [hx]); omega
    · simp only [List.append_nil, List.mem_cons, List.mem_append, lms, List.not_mem_nil, or_false] at hx
      rcases hx with rfl | hx | hx | rfl
      · omega
      · have := hrows.new x (by simp [hx]); omega
      · have := hrows.new x (by simp only [List.mem_append]; exact .inr hx); omega
      · omega
end Rt
section
namespace Rt
variable {s:MS} {j:Nat}
def pj (s:MS) (j:Nat):PT:=if j<16*s.M then(0,((j/16:Nat):Int),((j%16:Nat):Int))else if j<16*s.M+16 then(1,0,((j-16*s.M:Nat):Int))else(2,0,((j-16*s.M-16:Nat):Int))
def segJ (s:MS) (j:Nat):Nat×Nat:=if j<16*s.M then(0,j)else if j<16*s.M+16 then(1,j-16*s.M)else(2,j-16*s.M-16)
theorem V_length (h:s.Ok):s.V.length=16*s.M+16+s.Q.length:=by simp only[MS.V,lla,h.ls,h.lg]
theorem every_length (s:MS):(everyS s).length=16*s.M+16+s.Q.length:=by simp[everyS];omega
theorem every_eq:everyS s=(List.range (16*s.M+16+s.Q.length)).map (pj s):=by
 apply List.ext_getElem (by simp[every_length])
 intro j h1 h2
 have hj:j<16*s.M+16+s.Q.length:=by simpa using h2
 simp only[everyS,List.getElem_map,List.getElem_range]
 unfold pj
 by_cases c1:j<16*s.M
 ·rw[if_pos c1,List.getElem_append_left (by simp;omega),List.getElem_append_left (by simp;omega)];simp
 ·rw[if_neg c1]
  by_cases c2:j<16*s.M+16
  ·rw[if_pos c2,List.getElem_append_left (by simp;omega),List.getElem_append_right (by simp;omega)];simp
  ·rw[if_neg c2,List.getElem_append_right (by simp;omega)]
   simp only[List.getElem_map,List.getElem_range,lla,List.length_map,List.length_range,Nat.sub_sub]
theorem seg_pj (hj:j<16*s.M+16+s.Q.length):seg s (pj s j)=some (segJ s j):=by
 unfold pj segJ
 by_cases c1:j<16*s.M
 ·rw[if_pos c1,if_pos c1]
  unfold seg
  have a1:(0:Int)≤((j/16:Nat):Int):=by omega
  have a2:((j/16:Nat):Int)<(s.M:Int):=by omega
  have a3:(0:Int)≤((j%16:Nat):Int)∧((j%16:Nat):Int)<16:=by omega
  rw[if_pos ⟨rfl,a1,a2⟩,if_pos a3]
  simp only[Option.some.injEq,Prod.mk.injEq,true_and]
  omega
 ·rw[if_neg c1,if_neg c1]
  by_cases c2:j<16*s.M+16
  ·rw[if_pos c2,if_pos c2]
   unfold seg
   have a3:(0:Int)≤((j-16*s.M:Nat):Int)∧((j-16*s.M:Nat):Int)<16:=by omega
   rw[if_neg (by simp),if_pos ⟨rfl,rfl⟩,if_pos a3]
   simp only[Option.some.injEq,Prod.mk.injEq,true_and]
   omega
  ·rw[if_neg c2,if_neg c2]
   unfold seg
   have a3:(0:Int)≤((j-16*s.M-16:Nat):Int)∧((j-16*s.M-16:Nat):Int)<s.Q.length:=by omega
   rw[if_neg (by simp),if_neg (by simp),if_pos ⟨rfl,rfl⟩,if_pos a3]
   simp only[Option.some.injEq,Prod.mk.injEq,true_and]
   omega
theorem rd_segJ (h:s.Ok) (hj:j<16*s.M+16+s.Q.length):s.rd (segJ s j)=s.V.getD j 0:=by
 have h1:=h.ls;have h2:=h.lg
 unfold segJ MS.V
 simp only[List.getD_eq_getElem?_getD]
 by_cases c1:j<16*s.M
 ·rw[if_pos c1,List.getElem?_append_left (by simp;omega),List.getElem?_append_left (by omega)];simp[MS.rd]
 ·rw[if_neg c1]
  by_cases c2:j<16*s.M+16
  ·rw[if_pos c2,List.getElem?_append_left (by simp;omega),List.getElem?_append_right (by omega),h1];simp[MS.rd]
  ·rw[if_neg c2,List.getElem?_append_right (by simp;omega),lla,h1,h2,show j-(16*s.M+16)=j-16*s.M-16 by omega];simp[MS.rd]
theorem wr_segJ (h:s.Ok) (hj:j<16*s.M+16+s.Q.length) (a:Int):(s.wr (segJ s j) a).V=s.V.set j a:=by
 have h1:=h.ls;have h2:=h.lg
 unfold segJ MS.V
 by_cases c1:j<16*s.M
 ·rw[if_pos c1,List.set_append_left _ _ (by simp;omega),List.set_append_left _ _ (by omega)];rfl
 ·rw[if_neg c1]
  by_cases c2:j<16*s.M+16
  ·rw[if_pos c2,List.set_append_left _ _ (by simp;omega),List.set_append_right _ _ (by omega),h1];rfl
  ·rw[if_neg c2,List.set_append_right _ _ (by simp;omega),lla,h1,h2,show j-(16*s.M+16)=j-16*s.M-16 by omega];rfl
theorem wr_M (s:MS) (x:Nat×Nat) (a:Int):(s.wr x a).M=s.M:=by unfold MS.wr;split<;>rfl
theorem wr_Q (s:MS) (x:Nat×Nat) (a:Int):(s.wr x a).Q.length=s.Q.length:=by unfold MS.wr;split<;>simp
def idx (s:MS):List Nat:=(List.range (16*s.M+16+s.Q.length)).filter fun j=>s.V.getD j 0 !=0
theorem zip_range {α:Type} (n:Nat) (f:Nat→α) (V:List Int) (h:V.length=n):((List.range n).map f).zip V=(List.range n).map fun j=>(f j,V.getD j 0):=by
 apply List.ext_getElem (by simp[h])
 intro j h1 h2
 have hj:j<V.length:=by simp at h2;omega
 simp[hj]
theorem filled_idx (h:s.Ok):filled s=(idx s).map fun j=>(pj s j,s.V.getD j 0):=by
 unfold filled idx
 rw[every_eq,zip_range _ _ _ (V_length h),List.filter_map]
 rfl
theorem places_idx (h:s.Ok):placesO (some s)=(idx s).map (pj s):=by
 simp only[placesO,filled_idx h,List.map_map];rfl
theorem idx_lt (h:j∈idx s):j<16*s.M+16+s.Q.length∧s.V.getD j 0≠0:=by
 unfold idx at h
 rw[List.mem_filter]at h
 exact⟨by simpa using h.1,by simpa using h.2⟩
theorem idx_mem (h1:j<16*s.M+16+s.Q.length) (h2:s.V.getD j 0≠0):j∈idx s:=by
 unfold idx
 rw[List.mem_filter]
 exact⟨by simpa using h1,by simpa using h2⟩
theorem MS.ext_V {t:MS} (hs:s.Ok) (ht:t.Ok) (hM:s.M=t.M) (hV:s.V=t.V):s=t:=by
 obtain⟨M,S,G,Q⟩:=s
 obtain⟨M',S',G',Q'⟩:=t
 have h1:=hs.ls;have h2:=ht.ls;have h3:=hs.lg;have h4:=ht.lg
 simp only at hM h1 h2 h3 h4
 subst hM
 simp only[MS.V]at hV
 obtain⟨h5,h6⟩:=List.append_inj hV (by simp;omega)
 obtain⟨h7,h8⟩:=List.append_inj h5 (by omega)
 subst h6 h7 h8
 rfl
theorem V_le (h:s.Ok):s.V.length≤144:=by rw[V_length h];have:=h.m4;have:=h.lq;omega
end Rt
end
section
namespace Rt
set_option maxRecDepth 8000
variable {fp:List Nat} {L:List PT} {i n:Nat} {v:Value} {w:World}
theorem _root_.Go.Proofs.YteiildhelefodaaGreat.Sl.posN {sz:Nat} {xs:List Value} (h:Sl w sz v n xs fp) (hn:0<n): ∃g cap ys,v=.slice (some ⟨g,0,none⟩) n cap∧At w g (xs++ys)∧fp=[g]:=by
 rcases h.2 with⟨_,h0,_⟩|⟨g,cap,ys,T,h1,h2,h3,h4,h5⟩
 ·omega
 ·exact⟨g,cap,ys,h1,⟨T,h3⟩,h2⟩
theorem plsV_drop: ∀(L:List PT) (i:Nat),(plsV L).drop (i*3)=plsV (L.drop i)
 |L,0=>by simp
 | [],i+1=>by simp[plsV]
 |p::L,i+1=>by
  have e:plsV (p::L)=plV p++plsV L:=by simp[plsV]
  rw[e,show(i+1)*3=(plV p).length+i*3 by simp[plV];omega,List.drop_append,Nat.add_sub_cancel_left,plsV_drop L i]
  simp
theorem plsV_cells {g:Nat} {ys:List Value} (h:At w g (plsV L++ys)) (hi:i<L.length):cellsAt w ⟨g,i*3,none⟩ 3=some (plV (L.getD i (0,0,0))):=by
 have hl:=plsV_length L
 rw[cellsAt_at h _ _ (by rw[lla];omega),List.drop_append_of_le_length (by omega),List.take_append_of_le_length (by simp;omega),plsV_drop,List.drop_eq_getElem_cons hi]
 simp only[plsV,List.flatMap_cons]
 simp[plV,hi]
theorem _root_.Go.Proofs.YteiildhelefodaaGreat.Sl.place (h:Sl w 3 v n (plsV L) fp) (hi:i<L.length): ∃g cap,v=.slice (some ⟨g,0,none⟩) L.length cap∧cellsAt w ⟨g,i*3,none⟩ 3=some (plV (L.getD i (0,0,0)))∧g∈fp:=by
 have hn:n=L.length:=by have:=h.1;rw[plsV_length]at this;omega
 subst hn
 obtain⟨g,cap,ys,h1,h2,h3⟩:=h.posN (by omega)
 exact⟨g,cap,h1,plsV_cells h2 hi,by rw[h3];simp⟩
theorem app_place {w2:World} {v':Value} {fp':List Nat} {p:PT} {n0:Nat} (h:Sl w2 3 v' (L.length+1) (plsV L++plV p) fp') (hf:fp'=fp∨fp'=[w.heap.size]) (hn: ∀x,x∈fp→n0≤x) (h0:n0≤w.heap.size):
  Sl w2 3 v' (L++[p]).length (plsV (L++[p])) fp'∧ ∀x,x∈fp'→n0≤x:=by
 refine⟨by rw[plsV_append,lla];simpa[plsV]using h,fun x hx=>?_⟩
 rcases hf with rfl|rfl
 ·exact hn x hx
 ·simp only[lms]at hx;omega
def eS (n:Nat):List PT:=(List.range n).map fun j=>((0:Int),((j/16:Nat):Int),((j%16:Nat):Int))
def eG (n:Nat):List PT:=(List.range n).map fun j=>((1:Int),(0:Int),((j:Nat):Int))
def eQ (n:Nat):List PT:=(List.range n).map fun j=>((2:Int),(0:Int),((j:Nat):Int))
theorem eS_succ {m:Nat} (hi:i<16):eS (16*m+(i+1))=eS (16*m+i)++[((0:Int),(m:Int),(i:Int))]:=by
 unfold eS
 rw[show 16*m+(i+1)=(16*m+i)+1 by omega,List.range_succ,List.map_append]
 simp only[List.map_cons,List.map_nil]
 rw[show(16*m+i)/16=m by omega,show(16*m+i)%16=i by omega]
theorem eG_succ (i:Nat):eG (i+1)=eG i++[((1:Int),(0:Int),(i:Int))]:=by unfold eG;rw[List.range_succ,List.map_append];rfl
theorem eQ_succ (i:Nat):eQ (i+1)=eQ i++[((2:Int),(0:Int),(i:Int))]:=by unfold eQ;rw[List.range_succ,List.map_append];rfl
theorem eS_length (n:Nat):(eS n).length=n:=by simp[eS]
theorem eG_length (n:Nat):(eG n).length=n:=by simp[eG]
theorem eQ_length (n:Nat):(eQ n).length=n:=by simp[eQ]
theorem rEvery {a : Option Addr} {m : MO} (h : RR w a fp m) : Cs Tryz.prog 194 [.pointer a] w fun v w' => Only [] w w' ∧ ∃ fp', Sl w' 3 v (everyO m).length (plsV (everyO m)) fp' ∧ ∀ x, x ∈ fp' → w.heap.size ≤ x := by
  refine enter_ref03_Roots_Every rfl ?_
  unfold x_ref03_Roots_Every
  refine gO ?_
  refine callT0 (rmade h) ?_
  match m, h with
  | none, _ =>
    (repeat (first | with_reducible (first | refine nx ?_ | refine r_6 rfl ?_) | simp only [go_sem, Option.isSome_none]))
    exact ⟨Only.refl _ _, [], Sl.nil3 w, by simp⟩
  | some s, ⟨b, hb', vs, vg, vq, fs, rows, fg, fq, _, hp⟩ =>
    subst hb'
    have hok := hp.ok
    have hM4 := hok.m4
    have hlq := hok.lq
    (repeat (first | with_reducible (first | refine nx ?_ | refine r_6 rfl ?_) | simp only [go_sem, Option.isSome_some]))
    refine run_loop (3 :: 4 :: 5 :: 12 :: 13 :: 14 :: 15 :: 16 :: 17 :: 18 :: 19 :: 20 :: 21 :: 22 :: 23 :: 24 :: 25 :: 26 :: 27 :: 28 :: 29 :: 30 :: []) (fun g w' => ∃ (m : Nat) (v : Value) (f : List Nat), g 4 = .int .i64 m ∧ g 3 = v ∧ m ≤ s.M ∧ Sl w' 3 v (eS (16 * m)).length (plsV (eS (16 * m))) f ∧ (∀ x, x ∈ f → w.heap.size ≤ x) ∧ Only [] w w') (fun g _ => upTo s.M 4 g)
      ⟨0, _, [], by simp only [go_sem]; rfl, by simp only [go_sem], by omega, Sl.nil3 w, by simp, Only.refl _ _⟩ fun g w1 hI hnext => ?_
    obtain ⟨m, v, f, h4, h3, hm, hs, hf, ho⟩ := hI
    have hp1 := hp.keep0 ho
    obtain ⟨a0, c0, evs⟩ := hp.h0.val
    obtain ⟨aq, cq, evq⟩ := hp.h2.val
    subst evs evq
    refine gO2 h4 hp1.hb.cell ?_
    refine condT (fun hlt => ?_) (fun hge => ?_)
    · have hlt : m < s.M := by have : (m : Int) < (s.M : Int) := by simpa using hlt
                               omega
      refine gO1 h4 ?_
      refine run_loop (3 :: 5 :: 21 :: 22 :: 23 :: 24 :: 25 :: 26 :: 27 :: 28 :: 29 :: 30 :: []) (fun g2 w' => ∃ (i : Nat) (v : Value) (f : List Nat), g2 5 = .int .i64 i ∧ g2 3 = v ∧ i ≤ 16 ∧ Sl w' 3 v (eS (16 * m + i)).length (plsV (eS (16 * m + i))) f ∧ (∀ x, x ∈ f → w.heap.size ≤ x) ∧ Only [] w w') (fun g2 _ => upTo 16 5 g2)
        ⟨0, v, f, by simp only [go_sem]; rfl, by simp only [go_sem, h3], by omega, hs, hf, ho⟩ fun g2 w2 hI hnext2 => ?_
      obtain ⟨i, v2, f2, h5, h3', hi, hs2, hf2, ho2⟩ := hI
      have e16 : ((16 : Nat) : Int) = 16 := rfl
      refine gO1 h5 ?_
      refine condT (fun hlt2 => ?_) (fun hge2 => ?_)
      · have hlt2 : i < 16 := by have : (i : Int) < 16 := by simpa using hlt2
                                 omega
        refine gO3 h5 h3' h4 ?_
        rw [fillL_one rfl rfl]
        refine gO ?_
        rw [fillL_one rfl rfl]
        refine gO ?_
        rw [fillL_one rfl rfl]
        refine gO ?_
        rw [fillL_agg (n := 3) rfl rfl, setL_three]
        refine gO ?_
        refine bslT fun q w3 hq hs3 hat3 ho3 => ?_
        refine gO1 h3' ?_
        refine appT (hs2.keep0 ho3) (SrcIs.at hat3 rfl) (by simp [oneC]) (by rw [eS_length]; omega) (by rw [eS_length]; omega) ?_
        intro v4 w4 f4 hs4 hf4 ho4 _
        have hz2 := ho2.size
        have hz3 := ho3.size
        obtain ⟨hsl, hnew⟩ := app_place (p := (0, (m : Int), (i : Int))) (n0 := w.heap.size) hs4 hf4 hf2 (by omega)
        refine gO2 h5 (i64_succ i (by omega)) ?_
        refine hnext2 _ w4 ⟨i + 1, v4, f4, ?_, ?_, by omega, by rw [eS_succ hlt2]; exact hsl, hnew, (ho2.nil ho3).trans ho4 fun x hx => .inr (hf2 x hx)⟩ ?_
        · simp only [go_sem]
        · simp only [go_sem]
        · exact up_lt h5
      · have : i = 16 := by have : ¬ (i : Int) < 16 := by simpa using hge2
                            omega
        subst this
        refine gO2 h4 (i64_succ m (by omega)) ?_
        refine hnext _ w2 ⟨m + 1, v2, f2, ?_, ?_, by omega, by rw [show 16 * (m + 1) = 16 * m + 16 by omega]; exact hs2, hf2, ho2⟩ ?_
        · simp only [go_sem]
        · simp only [go_sem, h3']
        · exact up_lt h4
    · have : m = s.M := by have : ¬ (m : Int) < (s.M : Int) := by simpa using hge
                           omega
      subst this
      refine gO ?_
      refine run_loop (3 :: 6 :: 31 :: 32 :: 33 :: 34 :: 35 :: 36 :: 37 :: 38 :: 39 :: []) (fun g2 w' => ∃ (i : Nat) (v : Value) (f : List Nat), g2 6 = .int .i64 i ∧ g2 3 = v ∧ i ≤ 16 ∧ Sl w' 3 v (eS (16 * s.M) ++ eG i).length (plsV (eS (16 * s.M) ++ eG i)) f ∧ (∀ x, x ∈ f → w.heap.size ≤ x) ∧ Only [] w w') (fun g2 _ => upTo 16 6 g2)
        ⟨0, v, f, by simp only [go_sem]; rfl, by simp only [go_sem, h3], by omega, by simpa [eG] using hs, hf, ho⟩ fun g2 w2 hI hnext2 => ?_
      obtain ⟨i, v2, f2, h6, h3', hi, hs2, hf2, ho2⟩ := hI
      refine gO1 h6 ?_
      refine condT (fun hlt2 => ?_) (fun hge2 => ?_)
      · have hlt2 : i < 16 := by have : (i : Int) < 16 := by simpa using hlt2
                                 omega
        refine gO2 h6 h3' ?_
        rw [fillL_one rfl rfl]
        refine gO ?_
        rw [fillL_one rfl rfl]
        refine gO ?_
        rw [fillL_agg (n := 3) rfl rfl, setL_three]
        refine gO ?_
        refine bslT fun q w3 hq hs3 hat3 ho3 => ?_
        refine gO1 h3' ?_
        refine appT (hs2.keep0 ho3) (SrcIs.at hat3 rfl) (by simp [oneC]) (by rw [lla, eS_length, eG_length]; omega) (by rw [lla, eS_length, eG_length]; omega) ?_
        intro v4 w4 f4 hs4 hf4 ho4 _
        have hz2 := ho2.size
        have hz3 := ho3.size
        obtain ⟨hsl, hnew⟩ := app_place (p := (1, 0, (i : Int))) (n0 := w.heap.size) hs4 hf4 hf2 (by omega)
        refine gO2 h6 (i64_succ i (by omega)) ?_
        refine hnext2 _ w4 ⟨i + 1, v4, f4, ?_, ?_, by omega, by rw [eG_succ, ← List.append_assoc]; exact hsl, hnew, (ho2.nil ho3).trans ho4 fun x hx => .inr (hf2 x hx)⟩ ?_
        · simp only [go_sem]
        · simp only [go_sem]
        · exact up_lt h6
      · have : i = 16 := by have : ¬ (i : Int) < 16 := by simpa using hge2
                            omega
        subst this
        refine gO ?_
        refine run_loop (3 :: 7 :: 40 :: 41 :: 42 :: 43 :: 44 :: 45 :: 46 :: 47 :: 48 :: 49 :: 50 :: 51 :: 52 :: 53 :: []) (fun g3 w' => ∃ (i : Nat) (v : Value) (f : List Nat), g3 7 = .int .i64 i ∧ g3 3 = v ∧ i ≤ s.Q.length ∧ Sl w' 3 v ((eS (16 * s.M) ++ eG 16) ++ eQ i).length (plsV ((eS (16 * s.M) ++ eG 16) ++ eQ i)) f ∧ (∀ x, x ∈ f → w.heap.size ≤ x) ∧ Only [] w w') (fun g3 _ => upTo s.Q.length 7 g3)
          ⟨0, v2, f2, by simp only [go_sem]; rfl, by simp only [go_sem, h3'], by omega, by simpa [eQ] using hs2, hf2, ho2⟩ fun g3 w3 hI hnext3 => ?_
        obtain ⟨i, v3, f3, h7, h3'', hi, hs3, hf3, ho3⟩ := hI
        have hp3 := hp.keep0 ho3
        refine gO2 h7 hp3.hb.cell ?_
        refine condT (fun hlt3 => ?_) (fun hge3 => ?_)
        · have hlt3 : i < s.Q.length := by simpa using hlt3
          refine gO2 h7 h3'' ?_
          rw [fillL_one rfl rfl]
          refine gO ?_
          rw [fillL_one rfl rfl]
          refine gO ?_
          rw [fillL_agg (n := 3) rfl rfl, setL_three]
          refine gO ?_
          refine bslT fun q w4 hq hs4 hat4 ho4 => ?_
          refine gO1 h3'' ?_
          refine appT (hs3.keep0 ho4) (SrcIs.at hat4 rfl) (by simp [oneC]) (by rw [lla, lla, eS_length, eG_length, eQ_length]; omega) (by rw [lla, lla, eS_length, eG_length, eQ_length]; omega) ?_
          intro v5 w5 f5 hs5 hf5 ho5 _
          have hz3 := ho3.size
          have hz4 := ho4.size
          obtain ⟨hsl, hnew⟩ := app_place (p := (2, 0, (i : Int))) (n0 := w.heap.size) hs5 hf5 hf3 (by omega)
          refine gO2 h7 (i64_succ i (by omega)) ?_
          refine hnext3 _ w5 ⟨i + 1, v5, f5, ?_, ?_, by omega, by rw [eQ_succ, ← List.append_assoc]; exact hsl, hnew, (ho3.nil ho4).trans ho5 fun x hx => .inr (hf3 x hx)⟩ ?_
          · simp only [go_sem]
          · simp only [go_sem]
          · exact up_lt h7
        · have : i = s.Q.length := by have : ¬ (i < s.Q.length) := by simpa using hge3
                                      omega
          subst this
          refine gO1 h3'' ?_
          exact ⟨ho3, f3, hs3, hf3⟩
end Rt
end
section
namespace Rt
set_option maxRecDepth 8000
variable {fp:List Nat} {m:MO} {s:MS} {i:Nat} {a:Option Addr} {w:World}
theorem everyO_length:(everyO (some s)).length=16*s.M+16+s.Q.length:=every_length s
theorem every_getD (hi:i<16*s.M+16+s.Q.length):(everyO (some s)).getD i (0,0,0)=pj s i:=by
 show(everyS s).getD i (0,0,0)=_
 rw[every_eq];simp[hi]
def plU (s:MS) (i:Nat):List PT:=((List.range i).filter fun j=>s.V.getD j 0 !=0).map (pj s)
theorem plU_succ (s:MS) (i:Nat):plU s (i+1)=plU s i++(if s.V.getD i 0=0 then []else [pj s i]):=by
 unfold plU
 rw[List.range_succ,List.filter_append,List.map_append]
 congr 1
 by_cases h0:s.V.getD i 0=0
 ·rw[if_pos h0,List.filter_cons,if_neg (by simpa using h0)];rfl
 ·rw[if_neg h0,List.filter_cons,if_pos (by simpa using h0)];rfl
theorem plU_length (s:MS) (i:Nat):(plU s i).length≤i:=by
 unfold plU
 rw[List.length_map]
 exact Nat.le_trans (List.length_filter_le _ _) (by simp)
theorem plU_end (h:s.Ok):plU s (16*s.M+16+s.Q.length)=placesO (some s):=by rw[places_idx h];rfl
theorem rPlaces (h : RR w a fp m) : Cs Tryz.prog 113 [.pointer a] w fun v w' => Only [] w w' ∧ ∃ fp', Sl w' 3 v (placesO m).length (plsV (placesO m)) fp' ∧ ∀ x, x ∈ fp' → w.heap.size ≤ x := by
  refine enter_ref03_Roots_Places rfl ?_
  unfold x_ref03_Roots_Places
  refine gO ?_
  refine callT (rEvery h) ?_
  rintro v4 w1 ⟨ho1, fE, hsE, hfE⟩
  have hEl := hsE.lt
  obtain ⟨a4, c4, e4⟩ := hsE.val
  subst e4
  refine gO ?_
  match m, h with
  | none, _ =>
    refine run_loop (3 :: 5 :: 8 :: 9 :: 10 :: 11 :: 12 :: 13 :: 14 :: 15 :: 16 :: 17 :: 18 :: 19 :: 20 :: 21 :: 22 :: 23 :: 24 :: 25 :: 26 :: 27 :: []) (fun g w' => ∃ i : Nat, g 5 = .int .i64 i ∧ g 3 = .slice none 0 0 ∧ Only [] w w') (fun g _ => upTo 0 5 g) ⟨0, by simp only [go_sem]; rfl, by simp only [go_sem], ho1⟩ fun g w2 hI hnext => ?_
    obtain ⟨i, h5, h3, ho2⟩ := hI
    have e0 : ¬ (i : Int) < (((everyO none).length : Nat) : Int) := by show ¬ (i : Int) < ((0 : Nat) : Int); omega
    refine gO3 h5 h3 (dfl e0) ?_
    exact ⟨ho2, [], Sl.nil3 w2, by simp⟩
  | some s, ⟨b, hb', hp⟩ =>
    subst hb'
    have hok : s.Ok := by obtain ⟨_, _, _, _, _, _, _, _, k⟩ := hp; exact k.ok
    have hV := V_le hok
    rw [V_length hok] at hV
    refine run_loop (3 :: 5 :: 8 :: 9 :: 10 :: 11 :: 12 :: 13 :: 14 :: 15 :: 16 :: 17 :: 18 :: 19 :: 20 :: 21 :: 22 :: 23 :: 24 :: 25 :: 26 :: 27 :: []) (fun g w' => ∃ (i : Nat) (v : Value) (f : List Nat), g 5 = .int .i64 i ∧ g 3 = v ∧ i ≤ 16 * s.M + 16 + s.Q.length ∧ Sl w' 3 v (plU s i).length (plsV (plU s i)) f ∧ (∀ x, x ∈ f → w1.heap.size ≤ x) ∧ Only [] w1 w') (fun g _ => upTo (16 * s.M + 16 + s.Q.length) 5 g)
      ⟨0, _, [], by simp only [go_sem]; rfl, by simp only [go_sem], by omega, Sl.nil3 w1, by simp, Only.refl _ _⟩ fun g w2 hI hnext => ?_
    obtain ⟨i, v, f, h5, h3, hi, hs, hf, ho⟩ := hI
    refine gO1 h5 ?_
    refine condT (fun hlt => ?_) (fun hge => ?_)
    · have hlt : i < 16 * s.M + 16 + s.Q.length := by have := everyO_length (s := s); have : (i : Int) < (((everyO (some s)).length : Nat) : Int) := by simpa using hlt
                                                      omega
      have hsE2 := hsE.keep0 ho
      obtain ⟨gE, cE, hvE, hcE, hgE⟩ := hsE2.place (i := i) (by rw [everyO_length]; exact hlt)
      cases hvE
      rw [every_getD hlt] at hcE
      have c1 : (0 : Int) ≤ (i : Int) ∧ (i : Int) < (((everyO (some s)).length : Nat) : Int) := ⟨by omega, by rw [everyO_length]; omega⟩
      refine gJ3 h5 (eq_true c1) hcE ?_
      refine callT (rget ((hp.keep0 ho1).keep0 ho) (seg_pj hlt)) ?_
      rintro v5 w3 ⟨rfl, ho3⟩
      have hcE3 := (hsE.keep0 (ho.nil ho3)).place (i := i) (by rw [everyO_length]; exact hlt)
      obtain ⟨gE', cE', hvE', hcE', _⟩ := hcE3
      cases hvE'
      rw [every_getD hlt] at hcE'
      have hrd := rd_segJ hok hlt
      by_cases hz : s.V.getD i 0 = 0
      · refine gO4 hrd (bnf hz) h5 (i64_succ i (by omega)) ?_
        refine hnext _ w3 ⟨i + 1, v, f, ?_, ?_, by omega, by rw [plU_succ, if_pos hz, List.append_nil]; exact hs.keep0 ho3, hf, ho.nil ho3⟩ ?_
        · simp only [go_sem]
        · simp only [go_sem, h3]
        · exact up_lt h5
      · refine gJ6 hrd (bnt hz) h5 h3 (eq_true c1) hcE' ?_
        rw [fillL_agg (n := 3) rfl rfl, setL_pl]
        refine gO ?_
        refine bslT fun q w4 hq hs4 hat4 ho4 => ?_
        have hul := plU_length s i
        refine gO1 h3 ?_
        refine appT ((hs.keep0 ho3).keep0 ho4) (SrcIs.at hat4 rfl) plV_one (by omega) (by omega) ?_
        intro v5 w5 f5 hs5 hf5 ho5 _
        have hz2 := ho.size
        have hz3 := ho3.size
        have hz4 := ho4.size
        obtain ⟨hsl, hnew⟩ := app_place (p := pj s i) (n0 := w1.heap.size) hs5 hf5 hf (by omega)
        refine gO2 h5 (i64_succ i (by omega)) ?_
        refine hnext _ w5 ⟨i + 1, v5, f5, ?_, ?_, by omega, by rw [plU_succ, if_neg hz]; exact hsl, hnew, ((ho.nil ho3).nil ho4).trans ho5 fun x hx => .inr (hf x hx)⟩ ?_
        · simp only [go_sem]
        · simp only [go_sem]
        · exact up_lt h5
    · have hge : ¬ (i : Int) < (((everyO (some s)).length : Nat) : Int) := by simpa using hge
      rw [everyO_length] at hge
      have : i = 16 * s.M + 16 + s.Q.length := by omega
      rw [this, plU_end hok] at hs
      refine gO1 h3 ?_
      exact ⟨ho1.nil ho, f, hs, fun x hx => by have := hf x hx; have := ho1.size; omega⟩
theorem placesO_length (h:s.Ok):(placesO (some s)).length=(idx s).length:=by rw[places_idx h,List.length_map]
theorem places_getD (h:s.Ok) (hi:i<(idx s).length):(placesO (some s)).getD i (0,0,0)=pj s ((idx s).getD i 0):=by
 rw[places_idx h];simp[hi]
theorem idx_at (hi:i<(idx s).length):(idx s).getD i 0<16*s.M+16+s.Q.length∧s.V.getD ((idx s).getD i 0) 0≠0:=by
 have:(idx s).getD i 0∈idx s:=by simp[hi]
 exact idx_lt this
theorem idx_length:(idx s).length≤16*s.M+16+s.Q.length:=by
 unfold idx;exact Nat.le_trans (List.length_filter_le _ _) (by simp)
def ldU (s:MS) (i:Nat):List Int:=leadL (((idx s).take i).map fun j=>s.V.getD j 0)
theorem ldU_succ (hi:i<(idx s).length):ldU s (i+1)=addNew (ldU s i) (s.V.getD ((idx s).getD i 0) 0):=by
 unfold ldU
 rw[List.take_succ_eq_append_getElem hi,List.map_append,List.map_cons,List.map_nil,leadL_snoc]
 simp[hi]
theorem ldU_length (s:MS) (i:Nat):(ldU s i).length≤i:=by
 unfold ldU
 refine Nat.le_trans (leadL_length _) ?_
 rw[List.length_map,List.length_take];omega
theorem ldU_end (h:s.Ok):ldU s (idx s).length=leadsO (some s):=by
 show ldU s (idx s).length=((filled s).map (·.2)).foldl addNew []
 unfold ldU leadL
 rw[List.take_length,filled_idx h,List.map_map];rfl
theorem rLeads (h : RR w a fp m) : Cs Tryz.prog 75 [.pointer a] w fun v w' => Only [] w w' ∧ ∃ fp', Sl w' 1 v (leadsO m).length (ints (leadsO m)) fp' ∧ ∀ x, x ∈ fp' → w.heap.size ≤ x := by
  refine enter_ref03_Roots_Leads rfl ?_
  unfold x_ref03_Roots_Leads
  refine gO ?_
  refine callT (rPlaces h) ?_
  rintro v4 w1 ⟨ho1, fE, hsE, hfE⟩
  have hEl := hsE.lt
  obtain ⟨a4, c4, e4⟩ := hsE.val
  subst e4
  refine gO ?_
  match m, h with
  | none, _ =>
    refine run_loop (3 :: 5 :: 6 :: 7 :: 8 :: 11 :: 12 :: 13 :: 14 :: 15 :: 16 :: 17 :: 18 :: 19 :: 20 :: 21 :: 22 :: 23 :: 24 :: 25 :: 26 :: 27 :: 28 :: 29 :: 30 :: 31 :: 32 :: 33 :: 34 :: 35 :: 36 :: 37 :: 38 :: 39 :: 40 :: 41 :: 42 :: 43 :: []) (fun g w' => ∃ i : Nat, g 5 = .int .i64 i ∧ g 3 = .slice none 0 0 ∧ Only [] w w') (fun g _ => upTo 0 5 g) ⟨0, by simp only [go_sem]; rfl, by simp only [go_sem], ho1⟩ fun g w2 hI hnext => ?_
    obtain ⟨i, h5, h3, ho2⟩ := hI
    have e0 : ¬ (i : Int) < (((placesO none).length : Nat) : Int) := by show ¬ (i : Int) < ((0 : Nat) : Int); omega
    refine gO3 h5 h3 (dfl e0) ?_
    exact ⟨ho2, [], Sl.nil1 w2, by simp⟩
  | some s, ⟨b, hb', hp⟩ =>
    subst hb'
    have hok : s.Ok := by obtain ⟨_, _, _, _, _, _, _, _, k⟩ := hp; exact k.ok
    have hV := V_le hok
    rw [V_length hok] at hV
    have hil := idx_length (s := s)
    have hpl := placesO_length hok
    refine run_loop (3 :: 5 :: 6 :: 7 :: 8 :: 11 :: 12 :: 13 :: 14 :: 15 :: 16 :: 17 :: 18 :: 19 :: 20 :: 21 :: 22 :: 23 :: 24 :: 25 :: 26 :: 27 :: 28 :: 29 :: 30 :: 31 :: 32 :: 33 :: 34 :: 35 :: 36 :: 37 :: 38 :: 39 :: 40 :: 41 :: 42 :: 43 :: []) (fun g w' => ∃ (i : Nat) (v : Value) (f : List Nat), g 5 = .int .i64 i ∧ g 3 = v ∧ i ≤ (idx s).length ∧ Sl w' 1 v (ldU s i).length (ints (ldU s i)) f ∧ (∀ x, x ∈ f → w1.heap.size ≤ x) ∧ Only [] w1 w') (fun g _ => upTo (idx s).length 5 g)
      ⟨0, _, [], by simp only [go_sem]; rfl, by simp only [go_sem], by omega, Sl.nil1 w1, by simp, Only.refl _ _⟩ fun g w2 hI hnext => ?_
    obtain ⟨i, v, f, h5, h3, hi, hs, hf, ho⟩ := hI
    refine gO1 h5 ?_
    refine condT (fun hlt => ?_) (fun hge => ?_)
    · have hlt : i < (idx s).length := by have : (i : Int) < (((placesO (some s)).length : Nat) : Int) := by simpa using hlt
                                          omega
      obtain ⟨hj, hne⟩ := idx_at hlt
      obtain ⟨gE, cE, hvE, hcE, hgE⟩ := (hsE.keep0 ho).place (i := i) (by rw [hpl]; exact hlt)
      cases hvE
      rw [places_getD hok hlt] at hcE
      have c1 : (0 : Int) ≤ (i : Int) ∧ (i : Int) < (((placesO (some s)).length : Nat) : Int) := ⟨by omega, by omega⟩
      refine gJ3 h5 (eq_true c1) hcE ?_
      refine callT (rget ((hp.keep0 ho1).keep0 ho) (seg_pj hj)) ?_
      rintro v5 w3 ⟨rfl, ho3⟩
      have hrd := rd_segJ hok hj
      generalize hx : s.V.getD ((idx s).getD i 0) 0 = x at *
      have hul := ldU_length s i
      have hs3 := hs.keep0 ho3
      obtain ⟨av, cv, ev⟩ := hs3.val
      refine gO1 hrd ?_
      refine run_loop (7 :: 8 :: 23 :: 24 :: 25 :: 26 :: 27 :: 28 :: 29 :: 30 :: 31 :: 32 :: 33 :: 34 :: 35 :: 36 :: 37 :: []) (fun g2 w' => ∃ (k : Nat), g2 8 = .int .i64 k ∧ g2 7 = .bool (((ldU s i).take k).contains x) ∧ k ≤ (ldU s i).length ∧ Only [] w3 w') (fun g2 _ => upTo (ldU s i).length 8 g2)
        ⟨0, by simp only [go_sem]; rfl, by simp only [go_sem]; rfl, by omega, Only.refl _ _⟩ fun g2 w4 hI hnext2 => ?_
      obtain ⟨k, h8, h7, hk, ho4⟩ := hI
      rw [ev] at h3
      refine gO2 h8 h3 ?_
      refine condT (fun hlt2 => ?_) (fun hge2 => ?_)
      · have hlt2 : k < (ldU s i).length := by simpa using hlt2
        rw [ev] at hs3
        obtain ⟨p0, hp0, hc0⟩ := (hs3.keep0 ho4).rd.get (i := k) hlt2
        have c2 : (0 : Int) ≤ (k : Int) ∧ (k : Int) < ((ldU s i).length : Int) := ⟨by omega, by omega⟩
        have key : ∀ bb, ((ldU s i).take (k + 1)).contains x = bb → ∀ ρ' w'', Keeps _ _ ρ' → ρ' 8 = .int .i64 ((k + 1 : Nat) : Int) → ρ' 7 = .bool bb → Only [] w3 w'' → Run Tryz.prog fx_ref03_Roots_Leads _ ρ' w'' _ := fun bb hbb ρ' w'' hK h8' h7' ho' => hnext2 ρ' w'' ⟨k + 1, h8', by rw [h7', hbb], by omega, ho'⟩ (by rw [upTo_int h8, upTo_int h8']; omega) hK
        cases hcon : ((ldU s i).take k).contains x with
        | true =>
          rw [hcon] at h7
          refine gO4 h8 h7 h3 (i64_succ k (by omega)) ?_
          refine key true ?_ _ w4 (by (repeat (first | with_reducible exact k_1 | with_reducible exact Keeps.ovr _ _ _ | refine Keeps.put ?_ rfl _ | exact k_1 | exact Keeps.ovr _ _ _ | refine Keeps.ovr2 ?_ rfl _))) (by simp only [go_sem]) (by simp only [go_sem]) ho4
          rw [take_contains_succ hlt2, hcon]; rfl
        | false =>
          rw [hcon] at h7
          by_cases hxe : (ldU s i).getD k 0 = x
          · (repeat (first | with_reducible (first | refine nx ?_ | refine r_6 rfl ?_) | simp only [go_sem, h8, h7, h3, hp0, if_pos c2, tnc, Nat.mul_one, hc0, bqt hxe, i64_succ k (by omega)]))
            refine key true ?_ _ w4 (by (repeat (first | with_reducible exact k_1 | with_reducible exact Keeps.ovr _ _ _ | refine Keeps.put ?_ rfl _ | exact k_1 | exact Keeps.ovr _ _ _ | refine Keeps.ovr2 ?_ rfl _))) (by simp only [go_sem]) (by simp only [go_sem]) ho4
            rw [take_contains_succ hlt2, hcon, hxe]; simp
          · (repeat (first | with_reducible (first | refine nx ?_ | refine r_6 rfl ?_) | simp only [go_sem, h8, h7, h3, hp0, if_pos c2, tnc, Nat.mul_one, hc0, bqf hxe, i64_succ k (by omega)]))
            refine key false ?_ _ w4 (by (repeat (first | with_reducible exact k_1 | with_reducible exact Keeps.ovr _ _ _ | refine Keeps.put ?_ rfl _ | exact k_1 | exact Keeps.ovr _ _ _ | refine Keeps.ovr2 ?_ rfl _))) (by simp only [go_sem]) (by simp only [go_sem]) ho4
            rw [take_contains_succ hlt2, hcon]; simpa using fun e => hxe e.symm
      · have : k = (ldU s i).length := by have : ¬ (k < (ldU s i).length) := by simpa using hge2
                                          omega
        subst this
        rw [List.take_length] at h7
        have hs4 := hs3.keep0 ho4
        cases hcon : (ldU s i).contains x with
        | true =>
          rw [hcon] at h7
          refine gO3 h7 h5 (i64_succ i (by omega)) ?_
          refine hnext _ w4 ⟨i + 1, v, f, ?_, ?_, by omega, by rw [ldU_succ hlt, hx, addNew, if_pos hcon]; exact hs4, hf, (ho.nil ho3).nil ho4⟩ ?_
          · simp only [go_sem]
          · simp only [go_sem, h3, ev]
          · exact up_lt h5
        | false =>
          rw [hcon] at h7
          rw [ev] at hs4
          refine gO2 h7 h3 ?_
          rw [fillL_one rfl rfl]
          refine gO ?_
          refine bslT fun q w5 hq hs5 hat5 ho5 => ?_
          refine gO1 h3 ?_
          refine appT (hs4.keep0 ho5) (SrcIs.at hat5 rfl) (by simp [oneC]) (by omega) (by omega) ?_
          intro v6 w6 f6 hs6 hf6 ho6 _
          have hz2 := ho.size
          have hz3 := ho3.size
          have hz4 := ho4.size
          have hz5 := ho5.size
          refine gO2 h5 (i64_succ i (by omega)) ?_
          refine hnext _ w6 ⟨i + 1, v6, f6, ?_, ?_, by omega, by rw [ldU_succ hlt, hx, addNew, if_neg (by rw [hcon]; simp), lla, ints_append]; exact hs6, ?_, (((ho.nil ho3).nil ho4).nil ho5).trans ho6 fun x hx => .inr (hf x hx)⟩ ?_
          · simp only [go_sem]
          · simp only [go_sem]
          · intro y hy
            rcases hf6 with rfl | rfl
            · exact hf y hy
            · simp only [lms] at hy; omega
          · exact up_lt h5
    · have hge : ¬ (i : Int) < (((placesO (some s)).length : Nat) : Int) := by simpa using hge
      have : i = (idx s).length := by omega
      rw [this, ldU_end hok] at hs
      refine gO1 h3 ?_
      exact ⟨ho1.nil ho, f, hs, fun x hx => by have := hf x hx; have := ho1.size; omega⟩
end Rt
end
namespace Rt
end Rt
section
section
variable {P:Program} {rest:List XO} {t:XT} {ρ:Env} {w w0:World} {C:Env→World→Prop} {d:Option Nat} {L:List Nat} {fl:Bool}
theorem gd_b {b c:Bool} {x:XB} (h1:b=true→GdT P (.bool true) c d x rest ρ w C) (h0:b=false→GdT P (.bool false) c d x rest ρ w C):GdT P (.bool b) c d x rest ρ w C:=by
 cases b with
 |true=>exact h1 rfl
 |false=>exact h0 rfl
theorem gs_b {b c:Bool} {x:XB} (h1:b=true→GdS P L w0 (.bool true) c d x t ρ w C) (h0:b=false→GdS P L w0 (.bool false) c d x t ρ w C):GdS P L w0 (.bool b) c d x t ρ w C:=by
 cases b with
 |true=>exact h1 rfl
 |false=>exact h0 rfl
theorem ga_b {b c:Bool} {x:XB} (h1:b=true→GdA P fl L w0 (.bool true) c d x t ρ w C) (h0:b=false→GdA P fl L w0 (.bool false) c d x t ρ w C):GdA P fl L w0 (.bool b) c d x t ρ w C:=by
 cases b with
 |true=>exact h1 rfl
 |false=>exact h0 rfl
theorem cd_b {f:FX} {b:Bool} {x y:XCode} {kx:List XI} {R:Value→World→Prop} (h1:b=true→Run P f (.code x::kx) ρ w R) (h0:b=false→Run P f (.code y::kx) ρ w R):CondT P f (.bool b) x y kx ρ w R:=condT h1 h0
end
theorem fillL_ag {cs vs:List Value} {off n:Nat} {r:List (Nat×Nat×Value)} (h1:vs.length=n) (h2:Nat.ble (off+n) cs.length=true):fillL cs ((off,n,.agg ⟨vs⟩)::r)=fillL (setL cs off vs) r:=by
 have hc:(Value.agg ⟨vs⟩).cells.size=n∧off+n≤cs.length:=⟨by show(⟨vs⟩:Array Value).size=n;simpa using h1,Nat.le_of_ble_eq_true h2⟩
 rw[fillL]
 exact if_pos hc
theorem List.ext_getD' {α:Type} {xs ys:List α} (d:α) (hl:xs.length=ys.length) (h: ∀i,i<xs.length→xs.getD i d=ys.getD i d):xs=ys:=by
 apply List.ext_getElem hl
 intro i h1 h2
 have:=h i h1
 simpa[List.getD_eq_getElem?_getD,h1,h2]using this
end
section
section
variable {P:Program} {t et:TypeId} {w:World} {g o n cap:Nat} {vs:List Value} {z:Value}
theorem zeroCells_one (z:Value) (n:Nat):(Builtin.zeroCells #[z] n).toList=List.replicate n z:=by
 apply List.ext_getElem
 ·simp[Builtin.zeroCells]
 ·intro i h1 h2
  simp[Builtin.zeroCells,Nat.mod_one]
theorem setL_rep: ∀(n o:Nat) (vs:List Value),o+n≤vs.length→setL vs o (List.replicate n z)=vs.take o++List.replicate n z++vs.drop (o+n)
 |0,o,vs,_=>by simp[setL]
 |n+1,o,vs,h=>by
  rw[List.replicate_succ,setL,setL_rep n (o+1) (vs.set o z) (by simp;omega)]
  have e1:(vs.set o z).take (o+1)=vs.take o++[z]:=by
   rw[List.take_add_one,List.take_set_of_le (Nat.le_refl o)]
   simp[show o<vs.length by omega]
  have e2:(vs.set o z).drop (o+1+n)=vs.drop (o+(n+1)):=by
   rw[List.drop_set_of_lt (by omega),show o+1+n=o+(n+1) by omega]
  rw[e1,e2];simp
theorem run_clearS {ty:TypeId} (ht:P.underlying t=some (.slice et)) (hz:(zeroValue et).run P w=.ok z w) (h1:oneC z=true) (h:At w g vs) (hn:o+n≤vs.length):
  ∃w',(Builtin.clear_ #[t] ty #[.slice (some ⟨g,o,none⟩) n cap]).run P w=.ok (.tuple #[]) w'∧w'.heap.size=w.heap.size∧At w' g (vs.take o++List.replicate n z++vs.drop (o+n))∧Only [g] w w':=by
 obtain⟨T,hT⟩:=h
 have hone: ∀u,u∈List.replicate n z→oneC u=true:=fun u hu=>by rw[(List.mem_replicate.1 hu).2];exact h1
 obtain⟨k1,k2,k3,k4⟩:=setCells_at (off:=o) (List.replicate n z) 0 w vs hT (by simpa using hn) hone
 refine⟨World.setCells w ⟨g,o,none⟩ (List.replicate n z) 0,?_,k4,⟨T,?_⟩,k3⟩
 ·cases n with
  |zero=>simp[Builtin.clear_,run_under ht,World.setCells]
  |succ n=>
   have e:=run_storeCells (P:=P) (p:=⟨g,o,none⟩) (List.replicate (n+1) z) 0 w k1
   have ez:(Builtin.zeroCells z.cells (n+1)).toList=List.replicate (n+1) z:=by rw[(oneC_one h1).2];exact zeroCells_one z (n+1)
   simp[Builtin.clear_,run_under ht,hz,ez,e]
 ·rw[k2,Nat.add_zero,setL_rep n o vs hn]
theorem clearT {d:Option Nat} {rest:List XO} {ρ:Env} {C:Env→World→Prop} (ht:P.underlying t=some (.slice et)) (hz:(zeroValue et).run P w=.ok z w) (h1:oneC z=true) (h:At w g vs) (hn:o+n≤vs.length)
  (k: ∀w',w'.heap.size=w.heap.size→At w' g (vs.take o++List.replicate n z++vs.drop (o+n))→Only [g] w w'→VO P rest (putO ρ d (.tuple #[])) w' C):RunT P (Builtin.clear_ #[t] 0 #[.slice (some ⟨g,o,none⟩) n cap]) d rest ρ w C:=by
 obtain⟨w',e1,e2,e3,e4⟩:=run_clearS (P:=P) (ty:=0) (cap:=cap) ht hz h1 h hn
 exact runT e1 (k w' e2 e3 e4)
end
def wipeW (W:List Int) (a n:Nat):List Int:=W.take a++List.replicate n 0++W.drop (a+n)
theorem wipeW_len {W:List Int} {a n:Nat} (h:a+n≤W.length):(wipeW W a n).length=W.length:=by simp[wipeW];omega
theorem wipeW_get {W:List Int} {a n:Nat} (h:a+n≤W.length) (i:Nat):(wipeW W a n).getD i 0=if a≤i∧i<a+n then 0 else W.getD i 0:=by
 unfold wipeW
 simp only[List.getD_eq_getElem?_getD]
 by_cases c1:i<a
 ·rw[if_neg (by omega),List.append_assoc,List.getElem?_append_left (by simp;omega),List.getElem?_take,if_pos c1]
 ·by_cases c2:i<a+n
  ·rw[if_pos ⟨by omega,c2⟩,List.append_assoc,List.getElem?_append_right (by simp;omega),List.getElem?_append_left (by simp;omega)]
   simp only[List.length_take]
   rw[List.getElem?_replicate,if_pos (by omega)];rfl
  ·rw[if_neg (by omega),List.getElem?_append_right (by simp;omega),List.getElem?_drop]
   congr 2
   simp;omega
def killM (m:HO) (x:Int):HO:=match m with
 |none=>none
 |some s=>if objE (some s) x=0 then some {s with W:=wipeW s.W x.toNat (s.size x.toNat).toNat,st:=s.st.set (x.toNat/2) 0,pn:=s.pn.set (x.toNat/2) 0,pl:=delM s.pl (s.W.getD x.toNat 0)}else some s
def pinM (m:HO) (x:Int) (v:Nat):HO:=match m with
 |none=>none
 |some s=>if objE (some s) x=0 then some {s with pn:=s.pn.set (x.toNat/2) v}else some s
def pinnedO (m:HO) (x:Int):Bool:=match m with
 |none=>false
 |some s=>hasO (some s) x&&s.pins.get (x/2)==1
def identO (m:HO) (x:Int):Int×Int:=match m with
 |none=>(0,5)
 |some s=>if objE (some s) x=0 then(s.W.getD x.toNat 0,0)else(0,objE (some s) x)
def dataO (m:HO) (a i:Int):Int×Int:=match m with
 |none=>(0,5)
 |some s=>if(fieldO m a i true).2=0 then(s.W.getD (fieldO m a i true).1.toNat 0,0)else(0,(fieldO m a i true).2)
def bornO (m:HO):Nat:=match m with|none=>0|some s=>s.born
theorem obj_has {m:HO} {x:Int} (h:objE m x=0): ∃s,m=some s∧hasO (some s) x=true:=by
 cases m with
 |none=>cases h
 |some s=>
  cases hh:hasO (some s) x with
  |true=>exact⟨s,rfl,hh⟩
  |false=>simp[objE,hh]at h
theorem HL.Ok.kill {s:HL} (h:s.Ok) {i:Nat} (hi:s.st.getD i 0=1) {pn:List Nat} {pl:IM} (hp:pn.length=32*s.B.length):HL.Ok {s with W:=wipeW s.W (2*i) (s.size (2*i)).toNat,st:=s.st.set i 0,pn:=pn,pl:=pl}:=by
 obtain⟨g1,g2,g3,_⟩:=h.sz hi
 have hin:2*i+(s.size (2*i)).toNat≤s.W.length:=by omega
 have hst: ∀j,(s.st.set i 0).getD j 0=1→j≠i∧s.st.getD j 0=1:=by
  intro j hj
  by_cases e:j=i
  ·subst e
   simp only[List.getD_eq_getElem?_getD]at hj
   by_cases hl:j<s.st.length
   ·rw[List.getElem?_set_self hl]at hj;cases hj
   ·rw[List.getElem?_eq_none (by simpa using hl)]at hj;cases hj
  ·refine⟨e,?_⟩
   simp only[List.getD_eq_getElem?_getD]at hj⊢
   rw[List.getElem?_set_ne (fun h=>e h.symm)]at hj;exact hj
 have hW: ∀j,j≠i→s.st.getD j 0=1→(wipeW s.W (2*i) (s.size (2*i)).toNat).getD (2*j+1) 0=s.W.getD (2*j+1) 0:=by
  intro j hne hj
  rw[wipeW_get hin,if_neg]
  have:=(h.sz hj).1
  rcases Nat.lt_or_ge i j with hij|hij
  ·have:=h.dj i j hi hj hij;omega
  ·have:=h.dj j i hj hi (by omega);omega
 have hsz: ∀j,j≠i→s.st.getD j 0=1→HL.size {s with W:=wipeW s.W (2*i) (s.size (2*i)).toNat,st:=s.st.set i 0,pn:=pn,pl:=pl} (2*j)=s.size (2*j):=by
  intro j hne hj
  show wordsS (shapeN ((wipeW s.W (2*i) (s.size (2*i)).toNat).getD (2*j+1) 0))=_
  rw[hW j hne hj];rfl
 refine⟨h.b2,h.b64,by simp only;rw[wipeW_len hin];exact h.wl,by simpa using h.sl,hp,fun j hj=>?_,fun j k hj hk hjk=>?_⟩
 ·obtain⟨hne,hj'⟩:=hst j hj
  obtain⟨r,d,q,h1,h2,h3⟩:=h.fit j hj'
  exact⟨r,d,q,h1,by simp only;rw[hW j hne hj'];exact h2,by simp only;rw[wipeW_len hin];exact h3⟩
 ·obtain⟨hne,hj'⟩:=hst j hj
  obtain⟨hnk,hk'⟩:=hst k hk
  rw[hsz j hne hj']
  exact h.dj j k hj' hk' hjk
theorem hSizeW {w:World} {b gW cW i:Nat} {c0:Value} {cs:List Value} {W:List Int} {yW:List Value} (hb:At w b (c0::.slice (some ⟨gW,0,none⟩) W.length cW::cs)) (hW:At w gW (ints W++yW)) (hi:2*i+1<W.length) (hl:W.length≤4096) (h0:0≤W.getD (2*i+1) 0) (h1:W.getD (2*i+1) 0≤100000):
  Cs Tryz.prog 165 [.pointer (some ⟨b,0,none⟩),.int .i64 ((2*i:Nat):Int)] w fun v w'=>v=.int .i64 (wordsS (shapeN (W.getD (2*i+1) 0)))∧Only [] w w':=by
 have e1:IntKind.i64.wrap (((2*i:Nat):Int)+1)=((2*i+1:Nat):Int):=i64_succ _ (by omega)
 have e2:(0:Int)≤((2*i+1:Nat):Int)∧((2*i+1:Nat):Int)<(W.length:Int):=⟨by omega,by omega⟩
 have hc:w.cell? ⟨gW,2*i+1,none⟩=some (.int .i64 (W.getD (2*i+1) 0)):=by rw[hW.cell,ints_append_get yW hi]
 refine enter_heap_Heap_size rfl ?_
 unfold x_heap_Heap_size
 refine gJ4 hb.cell e1 (eq_true e2) hc ?_
 refine callT1 (hShapeN w _ h0 h1) fun w1 ho1=>?_
 refine gO ?_
 refine callT1 (hWords w1 _) fun w2 ho2=>?_
 refine gO ?_
 exact ho1.nil ho2
theorem ints_wipe {W:List Int} {a n:Nat} (yW:List Value) (h:a+n≤W.length):(ints W++yW).take a++List.replicate n (Value.int .i64 0)++(ints W++yW).drop (a+n)=ints (wipeW W a n)++yW:=by
 have hl:(ints W).length=W.length:=ints_length W
 rw[List.take_append_of_le_length (by omega),List.drop_append_of_le_length (by omega)]
 simp[wipeW,ints,List.map_take,List.map_drop,List.append_assoc]
theorem hWipe {w:World} {b gW cW a n:Nat} {c0:Value} {cs:List Value} {W:List Int} {yW:List Value} (hb:At w b (c0::.slice (some ⟨gW,0,none⟩) W.length cW::cs)) (hW:At w gW (ints W++yW)) (hc:W.length≤cW) (hi:a+n≤W.length) (hl:W.length≤4096) (ha:a<W.length):
  Cs Tryz.prog 164 [.pointer (some ⟨b,0,none⟩),.int .i64 ((a:Nat):Int),.int .i64 ((n:Nat):Int)] w fun v w'=>v=.tuple #[]∧w'.heap.size=w.heap.size∧At w' gW (ints (wipeW W a n)++yW)∧Only [gW] w w':=by
 have e1:IntKind.i64.wrap ((a:Int)+(n:Int))=((a+n:Nat):Int):=by rw[IntWalk.i64_in _ (by omega)];omega
 refine enter_heap_Heap_wipe rfl ?_
 unfold x_heap_Heap_wipe
 refine gO2 hb.cell e1 ?_
 rw[slcO_lh (show a≤a+n by omega) (by omega) (by omega)]
 (repeat(first|with_reducible(first|refine nx ?_|refine r_6 rfl ?_)|simp only[go_sem,addr_add,Nat.zero_add,Nat.mul_one,show a+n-a=n by omega]))
 refine clearT Tryz.underlying33 (Tryz.zeroValue3 w) rfl hW (by rw[lla,ints_length];omega) fun w1 hs1 h1 ho1=>?_
 rw[ints_wipe yW hi]at h1
 refine gO ?_
 exact⟨hs1,h1,ho1⟩
end
section
set_option maxRecDepth 8000
variable {m:HO} {fp l:List Nat} {b:Nat} {a:Option Addr} {w:World}
theorem HR.intro {s:HL} {gB gW cB cW:Nat} {yB yW:List Value} {sb sg pb pg bl bf:Nat} (h:HMs w b s gB gW cB cW yB yW sb sg pb pg bl bf):HR w (some ⟨b,0,none⟩) [b,gB,gW,sb,sg,pb,pg,bl,bf] (some s):=
 ⟨b,rfl,gB,gW,cB,cW,yB,yW,sb,sg,pb,pg,bl,bf,rfl,h⟩
theorem off2 {x y z:Nat} (h1:x≠y) (h2:x≠z):x∉ [y,z]:=by simpa using⟨h1,h2⟩
theorem set_bit {k:Nat} {v:Nat} (hk:k<l.length) (hv:v≤1):MT.setM (some (1,l)) (k:Int) (v:Int)=some (1,l.set k v):=by
 have h1:hasB l.length (k:Int)=true:=hasB_of hk
 have hchk:MT.check (some (1,l)) (k:Int) [(v:Int)]=0:=by
  simp only[MT.check,h1]
  have:v=0∨v=1:=by omega
  rcases this with rfl|rfl<;>rfl
 simp only[MT.setM,hchk,if_true,tnc]
theorem hSetBit {g n:Nat} (h:STab w b g n 1 l) (k v:Nat) (hk:k<n) (hv:v≤1):Cs Tryz.prog 152 [.pointer (some ⟨b,0,none⟩),.int .i64 (k:Int),.int .i64 (v:Int)] w fun r w'=>(∃e,r=.int .i64 e)∧STab w' b g n 1 (l.set k v)∧Only [b,g] w w':=by
 refine(Set_m (Tab.mk h) (k:Int) (v:Int)).mono ?_
 rintro r w' ⟨rfl,htab,ho⟩
 rw[set_bit (by rw[h.len];exact hk) hv]at htab
 obtain⟨b',g',g1,g2,hs⟩:=htab
 cases g1
 have e:g'=g:=by simpa using g2.symm
 subst e
 refine⟨⟨_,rfl⟩,?_,ho⟩
 have:(l.set k v).length=n:=by simpa using h.len
 rw[this]at hs
 exact hs
theorem hPinV (h:HR w a fp m) (x:Int) (v:Nat) (hv:v≤1) (hx:x≤4611686018427387904):Cs Tryz.prog 171 [.pointer a,.int .i64 x,.int .i64 (v:Int)] w fun r w'=>r=.int .i64 (objE m x)∧HR w' a fp (pinM m x v)∧Only fp w w':=by
 refine enter_heap_Heap_pin rfl ?_
 unfold x_heap_Heap_pin
 refine gO ?_
 refine callT1 (hObject h x hx) fun w1 ho1=>?_
 by_cases he:objE m x=0
 rotate_left
 ·refine gO1 (bnt he) ?_
  have hM:pinM m x v=m:=by
   cases m with
   |none=>rfl
   |some s=>unfold pinM;simp only[he,if_false]
  rw[hM]
  exact⟨h.keep0 ho1,ho1.of_nil⟩
 obtain⟨s,rfl,hh⟩:=obj_has he
 obtain⟨b,rfl,gB,gW,cB,cW,yB,yW,sb,sg,pb,pg,bl,bf,h2,h3⟩:=h
 obtain⟨i,rfl,hi⟩:=has_spec h3.ok hh
 have hlt:=(h3.ok.start hi).1
 have hsl:=h3.ok.sl
 have hpl:=h3.ok.pl
 have hB:=h3.ok.b64
 have h4:=h3.keep0 ho1
 have e3:IntKind.i64.wrap (((2*i:Nat):Int).tdiv 2)=(i:Int):=by rw[tdiv2 _ (by omega)];omega
 obtain⟨⟨n1,n2,n3,n4,n5,n6,n7,n8⟩,⟨m2,m3,m4,m5,m6,m7,m8⟩,⟨p3,p4,p5,p6,p7,p8⟩,⟨r4,r5,r6,r7,r8⟩,⟨t5,t6,t7,t8⟩,⟨u6,u7,u8⟩,⟨v7,v8⟩,y8⟩:=nd9 h3.nd
 refine gO3 (bnf he) h4.hb.cell e3 ?_
 refine callT (hSetBit h4.hp i v (by omega) hv) ?_
 rintro r w2 ⟨⟨e,rfl⟩,hp2,ho2⟩
 refine gO ?_
 have hM:pinM (some s) ((2*i:Nat):Int) v=some {s with pn:=s.pn.set i v}:=by
  unfold pinM
  simp only[he,if_true,tnc,Nat.mul_div_cancel_left i (show 0<2 by omega)]
 rw[hM,he]
 subst h2
 refine⟨rfl,HR.intro (yB:=yB) (yW:=yW) (cW:=cW) ⟨?_,?_,?_,?_,h3.cB,h3.cW,?_,?_,?_,?_,h3.nd⟩,?_⟩
 ·exact⟨h3.ok.b2,h3.ok.b64,h3.ok.wl,h3.ok.sl,by simpa using h3.ok.pl,h3.ok.fit,h3.ok.dj⟩
 ·exact h4.hb.keep ho2 (off2 n5 n6)
 ·exact h4.hB.keep ho2 (off2 m5 m6)
 ·exact h4.hW.keep ho2 (off2 p5 p6)
 ·exact h4.hs.keep ho2 (off2 r5 r6) (off2 t5 t6)
 ·simpa using hp2
 ·exact h4.hl.keep ho2 (off2 u7.symm v7.symm)
 ·exact h4.hf.keep ho2 (off2 u8.symm v8.symm)
 ·exact(ho1.of_nil (T:=[b,gB,gW,sb,sg,pb,pg,bl,bf])).trans ho2 fun z hz=>.inl (by simp only[List.mem_cons,List.not_mem_nil,or_false]at hz⊢;omega)
theorem hPin (h:HR w a fp m) (x:Int) (hx:x≤4611686018427387904):Cs Tryz.prog 91 [.pointer a,.int .i64 x] w fun r w'=>r=.int .i64 (objE m x)∧HR w' a fp (pinM m x 1)∧Only fp w w':=by
 refine enter_heap_Heap_Pin rfl ?_
 unfold x_heap_Heap_Pin
 refine gO ?_
 refine callT (hPinV h x 1 (by omega) hx) ?_
 rintro r w1 ⟨rfl,h1,ho1⟩
 refine gO ?_
 exact⟨h1,ho1⟩
theorem hPinned (h:HR w a fp m) (x:Int) (hx:x≤4611686018427387904):Cs Tryz.prog 71 [.pointer a,.int .i64 x] w fun r w'=>r=.bool (pinnedO m x)∧Only [] w w':=by
 refine enter_heap_Heap_Pinned rfl ?_
 unfold x_heap_Heap_Pinned
 refine gO ?_
 refine callT1 (hHas h x hx) fun w1 ho1=>?_
 cases hh:hasO m x with
 |false=>
  refine gO ?_
  refine⟨?_,ho1⟩
  cases m with
  |none=>rfl
  |some s=>simp[pinnedO,hh]
 |true=>
  cases m with
  |none=>cases hh
  |some s=>
   obtain⟨b,rfl,gB,gW,cB,cW,yB,yW,sb,sg,pb,pg,bl,bf,h2,h3⟩:=h
   obtain⟨i,rfl,hi⟩:=has_spec h3.ok hh
   have h4:=h3.keep0 ho1
   have e3:IntKind.i64.wrap (((2*i:Nat):Int).tdiv 2)=(i:Int):=by rw[tdiv2 _ (by omega)];omega
   refine gO2 h4.hb.cell e3 ?_
   refine callT1 (Get_m (Tab.mk h4.hp) (i:Int)) fun w2 ho2=>?_
   refine gO ?_
   refine⟨?_,ho1.nil ho2⟩
   unfold pinnedO
   simp only[hh,Bool.true_and]
   rw[show((2*i:Nat):Int)/2=(i:Int) by omega]
   rfl
theorem hIdent (h:HR w a fp m) (x:Int) (hx:x≤4611686018427387904):Cs Tryz.prog 11 [.pointer a,.int .i64 x] w fun r w'=>r=.tuple #[.int .i64 (identO m x).1,.int .i64 (identO m x).2]∧Only [] w w':=by
 refine enter_heap_Heap_Ident rfl ?_
 unfold x_heap_Heap_Ident
 refine gO ?_
 refine callT1 (hObject h x hx) fun w1 ho1=>?_
 by_cases he:objE m x=0
 rotate_left
 ·refine gO1 (bnt he) ?_
  refine⟨?_,ho1⟩
  cases m with
  |none=>rfl
  |some s=>simp[identO,he]
 obtain⟨s,rfl,hh⟩:=obj_has he
 obtain⟨b,rfl,gB,gW,cB,cW,yB,yW,sb,sg,pb,pg,bl,bf,h2,h3⟩:=h
 obtain⟨i,rfl,hi⟩:=has_spec h3.ok hh
 have hl:=(h3.ok.start hi).2.1
 have h4:=h3.keep0 ho1
 have e2:(0:Int)≤((2*i:Nat):Int)∧((2*i:Nat):Int)<(s.W.length:Int):=⟨by omega,by omega⟩
 (repeat(first|with_reducible(first|refine nx ?_|refine r_6 rfl ?_)|simp only[go_sem,bnf he,h4.hb.cell,if_pos e2,tnc,Nat.mul_one,h4.wcell (show 2*i<s.W.length by omega)]))
 refine⟨?_,ho1⟩
 simp only[identO,he,if_true,tnc]
theorem hData (h:HR w a fp m) (x i:Int) (hx:x≤4611686018427387904):Cs Tryz.prog 74 [.pointer a,.int .i64 x,.int .i64 i] w fun v w'=>v=.tuple #[.int .i64 (dataO m x i).1,.int .i64 (dataO m x i).2]∧Only [] w w':=by
 refine enter_heap_Heap_Data rfl ?_
 unfold x_heap_Heap_Data
 refine gO ?_
 refine callT1 (hField h x i true hx) fun w1 ho1=>?_
 by_cases he:(fieldO m x i true).2=0
 rotate_left
 ·refine gO1 (bnt he) ?_
  refine⟨?_,ho1⟩
  cases m with
  |none=>rfl
  |some s=>simp[dataO,he]
 cases m with
 |none=>cases he
 |some s=>
  obtain⟨b,rfl,gB,gW,cB,cW,yB,yW,sb,sg,pb,pg,bl,bf,h2,h3⟩:=h
  obtain⟨o,k,_,_,hk,_,_,hlt⟩:=field_spec h3.ok he
  have h4:=h3.keep0 ho1
  have e2:(0:Int)≤(k:Int)∧(k:Int)<(s.W.length:Int):=⟨by omega,by omega⟩
  (repeat(first|with_reducible(first|refine nx ?_|refine r_6 rfl ?_)|simp only[go_sem,bnf he,h4.hb.cell,hk,if_pos e2,tnc,Nat.mul_one,h4.wcell hlt]))
  refine⟨?_,ho1⟩
  simp only[dataO,he,if_true,hk,tnc]
theorem hBirths (h:HR w a fp m):Cs Tryz.prog 67 [.pointer a] w fun v w'=>v=.int .i64 (bornO m:Nat)∧w'=w:=by
 refine enter_heap_Heap_Births rfl ?_
 unfold x_heap_Heap_Births
 refine gO ?_
 refine callT0 (hMade h) ?_
 match m,h with
 |none,h=>(repeat(first|with_reducible(first|refine nx ?_|refine r_6 rfl ?_)|simp only[go_sem]));rfl
 |some s,⟨b,h1,gB,gW,cB,cW,yB,yW,sb,sg,pb,pg,bl,bf,h2,h3⟩=>
  subst h1
  refine gO1 h3.hb.cell ?_
  rfl
theorem hKill (h:HR w a fp m) (x:Int) (hx:x≤4611686018427387904):Cs Tryz.prog 86 [.pointer a,.int .i64 x] w fun r w'=>r=.int .i64 (objE m x)∧HR w' a fp (killM m x)∧Only fp w w':=by
 refine enter_heap_Heap_Kill rfl ?_
 unfold x_heap_Heap_Kill
 refine gO ?_
 refine callT1 (hObject h x hx) fun w1 ho1=>?_
 by_cases he:objE m x=0
 rotate_left
 ·refine gO1 (bnt he) ?_
  have hM:killM m x=m:=by
   cases m with
   |none=>rfl
   |some s=>unfold killM;simp only[he,if_false]
  rw[hM]
  exact⟨h.keep0 ho1,ho1.of_nil⟩
 obtain⟨s,rfl,hh⟩:=obj_has he
 obtain⟨b,rfl,gB,gW,cB,cW,yB,yW,sb,sg,pb,pg,bl,bf,h2,h3⟩:=h
 obtain⟨i,rfl,hi⟩:=has_spec h3.ok hh
 obtain⟨hlt,hl,r,d,k,k1,k2,k3,k4,k5,k6⟩:=h3.ok.start hi
 obtain⟨g1,g2,g3,_⟩:=h3.ok.sz hi
 have hsl:=h3.ok.sl
 have hpl:=h3.ok.pl
 have hwl:=h3.ok.wl
 have hB:=h3.ok.b64
 have h4:=(h3.keep0 ho1).keep0 (Only.drew [] w1)
 have e2:(0:Int)≤((2*i:Nat):Int)∧((2*i:Nat):Int)<(s.W.length:Int):=⟨by omega,by omega⟩
 have e3:IntKind.i64.wrap (((2*i:Nat):Int).tdiv 2)=(i:Int):=by rw[tdiv2 _ (by omega)];omega
 obtain⟨⟨n1,n2,n3,n4,n5,n6,n7,n8⟩,⟨m2,m3,m4,m5,m6,m7,m8⟩,⟨p3,p4,p5,p6,p7,p8⟩,⟨r4,r5,r6,r7,r8⟩,⟨t5,t6,t7,t8⟩,⟨u6,u7,u8⟩,⟨v7,v8⟩,y8⟩:=nd9 h3.nd
 (repeat(first|with_reducible(first|refine nx ?_|refine r_6 rfl ?_)|simp only[go_sem,bnf he,h4.hb.cell,if_pos e2,tnc,Nat.mul_one,h4.wcell (show 2*i<s.W.length by omega)]))
 refine mdelT Tryz.underlying67 Tryz.underlying3 h4.hl fun w2 hs2 hl2 ho2=>?_
 have hb2:=h4.hb.keep ho2 (off1 n7)
 refine gO2 hb2.cell e3 ?_
 refine callT (hSetBit (h4.hs.keep ho2 (off1 r7) (off1 t7)) i 0 (by omega) (by omega)) ?_
 rintro r1 w3 ⟨⟨e,rfl⟩,hst3,ho3⟩
 have hb3:=hb2.keep ho3 (off2 n3 n4)
 refine gO2 hb3.cell e3 ?_
 refine callT (hSetBit ((h4.hp.keep ho2 (off1 u7) (off1 v7)).keep ho3 (off2 r5.symm t5.symm) (off2 r6.symm t6.symm)) i 0 (by omega) (by omega)) ?_
 rintro r2 w4 ⟨⟨e',rfl⟩,hp4,ho4⟩
 have hb4:=hb3.keep ho4 (off2 n5 n6)
 have hW4:=((h4.hW.keep ho2 (off1 p7)).keep ho3 (off2 p3 p4)).keep ho4 (off2 p5 p6)
 refine gO ?_
 refine callT1 (hSizeW hb4 hW4 hl (by omega) (by rw[k2];exact k4) (by rw[k2];exact k5)) fun w5 ho5=>?_
 have hsz:wordsS (shapeN (s.W.getD (2*i+1) 0))=s.size (2*i):=rfl
 have hsn:s.size (2*i)=(((s.size (2*i)).toNat:Nat):Int):=by omega
 rw[hsz,hsn]
 refine gO ?_
 refine callT (hWipe (hb4.keep0 ho5) (hW4.keep0 ho5) h3.cW (by omega) (by omega) (by omega)) ?_
 rintro r3 w6 ⟨rfl,hs6,hW6,ho6⟩
 refine gO ?_
 have hM:killM (some s) ((2*i:Nat):Int)=some {s with W:=wipeW s.W (2*i) (s.size (2*i)).toNat,st:=s.st.set i 0,pn:=s.pn.set i 0,pl:=delM s.pl (s.W.getD (2*i) 0)}:=by
  unfold killM
  simp only[he,if_true,tnc,Nat.mul_div_cancel_left i (show 0<2 by omega)]
 rw[hM,he]
 subst h2
 have hin:2*i+(s.size (2*i)).toNat≤s.W.length:=by omega
 refine⟨rfl,HR.intro (yB:=yB) (yW:=yW) (cW:=cW) ⟨h3.ok.kill hi (by simpa using h3.ok.pl),?_,?_,?_,h3.cB,?_,?_,?_,?_,?_,h3.nd⟩,?_⟩
 ·simp only[wipeW_len hin]
  exact(hb4.keep0 ho5).keep ho6 (off1 n2)
 ·exact((((h4.hB.keep ho2 (off1 m7)).keep ho3 (off2 m3 m4)).keep ho4 (off2 m5 m6)).keep0 ho5).keep ho6 (off1 m2)
 ·exact hW6
 ·simp only[wipeW_len hin];exact h3.cW
 ·simp only[List.length_set]
  exact((hst3.keep ho4 (off2 r5 r6) (off2 t5 t6)).keep ho5 (by simp) (by simp)).keep ho6 (off1 p3.symm) (off1 p4.symm)
 ·simp only[List.length_set]
  exact(hp4.keep ho5 (by simp) (by simp)).keep ho6 (off1 p5.symm) (off1 p6.symm)
 ·exact(((hl2.keep ho3 (off2 r7.symm t7.symm)).keep ho4 (off2 u7.symm v7.symm)).keep0 ho5).keep ho6 (off1 p7.symm)
 ·exact((((h4.hf.keep ho2 (off1 y8.symm)).keep ho3 (off2 r8.symm t8.symm)).keep ho4 (off2 u8.symm v8.symm)).keep0 ho5).keep ho6 (off1 p8.symm)
 ·have o2:Only [b,gB,gW,sb,sg,pb,pg,bl,bf] w w2:=((ho1.nil (Only.drew [] w1)).of_nil (T:=[b,gB,gW,sb,sg,pb,pg,bl,bf])).trans ho2 fun z hz=>.inl (by simp only[List.mem_cons,List.not_mem_nil,or_false]at hz⊢;omega)
  have o3:=o2.trans ho3 fun z hz=>.inl (by simp only[List.mem_cons,List.not_mem_nil,or_false]at hz⊢;omega)
  have o4:=o3.trans ho4 fun z hz=>.inl (by simp only[List.mem_cons,List.not_mem_nil,or_false]at hz⊢;omega)
  exact(o4.nil ho5).trans ho6 fun z hz=>.inl (by simp only[List.mem_cons,List.not_mem_nil,or_false]at hz⊢;omega)
end
section
variable {l:List Nat} {lo:Nat} {a:Option Addr} {w:World}
def slLeft (n:Nat) (t:Nat) (g:Env):Nat:=match g t with|.slice _ l _=>n-l|_=>0
theorem slLeft_s {n t:Nat} {g:Env} {l c:Nat} (h:g t=.slice a l c):slLeft n t g=n-l:=by unfold slLeft;rw[h]
def objsB (l:List Nat) (lo hi:Nat):List Nat:=(List.range hi).filter fun j=>decide (lo≤j)&&decide (l.getD j 0=1)
theorem objsB_succ (l:List Nat) (lo k:Nat):objsB l lo (k+1)=objsB l lo k++(if lo≤k∧l.getD k 0=1 then [k]else []):=by
 unfold objsB
 rw[List.range_succ,List.filter_append]
 congr 1
 by_cases h:lo≤k∧l.getD k 0=1
 ·rw[if_pos h];simp[h.1]
  simpa using h.2
 ·rw[if_neg h];simp
  intro h1;simpa using fun h2=>h ⟨h1,by simpa using h2⟩
theorem objsB_gap {k i:Nat} (hk:k≤i) (h: ∀j,k≤j→j<i→l.getD j 0≠1):objsB l lo i=objsB l lo k:=by
 obtain⟨d,rfl⟩: ∃d,i=k+d:=⟨i-k,by omega⟩
 induction d with
 |zero=>rfl
 |succ d ih=>
  rw[show k+(d+1)=k+d+1 by omega,objsB_succ,if_neg,List.append_nil]
  ·exact ih (by omega) fun j h1 h2=>h j h1 (by omega)
  ·intro h1;exact h (k+d) (by omega) (by omega) h1.2
theorem objsB_len (l:List Nat) (lo hi:Nat):(objsB l lo hi).length≤hi:=by
 unfold objsB
 have:=List.length_filter_le (fun j=>decide (lo≤j)&&decide (l.getD j 0=1)) (List.range hi)
 simpa using this
theorem objsB_self (l:List Nat) (lo:Nat):objsB l lo lo=[]:=by
 unfold objsB
 rw[List.filter_eq_nil_iff]
 intro j hj
 have:=List.mem_range.1 hj
 simp;omega
theorem mem_objsB {hi j:Nat}:j∈objsB l lo hi↔(lo≤j∧j<hi)∧l.getD j 0=1:=by
 unfold objsB
 simp only[List.mem_filter,List.mem_range,Bool.and_eq_true,decide_eq_true_eq]
 omega
def adrs (l:List Nat):List Int:=l.map fun i=>((2*i:Nat):Int)
theorem adrs_len (l:List Nat):(adrs l).length=l.length:=by simp[adrs]
theorem adrs_append (l m:List Nat):adrs (l++m)=adrs l++adrs m:=by simp[adrs]
def HL.objs (s:HL):List Nat:=objsB s.st 0 s.st.length
def allH (m:HO):List Int:=match m with|none=>[]|some s=>adrs s.objs
theorem next_cases (k:Nat):(MT.nextO (some (1,l)) (k:Int) 1=none∧ ∀j,k≤j→l.getD j 0≠1)∨
  ∃i,MT.nextO (some (1,l)) (k:Int) 1=some i∧k≤i∧i<l.length∧l.getD i 0=1∧ ∀j,k≤j→j<i→l.getD j 0≠1:=by
 by_cases h: ∃j,k≤j∧l.getD j 0=1
 ·obtain⟨i,⟨h1,h2⟩,h3⟩: ∃i,(k≤i∧l.getD i 0=1)∧ ∀j,j<i→ ¬(k≤j∧l.getD j 0=1):=by
   obtain⟨j,hj⟩:=h
   induction j using Nat.strongRecOn with
   |_ j ih=>
    by_cases hm: ∃m,m<j∧(k≤m∧l.getD m 0=1)
    ·obtain⟨m,h1,h2⟩:=hm;exact ih m h1 h2
    ·exact⟨j,hj,fun m h1 h2=>hm ⟨m,h1,h2⟩⟩
  have hlt:i<l.length:=by
   rcases Nat.lt_or_ge i l.length with h'|h'
   ·exact h'
   ·rw[List.getD_eq_getElem?_getD,List.getElem?_eq_none h']at h2;simp at h2
  refine .inr ⟨i,?_,h1,hlt,h2,fun j h4 h5 h6=>h3 j h5 ⟨h4,h6⟩⟩
  unfold MT.nextO
  simp only
  refine firstI_some ?_ hlt fun j hj=>?_
  ·simp only[Bool.and_eq_true,decide_eq_true_eq];omega
  ·have:=h3 j hj
   simp only[Bool.and_eq_false_iff,decide_eq_false_iff_not]
   by_cases hkj:k≤j
   ·right;intro e;exact this ⟨hkj,by omega⟩
   ·left;omega
 ·refine .inl ⟨?_,fun j h1 h2=>h ⟨j,h1,h2⟩⟩
  unfold MT.nextO
  simp only
  refine firstI_none fun j hj=>?_
  simp only[Bool.and_eq_false_iff,decide_eq_false_iff_not]
  by_cases hkj:k≤j
  ·right;intro e;exact h ⟨j,hkj,by omega⟩
  ·left;omega
theorem hBetween {b:Nat} {s:HL} {gB gW cB cW:Nat} {yB yW:List Value} {sb sg pb pg bl bf:Nat} (h:HMs w b s gB gW cB cW yB yW sb sg pb pg bl bf) (lo hi:Nat) (hle:lo≤hi) (hhi:hi≤4096):
  Cs Tryz.prog 47 [.pointer (some ⟨b,0,none⟩),.int .i64 ((2*lo:Nat):Int),.int .i64 ((2*hi:Nat):Int)] w fun v w'=>Only [] w w'∧ ∃fq,Sl w' 1 v (objsB s.st lo hi).length (ints (adrs (objsB s.st lo hi))) fq∧ ∀y,y∈fq→w.heap.size≤y:=by
 have e3:IntKind.i64.wrap (((2*lo:Nat):Int).tdiv 2)=(lo:Int):=by rw[tdiv2 _ (by omega)];omega
 have hsl:=h.ok.sl
 have hB:=h.ok.b64
 refine enter_heap_Heap_between rfl ?_
 unfold x_heap_Heap_between
 refine gO2 h.hb.cell e3 ?_
 refine callT1 (Next_m (Tab.mk h.hs) (lo:Int) 1) fun w1 ho1=>?_
 refine gO ?_
 refine run_loop (7::8::9::20::21::22::23::24::25::26::27::28::29::30::31::32::33::34::35::36::37::38::39::40::41::42::[]) (fun g w'=> ∃k fq,lo≤k∧k≤hi∧g 8=.int .i64 (optR (MT.nextO (some (1,s.st)) (k:Int) 1))∧g 9=.int .i64 (MT.err (some (1,s.st)) (MT.nextO (some (1,s.st)) (k:Int) 1))∧
   Sl w' 1 (g 7) (objsB s.st lo k).length (ints (adrs (objsB s.st lo k))) fq∧(∀y,y∈fq→w.heap.size≤y)∧Only [] w w') (fun g _=>slLeft (hi+1) 7 g)
  ⟨lo,[],Nat.le_refl _,hle,by simp only[go_sem],by simp only[go_sem],by simp only[go_sem];rw[objsB_self];exact Sl.nil1 _,by simp,ho1⟩ fun g w2 hI hnext=>?_
 obtain⟨k,fq,hk1,hk2,h8,h9,h7,hfq,ho2⟩:=hI
 rcases next_cases (l:=s.st) k with⟨e1,hno⟩|⟨i,e1,hki,hil,hi1,hno⟩
 ·have e9:MT.err (some (1,s.st)) none=4:=rfl
  rw[e1,e9]at h9
  refine gO2 h9 (bqf (show¬(4:Int)=0 by omega)) ?_
  refine⟨ho2,fq,?_,hfq⟩
  rw[objsB_gap hk2 fun j h1 _=>hno j h1]
  exact h7
 ·have e9:MT.err (some (1,s.st)) (some i)=0:=rfl
  have e8:optR (some i)=(i:Int):=rfl
  rw[e1,e9]at h9
  rw[e1,e8]at h8
  have em:IntKind.i64.wrap (2*(i:Int))=((2*i:Nat):Int):=by rw[IntWalk.i64_in _ (by omega)];omega
  refine gO4 h9 h8 (bqt (rfl:(0:Int)=0)) em ?_
  refine condT (fun hlt=>?_) (fun hge=>?_)
  ·have hlt:i<hi:=by
    have:((2*i:Nat):Int)<((2*hi:Nat):Int):=by simpa using hlt
    omega
   refine gO2 h8 em ?_
   rw[fillL_one rfl rfl]
   refine gO ?_
   refine bslT fun q w3 hq hs3 hat3 ho3=>?_
   refine gO ?_
   have hl:=objsB_len s.st lo k
   refine appT (h7.keep0 ho3) (SrcIs.at hat3 rfl) (by simp[oneC]) (by omega) (by omega) ?_
   intro v4 w4 f4 hs4 hf4 ho4 _
   have o4:Only [] w w4:=(ho2.nil ho3).trans ho4 fun y hy=>.inr (hfq y hy)
   have ei:IntKind.i64.wrap ((i:Int)+1)=((i+1:Nat):Int):=i64_succ i (by omega)
   have h4:=h.keep0 o4
   refine gO3 h4.hb.cell h8 ei ?_
   refine callT1 (Next_m (Tab.mk h4.hs) ((i+1:Nat):Int) 1) fun w5 ho5=>?_
   have eo:objsB s.st lo (i+1)=objsB s.st lo k++[i]:=by
    rw[objsB_succ,if_pos ⟨by omega,hi1⟩,objsB_gap hki hno]
   refine gO ?_
   refine hnext _ w5 ⟨i+1,f4,by omega,hlt,?_,?_,?_,?_,o4.nil ho5⟩ ?_
   ·simp only[go_sem]
   ·simp only[go_sem]
   ·simp only[go_sem]
    rw[eo]
    have:=hs4.keep0 ho5
    simpa[adrs,ints]using this
   ·intro y hy
    have:=ho2.size
    have:=ho3.size
    rcases hf4 with rfl|rfl
    ·exact hfq y hy
    ·simp only[lms]at hy;omega
   ·obtain⟨a7,c7,e7⟩:=h7.val
    obtain⟨a4,c4,rfl⟩:=hs4.val
    rw[slLeft_s e7,slLeft_s (a:=a4) (c:=c4) (by simp only[go_sem];rfl)]
    omega
  ·have hge: ¬i<hi:=by
    have: ¬((2*i:Nat):Int)<((2*hi:Nat):Int):=by simpa using hge
    omega
   refine gO ?_
   refine⟨ho2,fq,?_,hfq⟩
   rw[objsB_gap hk2 fun j h1 h2=>hno j h1 (by omega)]
   exact h7
theorem hAll {fp:List Nat} {m:HO} (h:HR w a fp m):Cs Tryz.prog 10 [.pointer a] w fun v w'=>Only [] w w'∧ ∃fq,Sl w' 1 v (allH m).length (ints (allH m)) fq∧ ∀y,y∈fq→w.heap.size≤y:=by
 refine enter_heap_Heap_All rfl ?_
 unfold x_heap_Heap_All
 refine gO ?_
 refine callT0 (hMade h) ?_
 match m,h with
 |none,h=>(repeat(first|with_reducible(first|refine nx ?_|refine r_6 rfl ?_)|simp only[go_sem]));exact⟨Only.refl _ _,[],Sl.nil1 _,by simp⟩
 |some s,⟨b,h1,gB,gW,cB,cW,yB,yW,sb,sg,pb,pg,bl,bf,h2,h3⟩=>
  subst h1
  have hsl:=h3.ok.sl
  have hwl:=h3.ok.wl
  have hB:=h3.ok.b64
  have e1:((s.W.length:Nat):Int)=((2*s.st.length:Nat):Int):=by omega
  refine gO2 h3.hb.cell e1 ?_
  refine callT (hBetween h3 0 s.st.length (by omega) (by omega)) ?_
  rintro v w' ⟨ho,fq,hs,hf⟩
  refine gO ?_
  exact⟨ho,fq,by simpa[allH,adrs_len,HL.objs]using hs,hf⟩
end
section
variable {S fB fF fO fp:List Nat} {b i:Nat} {vB vF vO:Value} {w w':World}
structure Ob where
 a:Int
 id:Int
 sh:Sh
 rf:List Int
 dt:List Int
 pin:Bool
instance:Inhabited Ob:=⟨⟨0,0,(0,0,0),[],[],false⟩⟩
structure RL where
 B:List (Int×Int)
 O:List Ob
 F:List (Int×Int)
 born:Nat
structure Ob.Ok (n:Nat) (o:Ob):Prop where
 v:validS o.sh=true
 r:(o.rf.length:Int)=o.sh.1
 d:(o.dt.length:Int)=o.sh.2.1
 a0:0≤o.a
 a1:o.a+wordsS o.sh≤((64*n:Nat):Int)
structure RL.Ok (s:RL):Prop where
 b2:2≤s.B.length
 b64:s.B.length≤64
 ol:s.O.length≤2048
 ob: ∀o,o∈s.O→o.Ok s.B.length
def ixO:List Ob→Int→Option Nat
 | [],_=>none
 |o::O,a=>if o.a=a then some 0 else(ixO O a).map (· +1)
theorem ixO_none {O:List Ob} {a:Int} (h: ∀j,j<O.length→(O.getD j default).a≠a):ixO O a=none:=by
 induction O with
 |nil=>rfl
 |cons o O ih=>
  have h0:=h 0 (by simp)
  simp only[List.getD_cons_zero]at h0
  unfold ixO
  rw[if_neg h0,ih fun j hj=>by have:=h (j+1) (by simpa using hj);simpa using this]
  rfl
theorem ixO_some {O:List Ob} {a:Int} (hi:i<O.length) (e:(O.getD i default).a=a) (h: ∀j,j<i→(O.getD j default).a≠a):ixO O a=some i:=by
 induction O generalizing i with
 |nil=>simp at hi
 |cons o O ih=>
  unfold ixO
  cases i with
  |zero=>simp only[List.getD_cons_zero]at e;rw[if_pos e]
  |succ i=>
   have h0:=h 0 (by omega)
   simp only[List.getD_cons_zero]at h0
   rw[if_neg h0,ih (i:=i) (by simpa using hi) (by simpa using e) fun j hj=>by have:=h (j+1) (by omega);simpa using this]
   rfl
theorem ixO_spec {O:List Ob} {a:Int} (h:ixO O a=some i):i<O.length∧(O.getD i default).a=a∧ ∀j,j<i→(O.getD j default).a≠a:=by
 induction O generalizing i with
 |nil=>cases h
 |cons o O ih=>
  unfold ixO at h
  split at h
  ·rename_i e
   cases h
   exact⟨by simp,by simpa using e,fun j hj=>absurd hj (by omega)⟩
  ·rename_i e
   obtain⟨k,hk,rfl⟩:=Option.map_eq_some_iff.1 h
   obtain⟨h1,h2,h3⟩:=ih hk
   refine⟨by simpa using h1,by simpa using h2,fun j hj=>?_⟩
   cases j with
   |zero=>simpa using e
   |succ j=>have:=h3 j (by omega);simpa using this
def ixI (o:Option Nat):Int:=match o with|some i=>i|none=> -1
def RL.ob (s:RL) (a:Int):Option Ob:=(ixO s.O a).map fun i=>s.O.getD i default
def RL.has (s:RL) (a:Int):Bool:=(ixO s.O a).isSome
def RL.lacks (s:RL) (a:Int):Int:=if s.has a then 0 else 4
def RL.shapeR (s:RL) (a:Int):Sh×Int:=match s.ob a with|some o=>(o.sh,0)|none=>((0,0,0),4)
def RL.stateR (s:RL) (b:Int):Int:=if 0≤b∧b<s.B.length then(s.B.getD b.toNat (0,0)).1 else-1
def RL.spaceR (s:RL) (b:Int):Int:=if 0≤b∧b<s.B.length then(s.B.getD b.toNat (0,0)).2 else-1
structure OM where
 o:Ob
 vr:Value
 vd:Value
 fr:List Nat
 fd:List Nat
instance:Inhabited OM:=⟨⟨default,.slice none 0 0,.slice none 0 0,[],[]⟩⟩
def obV (o:Ob) (vr vd:Value):List Value:=[.int .i64 o.a,.int .i64 o.id,.int .i64 o.sh.1,.int .i64 o.sh.2.1,.int .i64 o.sh.2.2,vr,vd,.bool o.pin]
def OM.V (m:OM):List Value:=obV m.o m.vr m.vd
theorem OM.V_len (m:OM):m.V.length=8:=rfl
def omV (L:List OM):List Value:=L.flatMap OM.V
theorem omV_len (L:List OM):(omV L).length=L.length*8:=by
 induction L with
 |nil=>rfl
 |cons m L ih=>simp only[omV,List.flatMap_cons,lla,List.length_cons,OM.V_len]at ih⊢;omega
theorem omV_append (L M:List OM):omV (L++M)=omV L++omV M:=by simp[omV]
theorem omV_drop (L:List OM) (i:Nat):(omV L).drop (i*8)=omV (L.drop i):=by
 induction L generalizing i with
 |nil=>simp[omV]
 |cons m L ih=>
  cases i with
  |zero=>simp
  |succ i=>
   have:omV (m::L)=m.V++omV L:=rfl
   rw[this,show(i+1)*8=m.V.length+i*8 by rw[OM.V_len];omega,List.drop_append]
   simp[ih]
theorem omV_take (L:List OM) (i:Nat):(omV L).take (i*8)=omV (L.take i):=by
 induction L generalizing i with
 |nil=>simp[omV]
 |cons m L ih=>
  cases i with
  |zero=>simp[omV]
  |succ i=>
   have:omV (m::L)=m.V++omV L:=rfl
   have e2:omV ((m::L).take (i+1))=m.V++omV (L.take i):=rfl
   rw[this,show(i+1)*8=m.V.length+i*8 by rw[OM.V_len];omega,List.take_append,List.take_of_length_le (by omega),e2,←ih]
   simp
theorem omV_at {L:List OM} (ys:List Value) (h:i<L.length):((omV L++ys).drop (i*8)).take 8=(L.getD i default).V:=by
 rw[List.drop_append_of_le_length (by rw[omV_len];omega),omV_drop]
 have:L.drop i=L.getD i default::L.drop (i+1):=by
  rw[List.drop_eq_getElem_cons h];simp[h]
 rw[this]
 have e:omV (L.getD i default::L.drop (i+1))=(L.getD i default).V++omV (L.drop (i+1)):=rfl
 rw[e,List.append_assoc,List.take_append_of_le_length (by rw[OM.V_len];omega),List.take_of_length_le (by rw[OM.V_len];omega)]
theorem omV_cell {L:List OM} {j:Nat} (ys:List Value) (h:i<L.length) (hj:j<8):(omV L++ys)[i*8+j]? =(L.getD i default).V[j]? :=by
 have:=omV_at ys h
 rw[←this,List.getElem?_take,if_pos hj,List.getElem?_drop]
theorem omV_one {L:List OM} (h: ∀m,m∈L→oneC m.vr=true∧oneC m.vd=true): ∀u,u∈omV L→oneC u=true:=by
 intro u hu
 simp only[omV,List.mem_flatMap]at hu
 obtain⟨m,hm,hu⟩:=hu
 obtain⟨h1,h2⟩:=h m hm
 simp only[OM.V,obV,List.mem_cons,List.not_mem_nil,or_false]at hu
 rcases hu with rfl|rfl|rfl|rfl|rfl|rfl|rfl|rfl<;>first|rfl|exact h1|exact h2
def omF (L:List OM):List Nat:=L.flatMap fun m=>m.fr++m.fd
theorem omF_append (L M:List OM):omF (L++M)=omF L++omF M:=by simp[omF]
theorem mem_omF {L:List OM} {m:OM} {x:Nat} (hm:m∈L) (hx:x∈m.fr∨x∈m.fd):x∈omF L:=by
 simp only[omF,List.mem_flatMap,List.mem_append]
 exact⟨m,hm,hx⟩
structure OM.ok (w:World) (m:OM):Prop where
 r:Sl w 1 m.vr m.o.rf.length (ints m.o.rf) m.fr
 d:Sl w 1 m.vd m.o.dt.length (ints m.o.dt) m.fd
theorem OM.ok.keep {m:OM} (h:m.ok w) (k:Only S w w') (hd: ∀x,x∈m.fr∨x∈m.fd→x∉S):m.ok w':=⟨h.r.keep k fun x hx=>hd x (.inl hx),h.d.keep k fun x hx=>hd x (.inr hx)⟩
theorem OM.ok.keep0 {m:OM} (h:m.ok w) (k:Only [] w w'):m.ok w':=h.keep k fun _ _=>by simp
theorem OM.ok.one {m:OM} (h:m.ok w):oneC m.vr=true∧oneC m.vd=true:=⟨h.r.oneC',h.d.oneC'⟩
structure FMs (w:World) (b:Nat) (s:RL) (vB vO vF:Value) (fB fO fF:List Nat) (L:List OM):Prop where
 ok:s.Ok
 hb:At w b [vB,vO,vF,.int .i64 s.born]
 hB:Sl w 2 vB s.B.length (blkV s.B) fB
 hO:Sl w 8 vO L.length (omV L) fO
 hF:Sl w 2 vF s.F.length (blkV s.F) fF
 eq:s.O=L.map OM.o
 om: ∀m,m∈L→m.ok w
 nd:(b::(fB++(fO++(fF++omF L)))).Nodup
def FM (w:World) (b:Nat) (s:RL) (fp:List Nat):Prop:= ∃vB vO vF fB fO fF L,fp=b::(fB++(fO++(fF++omF L)))∧FMs w b s vB vO vF fB fO fF L
theorem FMs.keep {s:RL} {L:List OM} (h:FMs w b s vB vO vF fB fO fF L) (k:Only S w w') (hd: ∀x,x∈b::(fB++(fO++(fF++omF L)))→x∉S):FMs w' b s vB vO vF fB fO fF L:=
 ⟨h.ok,h.hb.keep k (hd b (by simp)),h.hB.keep k fun x hx=>hd x (by simp[hx]),h.hO.keep k fun x hx=>hd x (by simp[hx]),h.hF.keep k fun x hx=>hd x (by simp[hx]),h.eq,
  fun m hm=>(h.om m hm).keep k fun x hx=>hd x (by have:=mem_omF hm hx;simp[this]),h.nd⟩
theorem FMs.keep0 {s:RL} {L:List OM} (h:FMs w b s vB vO vF fB fO fF L) (k:Only [] w w'):FMs w' b s vB vO vF fB fO fF L:=h.keep k fun _ _=>by simp
theorem FM.keep {s:RL} (h:FM w b s fp) (k:Only S w w') (hd: ∀x,x∈fp→x∉S):FM w' b s fp:=by
 obtain⟨vB,vO,vF,fB,fO,fF,L,rfl,h⟩:=h
 exact⟨vB,vO,vF,fB,fO,fF,L,rfl,h.keep k hd⟩
theorem FM.keep0 {s:RL} (h:FM w b s fp) (k:Only [] w w'):FM w' b s fp:=h.keep k fun _ _=>by simp
theorem FMs.lt {s:RL} {L:List OM} (h:FMs w b s vB vO vF fB fO fF L): ∀x,x∈b::(fB++(fO++(fF++omF L)))→x<w.heap.size:=by
 intro x hx
 simp only[List.mem_cons,List.mem_append]at hx
 rcases hx with rfl|hx|hx|hx|hx
 ·exact h.hb.lt
 ·exact h.hB.lt x hx
 ·exact h.hO.lt x hx
 ·exact h.hF.lt x hx
 ·simp only[omF,List.mem_flatMap,List.mem_append]at hx
  obtain⟨m,hm,hx⟩:=hx
  rcases hx with hx|hx
  ·exact(h.om m hm).r.lt x hx
  ·exact(h.om m hm).d.lt x hx
theorem FM.lt {s:RL} (h:FM w b s fp): ∀x,x∈fp→x<w.heap.size:=by
 obtain⟨vB,vO,vF,fB,fO,fF,L,rfl,h⟩:=h
 exact h.lt
theorem FM.ok {s:RL} (h:FM w b s fp):s.Ok:=by
 obtain⟨vB,vO,vF,fB,fO,fF,L,rfl,h⟩:=h
 exact h.ok
theorem FMs.len {s:RL} {L:List OM} (h:FMs w b s vB vO vF fB fO fF L):L.length=s.O.length:=by rw[h.eq,List.length_map]
theorem FMs.getO {s:RL} {L:List OM} (h:FMs w b s vB vO vF fB fO fF L) (hi:i<L.length):s.O.getD i default=(L.getD i default).o:=by
 rw[h.eq];simp[hi]
theorem FMs.blk {s:RL} {L:List OM} (h:FMs w b s vB vO vF fB fO fF L): ∃g cap ys,vB=.slice (some ⟨g,0,none⟩) s.B.length cap∧At w g (blkV s.B++ys)∧fB=[g]∧s.B.length≤cap:=by
 rcases h.hB.2 with⟨_,h0,_⟩|⟨g,cap,ys,T,h1,h2,h3,h4,h5⟩
 ·have:=h.ok.b2;omega
 ·exact⟨g,cap,ys,h1,⟨T,h3⟩,h2,h5⟩
theorem FMs.row {s:RL} {L:List OM} (h:FMs w b s vB vO vF fB fO fF L) (hn:0<L.length): ∃g cap ys,vO=.slice (some ⟨g,0,none⟩) L.length cap∧At w g (omV L++ys)∧fO=[g]∧L.length≤cap:=by
 rcases h.hO.2 with⟨_,h0,_⟩|⟨g,cap,ys,T,h1,h2,h3,h4,h5⟩
 ·omega
 ·exact⟨g,cap,ys,h1,⟨T,h3⟩,h2,h5⟩
theorem FMs.valO {s:RL} {L:List OM} (h:FMs w b s vB vO vF fB fO fF L): ∃(a:Option Addr) (cap:Nat),vO=.slice a L.length cap:=h.hO.val
theorem blk_at {B:List (Int×Int)} (ys:List Value) (h:i<B.length):(blkV B++ys)[i*2]? =some (.int .i64 (B.getD i (0,0)).1)∧(blkV B++ys)[i*2+1]? =some (.int .i64 (B.getD i (0,0)).2):=by
 rw[List.getElem?_append_left (by rw[blkV_len];omega),List.getElem?_append_left (by rw[blkV_len];omega),Nat.mul_comm]
 exact blkV_get h
end
section
set_option maxRecDepth 8000
variable {fp:List Nat} {b:Nat} {s:RL} {w:World}
theorem fMade (h:FM w b s fp):Cs Tryz.prog 79 [.pointer (some ⟨b,0,none⟩)] w fun v w'=>v=.bool true∧w'=w:=by
 obtain⟨vB,vO,vF,fB,fO,fF,L,_,h⟩:=h
 have hb2:=h.ok.b2
 obtain⟨g,cap,ys,rfl,hat,_,_⟩:=h.blk
 refine enter_ref02_Heap_Made rfl ?_
 unfold x_ref02_Heap_Made
 (repeat(first|with_reducible(first|refine nx ?_|refine r_6 rfl ?_)|simp only[go_sem,h.hb.cell,dtr (show(0:Int)<(s.B.length:Int) by omega)]))
theorem fBlocks (h:FM w b s fp):Cs Tryz.prog 251 [.pointer (some ⟨b,0,none⟩)] w fun v w'=>v=.int .i64 (s.B.length:Nat)∧w'=w:=by
 have h0:=h
 obtain⟨vB,vO,vF,fB,fO,fF,L,_,h⟩:=h
 obtain⟨g,cap,ys,rfl,hat,_,_⟩:=h.blk
 refine enter_ref02_Heap_Blocks rfl ?_
 unfold x_ref02_Heap_Blocks
 refine gO ?_
 refine callT0 (fMade h0) ?_
 (repeat(first|with_reducible(first|refine nx ?_|refine r_6 rfl ?_)|simp only[go_sem,h.hb.cell]))
theorem fState (h:FM w b s fp) (k:Int):Cs Tryz.prog 252 [.pointer (some ⟨b,0,none⟩),.int .i64 k] w fun v w'=>v=.int .i64 (s.stateR k)∧w'=w:=by
 have h0:=h
 obtain⟨vB,vO,vF,fB,fO,fF,L,_,h⟩:=h
 obtain⟨g,cap,ys,rfl,hat,_,_⟩:=h.blk
 refine enter_ref02_Heap_State rfl ?_
 unfold x_ref02_Heap_State
 refine gO ?_
 refine callT0 (fMade h0) ?_
 by_cases c1:k<0
 ·refine gO1 (dtr c1) ?_
  simp[RL.stateR];omega
 obtain⟨i,rfl⟩: ∃i:Nat,k=i:=⟨k.toNat,by omega⟩
 by_cases c2:(s.B.length:Int)≤(i:Int)
 ·refine gO3 (dfl c1) h.hb.cell (dtr c2) ?_
  simp[RL.stateR];omega
 have hi:i<s.B.length:=by omega
 have e1:(0:Int)≤(i:Int)∧(i:Int)<(s.B.length:Int):=⟨by omega,by omega⟩
 (repeat(first|with_reducible(first|refine nx ?_|refine r_6 rfl ?_)|simp only[go_sem,dfl c1,h.hb.cell,dfl c2,if_pos e1,tnc,hat.cell,(blk_at ys hi).1]))
 simp only[RL.stateR,if_pos e1,tnc]
theorem fSpace (h:FM w b s fp) (k:Int):Cs Tryz.prog 266 [.pointer (some ⟨b,0,none⟩),.int .i64 k] w fun v w'=>v=.int .i64 (s.spaceR k)∧w'=w:=by
 have h0:=h
 obtain⟨vB,vO,vF,fB,fO,fF,L,_,h⟩:=h
 obtain⟨g,cap,ys,rfl,hat,_,_⟩:=h.blk
 refine enter_ref02_Heap_Space rfl ?_
 unfold x_ref02_Heap_Space
 refine gO ?_
 refine callT0 (fMade h0) ?_
 by_cases c1:k<0
 ·refine gO1 (dtr c1) ?_
  simp[RL.spaceR];omega
 obtain⟨i,rfl⟩: ∃i:Nat,k=i:=⟨k.toNat,by omega⟩
 by_cases c2:(s.B.length:Int)≤(i:Int)
 ·refine gO3 (dfl c1) h.hb.cell (dtr c2) ?_
  simp[RL.spaceR];omega
 have hi:i<s.B.length:=by omega
 have e1:(0:Int)≤(i:Int)∧(i:Int)<(s.B.length:Int):=⟨by omega,by omega⟩
 (repeat(first|with_reducible(first|refine nx ?_|refine r_6 rfl ?_)|simp only[go_sem,dfl c1,h.hb.cell,dfl c2,if_pos e1,tnc,hat.cell,(blk_at ys hi).2]))
 simp only[RL.spaceR,if_pos e1,tnc]
theorem fBlock (h:FM w b s fp) (k:Int):Cs Tryz.prog 264 [.pointer (some ⟨b,0,none⟩),.int .i64 k] w fun v w'=>v=.bool (decide (1≤k)&&decide (k<s.B.length))∧w'=w:=by
 obtain⟨vB,vO,vF,fB,fO,fF,L,_,h⟩:=h
 obtain⟨g,cap,ys,rfl,hat,_,_⟩:=h.blk
 refine enter_ref02_Heap_block rfl ?_
 unfold x_ref02_Heap_block
 by_cases c1:1≤k
 ·refine gO2 (dtr c1) h.hb.cell ?_
  simp[c1]
 ·refine gO2 (dfl c1) h.hb.cell ?_
  simp[c1]
theorem fSpaceB (w:World) (n:Int):Cs Tryz.prog 265 [.int .i64 n] w fun v w'=>v=.bool (spaceB n)∧w'=w:=by
 refine enter_ref02_space rfl ?_
 unfold x_ref02_space
 by_cases c1:0≤n
 ·refine gO1 (dtr c1) ?_
  simp[spaceB,c1]
 ·refine gO1 (dfl c1) ?_
  simp[spaceB,c1]
theorem fValid (w:World) (s:Sh):Cs Tryz.prog 232 [.agg ⟨shV s⟩] w fun v w'=>v=.bool (validS s)∧Only [] w w':=by
 obtain⟨r,d,k⟩:=s
 refine enter_ref02_Valid rfl ?_
 unfold x_ref02_Valid
 refine gO ?_
 refine boxT fun q w1 hq hs1 hat ho=>?_
 have hat':At w1 q [.int .i64 r,.int .i64 d,.int .i64 k]:=hat
 (repeat' (first|with_reducible(first|refine nx ?_|refine r_6 rfl ?_)|simp only[go_sem,hat'.cell]|(with_reducible(first|refine gd_b (fun hb=>?_) (fun hb=>?_)|refine cd_b (fun hb=>?_) (fun hb=>?_)|refine gs_b (fun hb=>?_) (fun hb=>?_)|refine ga_b (fun hb=>?_) (fun hb=>?_)))<;>try simp only[hb]))
 all_goals(refine⟨?_,ho⟩;simp only[decide_eq_true_eq,decide_eq_false_iff_not,beq_iff_eq,beq_eq_false_iff_ne,Int.not_lt,ne_eq]at*)
 all_goals(refine congrArg Value.bool ?_;rw[Bool.eq_iff_iff];simp[validS]<;>omega)
end
section
set_option maxRecDepth 8000
variable {fp:List Nat} {b:Nat} {s:RL} {w:World}
theorem fWords (w:World) (s:Sh):Cs Tryz.prog 231 [.agg ⟨shV s⟩] w fun v w'=>v=.int .i64 (wordsS s)∧Only [] w w':=by
 refine enter_ref02_Words rfl ?_
 unfold x_ref02_Words
 refine gO ?_
 refine boxT fun q w1 hq hs1 hat ho=>?_
 have hc:cellsAt w1 ⟨q,0,none⟩ 3=some (shV s):=cellsAt_at hat 0 3 (by simp[shV])
 refine gO1 hc ?_
 refine callT1 (fValid w1 s) fun w2 ho2=>?_
 have hat2:At w2 q [.int .i64 s.1,.int .i64 s.2.1,.int .i64 s.2.2]:=hat.keep0 ho2
 cases hv:validS s with
 |false=>
  refine gO ?_
  exact⟨by simp[wordsS,hv],ho.nil ho2⟩
 |true=>
  have hv':=hv
  simp only[validS,Bool.and_eq_true,decide_eq_true_eq]at hv'
  obtain⟨n,hn⟩: ∃n:Nat,2+s.1+s.2.1=n:=⟨(2+s.1+s.2.1).toNat,by omega⟩
  have e1:IntKind.i64.wrap (IntKind.i64.wrap (2+s.1)+s.2.1)=(n:Int):=by rw[IntWalk.i64_in (2+s.1) (by omega),IntWalk.i64_in _ (by omega)];omega
  have e2:IntKind.i64.wrap ((n:Int)+((n%2:Nat):Int))=((n+n%2:Nat):Int):=by rw[IntWalk.i64_in _ (by omega)];omega
  (repeat(first|with_reducible(first|refine nx ?_|refine r_6 rfl ?_)|simp only[go_sem,hat2.cell,e1,tmod2 n,e2]))
  refine⟨?_,ho.nil ho2⟩
  unfold wordsS
  rw[if_pos hv]
  congr 1;omega
theorem fLarge (w:World) (s:Sh):Cs Tryz.prog 158 [.agg ⟨shV s⟩] w fun v w'=>v=.bool (decide (32<wordsS s))∧Only [] w w':=by
 refine enter_ref02_Large rfl ?_
 unfold x_ref02_Large
 refine gO ?_
 refine boxT fun q w1 hq hs1 hat ho=>?_
 have hc:cellsAt w1 ⟨q,0,none⟩ 3=some (shV s):=cellsAt_at hat 0 3 (by simp[shV])
 refine gO1 hc ?_
 refine callT1 (fWords w1 s) fun w2 ho2=>?_
 refine gO ?_
 exact ho.nil ho2
theorem fNeed (w:World) (s:Sh):Cs Tryz.prog 160 [.agg ⟨shV s⟩] w fun v w'=>v=.int .i64 ((wordsS s+63)/64)∧Only [] w w':=by
 have hw:=words_any s
 obtain⟨n,hn⟩: ∃n:Nat,wordsS s=n:=⟨(wordsS s).toNat,by omega⟩
 refine enter_ref02_Need rfl ?_
 unfold x_ref02_Need
 refine gO ?_
 refine boxT fun q w1 hq hs1 hat ho=>?_
 have hc:cellsAt w1 ⟨q,0,none⟩ 3=some (shV s):=cellsAt_at hat 0 3 (by simp[shV])
 refine gO1 hc ?_
 refine callT1 (fWords w1 s) fun w2 ho2=>?_
 rw[hn]
 have e1:IntKind.i64.wrap (IntKind.i64.wrap ((n:Int)+64)-1)=((n+63:Nat):Int):=by rw[IntWalk.i64_in ((n:Int)+64) (by omega),IntWalk.i64_in _ (by omega)];omega
 (repeat(first|with_reducible(first|refine nx ?_|refine r_6 rfl ?_)|simp only[go_sem,e1,tdiv64 (n+63) (by omega)]))
 exact⟨by congr 1,ho.nil ho2⟩
theorem fIndex (h:FM w b s fp) (x:Int):Cs Tryz.prog 40 [.pointer (some ⟨b,0,none⟩),.int .i64 x] w fun v w'=>v=.int .i64 (ixI (ixO s.O x))∧w'=w:=by
 have h0:=h
 obtain⟨vB,vO,vF,fB,fO,fF,L,_,h⟩:=h
 have hl:=h.len
 have hol:=h.ok.ol
 obtain⟨ao,co,hvO⟩:=h.valO
 refine enter_ref02_Heap_Index rfl ?_
 unfold x_ref02_Heap_Index
 refine gO ?_
 refine callT0 (fMade h0) ?_
 refine gO ?_
 refine run_loop (5::9::10::11::12::13::14::15::16::17::18::19::20::21::22::23::24::25::26::27::28::[]) (fun g w'=> ∃i:Nat,g 5=.int .i64 (i:Int)∧i≤L.length∧(∀j,j<i→(s.O.getD j default).a≠x)∧w'=w) (fun g _=>upTo L.length 5 g)
  ⟨0,by simp only[go_sem];rfl,by omega,fun j hj=>absurd hj (by omega),rfl⟩ fun g w1 hI hnext=>?_
 obtain⟨i,h5,hi,hno,rfl⟩:=hI
 refine gO3 h.hb.cell hvO h5 ?_
 refine condT (fun hlt=>?_) (fun hge=>?_)
 ·have hlt:i<L.length:=by simpa using hlt
  obtain⟨g8,cap,ys,e1,hat,_,_⟩:=h.row (by omega)
  have e2:(0:Int)≤(i:Int)∧(i:Int)<(L.length:Int):=⟨by omega,by omega⟩
  have hc:w1.cell? ⟨g8,i*8,none⟩=some (.int .i64 (s.O.getD i default).a):=by
   have:=omV_cell (j:=0) ys hlt (by omega)
   rw[hat.cell,←Nat.add_zero (i*8),this,h.getO hlt];rfl
  by_cases c1:(s.O.getD i default).a=x
  ·refine gJ6 h5 h.hb.cell e1 (eq_true e2) hc (bqt c1) ?_
   rw[ixO_some (by omega) c1 hno];rfl
  ·refine gJ7 h5 h.hb.cell e1 (eq_true e2) hc (bqf c1) (i64_succ i (by omega)) ?_
   refine hnext _ w1 ⟨i+1,?_,by omega,fun j hj=>?_,rfl⟩ ?_
   ·simp only[go_sem]
   ·by_cases e:j=i
    ·subst e;exact c1
    ·exact hno j (by omega)
   ·exact up_lt h5
 ·have hge: ¬i<L.length:=by simpa using hge
  refine gO ?_
  rw[ixO_none fun j hj=>hno j (by omega)];rfl
theorem fLacks (h:FM w b s fp) (x:Int):Cs Tryz.prog 162 [.pointer (some ⟨b,0,none⟩),.int .i64 x] w fun v w'=>v=.int .i64 (s.lacks x)∧w'=w:=by
 refine enter_ref02_Heap_lacks rfl ?_
 unfold x_ref02_Heap_lacks
 refine gO ?_
 refine callT0 (fMade h) ?_
 refine gO ?_
 refine callT0 (fIndex h x) ?_
 unfold RL.lacks RL.has
 cases e:ixO s.O x with
 |none=>(repeat(first|with_reducible(first|refine nx ?_|refine r_6 rfl ?_)|simp only[go_sem,dtr (show ixI none<0 from by decide)]))
 |some i=>(repeat(first|with_reducible(first|refine nx ?_|refine r_6 rfl ?_)|simp only[go_sem,dfl (show¬ixI (some i)<0 from by simp[ixI])]))
theorem fHas (h:FM w b s fp) (x:Int):Cs Tryz.prog 39 [.pointer (some ⟨b,0,none⟩),.int .i64 x] w fun v w'=>v=.bool (s.has x)∧w'=w:=by
 refine enter_ref02_Heap_Has rfl ?_
 unfold x_ref02_Heap_Has
 refine gO ?_
 refine callT0 (fIndex h x) ?_
 refine gO ?_
 unfold RL.has
 cases e:ixO s.O x with
 |none=>rfl
 |some i=>simp[ixI]
theorem lacks0 {x:Int} (h:s.lacks x=0): ∃i,ixO s.O x=some i:=by
 unfold RL.lacks RL.has at h
 cases e:ixO s.O x with
 |none=>rw[e]at h;simp at h
 |some i=>exact⟨i,rfl⟩
end
section
set_option maxRecDepth 8000
variable {fB fF fO:List Nat} {L:List OM} {b i j k:Nat} {m:OM} {s:RL} {w:World}
theorem lacks4 {x:Int} (h:s.lacks x≠0):ixO s.O x=none∧s.lacks x=4:=by
 unfold RL.lacks RL.has at h⊢
 cases e:ixO s.O x with
 |none=>exact⟨rfl,rfl⟩
 |some i=>rw[e]at h;simp at h
theorem FMs.all {vB vO vF:Value} (h:FMs w b s vB vO vF fB fO fF L) {g cap:Nat} {ys:List Value} (hat:At w g (omV L++ys)) (hi:i<L.length):
  cellsAt w ⟨g,i*8,none⟩ 8=some (L.getD i default).V∧cellsAt w ⟨g,i*8+2,none⟩ 3=some (shV (L.getD i default).o.sh):=by
 have hl:=omV_len L
 refine⟨?_,?_⟩
 ·rw[cellsAt_at hat _ _ (by rw[lla];omega),omV_at ys hi]
 ·rw[cellsAt_at hat _ _ (by rw[lla];omega),←List.drop_drop]
  congr 1
  have e:((omV L++ys).drop (i*8)).drop 2=(((omV L++ys).drop (i*8)).take 8).drop 2++((omV L++ys).drop (i*8)).drop 8:=by
   conv=>lhs;rw[←List.take_append_drop 8 ((omV L++ys).drop (i*8))]
   rw[List.drop_append_of_le_length]
   rw[List.length_take,List.length_drop,lla];omega
  rw[e,omV_at ys hi]
  rfl
theorem fShape {fp:List Nat} (h:FM w b s fp) (x:Int):Cs Tryz.prog 87 [.pointer (some ⟨b,0,none⟩),.int .i64 x] w fun v w'=>v=.tuple #[.agg ⟨shV (s.shapeR x).1⟩,.int .i64 (s.shapeR x).2]∧Only [] w w':=by
 refine enter_ref02_Heap_Shape rfl ?_
 unfold x_ref02_Heap_Shape
 refine gO ?_
 refine boxT fun q w1 hq hs1 hat1 ho1=>?_
 refine gO ?_
 refine callT0 (fLacks (h.keep0 ho1) x) ?_
 by_cases he:s.lacks x=0
 rotate_left
 ·refine gO1 (bnt he) ?_
  refine stNT (cs:=[.int .i64 0,.int .i64 0,.int .i64 0]) hat1 rfl (by simp) (by simp[oneC]) fun w2 hs2 hat2 ho2=>?_
  rw[show setL [Value.int .i64 0,.int .i64 0,.int .i64 0] 0 [.int .i64 0,.int .i64 0,.int .i64 0]=shV (0,0,0)from rfl]at hat2
  have hc:cellsAt w2 ⟨q,0,none⟩ 3=some (shV (0,0,0)):=cellsAt_at hat2 0 3 (by simp[shV])
  refine gO1 hc ?_
  refine⟨?_,ho1.trans ho2 fun y hy=>by simp only[lms]at hy;subst hy;exact .inr (by omega)⟩
  obtain⟨e,e4⟩:=lacks4 he
  unfold RL.shapeR RL.ob
  rw[e,e4];rfl
 ·obtain⟨i,hi⟩:=lacks0 he
  obtain⟨h1,h2,h3⟩:=ixO_spec hi
  have hb':=h.lt
  have hk:=h.keep0 ho1
  have hd:=(hk.keep0 (Only.drew [] w1))
  obtain⟨vB,vO,vF,fB,fO,fF,L,hfp,hm⟩:=hk.keep0 (Only.drew [] w1)
  have hl:=hm.len
  obtain⟨g,cap,ys,rfl,hat,hfO,_⟩:=hm.row (by omega)
  obtain⟨_,hc3⟩:=hm.all (cap:=0) hat (show i<L.length by omega)
  have e2:(0:Int)≤(i:Int)∧(i:Int)<(L.length:Int):=⟨by omega,by omega⟩
  have hq1: ∀z,z∈[b,g]→z<w1.drew.heap.size∧z∉ [q]:=fun z hz=>by
   have hz':z∈fp:=by rw[hfp,hfO];simp only[List.mem_cons,List.not_mem_nil,or_false]at hz;rcases hz with rfl|rfl<;>simp
   have:=hb' z hz'
   have:=ho1.size
   exact⟨by show z<w1.heap.size;omega,by simp;omega⟩
  refine gO1 (bnf he) ?_
  refine run_drt [b,g] ?_
  refine gO1 hm.hb.cell ?_
  refine callS0 (fIndex hd x) (.inr (SB.refl _ _)) ?_
  rw[hi]
  (repeat(first|with_reducible(first|refine nx ?_|refine r_6 rfl ?_)|simp only[go_sem,show ixI (some i)=(i:Int)from rfl,if_pos e2,tnc,hc3]))
  refine stNS (cs:=shV (L.getD i default).o.sh) hat1.drew rfl (by simp) (shV_one _) fun w2 hs2 hat2 ho2=>⟨.inl rfl,?_⟩
  rw[setL_sh]at hat2
  have hc:cellsAt w2 ⟨q,0,none⟩ 3=some (shV (L.getD i default).o.sh):=cellsAt_at hat2 0 3 (by simp[shV])
  refine gO1 hc ?_
  refine⟨?_,(ho1.nil (Only.drew [] w1)).trans ho2 fun y hy=>by simp only[lms]at hy;subst hy;exact .inr (by omega)⟩
  unfold RL.shapeR RL.ob
  rw[hi,Option.map_some,hm.getO (by omega)]
theorem omF_cons (m:OM) (L:List OM):omF (m::L)=(m.fr++m.fd)++omF L:=rfl
theorem omV_cons (m:OM) (L:List OM):omV (m::L)=m.V++omV L:=rfl
theorem omF_set (h1:m.fr=(L.getD k default).fr) (h2:m.fd=(L.getD k default).fd):omF (L.set k m)=omF L:=by
 induction L generalizing k with
 |nil=>rfl
 |cons a L ih=>
  cases k with
  |zero=>
   simp only[List.getD_cons_zero]at h1 h2
   rw[List.set_cons_zero,omF_cons,omF_cons,h1,h2]
  |succ k=>
   rw[List.set_cons_succ,omF_cons,omF_cons,ih (by simpa using h1) (by simpa using h2)]
theorem omV_set {v:Value} (ys:List Value) (hk:k<L.length) (hj:j<8) (hm:m.V=(L.getD k default).V.set j v):(omV L++ys).set (k*8+j) v=omV (L.set k m)++ys:=by
 induction L generalizing k with
 |nil=>simp at hk
 |cons a L ih=>
  cases k with
  |zero=>
   simp only[List.getD_cons_zero]at hm
   rw[List.set_cons_zero,omV_cons,omV_cons,hm,List.append_assoc,List.append_assoc,List.set_append_left _ _ (by rw[OM.V_len];omega),Nat.zero_mul,Nat.zero_add]
  |succ k=>
   rw[List.set_cons_succ,omV_cons,omV_cons,List.append_assoc,List.append_assoc,List.set_append_right _ _ (by rw[OM.V_len];omega),OM.V_len,show(k+1)*8+j-8=k*8+j by omega,ih (by simpa using hk) (by simpa using hm)]
theorem omV_setV (hm:m.V=(L.getD k default).V):omV (L.set k m)=omV L:=by
 induction L generalizing k with
 |nil=>rfl
 |cons a L ih=>
  cases k with
  |zero=>
   simp only[List.getD_cons_zero]at hm
   rw[List.set_cons_zero,omV_cons,omV_cons,hm]
  |succ k=>rw[List.set_cons_succ,omV_cons,omV_cons,ih (by simpa using hm)]
theorem omF_disj (h:(omF L).Nodup) {x:Nat} (hi:i<L.length) (hj:j<L.length) (hij:i≠j) (hx:x∈(L.getD i default).fr∨x∈(L.getD i default).fd): ¬(x∈(L.getD j default).fr∨x∈(L.getD j default).fd):=by
 intro hy
 induction L generalizing i j with
 |nil=>simp at hi
 |cons a L ih=>
  rw[omF_cons,List.nodup_append]at h
  obtain⟨h1,h2,h3⟩:=h
  have mem: ∀k,k<L.length→(x∈(L.getD k default).fr∨x∈(L.getD k default).fd)→x∈omF L:=fun k hk hm=>mem_omF (m:=L.getD k default) (by simp[hk]) hm
  cases i with
  |zero=>
   cases j with
   |zero=>exact hij rfl
   |succ j=>
    simp only[List.getD_cons_zero]at hx
    simp only[List.getD_cons_succ]at hy
    exact h3 x (by simpa using hx) x (mem j (by simpa using hj) hy) rfl
  |succ i=>
   cases j with
   |zero=>
    simp only[List.getD_cons_zero]at hy
    simp only[List.getD_cons_succ]at hx
    exact h3 x (by simpa using hy) x (mem i (by simpa using hi) hx) rfl
   |succ j=>
    simp only[List.getD_cons_succ]at hx hy
    exact ih h2 (by simpa using hi) (by simpa using hj) (by omega) hx hy
theorem omF_own (h:(omF L).Nodup) (hi:i<L.length):((L.getD i default).fr++(L.getD i default).fd).Nodup:=by
 induction L generalizing i with
 |nil=>simp at hi
 |cons a L ih=>
  rw[omF_cons,List.nodup_append]at h
  cases i with
  |zero=>exact h.1
  |succ i=>exact ih h.2.1 (by simpa using hi)
theorem getD_set_eq {α:Type} {l:List α} {x d:α} (h:k<l.length):(l.set k x).getD k d=x:=by simp[h]
theorem getD_set_ne' {α:Type} {l:List α} {x d:α} (h:k≠j):(l.set k x).getD j d=l.getD j d:=by
 simp only[List.getD_eq_getElem?_getD,List.getElem?_set_ne h]
theorem nd4 {F:List Nat} (h:(b::(fB++(fO++(fF++F)))).Nodup):(∀x,x∈fB∨x∈fO∨x∈fF∨x∈F→x≠b)∧(∀x,x∈fB→x∉fO∧x∉fF∧x∉F)∧(∀x,x∈fO→x∉fF∧x∉F)∧(∀x,x∈fF→x∉F)∧F.Nodup∧fO.Nodup∧fB.Nodup∧fF.Nodup:=by
 simp only[List.nodup_cons,List.nodup_append,List.mem_append,not_or]at h
 obtain⟨⟨h1,h2,h3,h4⟩,h5,⟨h6,⟨h7,h8,h9⟩,h10⟩,h11⟩:=h
 refine⟨fun x hx e=>?_,fun x hx=>⟨fun hy=>h11 x hx x (.inl hy) rfl,fun hy=>h11 x hx x (.inr (.inl hy)) rfl,fun hy=>h11 x hx x (.inr (.inr hy)) rfl⟩,fun x hx=>⟨fun hy=>h10 x hx x (.inl hy) rfl,fun hy=>h10 x hx x (.inr hy) rfl⟩,fun x hx hy=>h9 x hx x hy rfl,h8,h6,h5,h7⟩
 subst e
 rcases hx with hx|hx|hx|hx
 ·exact h1 hx
 ·exact h2 hx
 ·exact h3 hx
 ·exact h4 hx
end
def RL.refR (s:RL) (x i:Int):Int×Int:=match s.ob x with
 |none=>(0,4)
 |some o=>if i<0∨(o.rf.length:Int)≤i then(0,1)else(o.rf.getD i.toNat 0,0)
def RL.setRefR (s:RL) (x i to:Int):Int:=match s.ob x with
 |none=>4
 |some o=>if i<0∨(o.rf.length:Int)≤i then 1 else if to≠0∧s.has to=false then 1 else 0
def RL.upd (s:RL) (x:Int) (f:Ob→Ob):RL:=match ixO s.O x with
 |none=>s
 |some k=> {s with O:=s.O.set k (f (s.O.getD k default))}
def RL.setRefM (s:RL) (x i to:Int):RL:=if s.setRefR x i to=0 then s.upd x fun o=> {o with rf:=o.rf.set i.toNat to}else s
def RL.pinM (s:RL) (x:Int) (p:Bool):RL:=s.upd x fun o=> {o with pin:=p}
def RL.killM (s:RL) (x:Int):RL:=match ixO s.O x with
 |none=>s
 |some k=> {s with O:=s.O.eraseIdx k}
theorem RL.Ok.upd {s:RL} (h:s.Ok) {x:Int} {f:Ob→Ob} (hf: ∀o,o.Ok s.B.length→(f o).Ok s.B.length):(s.upd x f).Ok:=by
 unfold RL.upd
 cases e:ixO s.O x with
 |none=>exact h
 |some k=>
  obtain⟨h1,_,_⟩:=ixO_spec e
  refine⟨h.b2,h.b64,by simpa using h.ol,fun o ho=>?_⟩
  rcases List.mem_or_eq_of_mem_set ho with ho|rfl
  ·exact h.ob o ho
  ·refine hf _ (h.ob _ ?_)
   simp[h1]
theorem setL_8 (a b c d e f g h:Value) (m:OM):setL [a,b,c,d,e,f,g,h] 0 m.V=m.V:=rfl
theorem V_one {w:World} {m:OM} (h:m.ok w): ∀u,u∈m.V→oneC u=true:=by
 have:=omV_one (L:=[m]) (fun m' hm=>by simp only[lms]at hm;subst hm;exact h.one)
 simpa[omV]using this
section
set_option maxRecDepth 8000
variable {fp:List Nat} {b:Nat} {s:RL} {w w':World}
theorem Sl.setI {g n cap j:Nat} {xs:List Int} {ys:List Value} {v:Int} (hl:xs.length=n) (hat:At w g (ints xs++ys)) (hc:(ints xs++ys).length=cap) (hj:j<xs.length) (h:At w' g ((ints xs++ys).set j (.int .i64 v))):Sl w' 1 (.slice (some ⟨g,0,none⟩) n cap) n (ints (xs.set j v)) [g]:=by
 rw[ints_set ys hj]at h
 refine Sl.mk1 h (by rw[ints_length,List.length_set];exact hl) ?_
 rw[←hc];simp[ints]
def OM.withO (m:OM) (o:Ob):OM:=⟨o,m.vr,m.vd,m.fr,m.fd⟩
theorem omF_withO (L:List OM) (k:Nat) (o:Ob):omF (L.set k ((L.getD k default).withO o))=omF L:=omF_set rfl rfl
theorem FMs.updR {vB vO vF:Value} {fB fO fF:List Nat} {L:List OM} (h:FMs w b s vB vO vF fB fO fF L) {k:Nat} (hk:k<L.length) {x:Int} (hx:ixO s.O x=some k) {f:Ob→Ob} {m':OM} (hm':m'.o=f (L.getD k default).o) (hV:m'.V=(L.getD k default).V) (h1:m'.fr=(L.getD k default).fr) (h2:m'.fd=(L.getD k default).fd)
  (hf: ∀o,o.Ok s.B.length→(f o).Ok s.B.length) (hok:m'.ok w') (ho:Only (L.getD k default).fr w w'):FMs w' b (s.upd x f) vB vO vF fB fO fF (L.set k m'):=by
 obtain⟨n1,n2,n3,n4,n5,n6,n7,n8⟩:=nd4 h.nd
 have hin: ∀y,y∈(L.getD k default).fr→y∈omF L:=fun y hy=>mem_omF (m:=L.getD k default) (by simp[hk]) (.inl hy)
 have hu:s.upd x f= {s with O:=s.O.set k (f (s.O.getD k default))}:=by unfold RL.upd;rw[hx]
 refine⟨h.ok.upd hf,?_,?_,?_,?_,?_,fun m hm=>?_,?_⟩
 ·rw[hu];exact h.hb.keep ho fun hy=>n1 b (.inr (.inr (.inr (hin b hy)))) rfl
 ·rw[hu];exact h.hB.keep ho fun y hy hy2=>(n2 y hy).2.2 (hin y hy2)
 ·rw[List.length_set,omV_setV hV];exact h.hO.keep ho fun y hy hy2=>(n3 y hy).2 (hin y hy2)
 ·rw[hu];exact h.hF.keep ho fun y hy hy2=>n4 y hy (hin y hy2)
 ·rw[hu,List.map_set,hm',←h.getO hk,←h.eq]
 ·obtain⟨j,hj,rfl⟩:=List.mem_iff_getElem.1 hm
  have hj':j<L.length:=by simpa using hj
  rw[List.getElem_set]
  split
  ·exact hok
  ·rename_i hne
   have e:L[j]=L.getD j default:=by simp[hj']
   rw[e]
   refine(h.om _ (by simp[hj'])).keep ho fun y hy hy2=>?_
   exact omF_disj n5 hj' hk (Ne.symm hne) hy (.inl hy2)
 ·rw[omF_set h1 h2];exact h.nd
theorem fSetRef (h:FM w b s fp) (x i to:Int):Cs Tryz.prog 166 [.pointer (some ⟨b,0,none⟩),.int .i64 x,.int .i64 i,.int .i64 to] w fun v w'=>v=.int .i64 (s.setRefR x i to)∧FM w' b (s.setRefM x i to) fp∧Only fp w w':=by
 have bad: ∀e:Int,e≠0→s.setRefR x i to=e→(Value.int .i64 e=.int .i64 (s.setRefR x i to)∧FM w b (s.setRefM x i to) fp∧Only fp w w):=fun e he h1=>by
  refine⟨by rw[h1],?_,Only.refl _ _⟩
  unfold RL.setRefM
  rw[if_neg (by rw[h1];exact he)];exact h
 refine enter_ref02_Heap_SetRef rfl ?_
 unfold x_ref02_Heap_SetRef
 refine gO ?_
 refine callT0 (fLacks h x) ?_
 by_cases he:s.lacks x=0
 rotate_left
 ·obtain⟨e,e4⟩:=lacks4 he
  refine gO1 (bnt he) ?_
  have h1:s.setRefR x i to=4:=by unfold RL.setRefR RL.ob;rw[e];rfl
  have:=bad 4 (by omega) h1
  rw[e4]
  simpa using this
 obtain⟨k,hk⟩:=lacks0 he
 obtain⟨k1,k2,k3⟩:=ixO_spec hk
 obtain⟨vB,vO,vF,fB,fO,fF,L,hfp,hm⟩:=id h
 have hl:=hm.len
 obtain⟨g,cap,ys,rfl,hat,hfO,_⟩:=hm.row (by omega)
 have hkL:k<L.length:=by omega
 have hok:=hm.om (L.getD k default) (by simp[hkL])
 have e2:(0:Int)≤(k:Int)∧(k:Int)<(L.length:Int):=⟨by omega,by omega⟩
 have hob:s.ob x=some (L.getD k default).o:=by unfold RL.ob;rw[hk,Option.map_some,hm.getO hkL]
 have c5:w.cell? ⟨g,k*8+5,none⟩=some (L.getD k default).vr:=by
  rw[hat.cell,omV_cell (j:=5) ys hkL (by omega)];rfl
 obtain⟨ar,cr,hvr⟩:=hok.r.rd.val
 have hset:s.setRefR x i to=if i<0∨((L.getD k default).o.rf.length:Int)≤i then 1 else if to≠0∧s.has to=false then 1 else 0:=by unfold RL.setRefR;rw[hob]
 refine gO1 (bnf he) ?_
 refine callT0 (fIndex h x) ?_
 rw[hk]
 by_cases c1:i<0
 ·(repeat(first|with_reducible(first|refine nx ?_|refine r_6 rfl ?_)|simp only[go_sem,show ixI (some k)=(k:Int)from rfl,dtr c1]))
  have h1:s.setRefR x i to=1:=by rw[hset,if_pos (.inl c1)]
  have:=bad 1 (by omega) h1
  simpa using this
 by_cases c2:((L.getD k default).o.rf.length:Int)≤i
 ·(repeat(first|with_reducible(first|refine nx ?_|refine r_6 rfl ?_)|simp only[go_sem,show ixI (some k)=(k:Int)from rfl,dfl c1,hm.hb.cell,if_pos e2,tnc,c5,hvr,dtr c2]))
  have h1:s.setRefR x i to=1:=by rw[hset,if_pos (.inr c2)]
  have:=bad 1 (by omega) h1
  simpa using this
 rw[if_neg (by omega)]at hset
 obtain⟨j,rfl⟩: ∃j:Nat,i=j:=⟨i.toNat,by omega⟩
 have hj:j<(L.getD k default).o.rf.length:=by omega
 obtain⟨g2,cap2,ys2,hv2,hat2,hf2,_⟩:=hok.r.pos (by omega)
 have hcap2:(ints (L.getD k default).o.rf++ys2).length=cap2:=by
  have:=hok.r
  rw[hv2]at this
  exact Sl.cap this hat2
 have hv2':=hv2
 rw[hvr]at hv2'
 cases hv2'
 have e3:(0:Int)≤(j:Int)∧(j:Int)<((L.getD k default).o.rf.length:Int):=⟨by omega,by omega⟩
 have fin:s.setRefR x (j:Int) to=0→ ∀w2,Only [g2] w w2→At w2 g2 ((ints (L.getD k default).o.rf++ys2).set j (.int .i64 to))→FM w2 b (s.setRefM x (j:Int) to) fp∧Only fp w w2:=by
  intro h0 w2 ho2 h2
  have hM:s.setRefM x (j:Int) to=s.upd x fun o=> {o with rf:=o.rf.set j to}:=by unfold RL.setRefM;rw[if_pos h0];rfl
  rw[hM]
  have hmem: ∀y,y∈[g2]→y∈fp:=fun y hy=>by
   rw[hfp]
   have:=mem_omF (L:=L) (m:=L.getD k default) (x:=y) (by simp[hkL]) (.inl (by rw[hf2];exact hy))
   simp[this]
  have hown:=omF_own (nd4 hm.nd).2.2.2.2.1 hkL
  rw[hf2]at hown
  refine⟨⟨_,_,_,fB,fO,fF,L.set k ((L.getD k default).withO {(L.getD k default).o with rf:=(L.getD k default).o.rf.set j to}),?_,hm.updR hkL hk (f:=fun o=> {o with rf:=o.rf.set j to}) rfl rfl rfl rfl (fun o h=>⟨h.v,by simpa using h.r,h.d,h.a0,h.a1⟩) ⟨?_,?_⟩ (by rw[hf2];exact ho2)⟩,ho2.mono fun y hy=>.inl (hmem y hy)⟩
  ·rw[omF_withO];exact hfp
  ·show Sl w2 1 (L.getD k default).vr ((L.getD k default).o.rf.set j to).length (ints ((L.getD k default).o.rf.set j to)) (L.getD k default).fr
   rw[List.length_set,hv2,hf2]
   exact Sl.setI rfl hat2 hcap2 hj h2
  ·refine hok.d.keep ho2 fun y hy hy2=>?_
   simp only[lms]at hy2
   subst hy2
   simp only[List.singleton_append,List.nodup_cons]at hown
   exact hown.1 hy
 by_cases c3:to=0
 ·have h0:s.setRefR x (j:Int) to=0:=by rw[hset,if_neg (by simp[c3])]
  (repeat(first|with_reducible(first|refine nx ?_|refine r_6 rfl ?_)|simp only[go_sem,show ixI (some k)=(k:Int)from rfl,dfl c1,hm.hb.cell,if_pos e2,if_pos e3,tnc,Nat.mul_one,c5,hvr,dfl c2,bnf c3]))
  refine stT hat2 (by rw[lla,ints_length];omega) rfl fun w2 hs2 h2 ho2=>?_
  refine gO ?_
  rw[h0]
  exact⟨rfl,fin h0 w2 ho2 h2⟩
 ·(repeat(first|with_reducible(first|refine nx ?_|refine r_6 rfl ?_)|simp only[go_sem,show ixI (some k)=(k:Int)from rfl,dfl c1,hm.hb.cell,if_pos e2,if_pos e3,tnc,Nat.mul_one,c5,hvr,dfl c2,bnt c3]))
  refine callT0 (fHas h to) ?_
  cases hh:s.has to with
  |false=>
   refine gO ?_
   have h1:s.setRefR x (j:Int) to=1:=by rw[hset,if_pos ⟨c3,hh⟩]
   have:=bad 1 (by omega) h1
   simpa using this
  |true=>
   have h0:s.setRefR x (j:Int) to=0:=by rw[hset,if_neg (by simp[hh])]
   refine gJ5 hm.hb.cell (eq_true e2) (eq_true e3) c5 hvr ?_
   refine stT hat2 (by rw[lla,ints_length];omega) rfl fun w2 hs2 h2 ho2=>?_
   refine gO ?_
   rw[h0]
   exact⟨rfl,fin h0 w2 ho2 h2⟩
theorem fPinV (h:FM w b s fp) (x:Int) (p:Bool):Cs Tryz.prog 170 [.pointer (some ⟨b,0,none⟩),.int .i64 x,.bool p] w fun v w'=>v=.int .i64 (s.lacks x)∧FM w' b (s.pinM x p) fp∧Only fp w w':=by
 refine enter_ref02_Heap_pin rfl ?_
 unfold x_ref02_Heap_pin
 refine gO ?_
 refine callT0 (fLacks h x) ?_
 by_cases he:s.lacks x=0
 rotate_left
 ·obtain⟨e,e4⟩:=lacks4 he
  refine gO1 (bnt he) ?_
  have:s.pinM x p=s:=by unfold RL.pinM RL.upd;rw[e]
  rw[this]
  exact⟨h,Only.refl _ _⟩
 obtain⟨k,hk⟩:=lacks0 he
 obtain⟨k1,k2,k3⟩:=ixO_spec hk
 have hd:=h.keep0 (Only.drew [] w)
 obtain⟨vB,vO,vF,fB,fO,fF,L,hfp,hm⟩:=h.keep0 (Only.drew [] w)
 have hl:=hm.len
 obtain⟨g,cap,ys,rfl,hat,hfO,_⟩:=hm.row (by omega)
 have hkL:k<L.length:=by omega
 have e2:(0:Int)≤(k:Int)∧(k:Int)<(L.length:Int):=⟨by omega,by omega⟩
 refine gO1 (bnf he) ?_
 refine run_drt [b,g] ?_
 refine gO1 hm.hb.cell ?_
 refine callS0 (fIndex hd x) (.inr (SB.refl _ _)) ?_
 rw[hk]
 (repeat(first|with_reducible(first|refine nx ?_|refine r_6 rfl ?_)|simp only[go_sem,show ixI (some k)=(k:Int)from rfl,if_pos e2,tnc]))
 refine stS hat (by rw[lla,omV_len];omega) rfl fun w2 hs2 hat2 ho2=>⟨.inl rfl,?_⟩
 refine gO ?_
 obtain⟨n1,n2,n3,n4,n5,n6,n7,n8⟩:=nd4 hm.nd
 have hM:s.pinM x p= {s with O:=s.O.set k {(s.O.getD k default)with pin:=p}}:=by unfold RL.pinM RL.upd;rw[hk]
 have hg: ∀y,y∈[g]→y∈fO:=fun y hy=>by rw[hfO];exact hy
 have hcap:(omV L++ys).length=cap*8:=by
  rcases hm.hO.2 with⟨h0,_,_⟩|⟨g',cap',ys',T,q1,q2,q3,q4,q5⟩
  ·cases h0
  ·cases q1
   have:=hat.inj ⟨T,q3⟩
   rw[this];exact q4
 refine⟨by rw[he],⟨vB,.slice (some ⟨g,0,none⟩) L.length cap,vF,fB,fO,fF,L.set k ((L.getD k default).withO {(L.getD k default).o with pin:=p}),by rw[omF_withO];exact hfp,?_⟩,(Only.drew [] w).of_nil.same (ho2.mono fun y hy=>.inl (by rw[hfp];simp[hg y hy]))⟩
 rw[hM]
 refine⟨?_,hm.hb.keep ho2 fun hy=>n1 b (.inr (.inl (hg b hy))) rfl,hm.hB.keep ho2 fun y hy hy2=>(n2 y hy).1 (hg y hy2),?_,hm.hF.keep ho2 fun y hy hy2=>(n3 y (hg y hy2)).1 hy,?_,fun m hm'=>?_,by rw[omF_withO];exact hm.nd⟩
 ·have:=(hm.ok.upd (x:=x) (f:=fun o=> {o with pin:=p}) fun o h=>⟨h.v,h.r,h.d,h.a0,h.a1⟩)
  unfold RL.upd at this
  rw[hk]at this
  exact this
 ·rw[omV_set (v:=.bool p) (m:=(L.getD k default).withO {(L.getD k default).o with pin:=p}) ys hkL (show 7<8 by omega) rfl]at hat2
  rw[List.length_set]
  obtain⟨T,hT⟩:=hat2
  refine⟨by rw[omV_len,List.length_set],.inr ⟨g,cap,ys,T,rfl,hfO,hT,?_,by omega⟩⟩
  rw[←hcap,lla,lla,omV_len,omV_len,List.length_set]
 ·rw[List.map_set,←hm.eq]
  show s.O.set k _=s.O.set k _
  rw[hm.getO hkL];rfl
 ·obtain⟨j,hj,rfl⟩:=List.mem_iff_getElem.1 hm'
  have hj':j<L.length:=by simpa using hj
  have key: ∀i,i<L.length→(L.getD i default).ok w2:=fun i hi=>(hm.om (L.getD i default) (by simp[hi])).keep ho2 fun y hy hy2=>(n3 y (hg y hy2)).2 (mem_omF (m:=L.getD i default) (by simp[hi]) hy)
  rw[List.getElem_set]
  split
  ·have:=key k hkL
   exact⟨this.r,this.d⟩
  ·have:=key j hj'
   simpa[hj']using this
theorem fPin (h:FM w b s fp) (x:Int):Cs Tryz.prog 90 [.pointer (some ⟨b,0,none⟩),.int .i64 x] w fun v w'=>v=.int .i64 (s.lacks x)∧FM w' b (s.pinM x true) fp∧Only fp w w':=by
 refine enter_ref02_Heap_Pin rfl ?_
 unfold x_ref02_Heap_Pin
 refine gO ?_
 refine callT (fPinV h x true) ?_
 rintro r w1 ⟨rfl,h1,ho1⟩
 refine gO ?_
 exact⟨h1,ho1⟩
end
section
set_option maxRecDepth 8000
variable {fB fF fO fp:List Nat} {xs ys:List Value} {b cap g n sz:Nat} {s:RL} {w:World}
theorem addr_add0 (g o:Nat):(⟨g,o,none⟩:Addr).add 0=⟨g,o,none⟩:=by rw[addr_add,Nat.add_zero]
theorem slc_head {h:Nat} {k:IntKind} (hat:At w g (xs++ys)) (hx:xs.length=n*sz) (hh:h≤n) (hc:n≤cap):
  ∃v',slcO sz (.slice (some ⟨g,0,none⟩) n cap) none (some (.int k (h:Int)))=some v'∧SrcIs w sz v' h (xs.take (h*sz)):=by
 refine⟨.slice (some ⟨g,0,none⟩) h cap,?_,?_,.inr ⟨⟨g,0,none⟩,cap,rfl,?_⟩⟩
 ·have e:(0:Int)≤(h:Int)∧(h:Int)≤(cap:Int):=⟨by omega,by omega⟩
  simp only[slcO,boundO,if_pos e,tnc,Option.map_some,Nat.zero_mul,addr_add0,Nat.sub_zero,ite_self]
 ·rw[List.length_take,hx]
  have:=Nat.mul_le_mul_right sz hh
  omega
 ·have:=Nat.mul_le_mul_right sz hh
  rw[cellsAt_at hat 0 _ (by rw[lla];omega),List.drop_zero,List.take_append_of_le_length (by omega)]
theorem slc_tail {l:Nat} {k:IntKind} (hat:At w g (xs++ys)) (hx:xs.length=n*sz) (hl:l≤n) (hc:n≤cap):
  ∃v',slcO sz (.slice (some ⟨g,0,none⟩) n cap) (some (.int k (l:Int))) none=some v'∧SrcIs w sz v' (n-l) (xs.drop (l*sz)):=by
 have hm:=Nat.mul_le_mul_right sz hl
 have hlen:(xs.drop (l*sz)).length=(n-l)*sz:=by rw[List.length_drop,hx,Nat.sub_mul]
 have e:(0:Int)≤(l:Int)∧(l:Int)≤(n:Int):=⟨by omega,by omega⟩
 refine⟨.slice (if cap=l then some ⟨g,0,none⟩else(some ⟨g,0,none⟩:Option Addr).map (·.add (l*sz))) (n-l) (cap-l),by simp only[slcO,boundO,if_pos e,tnc],hlen,?_⟩
 by_cases hcl:cap=l
 ·rw[if_pos hcl]
  refine .inr ⟨_,_,rfl,?_⟩
  have e0:n-l=0:=by omega
  rw[e0,Nat.zero_mul]at hlen⊢
  rw[List.eq_nil_of_length_eq_zero hlen]
  simp[cellsAt]
 ·rw[if_neg hcl]
  refine .inr ⟨_,_,rfl,?_⟩
  show cellsAt w ((⟨g,0,none⟩:Addr).add (l*sz)) _=_
  rw[addr_add,Nat.zero_add,cellsAt_at hat _ _ (by rw[lla];rw[←hlen,List.length_drop];omega),List.drop_append_of_le_length (by omega),List.take_append_of_le_length (by omega),List.take_of_length_le (by omega)]
theorem nd4_mk {F:List Nat} (n1: ∀x,x∈fB∨x∈fO∨x∈fF∨x∈F→x≠b) (n2: ∀x,x∈fB→x∉fO∧x∉fF∧x∉F) (n3: ∀x,x∈fO→x∉fF∧x∉F) (n4: ∀x,x∈fF→x∉F) (n5:F.Nodup) (n6:fO.Nodup) (n7:fB.Nodup) (n8:fF.Nodup):(b::(fB++(fO++(fF++F)))).Nodup:=by
 simp only[List.nodup_cons,List.nodup_append,List.mem_append,not_or]
 refine⟨⟨fun h=>n1 b (.inl h) rfl,fun h=>n1 b (.inr (.inl h)) rfl,fun h=>n1 b (.inr (.inr (.inl h))) rfl,fun h=>n1 b (.inr (.inr (.inr h))) rfl⟩,n7,⟨n6,⟨n8,n5,fun x hx y hy e=>?_⟩,fun x hx y hy e=>?_⟩,fun x hx y hy e=>?_⟩
 ·subst e;exact n4 x hx hy
 ·subst e
  rcases hy with hy|hy
  ·exact(n3 x hx).1 hy
  ·exact(n3 x hx).2 hy
 ·subst e
  rcases hy with hy|hy|hy
  ·exact(n2 x hx).1 hy
  ·exact(n2 x hx).2.1 hy
  ·exact(n2 x hx).2.2 hy
theorem FMs.newO {w1 w':World} {s':RL} {vB vO vF v':Value} {f':List Nat} {L L':List OM} (h:FMs w b s vB vO vF fB fO fF L) (hs:s'.B=s.B∧s'.F=s.F) (hok:s'.Ok) (heq:s'.O=L'.map OM.o)
  (o1:Only [] w w1) (o2:Only [b] w1 w') (hb:At w' b [vB,v',vF,.int .i64 s'.born]) (hO:Sl w1 8 v' L'.length (omV L') f') (hf: ∀y,y∈f'→w.heap.size≤y) (hom: ∀m,m∈L'→m.ok w1)
  (hn:(omF L').Nodup) (hsub: ∀y,y∈omF L'→y∈omF L∨(w.heap.size≤y∧y∉f')):FMs w' b s' vB v' vF fB f' fF L'∧ ∀y,y∈b::(fB++(f'++(fF++omF L')))→y∈b::(fB++(fO++(fF++omF L)))∨w.heap.size≤y:=by
 obtain⟨n1,n2,n3,n4,n5,n6,n7,n8⟩:=nd4 h.nd
 have hlt:=h.lt
 have hltb:b<w.heap.size:=hlt b (by simp)
 have hltB: ∀y,y∈fB→y<w.heap.size:=fun y hy=>hlt y (by simp[hy])
 have hltF: ∀y,y∈fF→y<w.heap.size:=fun y hy=>hlt y (by simp[hy])
 have hltO: ∀y,y∈omF L→y<w.heap.size:=fun y hy=>hlt y (by simp[hy])
 have hx: ∀y,y∈omF L'→y≠b∧y∉fB∧y∉fF∧y∉f':=fun y hy=>by
  rcases hsub y hy with h1|⟨h1,h2⟩
  ·exact⟨n1 y (.inr (.inr (.inr h1))),fun h2=>(n2 y h2).2.2 h1,fun h2=>n4 y h2 h1,fun h2=>by have:=hf y h2;have:=hltO y h1;omega⟩
  ·exact⟨by omega,fun h3=>by have:=hltB y h3;omega,fun h3=>by have:=hltF y h3;omega,h2⟩
 have hf': ∀y,y∈f'→y≠b:=fun y hy=>by have:=hf y hy;omega
 refine⟨⟨hok,hb,?_,hO.keep o2 fun y hy=>off1 (hf' y hy),?_,heq,fun m hm=>(hom m hm).keep o2 fun y hy=>off1 (hx y (mem_omF hm hy)).1,nd4_mk ?_ ?_ ?_ ?_ hn (hO.nodup) n7 n8⟩,?_⟩
 ·rw[hs.1];exact(h.hB.keep0 o1).keep o2 fun y hy=>off1 (n1 y (.inl hy))
 ·rw[hs.2];exact(h.hF.keep0 o1).keep o2 fun y hy=>off1 (n1 y (.inr (.inr (.inl hy))))
 ·rintro y (hy|hy|hy|hy)
  ·exact n1 y (.inl hy)
  ·exact hf' y hy
  ·exact n1 y (.inr (.inr (.inl hy)))
  ·exact(hx y hy).1
 ·exact fun y hy=>⟨fun h2=>by have:=hf y h2;have:=hltB y hy;omega,(n2 y hy).2.1,fun h2=>(hx y h2).2.1 hy⟩
 ·exact fun y hy=>⟨fun h2=>by have:=hf y hy;have:=hltF y h2;omega,fun h2=>(hx y h2).2.2.2 hy⟩
 ·exact fun y hy h2=>(hx y h2).2.2.1 hy
 ·intro y hy
  simp only[List.mem_cons,List.mem_append]at hy⊢
  rcases hy with rfl|hy|hy|hy|hy
  ·exact .inl (.inl rfl)
  ·exact .inl (.inr (.inl hy))
  ·exact .inr (hf y hy)
  ·exact .inl (.inr (.inr (.inr (.inl hy))))
  ·rcases hsub y hy with h1|⟨h1,_⟩
   ·exact .inl (.inr (.inr (.inr (.inr h1))))
   ·exact .inr h1
theorem omF_erase: ∀(L:List OM) (k:Nat),(omF (L.eraseIdx k)).Sublist (omF L)
 | [],_=>by simp
 |a::L,0=>by rw[List.eraseIdx_cons_zero,omF_cons];exact List.sublist_append_right _ _
 |a::L,k+1=>by
  rw[List.eraseIdx_cons_succ,omF_cons,omF_cons]
  exact(List.Sublist.refl _).append (omF_erase L k)
theorem map_erase {α β:Type} (f:α→β): ∀(L:List α) (k:Nat),(L.map f).eraseIdx k=(L.eraseIdx k).map f
 | [],_=>rfl
 |a::L,0=>rfl
 |a::L,k+1=>by simp[map_erase f L k]
theorem Sl.nil8 (w:World):Sl w 8 (.slice none 0 0) 0 [] []:=⟨rfl,.inl ⟨rfl,rfl,rfl⟩⟩
theorem fCut (h:FM w b s fp) (k:Nat) (hk:k<s.O.length):Cs Tryz.prog 163 [.pointer (some ⟨b,0,none⟩),.int .i64 (k:Int)] w fun v w'=>v=.tuple #[]∧Only fp w w'∧ ∃fp',FM w' b {s with O:=s.O.eraseIdx k} fp'∧ ∀y,y∈fp'→y∈fp∨w.heap.size≤y:=by
 obtain⟨vB,vO,vF,fB,fO,fF,L,hfp,hm⟩:=h
 have hl:=hm.len
 have hol:=hm.ok.ol
 obtain⟨g,cap,ys,rfl,hat,hfO,hcap⟩:=hm.row (by omega)
 have hone: ∀M:List OM,(∀m,m∈M→m∈L)→ ∀u,u∈omV M→oneC u=true:=fun M hM=>omV_one fun m hm'=>(hm.om m (hM m hm')).one
 have htl:((k+1:Nat):Int)=(k:Int)+1:=by omega
 refine enter_ref02_Heap_cut rfl ?_
 unfold x_ref02_Heap_cut
 obtain⟨v1,e1,s1⟩:=slc_head (k:=.i64) hat (omV_len L) (show k≤L.length by omega) hcap
 rw[omV_take]at s1
 refine gO2 hm.hb.cell e1 ?_
 refine appT (sz:=8) (Sl.nil8 w) s1 (hone _ fun m hm'=>List.mem_of_mem_take hm') (by omega) (by omega) ?_
 intro v2 w2 f2 hs2 hf2 ho2 _
 have hf2': ∀y,y∈f2→w.heap.size≤y:=fun y hy=>by
  rcases hf2 with rfl|rfl
  ·cases hy
  ·simp only[lms]at hy;omega
 obtain⟨v3,e3,s3⟩:=slc_tail (k:=.i64) (hat.keep0 ho2) (omV_len L) (show k+1≤L.length by omega) hcap
 rw[omV_drop]at s3
 (repeat(first|with_reducible(first|refine nx ?_|refine r_6 rfl ?_)|simp only[go_sem,(hm.hb.keep0 ho2).cell,i64_succ k (by omega),e3]))
 refine appT (sz:=8) hs2 s3 (hone _ fun m hm'=>List.mem_of_mem_drop hm') (by omega) (by omega) ?_
 intro v4 w4 f4 hs4 hf4 ho4 _
 have o4:Only [] w w4:=ho2.trans ho4 fun y hy=>.inr (hf2' y hy)
 have hf4': ∀y,y∈f4→w.heap.size≤y:=fun y hy=>by
  have:=ho2.size
  rcases hf4 with rfl|rfl
  ·exact hf2' y hy
  ·simp only[lms]at hy;omega
 refine gO ?_
 refine stT (hm.hb.keep0 o4) (by simp) hs4.oneC' fun w5 hs5 hb5 ho5=>?_
 simp only[List.set_cons_zero,List.set_cons_succ]at hb5
 refine gO ?_
 have eL:L.eraseIdx k=L.take k++L.drop (k+1):=List.eraseIdx_eq_take_drop_succ L k
 have hlen:(L.eraseIdx k).length=0+k+(L.length-(k+1)):=by rw[eL,lla,List.length_take,List.length_drop];omega
 have hO:Sl w4 8 v4 (L.eraseIdx k).length (omV (L.eraseIdx k)) f4:=by
  rw[hlen,eL,omV_append]
  simpa using hs4
 have hsubl:(omF (L.eraseIdx k)).Sublist (omF L):=omF_erase L k
 obtain⟨hF,hsub⟩:=hm.newO (s':= {s with O:=s.O.eraseIdx k}) ⟨rfl,rfl⟩ ⟨hm.ok.b2,hm.ok.b64,by have:=List.length_eraseIdx_le s.O k;simp only;omega,fun o ho=>hm.ok.ob o (List.mem_of_mem_eraseIdx ho)⟩ (by simp only[hm.eq];rw[map_erase]) o4 ho5 hb5 hO hf4'
  (fun m hm'=>(hm.om m (List.mem_of_mem_eraseIdx hm')).keep0 o4) (hsubl.nodup (nd4 hm.nd).2.2.2.2.1) fun y hy=>.inl (hsubl.subset hy)
 refine⟨o4.of_nil.same (ho5.mono fun y hy=>.inl (by rw[hfp];simp only[lms]at hy;simp[hy])),_,⟨_,_,_,_,_,_,_,rfl,hF⟩,fun y hy=>?_⟩
 rw[hfp];exact hsub y hy
theorem fKill (h:FM w b s fp) (x:Int):Cs Tryz.prog 85 [.pointer (some ⟨b,0,none⟩),.int .i64 x] w fun v w'=>v=.int .i64 (s.lacks x)∧Only fp w w'∧ ∃fp',FM w' b (s.killM x) fp'∧ ∀y,y∈fp'→y∈fp∨w.heap.size≤y:=by
 refine enter_ref02_Heap_Kill rfl ?_
 unfold x_ref02_Heap_Kill
 refine gO ?_
 refine callT0 (fLacks h x) ?_
 by_cases he:s.lacks x=0
 rotate_left
 ·obtain⟨e,e4⟩:=lacks4 he
  refine gO1 (bnt he) ?_
  have:s.killM x=s:=by unfold RL.killM;rw[e]
  rw[this]
  exact⟨Only.refl _ _,fp,h,fun y hy=>.inl hy⟩
 obtain⟨k,hk⟩:=lacks0 he
 obtain⟨k1,k2,k3⟩:=ixO_spec hk
 refine gO1 (bnf he) ?_
 refine callT0 (fIndex h x) ?_
 rw[hk]
 (repeat(first|with_reducible(first|refine nx ?_|refine r_6 rfl ?_)|simp only[go_sem,show ixI (some k)=(k:Int)from rfl]))
 refine callT (fCut h k k1) ?_
 rintro r w1 ⟨rfl,ho1,fp',h1,hsub⟩
 refine gO ?_
 have:s.killM x= {s with O:=s.O.eraseIdx k}:=by unfold RL.killM;rw[hk]
 rw[this]
 exact⟨by rw[he],ho1,fp',h1,hsub⟩
end
section
variable {L:List OM} {s:RL}
def posO:List Ob→Int→Nat
 | [],_=>0
 |o::O,a=>if o.a<a then posO O a+1 else 0
theorem posO_le: ∀(O:List Ob) (a:Int),posO O a≤O.length
 | [],_=>Nat.le_refl _
 |o::O,a=>by
  unfold posO
  split
  ·have:=posO_le O a;simp only[List.length_cons];omega
  ·omega
theorem posO_at: ∀ {O:List Ob} {a:Int} {k:Nat},k≤O.length→(∀j,j<k→(O.getD j default).a<a)→(k<O.length→ ¬(O.getD k default).a<a)→posO O a=k
 | [],a,k,h,_,_=>by simp at h;subst h;rfl
 |o::O,a,0,_,_,h=>by
  have:=h (by simp)
  simp only[List.getD_cons_zero]at this
  unfold posO;rw[if_neg this]
 |o::O,a,k+1,hl,h1,h2=>by
  have:=h1 0 (by omega)
  simp only[List.getD_cons_zero]at this
  unfold posO
  rw[if_pos this,posO_at (k:=k) (by simpa using hl) (fun j hj=>by have:=h1 (j+1) (by omega);simpa using this) fun hk=>by have:=h2 (by simpa using hk);simpa using this]
def RL.putM (s:RL) (o:Ob):RL:= {s with O:=s.O.take (posO s.O o.a)++[o]++s.O.drop (posO s.O o.a)}
theorem RL.Ok.put (h:s.Ok) {o:Ob} (ho:o.Ok s.B.length) (hl:s.O.length<2048):(s.putM o).Ok:=by
 have:=posO_le s.O o.a
 refine⟨h.b2,h.b64,by simp only[RL.putM,lla,List.length_take,List.length_drop,List.length_singleton];omega,fun p hp=>?_⟩
 simp only[RL.putM,List.mem_append,lms]at hp
 rcases hp with(hp|rfl)|hp
 ·exact h.ob p (List.mem_of_mem_take hp)
 ·exact ho
 ·exact h.ob p (List.mem_of_mem_drop hp)
theorem omF_ins {m:OM} {k:Nat} (h1:(omF L).Nodup) (h2:(m.fr++m.fd).Nodup) (h3: ∀x,x∈m.fr++m.fd→x∉omF L):(omF (L.take k++[m]++L.drop k)).Nodup:=by
 have hp:(omF (L.take k++[m]++L.drop k)).Perm ((m.fr++m.fd)++omF L):=by
  rw[omF_append,omF_append]
  have e:omF L=omF (L.take k)++omF (L.drop k):=by rw[←omF_append,List.take_append_drop]
  have e1:omF [m]=m.fr++m.fd:=by simp[omF]
  rw[e,e1]
  have:=(List.perm_append_comm (l₁:=omF (L.take k)) (l₂:=m.fr++m.fd)).append_right (omF (L.drop k))
  simpa[List.append_assoc]using this
 refine(hp.nodup_iff).2 ?_
 rw[List.nodup_append]
 exact⟨h2,h1,fun x hx y hy e=>by subst e;exact h3 x hx hy⟩
theorem fPut {w:World} {b:Nat} {vB vO vF:Value} {fB fO fF:List Nat} (hm:FMs w b s vB vO vF fB fO fF L) (m:OM) (hmo:m.o.Ok s.B.length) (hl:s.O.length<2048) (hok:m.ok w) (hown:(m.fr++m.fd).Nodup) (hnew: ∀x,x∈m.fr++m.fd→x∉b::(fB++(fO++(fF++omF L)))):
  Cs Tryz.prog 234 [.pointer (some ⟨b,0,none⟩),.agg ⟨m.V⟩] w fun v w'=>v=.tuple #[]∧Only [b] w w'∧ ∃fp',FM w' b (s.putM m.o) fp'∧ ∀y,y∈fp'→y∈b::(fB++(fO++(fF++omF L)))∨y∈m.fr++m.fd∨w.heap.size≤y:=by
 have hlen:=hm.len
 obtain⟨n1,n2,n3,n4,n5,n6,n7,n8⟩:=nd4 hm.nd
 have hlt:=hm.lt
 obtain⟨ao,co,hvO⟩:=hm.valO
 refine enter_ref02_Heap_put rfl ?_
 unfold x_ref02_Heap_put
 refine gO ?_
 refine boxT fun q w1 hq hs1 hat1 ho1=>?_
 have hat1':At w1 q m.V:=hat1
 have c0: ∀w2,Only [] w1 w2→w2.cell? ⟨q,0,none⟩=some (.int .i64 m.o.a):=fun w2 k=>by rw[(hat1'.keep0 k).cell];rfl
 refine gO ?_
 refine run_loop (4::6::7::8::9::10::11::12::13::14::15::16::17::18::19::20::21::22::23::24::25::26::27::[]) (fun g w'=> ∃i:Nat,g 4=.int .i64 (i:Int)∧i≤L.length∧(∀j,j<i→(s.O.getD j default).a<m.o.a)∧Only [] w1 w') (fun g _=>upTo L.length 4 g)
  ⟨0,by simp only[go_sem];rfl,by omega,fun j hj=>absurd hj (by omega),Only.refl _ _⟩ fun g w2 hI hnext=>?_
 obtain⟨i,h4,hi,hno,ho2⟩:=hI
 have o2:=ho1.nil ho2
 have h2:=(hm.keep0 o2).keep0 (Only.drew [] w2)
 have od:=ho2.nil (Only.drew [] w2)
 have stop:(i<L.length→ ¬(s.O.getD i default).a<m.o.a)→posO s.O m.o.a=i:=fun h=>posO_at (by omega) hno fun h'=>h (by omega)
 refine run_seq (run_seq ?_)
 refine run_cut (6::7::8::9::10::11::12::13::14::15::16::17::18::19::20::21::22::23::24::25::[]) (fun ρ' w'=>ρ' 25=.bool (decide (i<L.length)&&decide ((s.O.getD i default).a<m.o.a))∧w'=w2.drew) (fun kk hkk=>?_) (fun g' w3 hJ=>?_)
 ·by_cases hlt':i<L.length
  ·obtain⟨g8,cap,ys,e1,hat,_,_⟩:=h2.row (by omega)
   have e2:(0:Int)≤(i:Int)∧(i:Int)<(L.length:Int):=⟨by omega,by omega⟩
   have hc:w2.drew.cell? ⟨g8,i*8,none⟩=some (.int .i64 (s.O.getD i default).a):=by
    have:=omV_cell (j:=0) ys hlt' (by omega)
    rw[hat.cell,←Nat.add_zero (i*8),this,h2.getO hlt'];rfl
   refine gO4 h4 h2.hb.cell hvO (dtr (show(i:Int)<(L.length:Int)from e2.2)) ?_
   have e1':=e1
   rw[hvO]at e1'
   cases e1'
   (repeat(first|with_reducible(first|refine nx ?_|refine r_6 rfl ?_)|simp only[go_sem,if_pos e2,tnc,hc,c0 _ od]))
   refine hkk _ _ ⟨?_,rfl⟩
   ·simp only[go_sem]
    simp[hlt']
  ·refine gO4 h4 h2.hb.cell hvO (dfl (show¬(i:Int)<(L.length:Int) by omega)) ?_
   refine hkk _ _ ⟨?_,rfl⟩
   ·simp only[go_sem]
    simp[hlt']
 obtain⟨h25,rfl⟩:=hJ
 refine run_condT ?_
 simp only[go_sem,h25]
 refine condT (fun ht=>?_) (fun hf=>?_)
 ·simp only[Bool.and_eq_true,decide_eq_true_eq]at ht
  refine gO2 h4 (i64_succ i (by omega)) ?_
  refine hnext _ w2.drew ⟨i+1,?_,by omega,fun j hj=>?_,od⟩ ?_
  ·simp only[go_sem]
  ·by_cases e:j=i
   ·subst e;exact ht.2
   ·exact hno j (by omega)
  ·exact up_lt h4
 have hpos:posO s.O m.o.a=i:=stop fun h h'=>by
  rw[dtr h,dtr h']at hf;cases hf
 have hone: ∀M:List OM,(∀m,m∈M→m∈L)→ ∀u,u∈omV M→oneC u=true:=fun M hM=>omV_one fun m hm'=>(hm.om m (hM m hm')).one
 have o3:Only [] w w2.drew:=o2.nil (Only.drew [] w2)
 have hm8: ∀w',Only [] w w'→cellsAt w' ⟨q,0,none⟩ 8=some m.V→True:=fun _ _ _=>trivial
 clear hm8
 -- the three parts
 obtain⟨v1,e1,s1⟩: ∃v1,slcO 8 vO none (some (.int .i64 (i:Int)))=some v1∧SrcIs w2.drew 8 v1 i (omV (L.take i)):=by
  by_cases h0:0<L.length
  ·obtain⟨g8,cap,ys,e1,hat,_,hcap⟩:=h2.row h0
   subst e1
   obtain⟨v1,e1,s1⟩:=slc_head (k:=.i64) hat (omV_len L) hi hcap
   rw[omV_take]at s1
   exact⟨v1,e1,s1⟩
  ·have:L=[]:=List.eq_nil_of_length_eq_zero (by omega)
   subst this
   have:i=0:=by simpa using hi
   subst this
   rcases hm.hO.2 with⟨rfl,_,_⟩|⟨g8,cap,ys,T,rfl,_,h3,h5,_⟩
   ·exact⟨.slice none 0 0,rfl,rfl,.inl ⟨0,rfl,rfl⟩⟩
   ·obtain⟨v1,e1,s1⟩:=slc_head (k:=.i64) (n:=0) (h:=0) (sz:=8) (xs:=[]) (ys:=ys) (At.keep0 ⟨T,h3⟩ o3) rfl (Nat.le_refl _) (Nat.zero_le cap)
    exact⟨v1,e1,by simpa[omV]using s1⟩
 refine gO3 h2.hb.cell h4 e1 ?_
 refine appT (sz:=8) (Sl.nil8 _) s1 (hone _ fun m hm'=>List.mem_of_mem_take hm') (by omega) (by omega) ?_
 intro v4 w4 f4 hs4 hf4 ho4 _
 have o4:=o3.nil ho4
 have hf4': ∀y,y∈f4→w1.heap.size≤y:=fun y hy=>by
  have:=od.size
  rcases hf4 with rfl|rfl
  ·cases hy
  ·simp only[lms]at hy;omega
 have hc8:cellsAt w4 ⟨q,0,none⟩ 8=some m.V:=cellsAt_at (hat1'.keep0 (od.nil ho4)) 0 8 (by rw[OM.V_len];omega)
 refine gO1 hc8 ?_
 rw[fillL_ag (n:=8) rfl rfl]
 refine gO ?_
 refine bslT fun q5 w5 hq5 hs5 hat5 ho5=>?_
 refine gO ?_
 rw[setL_8]at hat5
 refine appT (sz:=8) (hs4.keep0 ho5) (SrcIs.at (m:=1) hat5 rfl) (V_one hok) (by omega) (by omega) ?_
 intro v6 w6 f6 hs6 hf6 ho6 _
 have hf6': ∀y,y∈f6→w1.heap.size≤y:=fun y hy=>by
  have:=od.size
  have:=ho4.size
  have:=ho5.size
  rcases hf6 with rfl|rfl
  ·exact hf4' y hy
  ·simp only[lms]at hy;omega
 have hw1:=ho1.size
 have o6:Only [] w w6:=(o4.nil ho5).trans ho6 fun y hy=>.inr (by have:=hf4' y hy;omega)
 obtain⟨v7,e7,s7⟩: ∃v7,slcO 8 vO (some (.int .i64 (i:Int))) none=some v7∧SrcIs w6 8 v7 (L.length-i) (omV (L.drop i)):=by
  by_cases h0:0<L.length
  ·obtain⟨g8,cap,ys,e1,hat,_,hcap⟩:=(hm.keep0 o6).row h0
   subst e1
   obtain⟨v1,e1,s1⟩:=slc_tail (k:=.i64) hat (omV_len L) hi hcap
   rw[omV_drop]at s1
   exact⟨v1,e1,s1⟩
  ·have:L=[]:=List.eq_nil_of_length_eq_zero (by omega)
   subst this
   have:i=0:=by simpa using hi
   subst this
   rcases hm.hO.2 with⟨rfl,_,_⟩|⟨g8,cap,ys,T,rfl,_,h3,h5,_⟩
   ·exact⟨.slice none 0 0,rfl,rfl,.inl ⟨0,rfl,rfl⟩⟩
   ·obtain⟨v1,e1,s1⟩:=slc_tail (k:=.i64) (n:=0) (l:=0) (sz:=8) (xs:=[]) (ys:=ys) (At.keep0 ⟨T,h3⟩ o6) rfl (Nat.le_refl _) (Nat.zero_le cap)
    exact⟨v1,e1,by simpa[omV]using s1⟩
 (repeat(first|with_reducible(first|refine nx ?_|refine r_6 rfl ?_)|simp only[go_sem,(hm.keep0 o6).hb.cell,h4,e7]))
 refine appT (sz:=8) hs6 s7 (hone _ fun m hm'=>List.mem_of_mem_drop hm') (by omega) (by omega) ?_
 intro v8 w8 f8 hs8 hf8 ho8 _
 have hf8': ∀y,y∈f8→w1.heap.size≤y:=fun y hy=>by
  have:=od.size
  have:=ho4.size
  have:=ho5.size
  have:=ho6.size
  rcases hf8 with rfl|rfl
  ·exact hf6' y hy
  ·simp only[lms]at hy;omega
 have o8:Only [] w w8:=o6.trans ho8 fun y hy=>.inr (by have:=hf6' y hy;omega)
 refine gO ?_
 refine stT (hm.hb.keep0 o8) (by simp) hs8.oneC' fun w9 hs9 hb9 ho9=>?_
 simp only[List.set_cons_zero,List.set_cons_succ]at hb9
 refine gO ?_
 have hlen':(L.take i++[m]++L.drop i).length=0+i+1+(L.length-i):=by simp only[lla,List.length_take,List.length_drop,List.length_singleton];omega
 have hO:Sl w8 8 v8 (L.take i++[m]++L.drop i).length (omV (L.take i++[m]++L.drop i)) f8:=by
  have e1:omV [m]=m.V:=by simp[omV]
  rw[hlen',omV_append,omV_append,e1]
  simpa[List.append_assoc]using hs8
 have hlto: ∀y,y∈m.fr++m.fd→y<w.heap.size:=fun y hy=>by
  rcases List.mem_append.1 hy with h|h
  ·exact hok.r.lt y h
  ·exact hok.d.lt y h
 have ha: ∀y,y∈m.fr++m.fd→y≠b∧y∉fB∧y∉fO∧y∉fF∧y∉omF L:=fun y hy=>by
  have:=hnew y hy
  simpa[not_or]using this
 have hput:s.putM m.o= {s with O:=s.O.take i++[m.o]++s.O.drop i}:=by unfold RL.putM;rw[hpos]
 have hmo':(s.putM m.o).Ok:=hm.ok.put hmo hl
 have hn':=omF_ins (k:=i) n5 hown fun x hx=>(ha x hx).2.2.2.2
 obtain⟨f1,f2,f3,f5⟩:True∧True∧True∧True:=⟨trivial,trivial,trivial,trivial⟩
 have hx: ∀y,y∈omF (L.take i++[m]++L.drop i)→y∈omF L∨y∈m.fr++m.fd:=fun y hy=>by
  rw[omF_append,omF_append,List.mem_append,List.mem_append]at hy
  have e1:omF [m]=m.fr++m.fd:=by simp[omF]
  rw[e1]at hy
  have e:omF L=omF (L.take i)++omF (L.drop i):=by rw[←omF_append,List.take_append_drop]
  rcases hy with(hy|hy)|hy
  ·left;rw[e];exact List.mem_append.2 (.inl hy)
  ·exact .inr hy
  ·left;rw[e];exact List.mem_append.2 (.inr hy)
 have hx': ∀y,y∈omF (L.take i++[m]++L.drop i)→y<w.heap.size∧y≠b∧y∉fB∧y∉fF:=fun y hy=>by
  rcases hx y hy with h|h
  ·exact⟨hlt y (by simp[h]),n1 y (.inr (.inr (.inr h))),fun h'=>(n2 y h').2.2 h,fun h'=>n4 y h' h⟩
  ·exact⟨hlto y h,(ha y h).1,(ha y h).2.1,(ha y h).2.2.2.1⟩
 have hltb:b<w.heap.size:=hlt b (by simp)
 have hltB: ∀y,y∈fB→y<w.heap.size:=fun y hy=>hlt y (by simp[hy])
 have hltF: ∀y,y∈fF→y<w.heap.size:=fun y hy=>hlt y (by simp[hy])
 refine⟨o8.of_nil.same ho9,b::(fB++(f8++(fF++omF (L.take i++[m]++L.drop i)))),⟨vB,v8,vF,fB,f8,fF,L.take i++[m]++L.drop i,rfl,?_⟩,?_⟩
 ·refine⟨hmo',?_,(hm.hB.keep0 o8).keep ho9 fun y hy=>off1 (n1 y (.inl hy)),hO.keep ho9 fun y hy=>off1 (by have:=hf8' y hy;omega),(hm.hF.keep0 o8).keep ho9 fun y hy=>off1 (n1 y (.inr (.inr (.inl hy)))),?_,fun m' hm'=>?_,nd4_mk ?_ ?_ ?_ ?_ hn' hO.nodup n7 n8⟩
  ·rw[hput];exact hb9
  ·rw[hput];simp only[hm.eq,List.map_append,List.map_take,List.map_drop,List.map_cons,List.map_nil]
  ·have hne: ∀y,y∈m'.fr∨y∈m'.fd→y≠b:=fun y hy=>(hx' y (mem_omF hm' hy)).2.1
   have:m'.ok w:=by
    simp only[List.mem_append,lms]at hm'
    rcases hm' with(h|rfl)|h
    ·exact hm.om _ (List.mem_of_mem_take h)
    ·exact hok
    ·exact hm.om _ (List.mem_of_mem_drop h)
   exact(this.keep0 o8).keep ho9 fun y hy=>off1 (hne y hy)
  ·rintro y (hy|hy|hy|hy)
   ·exact n1 y (.inl hy)
   ·have:=hf8' y hy;omega
   ·exact n1 y (.inr (.inr (.inl hy)))
   ·exact(hx' y hy).2.1
  ·exact fun y hy=>⟨fun h=>by have:=hf8' y h;have:=hltB y hy;omega,(n2 y hy).2.1,fun h=>(hx' y h).2.2.1 hy⟩
  ·exact fun y hy=>⟨fun h=>by have:=hf8' y hy;have:=hltF y h;omega,fun h=>by have:=hf8' y hy;have:=(hx' y h).1;omega⟩
  ·exact fun y hy h=>(hx' y h).2.2.2 hy
 ·intro y hy
  simp only[List.mem_cons,List.mem_append]at hy⊢
  rcases hy with rfl|hy|hy|hy|hy
  ·exact .inl (.inl rfl)
  ·exact .inl (.inr (.inl hy))
  ·exact .inr (.inr (by have:=hf8' y hy;omega))
  ·exact .inl (.inr (.inr (.inr (.inl hy))))
  ·rcases hx y hy with h|h
   ·exact .inl (.inr (.inr (.inr (.inr h))))
   ·exact .inr (.inl (List.mem_append.1 h))
end
section
variable {fp:List Nat} {b:Nat} {s:RL} {w:World}
def RL.hl (s:RL):HL:=⟨s.B,[],[],[],[],[],0⟩
def overB (a words but:Int) (o:Ob):Bool:=(o.id !=but&&decide (o.a<a+words))&&decide (a<o.a+wordsS o.sh)
def RL.fitsR (s:RL) (a:Int) (sh:Sh) (but:Int):Int:=if a<0∨a%2≠0∨((64*s.B.length:Nat):Int)≤a then 1 else if wrongB s.hl a (wordsS sh)=true then 5 else if s.O.any (overB a (wordsS sh) but)=true then 8 else 0
theorem fWhole (h:FM w b s fp) (k:Nat) (hk:k<s.B.length) (h2:(s.B.getD k (0,0)).1=2):
  Cs Tryz.prog 268 [.pointer (some ⟨b,0,none⟩),.int .i64 (k:Int)] w fun v w'=>v=.int .i64 (s.hl.span k:Nat)∧w'=w:=by
 obtain⟨vB,vO,vF,fB,fO,fF,L,hfp,h⟩:=h
 have hB:=h.ok.b64
 obtain⟨g,cap,ys,rfl,hat,_,_⟩:=h.blk
 have hsp:s.hl.span k=tails s.B k s.B.length 1:=by unfold HL.span;rw[if_pos (show(s.hl.B.getD k (0,0)).1=2 from h2)];rfl
 have e1:(0:Int)≤(k:Int)∧(k:Int)<(s.B.length:Int):=⟨by omega,by omega⟩
 refine enter_ref02_Heap_Whole rfl ?_
 unfold x_ref02_Heap_Whole
 (repeat(first|with_reducible(first|refine nx ?_|refine r_6 rfl ?_)|simp only[go_sem,h.hb.cell,hat.cell,if_pos e1,tnc,(blk_at ys hk).1,bqf (show¬(s.B.getD k (0,0)).1=1 by omega),bnf h2]))
 refine run_loop (5::24::25::26::27::28::29::30::31::32::33::34::35::36::37::38::39::40::41::42::43::44::45::46::47::[]) (fun g w'=> ∃n:Nat,g 5=.int .i64 (n:Int)∧1≤n∧k+n≤s.B.length∧tails s.B k (s.B.length+1-n) n=tails s.B k s.B.length 1∧w'=w) (fun g _=>upTo (s.B.length+1) 5 g)
  ⟨1,by simp only[go_sem];rfl,by omega,by omega,by rw[Nat.add_sub_cancel],rfl⟩ fun g' w1 hI hnext=>?_
 obtain⟨n,h5,hn1,hn2,ht,rfl⟩:=hI
 have e2:IntKind.i64.wrap ((k:Int)+(n:Int))=((k+n:Nat):Int):=by rw[IntWalk.i64_in _ (by omega)];omega
 obtain⟨f,hf⟩: ∃f,s.B.length+1-n=f+1:=⟨s.B.length-n,by omega⟩
 rw[hf,tails]at ht
 by_cases c2:k+n<s.B.length
 rotate_left
 ·rw[if_neg (fun h=>c2 h.1)]at ht
  refine gO4 h.hb.cell h5 e2 (dfl (show¬((k+n:Nat):Int)<(s.B.length:Int) by omega)) ?_
  rw[hsp,ht]
 have e3:(0:Int)≤((k+n:Nat):Int)∧((k+n:Nat):Int)<(s.B.length:Int):=⟨by omega,by omega⟩
 by_cases c3:(s.B.getD (k+n) (0,0)).1=3
 rotate_left
 ·rw[if_neg (fun h=>c3 h.2)]at ht
  (repeat(first|with_reducible(first|refine nx ?_|refine r_6 rfl ?_)|simp only[go_sem,h.hb.cell,hat.cell,if_pos e3,tnc,(blk_at ys c2).1,h5,e2,dtr e3.2,bqf c3]))
  rw[hsp,ht]
 rw[if_pos ⟨c2,c3⟩]at ht
 (repeat(first|with_reducible(first|refine nx ?_|refine r_6 rfl ?_)|simp only[go_sem,h.hb.cell,hat.cell,if_pos e3,tnc,(blk_at ys c2).1,h5,e2,dtr e3.2,bqt c3,i64_succ n (by omega)]))
 refine hnext _ w1 ⟨n+1,?_,by omega,by omega,?_,rfl⟩ ?_
 ·simp only[go_sem]
 ·rw[show s.B.length+1-(n+1)=f by omega];exact ht
 ·exact up_lt h5
theorem fFits (h:FM w b s fp) (x:Int) (sh:Sh) (but:Int) (hx:x≤4611686018427387904) (hv:validS sh=true):Cs Tryz.prog 233 [.pointer (some ⟨b,0,none⟩),.int .i64 x,.agg ⟨shV sh⟩,.int .i64 but] w fun v w'=>v=.int .i64 (s.fitsR x sh but)∧Only [] w w':=by
 have h00:=h
 obtain⟨vB,vO,vF,fB,fO,fF,L,hfp,hm⟩:=h
 have hlen:=hm.len
 have hol:=hm.ok.ol
 have hB:=hm.ok.b64
 have hw:=words_le hv
 obtain⟨ao,co,hvO⟩:=hm.valO
 obtain⟨gB,capB,ysB,rfl,hatB,_,_⟩:=hm.blk
 refine enter_ref02_Heap_fits rfl ?_
 unfold x_ref02_Heap_fits
 refine gO ?_
 refine boxT fun q w1 hq hs1 hat1 ho1=>?_
 have hb1:=hm.hb.keep0 ho1
 by_cases c1:x<0
 ·refine gO1 (dtr c1) ?_
  exact⟨by simp[RL.fitsR,c1],ho1⟩
 obtain⟨k,rfl⟩: ∃k:Nat,x=k:=⟨x.toNat,by omega⟩
 by_cases c2:k%2=0
 rotate_left
 ·(repeat(first|with_reducible(first|refine nx ?_|refine r_6 rfl ?_)|simp only[go_sem,dfl c1,tmod2 k,bnt (show¬((k%2:Nat):Int)=0 by omega)]))
  refine⟨?_,ho1⟩
  unfold RL.fitsR
  rw[if_pos (.inr (.inl (by omega)))]
 have e64:IntKind.i64.wrap ((s.B.length:Int)*64)=((64*s.B.length:Nat):Int):=by rw[IntWalk.i64_in _ (by omega)];omega
 by_cases c3:64*s.B.length≤k
 ·(repeat(first|with_reducible(first|refine nx ?_|refine r_6 rfl ?_)|simp only[go_sem,dfl c1,tmod2 k,bnf (show((k%2:Nat):Int)=0 by omega),hb1.cell,e64,dtr (show((64*s.B.length:Nat):Int)≤(k:Int) by omega)]))
  refine⟨?_,ho1⟩
  unfold RL.fitsR
  rw[if_pos (.inr (.inr (by omega)))]
 have hE:s.fitsR (k:Int) sh but=if wrongB s.hl (k:Int) (wordsS sh)=true then 5 else if s.O.any (overB (k:Int) (wordsS sh) but)=true then 8 else 0:=by
  unfold RL.fitsR
  rw[if_neg (by omega)]
 have hkB:k/64<s.B.length:=by omega
 have e1:(0:Int)≤((k/64:Nat):Int)∧((k/64:Nat):Int)<(s.B.length:Int):=⟨by omega,by omega⟩
 have hb:s.hl.b ((k:Int)/64)=s.B.getD (k/64) (0,0):=by unfold HL.b;congr 1
 have k64:((k:Int)/64).toNat=k/64:=by omega
 obtain⟨wn,hwn⟩: ∃n:Nat,wordsS sh=n:=⟨(wordsS sh).toNat,by omega⟩
 have e4:IntKind.i64.wrap (IntKind.i64.wrap ((k:Int)+(wn:Int))-1)=((k+wn-1:Nat):Int):=by rw[IntWalk.i64_in ((k:Int)+(wn:Int)) (by omega),IntWalk.i64_in _ (by omega)];omega
 have hcq: ∀w2,Only [] w1 w2→cellsAt w2 ⟨q,0,none⟩ 3=some (shV sh):=fun w2 k=>cellsAt_at (hat1.keep0 k) 0 3 (by simp[shV])
 (repeat(first|with_reducible(first|refine r_1 ?_|refine r_2 ?_|refine r_3 ?_|refine r_4 ?_|refine r_5 ?_|refine r_6 rfl ?_)|simp only[go_sem,dfl c1,tmod2 k,bnf (show((k%2:Nat):Int)=0 by omega),hb1.cell,e64,dfl (show¬((64*s.B.length:Nat):Int)≤(k:Int) by omega)]))
 refine run_condT ?_
 simp only[go_sem]
 refine run_skip (run_seq (run_reg ?_))
 simp only[go_sem,tdiv64 k (by omega)]
 refine run_seq ?_
 refine run_cut (31::32::33::34::35::36::37::38::39::40::41::42::43::44::45::46::47::48::49::50::51::52::53::54::55::56::57::58::59::60::61::62::63::64::65::66::67::68::69::70::71::72::73::[]) (fun _ w'=>Only [] w1 w'∧wrongB s.hl (k:Int) (wordsS sh)=false) (fun kk hkk=>?_) (fun g w2 hJ=>?_)
 ·(repeat(first|with_reducible(first|refine nx ?_|refine r_6 rfl ?_)|simp only[go_sem,hcq w1 (Only.refl _ _)]))
  refine callT1 (fLarge w1 sh) fun w2 ho2=>?_
  have hm2:=(hm.keep0 ho1).keep0 ho2
  have hat2:=(hatB.keep0 ho1).keep0 ho2
  rw[hwn]
  by_cases c32:(32:Int)<(wn:Int)
  ·have bad:wrongB s.hl (k:Int) (wn:Int)=(decide ((s.B.getD (k/64) (0,0)).1≠2)||decide ((k:Int)%64≠0)||decide (((s.hl.span (k/64):Nat):Int)≠((wn:Int)+63)/64)):=by
    unfold wrongB;rw[if_neg (by omega),hb,k64]
   refine gO1 (dtr c32) ?_
   refine run_drt [b,gB,q] ?_
   by_cases c5:k%64=0
   rotate_left
   ·(repeat(first|with_reducible(first|refine nx ?_|refine r_6 rfl ?_)|simp only[go_sem,tmod64 k,bnt (show¬((k%64:Nat):Int)=0 by omega)]))
    refine⟨?_,(ho1.nil ho2).nil (Only.drew [] w2)⟩
    rw[hE,hwn,bad,dtr (show(k:Int)%64≠0 by omega)];simp
   by_cases c4:(s.B.getD (k/64) (0,0)).1=2
   rotate_left
   ·(repeat(first|with_reducible(first|refine nx ?_|refine r_6 rfl ?_)|simp only[go_sem,tmod64 k,bnf (show((k%64:Nat):Int)=0 by omega),hm2.hb.drew.cell,hat2.drew.cell,if_pos e1,tnc,(blk_at ysB hkB).1,bnt c4]))
    refine⟨?_,(ho1.nil ho2).nil (Only.drew [] w2)⟩
    rw[hE,hwn,bad,dtr (show(s.B.getD (k/64) (0,0)).1≠2 from c4)];simp
   (repeat(first|with_reducible(first|refine nx ?_|refine r_6 rfl ?_)|simp only[go_sem,tmod64 k,bnf (show((k%64:Nat):Int)=0 by omega),hm2.hb.drew.cell,hat2.drew.cell,if_pos e1,tnc,(blk_at ysB hkB).1,bnf c4,hcq w2.drew (ho2.nil (Only.drew [] w2))]))
   refine callS0 (fWhole (((h00.keep0 ho1).keep0 ho2).keep0 (Only.drew [] w2)) (k/64) hkB c4) (.inr (SB.refl _ _)) ?_
   refine gO ?_
   refine callS1 (fNeed w2.drew sh) (.inl rfl) fun w3 ho3=>?_
   rw[hwn]
   have e5:((wn:Int)+63)/64=(((wn+63)/64:Nat):Int):=by omega
   rw[e5]
   by_cases c6:s.hl.span (k/64)=(wn+63)/64
   rotate_left
   ·refine gO1 (bnt (show¬((s.hl.span (k/64):Nat):Int)=(((wn+63)/64:Nat):Int) by omega)) ?_
    refine⟨?_,((ho1.nil ho2).nil (Only.drew [] w2)).nil ho3⟩
    rw[hE,hwn,bad,dtr (show((s.hl.span (k/64):Nat):Int)≠((wn:Int)+63)/64 by omega)];simp
   refine gO1 (bnf (show((s.hl.span (k/64):Nat):Int)=(((wn+63)/64:Nat):Int) by omega)) ?_
   refine hkk _ _ ⟨(ho2.nil (Only.drew [] w2)).nil ho3,?_⟩
   ·rw[hwn,bad,dfl (show¬(s.B.getD (k/64) (0,0)).1≠2 from fun h=>h c4),dfl (show¬(k:Int)%64≠0 by omega),dfl (show¬((s.hl.span (k/64):Nat):Int)≠((wn:Int)+63)/64 by omega)];rfl
  ·have bad:wrongB s.hl (k:Int) (wn:Int)=(decide ((s.B.getD (k/64) (0,0)).1≠1)||decide (((k:Int)+(wn:Int)-1)/64≠(k:Int)/64)):=by
    unfold wrongB;rw[if_pos (by omega),hb]
   by_cases c4:(s.B.getD (k/64) (0,0)).1=1
   rotate_left
   ·(repeat(first|with_reducible(first|refine nx ?_|refine r_6 rfl ?_)|simp only[go_sem,dfl c32,hm2.hb.cell,hat2.cell,if_pos e1,tnc,(blk_at ysB hkB).1,bnt c4]))
    refine⟨?_,ho1.nil ho2⟩
    rw[hE,hwn,bad,dtr (show(s.B.getD (k/64) (0,0)).1≠1 from c4)];simp
   (repeat(first|with_reducible(first|refine nx ?_|refine r_6 rfl ?_)|simp only[go_sem,dfl c32,hm2.hb.cell,hat2.cell,if_pos e1,tnc,(blk_at ysB hkB).1,bnf c4,hcq w2 ho2]))
   refine callT1 (fWords w2 sh) fun w3 ho3=>?_
   rw[hwn]
   by_cases c5:(k+wn-1)/64=k/64
   rotate_left
   ·(repeat(first|with_reducible(first|refine nx ?_|refine r_6 rfl ?_)|simp only[go_sem,e4,tdiv64 (k+wn-1) (by omega),bnt (show¬(((k+wn-1)/64:Nat):Int)=((k/64:Nat):Int) by omega)]))
    refine⟨?_,(ho1.nil ho2).nil ho3⟩
    rw[hE,hwn,bad,dtr (show((k:Int)+(wn:Int)-1)/64≠(k:Int)/64 by omega)];simp
   (repeat(first|with_reducible(first|refine nx ?_|refine r_6 rfl ?_)|simp only[go_sem,e4,tdiv64 (k+wn-1) (by omega),bnf (show(((k+wn-1)/64:Nat):Int)=((k/64:Nat):Int) by omega)]))
   refine hkk _ _ ⟨ho2.nil ho3,?_⟩
   ·rw[hwn,bad,dfl (show¬(s.B.getD (k/64) (0,0)).1≠1 from fun h=>h c4),dfl (show¬((k:Int)+(wn:Int)-1)/64≠(k:Int)/64 by omega)];rfl
 obtain⟨ho2,hW⟩:=hJ
 rw[hE,hW,if_neg (by simp)]
 have o2:=ho1.nil ho2
 refine gO ?_
 refine run_loop (10::11::74::75::76::77::78::79::80::81::82::83::84::85::86::87::88::89::90::91::92::93::94::95::96::97::98::99::100::101::102::103::104::105::106::107::108::109::110::111::112::[]) (fun g w'=> ∃j:Nat,g 10=.int .i64 (j:Int)∧j≤L.length∧(∀i,i<j→overB (k:Int) (wordsS sh) but (s.O.getD i default)=false)∧Only [] w2 w') (fun g _=>upTo L.length 10 g)
  ⟨0,by simp only[go_sem];rfl,by omega,by omega,Only.refl _ _⟩ fun g w3 hI hnext=>?_
 obtain⟨j,h10,hj,hno,ho3⟩:=hI
 have o3:=o2.nil ho3
 have hm3:=hm.keep0 o3
 refine gO3 h10 hm3.hb.cell hvO ?_
 refine condT (fun hlt=>?_) (fun hge=>?_)
 ·have hlt:j<L.length:=by simpa using hlt
  obtain⟨g8,cap,ys,e8,hat,_,_⟩:=hm3.row (by omega)
  have e2:(0:Int)≤(j:Int)∧(j:Int)<(L.length:Int):=⟨by omega,by omega⟩
  obtain⟨hc8,_⟩:=hm3.all (cap:=0) hat hlt
  have hok:=hm3.om (L.getD j default) (by simp[hlt])
  have hoo:=hm3.getO hlt
  have hbo:=hm3.ok.ob (s.O.getD j default) (by rw[hoo,hm3.eq];exact List.mem_map.2 ⟨_,by simp[hlt],rfl⟩)
  rw[hoo]at hbo
  have hgo:overB (k:Int) (wordsS sh) but (L.getD j default).o=false→ ∀i,i<j+1→overB (k:Int) (wordsS sh) but (s.O.getD i default)=false:=fun h i hi=>by
   by_cases e:i=j
   ·subst e;rw[hoo];exact h
   ·exact hno i (by omega)
  have hyes:overB (k:Int) (wordsS sh) but (L.getD j default).o=true→s.O.any (overB (k:Int) (wordsS sh) but)=true:=fun h=>by
   rw[←hoo]at h
   exact List.any_eq_true.2 ⟨_,by rw[hoo,hm3.eq];exact List.mem_map.2 ⟨_,by simp[hlt],rfl⟩,h⟩
  generalize L.getD j default=m at hc8 hok hbo hgo hyes
  obtain⟨o,vr,vd,fr,fd⟩:=m
  refine gJ5 h10 hm3.hb.cell e8 (eq_true e2) hc8 ?_
  refine boxT fun p w4 hp hs4 hat4 ho4=>?_
  refine gO ?_
  refine stNT hat4 rfl (by simp[OM.V,obV]) (V_one hok) fun w5 hs5 hat5 ho5=>?_
  have hat5':At w5 p (obV o vr vd):=hat5
  have o45:Only [] w3 w5:=ho4.trans ho5 fun y hy=>by simp only[lms]at hy;subst hy;exact .inr (by rw[hp];exact Nat.le_refl _)
  have o5:=o3.nil o45
  have od5:=o45.nil (Only.drew [] w5)
  have hlt5:=hat5'.lt
  have hltq:q<w5.heap.size:=((hat1.keep0 (ho2.nil ho3)).keep0 o45).lt
  have hcp:cellsAt w5.drew ⟨p,2,none⟩ 3=some (shV o.sh):=by rw[cellsAt_at hat5'.drew 2 3 (by simp[obV])];rfl
  have hsb: ∀w6,Only [] w5.drew w6→SB [p,q] w5.drew w6:=fun w6 ho=>(SB.refl _ _).only ho fun z hz=>⟨by simp only[List.mem_cons,List.not_mem_nil,or_false]at hz;show z<w5.heap.size;rcases hz with rfl|rfl;exact hlt5;exact hltq,by simp⟩
  have p1:w5.drew.cell? ⟨p,1,none⟩=some (.int .i64 o.id):=by rw[hat5'.drew.cell];rfl
  have p0:w5.drew.cell? ⟨p,0,none⟩=some (.int .i64 o.a):=by rw[hat5'.drew.cell];rfl
  have ha0:=hbo.a0
  have ha1:=hbo.a1
  have hwo:=words_le hbo.v
  simp only at ha0 ha1 hwo hgo hyes
  have f1:IntKind.i64.wrap ((k:Int)+wordsS sh)=(k:Int)+wordsS sh:=IntWalk.i64_in _ (by omega)
  have f2:IntKind.i64.wrap (o.a+wordsS o.sh)=o.a+wordsS o.sh:=IntWalk.i64_in _ (by omega)
  refine gO ?_
  refine run_drt [p,q] ?_
  by_cases d1:o.id=but
  ·refine gO4 p1 (bnf d1) h10 (i64_succ j (by omega)) ?_
   refine hnext _ _ ⟨j+1,?_,by omega,hgo (by simp[overB,d1]),ho3.nil od5⟩ ?_
   ·simp only[go_sem]
   ·exact up_lt h10
  (repeat(first|with_reducible(first|refine nx ?_|refine r_6 rfl ?_)|simp only[go_sem,p1,p0,bnt d1,hcq w5.drew ((ho2.nil ho3).nil od5)]))
  refine callS1 (fWords w5.drew sh) (.inr ⟨SB.refl _ _,fun z hz=>⟨by simp only[List.mem_cons,List.not_mem_nil,or_false]at hz;show z<w5.heap.size;rcases hz with rfl|rfl;exact hlt5;exact hltq,by simp⟩⟩) fun w6 ho6=>?_
  by_cases d2:o.a<(k:Int)+wordsS sh
  rotate_left
  ·refine gO4 f1 (dfl d2) h10 (i64_succ j (by omega)) ?_
   refine hnext _ _ ⟨j+1,?_,by omega,hgo (by simp[overB];omega),(ho3.nil od5).nil ho6⟩ ?_
   ·simp only[go_sem]
   ·exact up_lt h10
  refine gO4 f1 (dtr d2) p0 hcp ?_
  have hz6: ∀z,z∈[p,q]→z<w6.heap.size∧z∉([]:List Nat):=fun z hz=>by
   have h6:w5.heap.size≤w6.heap.size:=ho6.size
   simp only[List.mem_cons,List.not_mem_nil,or_false]at hz
   refine⟨?_,by simp⟩
   rcases hz with rfl|rfl<;>omega
  refine callS1 (fWords w6 o.sh) (.inr ⟨hsb w6 ho6,hz6⟩) fun w7 ho7=>?_
  by_cases d3:(k:Int)<o.a+wordsS o.sh
  rotate_left
  ·refine gO4 f2 (dfl d3) h10 (i64_succ j (by omega)) ?_
   refine hnext _ _ ⟨j+1,?_,by omega,hgo (by simp[overB];omega),((ho3.nil od5).nil ho6).nil ho7⟩ ?_
   ·simp only[go_sem]
   ·exact up_lt h10
  refine gO2 f2 (dtr d3) ?_
  refine⟨?_,(((o3.nil od5).nil ho6).nil ho7)⟩
  rw[if_pos (hyes (by simp[overB,d1,d2,d3]))]
 ·have hge: ¬j<L.length:=by simpa using hge
  refine gO ?_
  refine⟨?_,o3⟩
  rw[if_neg]
  intro hany
  obtain⟨o,ho,h2⟩:=List.any_eq_true.1 hany
  obtain⟨i,hi,rfl⟩:=List.mem_iff_getElem.1 ho
  have:=hno i (by omega)
  have e:s.O.getD i default=s.O[i]:=by simp[hi]
  rw[e,h2]at this
  cases this
end
section
variable {a but:Int} {s:RL} {sh:Sh} {w:World}
def RL.placeR (s:RL) (a:Int) (sh:Sh):Int×Int:=if validS sh=false then(0,2)else if s.fitsR a sh 0≠0 then(0,s.fitsR a sh 0)else(((s.born+1:Nat):Int),0)
def RL.newOb (s:RL) (a:Int) (sh:Sh):Ob:=⟨a,((s.born+1:Nat):Int),sh,List.replicate sh.1.toNat 0,List.replicate sh.2.1.toNat 0,false⟩
def RL.placeM (s:RL) (a:Int) (sh:Sh):RL:=if(s.placeR a sh).2=0 then {s with born:=s.born+1}.putM (s.newOb a sh)else s
theorem fitsR_in (hB:s.B.length≤64) (hv:validS sh=true) (h:s.fitsR a sh but=0):0≤a∧a+wordsS sh≤((64*s.B.length:Nat):Int)∧a%2=0:=by
 have hw:=words_le hv
 unfold RL.fitsR at h
 by_cases c1:a<0∨a%2≠0∨((64*s.B.length:Nat):Int)≤a
 ·rw[if_pos c1]at h;cases h
 rw[if_neg c1]at h
 by_cases c2:wrongB s.hl a (wordsS sh)=true
 ·rw[if_pos c2]at h;cases h
 refine⟨by omega,?_,by omega⟩
 rw[Bool.not_eq_true]at c2
 unfold wrongB at c2
 by_cases c3:wordsS sh≤32
 ·rw[if_pos c3]at c2
  simp only[Bool.or_eq_false_iff,decide_eq_false_iff_not,Decidable.not_not]at c2
  omega
 ·rw[if_neg c3]at c2
  simp only[Bool.or_eq_false_iff,decide_eq_false_iff_not,Decidable.not_not]at c2
  have:(a/64).toNat+s.hl.span (a/64).toNat≤s.B.length:=(span_le (s:=s.hl) (show(a/64).toNat<s.B.length by omega)).1
  omega
theorem newOb_ok (hB:s.B.length≤64) (hv:validS sh=true) (h:s.fitsR a sh but=0):(s.newOb a sh).Ok s.B.length:=by
 have hv':=hv
 simp only[validS,Bool.and_eq_true,decide_eq_true_eq]at hv'
 obtain⟨h1,h2,h3⟩:=fitsR_in hB hv h
 refine⟨hv,?_,?_,h1,h2⟩
 ·simp only[RL.newOb,List.length_replicate];omega
 ·simp only[RL.newOb,List.length_replicate];omega
theorem Sl.zeros {g n:Nat} (h:At w g (rowZ [Value.int .i64 0] n)):Sl w 1 (.slice (some ⟨g,0,none⟩) n n) n (ints (List.replicate n 0)) [g]:=by
 rw[rowZ_one,ints_rep]at h
 exact Sl.mk1 (ys:=[]) (by simpa using h) (by simp[ints]) (by simp[ints])
theorem fPlace {b:Nat} {fp:List Nat} (h:FM w b s fp) (x:Int) (sh:Sh) (hx:x≤4611686018427387904) (hborn:s.born≤4611686018427387900) (hl:s.O.length<2048):
  Cs Tryz.prog 161 [.pointer (some ⟨b,0,none⟩),.int .i64 x,.agg ⟨shV sh⟩] w fun v w'=>v=.tuple #[.int .i64 (s.placeR x sh).1,.int .i64 (s.placeR x sh).2]∧Only fp w w'∧ ∃fp',FM w' b (s.placeM x sh) fp'∧ ∀y,y∈fp'→y∈fp∨w.heap.size≤y:=by
 have h00:=h
 obtain⟨vB,vO,vF,fB,fO,fF,L,hfp,hm⟩:=h
 have hbl:=hm.hb.lt
 have bad: ∀e:Int,s.placeR x sh=(0,e)→e≠0→s.placeM x sh=s:=fun e h1 h2=>by unfold RL.placeM;rw[h1,if_neg h2]
 refine enter_ref02_Heap_Place rfl ?_
 unfold x_ref02_Heap_Place
 refine gO ?_
 refine boxT fun q w1 hq hs1 hat1 ho1=>?_
 refine gO ?_
 refine callT0 (fMade (h00.keep0 ho1)) ?_
 have hcq: ∀w2,Only [] w1 w2→cellsAt w2 ⟨q,0,none⟩ 3=some (shV sh):=fun w2 k=>cellsAt_at (hat1.keep0 k) 0 3 (by simp[shV])
 (repeat(first|with_reducible(first|refine nx ?_|refine r_6 rfl ?_)|simp only[go_sem,hcq w1 (Only.refl _ _)]))
 refine callT1 (fValid w1 sh) fun w2 ho2=>?_
 cases hv:validS sh with
 |false=>
  have hR:s.placeR x sh=(0,2):=by unfold RL.placeR;rw[if_pos hv]
  refine gO ?_
  rw[hR,bad 2 hR (by omega)]
  exact⟨rfl,(ho1.nil ho2).of_nil,fp,h00.keep0 (ho1.nil ho2),fun y hy=>.inl hy⟩
 |true=>
  (repeat(first|with_reducible(first|refine nx ?_|refine r_6 rfl ?_)|simp only[go_sem,hcq w2 ho2]))
  refine callT1 (fFits (h00.keep0 (ho1.nil ho2)) x sh 0 hx hv) fun w3 ho3=>?_
  have o3:=(ho1.nil ho2).nil ho3
  by_cases he:s.fitsR x sh 0=0
  rotate_left
  ·have hR:s.placeR x sh=(0,s.fitsR x sh 0):=by unfold RL.placeR;rw[if_neg (by simp[hv]),if_pos he]
   refine gO1 (bnt he) ?_
   rw[hR,bad _ hR he]
   exact⟨rfl,o3.of_nil,fp,h00.keep0 o3,fun y hy=>.inl hy⟩
  have hR:s.placeR x sh=(((s.born+1:Nat):Int),0):=by unfold RL.placeR;rw[if_neg (by simp[hv]),if_neg (by simp[he])]
  have hM:s.placeM x sh= {s with born:=s.born+1}.putM (s.newOb x sh):=by unfold RL.placeM;rw[hR,if_pos rfl]
  have hv':=hv
  simp only[validS,Bool.and_eq_true,decide_eq_true_eq]at hv'
  have hm3:=hm.keep0 o3
  obtain⟨n1,n2,n3,n4,n5,n6,n7,n8⟩:=nd4 hm.nd
  have e1:IntKind.i64.wrap ((s.born:Int)+1)=((s.born+1:Nat):Int):=i64_succ _ (by omega)
  refine gO3 (bnf he) hm3.hb.cell e1 ?_
  refine stT hm3.hb (by simp) rfl fun w4 hs4 hb4 ho4=>?_
  simp only[List.set_cons_zero,List.set_cons_succ]at hb4
  have hm4:FMs w4 b {s with born:=s.born+1} vB vO vF fB fO fF L:=
   ⟨⟨hm.ok.b2,hm.ok.b64,hm.ok.ol,hm.ok.ob⟩,hb4,hm3.hB.keep ho4 fun y hy=>off1 (n1 y (.inl hy)),hm3.hO.keep ho4 fun y hy=>off1 (n1 y (.inr (.inl hy))),hm3.hF.keep ho4 fun y hy=>off1 (n1 y (.inr (.inr (.inl hy)))),hm.eq,
    fun m hm'=>(hm3.om m hm').keep ho4 fun y hy=>off1 (n1 y (.inr (.inr (.inr (mem_omF hm' hy))))),hm.nd⟩
  have hqb:q≠b:=by omega
  have hat4:At w4 q (shV sh):=(hat1.keep0 (ho2.nil ho3)).keep ho4 (off1 hqb)
  have hat4':At w4.drew q [.int .i64 sh.1,.int .i64 sh.2.1,.int .i64 sh.2.2]:=hat4.drew
  have hc4:cellsAt w4.drew ⟨q,0,none⟩ 3=some (shV sh):=cellsAt_at hat4.drew 0 3 (by simp[shV])
  have hb4l:=hb4.lt
  have hq4l:=hat4.lt
  have o4:Only [b] w w4:=o3.of_nil.same ho4
  have hsb: ∀z,z∈[b,q]→z<w4.drew.heap.size∧z∉([]:List Nat):=fun z hz=>⟨by show z<w4.heap.size;simp only[List.mem_cons,List.not_mem_nil,or_false]at hz;rcases hz with rfl|rfl;exact hb4l;exact hq4l,by simp⟩
  obtain⟨r,hr⟩: ∃r:Nat,sh.1=r:=⟨sh.1.toNat,by omega⟩
  obtain⟨d,hd⟩: ∃d:Nat,sh.2.1=d:=⟨sh.2.1.toNat,by omega⟩
  have hnew:s.newOb x sh=⟨x,((s.born+1:Nat):Int),sh,List.replicate r 0,List.replicate d 0,false⟩:=by unfold RL.newOb;rw[hr,hd];rfl
  -- what follows when both slices are there
  have fin: ∀(w7:World) (gr gd:Nat),Only [] w4 w7→w4.heap.size≤gr→w4.heap.size≤gd→gr≠gd→At w7 gr (rowZ [Value.int .i64 0] r)→At w7 gd (rowZ [Value.int .i64 0] d)→
    Cs Tryz.prog 234 [.pointer (some ⟨b,0,none⟩),.agg ⟨obV (s.newOb x sh) (.slice (some ⟨gr,0,none⟩) r r) (.slice (some ⟨gd,0,none⟩) d d)⟩] w7 fun v w'=>v=.tuple #[]∧Only fp w w'∧ ∃fp',FM w' b (s.placeM x sh) fp'∧ ∀y,y∈fp'→y∈fp∨w.heap.size≤y:=by
   intro w7 gr gd ho7 h1 h2 hne hgr hgd
   have hm7:=hm4.keep0 ho7
   have hlt7:=hm4.lt
   have hw0:=o4.size
   refine Cs.mono (fPut hm7 ⟨s.newOb x sh,.slice (some ⟨gr,0,none⟩) r r,.slice (some ⟨gd,0,none⟩) d d,[gr],[gd]⟩ (newOb_ok (s:=s) hm.ok.b64 hv he) hl ⟨?_,?_⟩ (by simpa using hne) ?_) ?_
   ·rw[hnew];simpa using Sl.zeros hgr
   ·rw[hnew];simpa using Sl.zeros hgd
   ·intro y hy
    have:w4.heap.size≤y:=by simp only[List.cons_append,List.nil_append,List.mem_cons,List.not_mem_nil,or_false]at hy;omega
    intro h
    have:=hlt7 y h
    omega
   ·rintro v w8 ⟨rfl,ho8,fp',hF,hsub⟩
    have o8:Only [b] w w8:=(o4.nil ho7).same ho8
    refine⟨rfl,o8.mono fun y hy=>.inl (by rw[hfp];simp only[lms]at hy;simp[hy]),fp',by rw[hM];exact hF,fun y hy=>?_⟩
    rcases hsub y hy with h|h|h
    ·left;rw[hfp];exact h
    ·right;simp only[List.cons_append,List.nil_append,List.mem_cons,List.not_mem_nil,or_false]at h;omega
    ·right;have:=ho7.size;omega
  have hbld: ∀gr gd:Nat,aggO (fillL [Value.int .i64 0,.int .i64 0,.int .i64 0,.int .i64 0,.int .i64 0,.slice none 0 0,.slice none 0 0,.bool false] [(0,1,.int .i64 x),(1,1,.int .i64 ((s.born+1:Nat):Int)),(2,3,.agg ⟨shV sh⟩),(5,1,.slice (some ⟨gr,0,none⟩) r r),(6,1,.slice (some ⟨gd,0,none⟩) d d)])=some (.agg ⟨obV (s.newOb x sh) (.slice (some ⟨gr,0,none⟩) r r) (.slice (some ⟨gd,0,none⟩) d d)⟩):=fun gr gd=>by
   rw[fillL_one rfl rfl,fillL_one rfl rfl,fillL_ag (n:=3) rfl rfl,fillL_one rfl rfl,fillL_one rfl rfl]
   rfl
  refine gO ?_
  refine run_cut (29::30::31::32::33::34::35::36::37::38::39::40::41::42::43::[]) (fun _ w'=>Only fp w w'∧ ∃fp',FM w' b (s.placeM x sh) fp'∧ ∀y,y∈fp'→y∈fp∨w.heap.size≤y) (fun kk hkk=>?_) (fun g w8 hJ=>?_)
  ·have h40:(Value.int .i64 ((0:Nat):Int))=.int .i64 0:=rfl
   refine run_drt [b,q] ?_
   refine gO5 hb4.drew.cell hc4 hat4'.cell hr hd ?_
   refine⟨?_,?_⟩
   ·refine mksS (Nat.le_refl _) (by omega) (by omega) fun gr w5 hgr hs5 h5 ho5=>⟨.inr ((SB.refl _ _).only ho5 hsb),?_⟩
    refine gO ?_
    refine mksS (Nat.le_refl _) (by omega) (by omega) fun gd w6 hgd hs6 h6 ho6=>⟨.inr (((SB.refl _ _).only ho5 hsb).only ho6 fun z hz=>⟨by have:=(hsb z hz).1;omega,by simp⟩),?_⟩
    refine gO1 hbld ?_
    refine callS (fin w6 gr gd (((Only.drew [] w4).nil ho5).nil ho6) (by rw[hgr];exact Nat.le_refl _) (by rw[hgd,hs5];exact Nat.le_succ _) (by omega) (h5.keep0 ho6) h6) fun v w7 hR7=>⟨.inl rfl,?_⟩
    refine gO ?_
    refine hkk _ w7 hR7.2
   ·refine mksS (Nat.le_refl _) (by omega) (by omega) fun gd w5 hgd hs5 h5 ho5=>⟨.inr ((SB.refl _ _).only ho5 hsb),?_⟩
    refine gO ?_
    refine mksS (Nat.le_refl _) (by omega) (by omega) fun gr w6 hgr hs6 h6 ho6=>⟨.inr (((SB.refl _ _).only ho5 hsb).only ho6 fun z hz=>⟨by have:=(hsb z hz).1;omega,by simp⟩),?_⟩
    refine gO1 hbld ?_
    refine callS (fin w6 gr gd (((Only.drew [] w4).nil ho5).nil ho6) (by rw[hgr,hs5];exact Nat.le_succ _) (by rw[hgd];exact Nat.le_refl _) (by omega) h6 (h5.keep0 ho6)) fun v w7 hR7=>⟨.inl rfl,?_⟩
    refine gO ?_
    refine hkk _ w7 hR7.2
  obtain⟨ho8,fp',hF,hsub⟩:=hJ
  have hcb:w8.cell? ⟨b,3,none⟩=some (.int .i64 ((s.born+1:Nat):Int)):=by
   rw[hM]at hF
   obtain⟨_,_,_,_,_,_,_,_,hF'⟩:=hF
   rw[hF'.hb.cell];rfl
  refine gO1 hcb ?_
  rw[hR]
  exact⟨rfl,ho8,fp',hF,hsub⟩
theorem fNew (w:World) (n:Int) (h1:2≤n) (h2:n≤64):Cs Tryz.prog 81 [.int .i64 n] w fun v w'=>Only [] w w'∧ ∃b fp,v=.tuple #[.pointer (some ⟨b,0,none⟩),.int .i64 0]∧FM w' b ⟨List.replicate n.toNat (0,0),[],[],0⟩ fp∧ ∀y,y∈fp→w.heap.size≤y:=by
 obtain⟨k,rfl⟩: ∃k:Nat,n=k:=⟨n.toNat,by omega⟩
 refine enter_ref02_New rfl ?_
 unfold x_ref02_New
 refine gO2 (dfl (show¬(k:Int)<2 by omega)) (dfl (show¬(64:Int)<(k:Int) by omega)) ?_
 refine mksT (Nat.le_refl _) (by omega) (by omega) fun g w1 hg hs1 hat1 ho1=>?_
 rw[rowZ_blk]at hat1
 refine gO ?_
 rw[fillL_one rfl rfl]
 refine gO ?_
 refine boxT fun b w2 hb hs2 hat2 ho2=>?_
 refine gO ?_
 have hat2':At w2 b [.slice (some ⟨g,0,none⟩) k k,.slice none 0 0,.slice none 0 0,.int .i64 ((0:Nat):Int)]:=hat2
 obtain⟨T,hT⟩:=hat1.keep0 ho2
 refine⟨ho1.nil ho2,b,_,rfl,⟨.slice (some ⟨g,0,none⟩) k k,.slice none 0 0,.slice none 0 0,[g],[],[],[],rfl,⟨⟨by simp;omega,by simp;omega,by simp,by simp⟩,hat2',?_,Sl.nil8 _,⟨rfl,.inl ⟨rfl,rfl,rfl⟩⟩,rfl,by simp,?_⟩⟩,?_⟩
 ·refine⟨by rw[blkV_len];simp;omega,.inr ⟨g,k,[],T,by simp,rfl,by simpa using hT,?_,by simp⟩⟩
  rw[List.append_nil,blkV_len];simp;omega
 ·simp[omF];omega
 ·intro y hy;simp[omF]at hy;omega
end
section
variable {fF fO fp:List Nat} {L:List OM} {b:Nat} {s:RL} {vF vO:Value} {w:World}
def RL.claimE (s:RL) (b sp:Int):Int:=if¬(1≤b∧b<s.B.length)∨spaceB sp=false then 1 else if(s.B.getD b.toNat (0,0)).1≠0 then 8 else 0
def RL.claimM (s:RL) (b sp:Int):RL:=if s.claimE b sp=0 then {s with B:=s.B.set b.toNat (1,sp)}else s
def RL.claimLE (s:RL) (b n sp:Int):Int:=if¬(1≤b∧b<s.B.length)∨n<1∨(s.B.length:Int)-b<n∨spaceB sp=false then 1 else if(List.range n.toNat).any (fun j=>(s.B.getD (b.toNat+j) (0,0)).1 !=0)then 8 else 0
def RL.claimLM (s:RL) (b n sp:Int):RL:=if s.claimLE b n sp=0 then {s with B:=(fillB s.B b.toNat (3,sp) n.toNat).set b.toNat (2,sp)}else s
theorem FMs.setB {w':World} {g cap:Nat} {ys:List Value} (h:FMs w b s (.slice (some ⟨g,0,none⟩) s.B.length cap) vO vF [g] fO fF L) (hc:s.B.length≤cap) (hcap:(blkV s.B++ys).length=cap*2) {B':List (Int×Int)} (hl:B'.length=s.B.length) (hat:At w' g (blkV B'++ys)) (ho:Only [g] w w'):
  FMs w' b {s with B:=B'} (.slice (some ⟨g,0,none⟩) s.B.length cap) vO vF [g] fO fF L:=by
 obtain⟨n1,n2,n3,n4,n5,n6,n7,n8⟩:=nd4 h.nd
 obtain⟨m1,m2,m3⟩:=n2 g (by simp)
 obtain⟨T,hT⟩:=hat
 refine⟨⟨by rw[hl];exact h.ok.b2,by rw[hl];exact h.ok.b64,h.ok.ol,fun o ho=>by simp only[hl];exact h.ok.ob o ho⟩,h.hb.keep ho (off1 (n1 g (by simp)).symm),?_,h.hO.keep ho fun y hy=>off1 (fun e=>m1 (e▸hy)),h.hF.keep ho fun y hy=>off1 (fun e=>m2 (e▸hy)),h.eq,fun m hm=>(h.om m hm).keep ho fun y hy=>off1 (fun e=>m3 (e▸mem_omF hm hy)),h.nd⟩
 refine⟨by rw[blkV_len];simp only;omega,.inr ⟨g,cap,ys,T,by simp only[hl],rfl,hT,?_,by simp only;omega⟩⟩
 rw[←hcap,lla,lla,blkV_len,blkV_len,hl]
theorem FMs.blkC {vB:Value} {fB:List Nat} (h:FMs w b s vB vO vF fB fO fF L): ∃g cap ys,vB=.slice (some ⟨g,0,none⟩) s.B.length cap∧At w g (blkV s.B++ys)∧fB=[g]∧s.B.length≤cap∧(blkV s.B++ys).length=cap*2:=by
 rcases h.hB.2 with⟨_,h0,_⟩|⟨g,cap,ys,T,h1,h2,h3,h4,h5⟩
 ·have:=h.ok.b2;omega
 ·exact⟨g,cap,ys,h1,⟨T,h3⟩,h2,h5,h4⟩
theorem fClaim (h:FM w b s fp) (k sp:Int):Cs Tryz.prog 230 [.pointer (some ⟨b,0,none⟩),.int .i64 k,.int .i64 sp] w fun v w'=>v=.int .i64 (s.claimE k sp)∧FM w' b (s.claimM k sp) fp∧Only fp w w':=by
 have bad: ∀e:Int,e≠0→s.claimE k sp=e→(Value.int .i64 e=.int .i64 (s.claimE k sp)∧FM w b (s.claimM k sp) fp∧Only fp w w):=fun e he h1=>by
  refine⟨by rw[h1],?_,Only.refl _ _⟩
  unfold RL.claimM
  rw[if_neg (by rw[h1];exact he)];exact h
 obtain⟨vB,vO,vF,fB,fO,fF,L,hfp,hm⟩:=id h
 obtain⟨g,cap,ys,rfl,hat,rfl,hc,hcap⟩:=hm.blkC
 refine enter_ref02_Heap_Claim rfl ?_
 unfold x_ref02_Heap_Claim
 refine gO ?_
 refine callT0 (fMade h) ?_
 refine gO ?_
 refine callT0 (fBlock h k) ?_
 by_cases c1:1≤k∧k<s.B.length
 rotate_left
 ·have e:(decide (1≤k)&&decide (k<(s.B.length:Int)))=false:=by simp only[Bool.and_eq_false_iff,decide_eq_false_iff_not];omega
  refine gO1 e ?_
  have h1:s.claimE k sp=1:=by unfold RL.claimE;rw[if_pos (.inl c1)]
  have:=bad 1 (by omega) h1
  simpa using this
 have e:(decide (1≤k)&&decide (k<(s.B.length:Int)))=true:=by simp only[Bool.and_eq_true,decide_eq_true_eq];exact c1
 refine gO1 e ?_
 refine callT0 (fSpaceB w sp) ?_
 cases hs:spaceB sp with
 |false=>
  refine gO ?_
  have h1:s.claimE k sp=1:=by unfold RL.claimE;rw[if_pos (.inr hs)]
  have:=bad 1 (by omega) h1
  simpa using this
 |true=>
  obtain⟨i,rfl⟩: ∃i:Nat,k=i:=⟨k.toNat,by omega⟩
  have hi:i<s.B.length:=by omega
  have e1:(0:Int)≤(i:Int)∧(i:Int)<(s.B.length:Int):=⟨by omega,by omega⟩
  have hE:s.claimE (i:Int) sp=if(s.B.getD i (0,0)).1≠0 then 8 else 0:=by
   unfold RL.claimE
   rw[if_neg (by simp[hs];omega)];rfl
  by_cases c2:(s.B.getD i (0,0)).1=0
  rotate_left
  ·(repeat(first|with_reducible(first|refine nx ?_|refine r_6 rfl ?_)|simp only[go_sem,hm.hb.cell,hat.cell,if_pos e1,tnc,(blk_at ys hi).1,bnt c2]))
   have:=bad 8 (by omega) (by rw[hE,if_pos c2])
   simpa using this
  rw[if_neg (fun h=>h c2)]at hE
  (repeat(first|with_reducible(first|refine nx ?_|refine r_6 rfl ?_)|simp only[go_sem,hm.hb.cell,hat.cell,if_pos e1,tnc,(blk_at ys hi).1,bnf c2]))
  rw[fillL_one rfl rfl,fillL_one rfl rfl]
  refine gJ1 (eq_true e1) ?_
  refine stNT (cs:=bV (1,sp)) hat rfl (by rw[lla,blkV_len];omega) (bV_one _) fun w2 hs2 hat2 ho2=>?_
  rw[blkV_set ys hi]at hat2
  refine gO ?_
  rw[hE]
  refine⟨rfl,?_,ho2.mono fun y hy=>.inl (by rw[hfp];simp only[lms]at hy;simp[hy])⟩
  unfold RL.claimM
  rw[if_pos hE]
  exact⟨_,_,_,_,_,_,_,hfp,hm.setB hc hcap (by simp) hat2 ho2⟩
theorem fClaimLarge (h:FM w b s fp) (k n sp:Int) (hk:k≤4611686018427387904) (hn:n≤4611686018427387904):Cs Tryz.prog 228 [.pointer (some ⟨b,0,none⟩),.int .i64 k,.int .i64 n,.int .i64 sp] w fun v w'=>v=.int .i64 (s.claimLE k n sp)∧FM w' b (s.claimLM k n sp) fp∧Only fp w w':=by
 have bad: ∀e:Int,e≠0→s.claimLE k n sp=e→(Value.int .i64 e=.int .i64 (s.claimLE k n sp)∧FM w b (s.claimLM k n sp) fp∧Only fp w w):=fun e he h1=>by
  refine⟨by rw[h1],?_,Only.refl _ _⟩
  unfold RL.claimLM
  rw[if_neg (by rw[h1];exact he)];exact h
 obtain⟨vB,vO,vF,fB,fO,fF,L,hfp,hm⟩:=id h
 obtain⟨g,cap,ys,rfl,hat,rfl,hc,hcap⟩:=hm.blkC
 have hB:=hm.ok.b64
 refine enter_ref02_Heap_ClaimLarge rfl ?_
 unfold x_ref02_Heap_ClaimLarge
 refine gO ?_
 refine callT0 (fMade h) ?_
 refine gO ?_
 refine callT0 (fBlock h k) ?_
 by_cases c1:1≤k∧k<s.B.length
 rotate_left
 ·have e:(decide (1≤k)&&decide (k<(s.B.length:Int)))=false:=by simp only[Bool.and_eq_false_iff,decide_eq_false_iff_not];omega
  refine gO1 e ?_
  have:=bad 1 (by omega) (by unfold RL.claimLE;rw[if_pos (.inl c1)])
  simpa using this
 have e:(decide (1≤k)&&decide (k<(s.B.length:Int)))=true:=by simp only[Bool.and_eq_true,decide_eq_true_eq];exact c1
 by_cases c2:n<1
 ·refine gO2 e (dtr c2) ?_
  have:=bad 1 (by omega) (by unfold RL.claimLE;rw[if_pos (.inr (.inl c2))])
  simpa using this
 have e2:IntKind.i64.wrap ((s.B.length:Int)-k)=(s.B.length:Int)-k:=IntWalk.i64_in _ (by omega)
 by_cases c3:(s.B.length:Int)-k<n
 ·refine gO5 e (dfl c2) hm.hb.cell e2 (dtr c3) ?_
  have:=bad 1 (by omega) (by unfold RL.claimLE;rw[if_pos (.inr (.inr (.inl c3)))])
  simpa using this
 refine gO5 e (dfl c2) hm.hb.cell e2 (dfl c3) ?_
 refine callT0 (fSpaceB w sp) ?_
 cases hs:spaceB sp with
 |false=>
  refine gO ?_
  have:=bad 1 (by omega) (by unfold RL.claimLE;rw[if_pos (.inr (.inr (.inr hs)))])
  simpa using this
 |true=>
  obtain⟨i,rfl⟩: ∃i:Nat,k=i:=⟨k.toNat,by omega⟩
  obtain⟨m,rfl⟩: ∃m:Nat,n=m:=⟨n.toNat,by omega⟩
  have hE:s.claimLE (i:Int) (m:Int) sp=if(List.range m).any (fun j=>(s.B.getD (i+j) (0,0)).1 !=0)then 8 else 0:=by
   unfold RL.claimLE
   rw[if_neg (by simp[hs];omega)];rfl
  have e3:IntKind.i64.wrap ((i:Int)+(m:Int))=((i+m:Nat):Int):=by rw[IntWalk.i64_in _ (by omega)];omega
  refine gO ?_
  refine run_loop (9::39::40::41::42::43::44::45::46::47::48::49::50::51::52::53::54::[]) (fun g' w'=> ∃j:Nat,g' 9=.int .i64 ((i+j:Nat):Int)∧j≤m∧(∀t,t<j→(s.B.getD (i+t) (0,0)).1=0)∧w'=w) (fun g' _=>upTo (i+m) 9 g')
   ⟨0,by simp only[go_sem],by omega,fun j hj=>absurd hj (by omega),rfl⟩ fun g' w1 hI hnext=>?_
  obtain⟨j,h9,hj,hno,rfl⟩:=hI
  refine gO2 h9 e3 ?_
  refine condT (fun hlt=>?_) (fun hge=>?_)
  ·have hlt:j<m:=by
    have:((i+j:Nat):Int)<((i+m:Nat):Int):=by simpa using hlt
    omega
   have hij:i+j<s.B.length:=by omega
   have e4:(0:Int)≤((i+j:Nat):Int)∧((i+j:Nat):Int)<(s.B.length:Int):=⟨by omega,by omega⟩
   by_cases c4:(s.B.getD (i+j) (0,0)).1=0
   rotate_left
   ·(repeat(first|with_reducible(first|refine nx ?_|refine r_6 rfl ?_)|simp only[go_sem,h9,hm.hb.cell,hat.cell,if_pos e4,tnc,(blk_at ys hij).1,bnt c4]))
    have:=bad 8 (by omega) (by rw[hE,if_pos];exact List.any_eq_true.2 ⟨j,List.mem_range.2 hlt,by simpa using c4⟩)
    simpa using this
   (repeat(first|with_reducible(first|refine nx ?_|refine r_6 rfl ?_)|simp only[go_sem,h9,hm.hb.cell,hat.cell,if_pos e4,tnc,(blk_at ys hij).1,bnf c4,i64_succ (i+j) (by omega)]))
   refine hnext _ w1 ⟨j+1,?_,by omega,fun t ht=>?_,rfl⟩ ?_
   ·simp only[go_sem];rfl
   ·by_cases e:t=j
    ·subst e;exact c4
    ·exact hno t (by omega)
   ·rw[upTo_int h9,upTo_int (k:=.i64) (i:=i+(j+1)) (by simp only[go_sem];rfl)];omega
  have hge: ¬j<m:=by
   have: ¬((i+j:Nat):Int)<((i+m:Nat):Int):=by simpa using hge
   omega
  have hE0:s.claimLE (i:Int) (m:Int) sp=0:=by
   rw[hE,if_neg]
   intro hany
   obtain⟨t,ht,h2⟩:=List.any_eq_true.1 hany
   have:=hno t (by have:=List.mem_range.1 ht;omega)
   rw[this]at h2;cases h2
  clear hnext
  refine gO ?_
  refine run_loop (10::56::57::58::59::60::61::62::63::64::65::66::67::68::69::70::[]) (fun g' w'=> ∃t:Nat,g' 10=.int .i64 ((i+t:Nat):Int)∧t≤m∧At w' g (blkV (fillB s.B i (3,sp) t)++ys)∧Only [g] w1 w') (fun g' _=>upTo (i+m) 10 g')
   ⟨0,by simp only[go_sem],by omega,hat,Only.refl _ _⟩ fun g' w2 hI hnext=>?_
  obtain⟨t,h10,ht,hat2,ho2⟩:=hI
  obtain⟨n1,_⟩:=nd4 hm.nd
  have hb2:=hm.hb.keep ho2 (off1 (n1 g (by simp)).symm)
  have hfl:(fillB s.B i (3,sp) t).length=s.B.length:=fillB_len _ _ _ _
  refine gO2 h10 e3 ?_
  refine condT (fun hlt=>?_) (fun hge2=>?_)
  ·have hlt:t<m:=by
    have:((i+t:Nat):Int)<((i+m:Nat):Int):=by simpa using hlt
    omega
   have e4:(0:Int)≤((i+t:Nat):Int)∧((i+t:Nat):Int)<(s.B.length:Int):=⟨by omega,by omega⟩
   refine gJ3 h10 hb2.cell (eq_true e4) ?_
   rw[fillL_one rfl rfl,fillL_one rfl rfl]
   refine gJ1 (eq_true e4) ?_
   refine stNT (cs:=bV (3,sp)) hat2 rfl (by rw[lla,blkV_len,hfl];omega) (bV_one _) fun w3 hs3 hat3 ho3=>?_
   rw[blkV_set ys (by rw[hfl];omega)]at hat3
   refine gO2 h10 (i64_succ (i+t) (by omega)) ?_
   refine hnext _ w3 ⟨t+1,?_,by omega,hat3,ho2.same ho3⟩ ?_
   ·simp only[go_sem];rfl
   ·rw[upTo_int h10,upTo_int (k:=.i64) (i:=i+(t+1)) (by simp only[go_sem];rfl)];omega
  have hge2: ¬t<m:=by
   have: ¬((i+t:Nat):Int)<((i+m:Nat):Int):=by simpa using hge2
   omega
  have:t=m:=by omega
  subst this
  have e4:(0:Int)≤(i:Int)∧(i:Int)<(s.B.length:Int):=⟨by omega,by omega⟩
  have hsnd:((fillB s.B i (3,sp) t).getD i (0,0)).2=sp:=by
   have: ∀t,0<t→(fillB s.B i (3,sp) t).getD i (0,0)=(3,sp):=by
    intro t
    induction t with
    |zero=>intro h;omega
    |succ t ih=>
     intro _
     unfold fillB
     cases t with
     |zero=>rw[Nat.add_zero,getD_set_eq (by rw[fillB_len];omega)]
     |succ t=>rw[getD_set_ne' (by omega)];exact ih (by omega)
   rw[this t (by omega)]
  refine gJ2 hb2.cell (eq_true e4) ?_
  refine stT hat2 (by rw[lla,blkV_len,hfl];omega) rfl fun w3 hs3 hat3 ho3=>?_
  have hset:(blkV (fillB s.B i (3,sp) t)++ys).set (i*2) (.int .i64 2)=blkV ((fillB s.B i (3,sp) t).set i (2,sp))++ys:=by
   rw[←blkV_set ys (show i<(fillB s.B i (3,sp) t).length by rw[hfl];omega)]
   have h2:=(blk_at ys (show i<(fillB s.B i (3,sp) t).length by rw[hfl];omega)).2
   rw[hsnd]at h2
   simp only[bV,setL]
   refine(List.ext_getElem? fun j=>?_).symm
   rw[List.getElem?_set]
   by_cases e:i*2+1=j
   ·subst e
    have hlt:i*2+1<(blkV (fillB s.B i (3,sp) t)++ys).length:=by rw[lla,blkV_len,hfl];omega
    rw[if_pos rfl,if_pos (by rw[List.length_set];exact hlt),List.getElem?_set_ne (by omega),h2]
   ·rw[if_neg e]
  rw[hset]at hat3
  refine gO ?_
  rw[hE0]
  have o3:=ho2.same ho3
  refine⟨rfl,?_,o3.mono fun y hy=>.inl (by rw[hfp];simp only[lms]at hy;simp[hy])⟩
  unfold RL.claimLM
  rw[if_pos hE0]
  exact⟨_,_,_,_,_,_,_,hfp,hm.setB hc hcap (by simp[fillB_len]) hat3 o3⟩
end
end Go.Proofs.YteiildhelefodaaGreat
