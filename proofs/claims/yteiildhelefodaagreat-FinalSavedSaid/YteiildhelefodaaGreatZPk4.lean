/- What the walks need, joined: FnH, FnI, FnJ, FnK, FnL, FnM, SlW, FnN, FnO, FnP, FnQ, FnR, FnS, FnT, FnU, FnV, FnW, FnX, FoA, FoB, FnY, FoC, FoE, LwL, ScE, LwK, FoD, FoF, FoJ, LwI, FoK, FoL -/
import Derived.Test.YteiildhelefodaaGreatZPk3
set_option linter.unusedSimpArgs false
set_option linter.unusedVariables false
namespace Go.Proofs.YteiildhelefodaaGreat
set_option maxRecDepth 100000
section
variable {caps:Array Value} {p:Int→Bool} {xs:List Int} {F cap:Nat} {w:World}
def FstP (p:Int→Bool) (xs:List Int) (k:Int):Prop:=(k= -1∧xs.any p=false)∨ ∃i:Nat,k=(i:Int)∧i<xs.length∧p (xs.getD i 0)=true∧(xs.take i).any p=false
theorem indexFuncX {a:Option Addr} (hs:xs≠ []→ ∃s rest,a=some ⟨s,0,none⟩∧At w s (ints xs++rest)) (hok:okF Tryz.prog F=true)
  (hlen:xs.length≤4000) (hF: ∀w' x,Only [] w w'→x∈xs→Cs Tryz.prog F ([.int .i64 x]++caps.toList) w' fun v w''=>v=.bool (p x)∧Only [] w' w''):
  Cs Tryz.prog 140 [.slice a xs.length cap,.func (.func F) #[] caps] w fun v w'=>(∃k:Int,v=.int .i64 k∧FstP p xs k)∧Only [] w w':=by
 refine enter_slices_IndexFunc___int_int_ rfl ?_
 unfold x_slices_IndexFunc___int_int_
 refine gO ?_
 refine run_loop [5,8,9,10,11,12,13,14,15,16,18] (fun g w'=> ∃i:Nat,g 8=.int .i64 i∧i≤xs.length∧(xs.take i).any p=false∧Only [] w w') (fun g _=>upTo xs.length 8 g) ⟨0,by simp only[go_sem];rfl,by omega,by simp,Only.refl _ _⟩ fun g w' hI hnext=>?_
 obtain⟨i,h8,hi,hany,ho⟩:=hI
 by_cases hlt:i<xs.length
 rotate_left
 ·refine gO2 h8 (dfl (show¬(i:Int)<(xs.length:Int) by omega)) ?_
  rw[List.take_of_length_le (by omega)]at hany
  exact⟨⟨-1,rfl,.inl ⟨rfl,hany⟩⟩,ho⟩
 obtain⟨s,rest,rfl,hat⟩:=hs (by intro e;subst e;simp at hlt)
 have c1:(0:Int)≤(i:Int)∧(i:Int)<(xs.length:Int):=⟨by omega,by omega⟩
 (repeat(first|with_reducible(first|refine nx ?_|refine r_6 rfl ?_)|simp only[go_sem,h8,dtr c1.2,if_pos c1,(hat.keep0 ho).cell,ints_append_get rest hlt,tnc,Nat.mul_one]))
 have hF':Cs Tryz.prog F ((#[]:Array Value).toList++[.int .i64 (xs.getD i 0)]++caps.toList) w' fun v w''=>v=.bool (p (xs.getD i 0))∧Only [] w' w'':=by
  have:=hF w' (xs.getD i 0) ho (by simp[hlt])
  simpa using this
 refine callVT (callVals_f F #[] [.int .i64 (xs.getD i 0)] caps) hok hF' ?_
 rintro v w2 ⟨rfl,ho2⟩
 refine gO ?_
 refine condT (fun hp=>?_) (fun hp=>?_)
 ·refine gO ?_
  exact⟨⟨i,rfl,.inr ⟨i,rfl,hlt,hp,hany⟩⟩,ho.nil ho2⟩
 ·refine gO2 h8 (i64_succ i (by omega)) ?_
  refine hnext _ w2 ⟨i+1,?_,by omega,by rw[any_take_succ hlt,hany,hp];rfl,ho.nil ho2⟩ ?_
  ·simp only[go_sem]
  ·exact up_lt h8
theorem slcO_h {size n h:Nat} {k:IntKind} {g:Nat} (h1:h≤cap):slcO size (.slice (some ⟨g,0,none⟩) n cap) none (some (.int k (h:Int)))=some (.slice (some ⟨g,0,none⟩) h cap):=by
 have e2:(0:Int)≤(h:Int)∧(h:Int)≤(cap:Int):=by omega
 have e3:(⟨g,0,none⟩:Addr).add (0*size)=⟨g,0,none⟩:=by rw[addr_add];simp
 simp[slcO,boundO,e2]
 intro _
 rw[addr_add]
theorem filt_succ {i:Nat} (h:i<xs.length):(xs.take (i+1)).filter p=(xs.take i).filter p++if p (xs.getD i 0)then [xs.getD i 0]else []:=by
 rw[List.take_succ_eq_append_getElem h,List.filter_append]
 congr 1
 simp[List.filter_cons,h]
theorem deleteFunc {v0:Value} {fq:List Nat} (hsl:Sl w 1 v0 xs.length (ints xs) fq) (hok:okF Tryz.prog F=true)
  (hlen:xs.length≤4000) (hF: ∀w' x,Only fq w w'→x∈xs→Cs Tryz.prog F ([.int .i64 x]++caps.toList) w' fun v w''=>v=.bool (p x)∧Only [] w' w''):
  Cs Tryz.prog 59 [v0,.func (.func F) #[] caps] w fun v w'=>Only fq w w'∧Sl w' 1 v (xs.filter fun x=>!p x).length (ints (xs.filter fun x=>!p x)) fq:=by
 obtain⟨a0,cap,rfl⟩:=hsl.val
 refine enter_slices_DeleteFunc___int_int_ rfl ?_
 unfold x_slices_DeleteFunc___int_int_
 refine gO ?_
 refine callT (indexFuncX (p:=p) (fun hne=>?_) hok hlen fun w' x ho hx=>hF w' x (ho.mono (by simp)) hx) ?_
 ·obtain⟨g,cap',ys,e,hat,_⟩:=hsl.pos (List.length_pos_iff.2 hne)
  cases e
  exact⟨g,ys,rfl,hat⟩
 rintro _ w1 ⟨⟨k,rfl,hk⟩,ho1⟩
 rcases hk with⟨rfl,hk⟩|⟨i0,rfl,hi0,hp0,hk0⟩
 ·refine gO ?_
  have e:(xs.filter fun x=>!p x)=xs:=List.filter_eq_self.2 fun x hx=>by
   have:=List.any_eq_false.1 hk x hx
   simpa using this
  rw[e]
  exact⟨ho1.mono (by simp),hsl.keep0 ho1⟩
 obtain⟨g,ys,e,hat,rfl,hcl⟩: ∃g ys,a0=some ⟨g,0,none⟩∧At w g (ints xs++ys)∧fq=[g]∧(ints xs++ys).length=cap:=by
  rcases hsl.2 with⟨_,h0,_⟩|⟨g,cap',ys,T,h1,h2,h3,h4,h5⟩
  ·omega
  ·cases h1;exact⟨g,ys,rfl,⟨T,h3⟩,h2,by simpa using h4⟩
 subst e
 have hcap:xs.length≤cap:=by rw[lla,ints_length]at hcl;omega
 have e1:((i0:Int)== -1)=false:=bqf (by omega)
 refine gO2 e1 (i64_succ i0 (by omega)) ?_
 have f0:(xs.take i0).filter (fun x=>!p x)=xs.take i0:=List.filter_eq_self.2 fun x hx=>by
  have:=List.any_eq_false.1 hk0 x hx
  simpa using this
 refine run_loop (5::6::7::16::17::18::19::20::21::22::23::24::25::26::27::28::29::30::31::32::33::34::35::[]) (fun gg w'=> ∃(i j:Nat) (mid:List Int),gg 5=.int .i64 (i:Int)∧gg 6=.int .i64 (j:Int)∧j≤xs.length∧((xs.take j).filter fun x=>!p x).length=i∧i+mid.length=j∧0<mid.length∧Only [g] w w'∧At w' g (ints ((xs.take j).filter (fun x=>!p x)++mid++xs.drop j)++ys))
  (fun gg _=>upTo xs.length 6 gg) ⟨i0,i0+1,[xs.getD i0 0],by simp only[go_sem],by simp only[go_sem],by omega,?_,rfl,Nat.one_pos,ho1.mono (by simp),?_⟩ fun gg w2 hI hnext=>?_
 ·rw[filt_succ hi0,f0];simp only[hp0,Bool.not_true,Bool.false_eq_true,if_false,List.append_nil,List.length_take];omega
 ·rw[filt_succ hi0,f0]
  have:xs.take i0++[xs.getD i0 0]++xs.drop (i0+1)=xs:=by
   conv=>rhs;rw[←List.take_append_drop i0 xs,List.drop_eq_getElem_cons hi0]
   simp[hi0]
  simp only[hp0,Bool.not_true,Bool.false_eq_true,if_false,List.append_nil,this]
  exact hat.keep0 ho1
 obtain⟨i,j,mid,h5,h6,hj,hf,hij,hm,ho2,hat2⟩:=hI
 by_cases c:j<xs.length
 rotate_left
 ·have hje:j=xs.length:=by omega
  subst hje
  rw[List.take_length]at hf hat2
  rw[List.drop_length,List.append_nil]at hat2
  refine gO3 h5 h6 (dfl (show¬((xs.length:Nat):Int)<(xs.length:Int) by omega)) ?_
  rw[slcO_l (show i≤xs.length by omega) (by omega)]
  (repeat(first|with_reducible(first|refine nx ?_|refine r_6 rfl ?_)|simp only[go_sem,addr_add,Nat.zero_add,Nat.mul_one]))
  refine clearT Tryz.underlying33 (Tryz.zeroValue3 w2) rfl hat2 (by rw[lla,ints_length,lla];omega) fun w3 hs3 hat3 ho3=>?_
  refine gO1 h5 ?_
  rw[slcO_h (show i≤cap by omega)]
  refine gO ?_
  refine⟨ho2.trans ho3 (fun x hx=>.inl hx),?_⟩
  rw[ints_append,List.append_assoc,List.append_assoc,List.take_left' (by rw[ints_length];exact hf)]at hat3
  rw[hf]
  refine Sl.mk1 (hat3) (by rw[ints_length];exact hf) ?_
  rw[←hcl]
  simp only[lla,ints_length,List.length_replicate,List.length_drop,hf]
  omega
 obtain⟨m0,mid',rfl⟩:=List.exists_cons_of_length_pos hm
 have hdj:xs.drop j=xs.getD j 0::xs.drop (j+1):=by rw[List.drop_eq_getElem_cons c];simp[c]
 have cj:(0:Int)≤(j:Int)∧(j:Int)<(xs.length:Int):=by omega
 obtain⟨K,hK⟩: ∃K,K=(xs.take j).filter fun x=>!p x:=⟨_,rfl⟩
 rw[←hK]at hf hat2
 have vr:w2.cell? ⟨g,j,none⟩=some (.int .i64 (xs.getD j 0)):=by
  rw[hat2.cell,ints_append_get ys (by simp only[lla,List.length_drop,hf]at*;omega),hdj]
  congr 2
  rw[List.getD_eq_getElem?_getD,List.getElem?_append_right (by simp only[lla,hf];omega),show j-(K++m0::mid').length=0 by simp only[lla,hf];omega]
  rfl
 refine gJ5 h5 h6 (dtr cj.2) (eq_true cj) vr ?_
 have hF':Cs Tryz.prog F ((#[]:Array Value).toList++[.int .i64 (xs.getD j 0)]++caps.toList) w2 fun v w''=>v=.bool (p (xs.getD j 0))∧Only [] w2 w'':=by
  have:=hF w2 (xs.getD j 0) ho2 (by simp[c])
  simpa using this
 refine callVT (callVals_f F #[] [.int .i64 (xs.getD j 0)] caps) hok hF' ?_
 rintro v w3 ⟨rfl,ho3⟩
 have hat3:=hat2.keep0 ho3
 cases hp:p (xs.getD j 0)with
 |true=>
  refine gO2 h6 (i64_succ j (by omega)) ?_
  refine hnext _ w3 ⟨i,j+1,m0::mid'++[xs.getD j 0],?_,?_,by omega,?_,?_,by simp,ho2.nil ho3,?_⟩ ?_
  ·simp only[go_sem,h5]
  ·simp only[go_sem]
  ·rw[filt_succ c,hp];simp[←hK,hf]
  ·simp at hij⊢;omega
  ·rw[filt_succ c,hp,←hK]
   rw[hdj]at hat3
   simpa using hat3
  ·exact up_lt h6
 |false=>
  have ci:(0:Int)≤(i:Int)∧(i:Int)<(xs.length:Int):=by omega
  refine gJ2 h5 (eq_true ci) ?_
  refine stT hat3 (by simp only[lla,ints_length,List.length_drop,hf];omega) rfl fun w4 hs4 hat4 ho4=>?_
  refine gO4 h5 h6 (i64_succ i (by omega)) (i64_succ j (by omega)) ?_
  refine hnext _ w4 ⟨i+1,j+1,mid'++[xs.getD j 0],?_,?_,by omega,?_,?_,by simp,(ho2.nil ho3).trans ho4 (fun x hx=>.inl hx),?_⟩ ?_
  ·simp only[go_sem]
  ·simp only[go_sem]
  ·rw[filt_succ c,hp];simp[←hK,hf]
  ·simp at hij⊢;omega
  ·rw[filt_succ c,hp,←hK]
   rw[hdj]at hat4
   have e:(ints (K++m0::mid'++xs.getD j 0::xs.drop (j+1))++ys).set i (.int .i64 (xs.getD j 0))=ints (K++[xs.getD j 0]++(mid'++[xs.getD j 0])++xs.drop (j+1))++ys:=by
    rw[List.set_append_left _ _ (by simp only[lla,ints_length,hf,List.length_cons];omega)]
    congr 1
    simp only[ints_append,List.append_assoc]
    rw[List.set_append_right _ _ (by rw[ints_length,hf];exact Nat.le_refl _),ints_length,hf,Nat.sub_self]
    simp[ints]
   rw[e]at hat4
   simpa using hat4
  ·exact up_lt h6
end
section
variable {hp:Addr} {s:HL} {L:List Int} {fl fp:List Nat} {b:Nat} {ar:Option Addr} {w w':World}
def adO (s:HL) (k:Int):Option Int:=match getM s.pl k with
 |some (.int _ a)=>some a
 |_=>none
def adE (s:HL) (k:Int):Int×Int:=match adO s k with
 |some a=>(a,0)
 |none=>(0,4)
theorem hAt (h:HR w (some hp) fp (some s)) (hi:s.Inv) (x:Int):Cs Tryz.prog 76 [.pointer (some hp),.int .i64 x] w fun r w'=>r=.tuple #[.int .i64 (adE s x).1,.int .i64 (adE s x).2]∧Only [] w w':=by
 refine enter_heap_Heap_At rfl ?_
 unfold x_heap_Heap_At
 have hm:=hMade h
 obtain⟨b,e,gB,gW,cB,cW,yB,yW,sb,sg,pb,pg,bl,bf,h2,h3⟩:=h
 cases e
 refine gO ?_
 refine callT0 hm ?_
 refine gO1 h3.hb.cell ?_
 refine lkp2T Tryz.underlying67 Tryz.underlying3 (Tryz.zeroValue3 _) h3.hl ?_
 cases e:getM s.pl x with
 |none=>
  refine gO ?_
  exact⟨by simp[adE,adO,e],Only.refl _ _⟩
 |some v=>
  obtain⟨i,_,rfl,_⟩:=hi.pm.b x v e
  refine gO ?_
  exact⟨by simp[adE,adO,e],Only.refl _ _⟩
def RG (w:World) (b:Nat) (hp:Addr) (ar:Option Addr) (L:List Int) (fl:List Nat):Prop:= ∃v,At w b [.pointer (some hp),.pointer ar,v]∧Sl w 1 v L.length (ints L) fl∧b∉fl
theorem RG.keep {S:List Nat} (h:RG w b hp ar L fl) (k:Only S w w') (hb:b∉S) (hf: ∀x,x∈fl→x∉S):RG w' b hp ar L fl:=by
 obtain⟨v,h1,h2,h3⟩:=h
 exact⟨v,h1.keep k hb,h2.keep k hf,h3⟩
theorem RG.keep0 (h:RG w b hp ar L fl) (k:Only [] w w'):RG w' b hp ar L fl:=h.keep k (by simp) (by simp)
theorem gMade (h:RG w b hp ar L fl):Cs Tryz.prog 49 [.pointer (some ⟨b,0,none⟩)] w fun v w'=>v=.bool true∧w'=w:=by
 obtain⟨v,h1,h2,h3⟩:=h
 refine enter_final_Registry_made rfl ?_
 unfold x_final_Registry_made
 (repeat(first|with_reducible(first|refine nx ?_|refine r_6 rfl ?_)|simp only[go_sem,h1.cell]))
theorem cGone {q:Nat} {y:List Value} (hq:At w q [.pointer (some ⟨b,0,none⟩)]) (hb:At w b (.pointer (some hp)::y)) (h:HR w (some hp) fp (some s)) (hi:s.Inv) (x:Int):
  Cs Tryz.prog 133 [.int .i64 x,.pointer (some ⟨q,0,none⟩)] w fun v w'=>v=.bool (!(adO s x).isSome)∧Only [] w w':=by
 refine enter_final_Registry_tidy_1 rfl ?_
 unfold x_final_Registry_tidy_1
 refine gO2 hq.cell hb.cell ?_
 refine callT (hAt h hi x) ?_
 rintro _ w1 ⟨rfl,ho1⟩
 cases e:adO s x with
 |none=>
  (repeat(first|with_reducible(first|refine nx ?_|refine r_6 rfl ?_)|simp only[go_sem,adE,e]))
  exact ho1
 |some a=>
  (repeat(first|with_reducible(first|refine nx ?_|refine r_6 rfl ?_)|simp only[go_sem,adE,e]))
  exact ho1
def tidyL (s:HL) (L:List Int):List Int:=L.filter fun x=>(adO s x).isSome
theorem gTidy (h:RG w b hp ar L fl) (hl:L.length≤4000) (hr:HR w (some hp) fp (some s)) (hi:s.Inv) (hbf:b∉fp):Cs Tryz.prog 50 [.pointer (some ⟨b,0,none⟩)] w fun _ w'=> ∃fl',RG w' b hp ar (tidyL s L) fl'∧Only [b] w w'∧(∀x,x∈fl'→w.heap.size≤x):=by
 obtain⟨v,h1,h2,h3⟩:=h
 refine enter_final_Registry_tidy rfl ?_
 unfold x_final_Registry_tidy
 refine gO ?_
 refine boxT fun q w1 hq hs1 hat1 ho1=>?_
 refine gO ?_
 have hb1:=h1.keep0 ho1
 refine run_drt [q,b] ?_
 have lts: ∀z,z∈[q,b]→z<w1.drew.heap.size:=fun z hz=>by
  simp only[List.mem_cons,List.not_mem_nil,or_false]at hz
  rcases hz with rfl|rfl
  ·exact hat1.lt
  ·exact hb1.lt
 have hq1:=hat1.keep0 (Only.drew [] w1)
 have hb2:=hb1.keep0 (Only.drew [] w1)
 have od:=ho1.nil (Only.drew [] w1)
 refine gO2 hq1.cell hb2.cell ?_
 refine callS (sclone (h2.keep0 od).src ints_one (by omega)) ?_
 rintro vc w2 ⟨ho2,fc,hc2,gc⟩
 refine⟨.inr ((SB.refl _ _).only ho2 fun z hz=>⟨lts z hz,by simp⟩),?_⟩
 have o2:=od.nil ho2
 have gc0: ∀z,z∈fc→w.heap.size≤z:=fun z hz=>Nat.le_trans od.size (gc z hz)
 have dis: ∀z,z<w1.drew.heap.size→z∉fc:=fun z hz e=>by have:=gc z e;omega
 refine gO ?_
 refine callS (deleteFunc (p:=fun x=>!(adO s x).isSome) (F:=133) (caps:=#[.pointer (some ⟨q,0,none⟩)]) hc2 (by kernel_rfl) hl fun w' x ho hx=>?_) ?_
 ·refine cGone ((hq1.keep0 ho2).keep ho (dis q (lts q (by simp)))) ((hb2.keep0 ho2).keep ho (dis b (lts b (by simp)))) ((hr.keep0 o2).keep ho fun z hz=>dis z ?_) hi x
  exact Nat.lt_of_lt_of_le (hr.lt z hz) od.size
 rintro vd w3 ⟨ho3,hd3⟩
 refine⟨.inr (((SB.refl _ _).only ho2 fun z hz=>⟨lts z hz,by simp⟩).only ho3 fun z hz=>⟨Nat.lt_of_lt_of_le (lts z hz) ho2.size,dis z (lts z hz)⟩),?_⟩
 have hb3:=(hb2.keep0 ho2).keep ho3 (dis b (lts b (by simp)))
 have ev:(L.filter fun x=>!(!(adO s x).isSome))=tidyL s L:=by unfold tidyL;congr 1;funext x;simp
 rw[ev]at hd3
 refine gO ?_
 refine stS hb3 (by simp) hd3.oneC' fun w4 hs4 hat4 ho4=>⟨.inl rfl,?_⟩
 refine gO ?_
 exact⟨fc,⟨vd,hat4,hd3.keep ho4 fun z hz e=>dis b (lts b (by simp)) (by simp only[lms]at e;exact e▸hz),fun e=>dis b (lts b (by simp)) e⟩,(o2.trans ho3 fun z hz=>.inr (gc0 z hz)).of_nil.trans ho4 fun z hz=>.inl hz,gc0⟩
end
section
set_option maxRecDepth 8000
variable {hp:Addr} {s:HL} {fp:List Nat} {ar:Option Addr} {w:World}
theorem gNew {fr:List Nat} {R:Rt.MS} (h:HR w (some hp) fp (some s)) (hs:s.Ok) (hR:Rt.PR w ar fr (some R)) (hm:Rt.mutO (some R)≠0):
  Cs Tryz.prog 29 [.pointer (some hp),.pointer ar] w fun v w'=>Only [] w w'∧ ∃b,v=.tuple #[.pointer (some ⟨b,0,none⟩),.int .i64 0]∧RG w' b hp ar [] []∧w.heap.size≤b:=by
 refine enter_final_New rfl ?_
 unfold x_final_New
 have hb2:=hs.b2
 refine gO ?_
 refine callT0 (hBlocks h) ?_
 have e1:decide ((blocksO (some s):Int)≤0)=false:=dfl (by show¬((s.B.length:Nat):Int)≤0;omega)
 have e2:(Rt.mutO (some R)==0)=false:=bqf hm
 refine gO1 e1 ?_
 refine callT0 (Rt.Mutators_m hR) ?_
 refine gO1 e2 ?_
 rw[fillL_one rfl rfl,fillL_one rfl rfl]
 refine gO ?_
 refine boxT fun b w1 hb hs1 hat1 ho1=>?_
 refine gO ?_
 exact⟨ho1,b,rfl,⟨_,hat1,Sl.nil1 _,by simp⟩,by omega⟩
def regE (s:HL) (L:List Int) (x:Int):Int:=if(identO (some s) x).2≠0 then(identO (some s) x).2 else if(identO (some s) x).1∈tidyL s L then 8 else if 64≤(tidyL s L).length then 6 else 0
def regL (s:HL) (L:List Int) (x:Int):List Int:=if(identO (some s) x).2≠0 then L else if(identO (some s) x).1∈tidyL s L then tidyL s L else if 64≤(tidyL s L).length then tidyL s L else tidyL s L++[(identO (some s) x).1]
theorem gRegister {b:Nat} {L:List Int} {fl:List Nat} (h:RG w b hp ar L fl) (hl:L.length≤4000) (hr:HR w (some hp) fp (some s)) (hi:s.Inv) (hbf:b∉fp) (x:Int) (hx:x≤4611686018427387904):
  Cs Tryz.prog 12 [.pointer (some ⟨b,0,none⟩),.int .i64 x] w fun v w'=>v=.int .i64 (regE s L x)∧ ∃fl',RG w' b hp ar (regL s L x) fl'∧Only [b] w w'∧(∀y,y∈fl'→y∈fl∨w.heap.size≤y):=by
 refine enter_final_Registry_Register rfl ?_
 unfold x_final_Registry_Register
 refine gO ?_
 refine callT0 (gMade h) ?_
 obtain⟨v0,h1,h2,h3⟩:=id h
 refine gO1 h1.cell ?_
 refine callT (hIdent hr x hx) ?_
 rintro _ w1 ⟨rfl,ho1⟩
 by_cases c:(identO (some s) x).2=0
 rotate_left
 ·refine gO1 (bnt c) ?_
  refine⟨by unfold regE;rw[if_pos c],fl,?_,ho1.of_nil,fun y hy=>.inl hy⟩
  unfold regL;rw[if_pos c];exact h.keep0 ho1
 unfold regE regL
 simp only[ne_eq,c,not_true_eq_false,if_false]
 refine gO1 (bnf c) ?_
 refine callT (gTidy (h.keep0 ho1) hl (hr.keep0 ho1) hi hbf) ?_
 rintro _ w2 ⟨f2,hg2,ho2,ge2⟩
 obtain⟨v2,hb2,hl2,hn2⟩:=id hg2
 have z1:=ho1.size
 have o2:Only [b] w w2:=(ho1.of_nil).trans ho2 fun y hy=>.inl hy
 have g2: ∀y,y∈f2→y∈fl∨w.heap.size≤y:=fun y hy=>.inr (Nat.le_trans z1 (ge2 y hy))
 have hLl:(tidyL s L).length≤4000:=Nat.le_trans (List.length_filter_le _ _) hl
 refine gO1 hb2.cell ?_
 refine callT0 (Contains_m hl2.rd (by omega) (identO (some s) x).1) ?_
 by_cases c2:(identO (some s) x).1∈tidyL s L
 ·have e:(tidyL s L).contains (identO (some s) x).1=true:=List.contains_iff_mem.2 c2
  rw[e]
  refine gO ?_
  rw[if_pos c2,if_pos c2]
  exact⟨rfl,f2,hg2,o2,g2⟩
 have e:(tidyL s L).contains (identO (some s) x).1=false:=by rw[Bool.eq_false_iff];exact fun e=>c2 (List.contains_iff_mem.1 e)
 rw[e,if_neg c2,if_neg c2]
 obtain⟨a2,c2',e2⟩:=hl2.val
 by_cases c3:64≤(tidyL s L).length
 ·subst e2
  refine gO2 hb2.cell (dtr (show(64:Int)≤((tidyL s L).length:Int) by omega)) ?_
  rw[if_pos c3,if_pos c3]
  exact⟨rfl,f2,hg2,o2,g2⟩
 rw[if_neg c3,if_neg c3]
 subst e2
 refine gO2 hb2.cell (dfl (show¬(64:Int)≤((tidyL s L).length:Int) by omega)) ?_
 rw[fillL_one rfl rfl]
 refine gO ?_
 refine bslT fun q6 w6 hq6 hs6 hat6 ho6=>?_
 refine gO ?_
 refine appT (hl2.keep0 ho6) (SrcIs.at (us:=[.int .i64 (identO (some s) x).1]) hat6 rfl) (by simp[oneC]) (by omega) (by omega) ?_
 intro v7 w7 f7 hs7 hf7 ho7 _
 have hbw:=hb2.lt
 have hne:b∉f7:=by
  rcases hf7 with rfl|rfl
  ·exact hn2
  ·have:=ho6.size;simp only[lms];omega
 have hb7:=(hb2.keep0 ho6).keep ho7 hn2
 refine gO ?_
 refine stT hb7 (by simp) hs7.oneC' fun w8 hs8 hat8 ho8=>?_
 refine gO ?_
 refine⟨f7,⟨v7,hat8,?_,hne⟩,((o2.nil ho6).trans ho7 fun y hy=>.inr (Nat.le_trans z1 (ge2 y hy))).trans ho8 fun y hy=>.inl hy,?_⟩
 ·have:=hs7.keep ho8 fun z hz e=>hne (by simp only[lms]at e;exact e▸hz)
  rw[lla,ints_append];exact this
 ·intro y hy
  rcases hf7 with rfl|rfl
  ·exact g2 y hy
  ·have:=ho6.size;have:=o2.size;simp only[lms]at hy;omega
end
section
variable {s:HL} {L:List Int}
def listA (s:HL) (L:List Int):List Int:=L.filterMap (adO s)
theorem listA_snoc {i:Nat} (h:i<L.length):listA s (L.take (i+1))=listA s (L.take i)++(match adO s (L.getD i 0)with|some a=>[a]|none=>[]):=by
 unfold listA
 rw[List.take_succ_eq_append_getElem h,List.filterMap_append]
 congr 1
 simp only[List.filterMap_cons,List.filterMap_nil,List.getD_eq_getElem?_getD,List.getElem?_eq_getElem h,Option.getD_some]
 cases adO s L[i]<;>rfl
theorem listA_len (s:HL) (L:List Int):(listA s L).length≤L.length:=List.length_filterMap_le _ _
theorem gList {w:World} {b:Nat} {hp:Addr} {ar:Option Addr} {fl fp:List Nat} (h:RG w b hp ar L fl) (hl:L.length≤4000) (hr:HR w (some hp) fp (some s)) (hi:s.Inv):
  Cs Tryz.prog 19 [.pointer (some ⟨b,0,none⟩)] w fun v w'=>Only [] w w'∧ ∃fq,Sl w' 1 v (listA s L).length (ints (listA s L)) fq∧ ∀y,y∈fq→w.heap.size≤y:=by
 refine enter_final_Registry_List rfl ?_
 unfold x_final_Registry_List
 refine gO ?_
 refine callT0 (gMade h) ?_
 obtain⟨v0,h1,h2,h3⟩:=id h
 obtain⟨a0,c0,rfl⟩:=h2.val
 refine gO1 h1.cell ?_
 refine run_loop (3::5::6::7::16::17::18::19::20::21::22::23::24::25::26::27::28::29::30::31::32::33::34::35::[]) (fun g w'=> ∃(i:Nat) (fq:List Nat),g 16=.int .i64 (i:Int)∧i≤L.length∧Only [] w w'∧Sl w' 1 (g 3) (listA s (L.take i)).length (ints (listA s (L.take i))) fq∧ ∀y,y∈fq→w.heap.size≤y) (fun g _=>upTo L.length 16 g)
  ⟨0,[],by simp only[go_sem];rfl,by omega,Only.refl _ _,by simp only[go_sem];exact Sl.nil1 _,fun y hy=>absurd hy (by simp)⟩ fun g w5 hI hnext=>?_
 obtain⟨i,fq,h16,hi1,ho5,hq5,ge5⟩:=hI
 by_cases c1:i<L.length
 rotate_left
 ·refine gO2 h16 (dfl (show¬(i:Int)<(L.length:Int) by omega)) ?_
  rw[List.take_of_length_le (by omega)]at hq5
  exact⟨ho5,fq,hq5,ge5⟩
 obtain⟨gr,_,yr,er,hatr,_,_⟩:=(h2.keep0 ho5).pos (by omega)
 cases er
 have ci:(0:Int)≤(i:Int)∧(i:Int)<(L.length:Int):=by omega
 have vr:w5.cell? ⟨gr,i,none⟩=some (.int .i64 (L.getD i 0)):=by rw[hatr.cell];exact ints_append_get yr (by omega)
 have hsn:=listA_snoc (s:=s) c1
 have hll:=listA_len s (L.take i)
 rw[List.length_take]at hll
 have zz:=i64_succ i (by omega)
 (repeat(first|with_reducible(first|refine nx ?_|refine r_6 rfl ?_)|simp only[go_sem,h16,dtr ci.2,if_pos ci,tnc,Nat.mul_one,vr,(h1.keep0 ho5).cell]))
 refine callT (hAt (hr.keep0 ho5) hi (L.getD i 0)) ?_
 rintro _ w6 ⟨rfl,ho6⟩
 unfold adE
 cases ha:adO s (L.getD i 0)with
 |none=>
  rw[ha]at hsn
  refine gO2 h16 zz ?_
  refine hnext _ w6 ⟨i+1,fq,?_,by omega,ho5.nil ho6,?_,ge5⟩ ?_
  ·simp only[go_sem]
  ·simp only[go_sem];rw[hsn,List.append_nil];exact hq5.keep0 ho6
  ·exact up_lt h16
 |some a=>
  rw[ha]at hsn
  refine gO1 h16 ?_
  rw[fillL_one rfl rfl]
  refine gO ?_
  refine bslT fun q6 w7 hq6 hs7 hat7 ho7=>?_
  refine gO ?_
  refine appT ((hq5.keep0 ho6).keep0 ho7) (SrcIs.at (us:=[.int .i64 a]) hat7 rfl) (by simp[oneC]) (by omega) (by omega) ?_
  intro v8 w8 f8 hs8 hf8 ho8 _
  have z5:=ho5.size
  have z6:=ho6.size
  have z7:=ho7.size
  have o58:Only [] w w8:=((ho5.nil ho6).nil ho7).trans ho8 fun y hy=>.inr (ge5 y hy)
  refine gO2 h16 zz ?_
  refine hnext _ w8 ⟨i+1,f8,?_,by omega,o58,?_,?_⟩ ?_
  ·simp only[go_sem]
  ·simp only[go_sem];rw[hsn,lla,ints_append];exact hs8
  ·intro y hy
   rcases hf8 with e|e<;>rw[e]at hy
   ·exact ge5 y hy
   ·simp only[lms]at hy;omega
  ·exact up_lt h16
end
set_option maxRecDepth 8000
theorem setM_filter (T:List Int) (x:Int):(setM T).filter (fun q=>q.1 !=x)=setM (T.filter (·!=x)):=by
 unfold setM
 rw[List.filter_map]
 rfl
theorem mem_setM {T:List Int} {p:Int×Value} (h:p∈setM T):p.1∈T∧p=(p.1,.bool true):=by
 unfold setM at h
 obtain⟨y,hy,rfl⟩:=List.mem_map.1 h
 exact⟨hy,rfl⟩
theorem mDeleteFunc {w:World} {F bm:Nat} {caps:Array Value} {p:Int→Bool} {K:List Int} (hK:MB w bm K) (hok:okF Tryz.prog F=true)
  (hF: ∀w' x,Only [bm] w w'→x∈K→Cs Tryz.prog F ([.int .i64 x,.bool true]++caps.toList) w' fun v w''=>v=.bool (p x)∧Only [] w' w''):
  Cs Tryz.prog 137 [.map (some bm),.func (.func F) #[] caps] w fun _ w'=>Only [bm] w w'∧MB w' bm (K.filter fun x=>!p x):=by
 have hbm:=MpAt.lt hK
 have hnd:=hK.nodup
 refine enter_maps_DeleteFunc_map_int_bool_int_bool_ rfl ?_
 unfold x_maps_DeleteFunc_map_int_bool_int_bool_
 refine gO ?_
 refine rangeT Tryz.underlying115 hK fun r w1 hr hs1 hit1 ho1=>?_
 refine gO ?_
 refine run_loop (4::5::8::9::10::11::12::13::14::15::16::17::18::[]) (fun _ w'=> ∃T:List Int,ItAt w' r bm (setM (K.filter fun x=>decide (x∈T)||!p x)) (setM T)∧(∀x,x∈T→x∈K)∧Only [bm] w w') (fun _ w'=>itLeft w' r bm)
  ⟨K,?_,fun _ h=>h,ho1.of_nil⟩ fun g w2 hI hnext=>?_
 ·have:(K.filter fun x=>decide (x∈K)||!p x)=K:=List.filter_eq_self.2 fun x hx=>by simp[hx]
  rw[this];exact hit1
 obtain⟨T,hit,hTK,ho2⟩:=hI
 have hl2:=hit.left
 have hrb:r≠bm:=by omega
 refine gO ?_
 refine nextT hit (fun h0=>?_) (fun e w3 hp hs3 ho3 hit3 hen3=>?_)
 ·have hT:T=[]:=by cases T with
   |nil=>rfl
   |cons a T=>cases h0
  subst hT
  refine gO ?_
  refine⟨ho2,?_⟩
  have:=hit.map
  simp at this
  exact this
 obtain⟨hx,he⟩:=mem_setM hp
 obtain⟨x,v⟩:=e
 simp only at hx he
 obtain rfl:v=.bool true:=(Prod.mk.inj he).2
 rw[setM_filter]at hit3
 have o3:Only [bm] w w3:=ho2.trans ho3 fun y hy=>by simp only[lms]at hy;exact .inr (by omega)
 refine gO ?_
 refine entryT hen3 ?_
 refine gO ?_
 have hF':Cs Tryz.prog F ((#[]:Array Value).toList++[.int .i64 x,.bool true]++caps.toList) w3 fun v w''=>v=.bool (p x)∧Only [] w3 w'':=by
  have:=hF w3 x o3 (hTK x hx)
  simpa using this
 refine callVT (callVals_f F #[] [.int .i64 x,.bool true] caps) hok hF' ?_
 rintro _ w4 ⟨rfl,ho4⟩
 have hit4:=hit3.keep0 ho4
 have hlt:(setM (T.filter (·!=x))).length<(setM T).length:=by
  rw[setM_len,setM_len]
  rcases Nat.lt_or_ge (T.filter (·!=x)).length T.length with h|h
  ·exact h
  ·have:=List.filter_eq_self.1 (List.Sublist.eq_of_length_le List.filter_sublist h) x hx
   simp at this
 cases hpx:p x with
 |false=>
  refine gO ?_
  refine hnext _ w4 ⟨T.filter (·!=x),?_,fun y hy=>hTK y (List.mem_filter.1 hy).1,o3.nil ho4⟩ ?_
  ·have:(K.filter fun y=>decide (y∈T.filter (·!=x))||!p y)=K.filter fun y=>decide (y∈T)||!p y:=by
    refine List.filter_congr fun y _=>?_
    by_cases c:y=x
    ·subst c;simp[hpx]
    ·simp[c]
   rw[this];exact hit4
  ·rw[hl2,hit4.left];exact hlt
 |true=>
  refine gO ?_
  refine mdelI Tryz.underlying115 Tryz.underlying3 (k:=x) hit4 (fun q hq e=>?_) fun w5 hs5 hit5 ho5=>?_
  ·have:=(mem_setM hq).1
   rw[e]at this
   simp at this
  refine gO ?_
  rw[delM_set]at hit5
  refine hnext _ w5 ⟨T.filter (·!=x),?_,fun y hy=>hTK y (List.mem_filter.1 hy).1,(o3.nil ho4).trans ho5 fun y hy=>.inl hy⟩ ?_
  ·have:(K.filter fun y=>decide (y∈T.filter (·!=x))||!p y)=(K.filter fun y=>decide (y∈T)||!p y).erase x:=by
    rw[List.Nodup.erase_eq_filter (List.Nodup.sublist List.filter_sublist hnd),List.filter_filter]
    refine List.filter_congr fun y _=>?_
    by_cases c:y=x
    ·subst c;simp[hpx]
    ·simp[c]
   rw[this];exact hit5
  ·rw[hl2,hit5.left];exact hlt
section
set_option maxRecDepth 8000
variable {s:HL} {a:Int} {K L:List Int} {cs:List Value} {mk q vb:Nat} {c0:Value} {w:World}
theorem vKept (hq:At w q [.pointer (some ⟨vb,0,none⟩)]) (hv:At w vb (c0::.map (some mk)::cs)) (hK:MB w mk K) (x:Int):
  Cs Tryz.prog 136 [.int .i64 x,.pointer (some ⟨q,0,none⟩)] w fun v w'=>v=.bool (decide (x∈K))∧Only [] w w':=by
 refine enter_final_Registry_view_1 rfl ?_
 unfold x_final_Registry_view_1
 refine gO2 hq.cell hv.cell ?_
 refine lkpT Tryz.underlying115 Tryz.underlying3 (Tryz.zeroValue4 _) hK ?_
 rw[getM_setD]
 refine gO ?_
 exact Only.refl _ _
theorem vSaved {y:Value} (hq:At w q [.pointer (some ⟨vb,0,none⟩)]) (hv:At w vb (c0::.map (some mk)::cs)) (hK:MB w mk K) (x:Int):
  Cs Tryz.prog 138 [.int .i64 x,y,.pointer (some ⟨q,0,none⟩)] w fun v w'=>v=.bool (decide (x∈K))∧Only [] w w':=by
 refine enter_final_Registry_view_2 rfl ?_
 unfold x_final_Registry_view_2
 refine gO2 hq.cell hv.cell ?_
 refine lkpT Tryz.underlying115 Tryz.underlying3 (Tryz.zeroValue4 _) hK ?_
 rw[getM_setD]
 refine gO ?_
 exact Only.refl _ _
def deadL (s:HL) (L K:List Int):List Int:=(listA s L).filter fun x=>!decide (x∈K)
theorem adO_live (hi:s.Inv) {k:Int} (h:adO s k=some a):Liv s a:=by
 unfold adO at h
 cases e:getM s.pl k with
 |none=>rw[e]at h;cases h
 |some v=>
  obtain⟨i,h1,rfl,_⟩:=hi.pm.b k v e
  rw[e]at h
  cases h
  exact⟨i,rfl,h1⟩
theorem listA_live (hi:s.Inv) (h:a∈listA s L):Liv s a:=by
 obtain⟨k,_,e⟩:=List.mem_filterMap.1 h
 exact adO_live hi e
set_option maxHeartbeats 1000000 in
theorem gView {b:Nat} {hp:Addr} {ar:Option Addr} {fl fp fr:List Nat} {R:Rt.MS} (h:RG w b hp ar L fl) (hl:L.length≤500) (hr:HR w (some hp) fp (some s)) (hi:s.Inv) (hR:Rt.PR w ar fr (some R)) (hsn:Snd true s R) (h40:s.objs.length≤2000) (hll:(Rt.leadsO (some R)).length≤500) (hrf:RfOk s.abs):
  Cs Tryz.prog 53 [.pointer (some ⟨b,0,none⟩)] w fun v w'=>Only [] w w'∧ ∃vb mk ms vd fd K S,v=.tuple #[.pointer (some ⟨vb,0,none⟩),.int .i64 0]∧At w' vb [.pointer (some hp),.map (some mk),.map (some ms),vd]∧MB w' mk K∧MB w' ms (S.filter fun x=>!decide (x∈K))∧
   Sl w' 1 vd (deadL s L K).length (ints (deadL s L K)) fd∧Kpt s (Rt.leadsO (some R)) K∧Kpt s (Rt.leadsO (some R)++deadL s L K) S∧w.heap.size≤vb∧w.heap.size≤mk∧w.heap.size≤ms∧(∀y,y∈fd→w.heap.size≤y)∧vb≠mk∧vb≠ms∧mk≠ms∧vb∉fd∧mk∉fd∧ms∉fd:=by
 have hs:=hi.ok
 have hlp: ∀x,x∈Rt.leadsO (some R)→0≤x∧x≤4096:=fun x hx=>(leads_ph hsn.2 hx).le hs
 obtain⟨v0,h1,h2,h3⟩:=id h
 refine enter_final_Registry_view rfl ?_
 unfold x_final_Registry_view
 refine gO ?_
 refine run_drt [b] ?_
 have od:=Only.drew [] w
 have hb1:=h1.keep0 od
 have lt1: ∀z,z∈[b]→z<w.drew.heap.size∧z∉([]:List Nat):=fun z hz=>by simp only[lms]at hz;subst hz;exact⟨hb1.lt,by simp⟩
 refine gO ?_
 refine callS0 (gMade (h.keep0 od)) (.inr (SB.refl _ _)) ?_
 refine gO1 hb1.cell ?_
 refine callS1 (cSoundIs (hr.keep0 od) hs (hR.keep0 od) hsn h40 (by omega)) (.inl rfl) fun w2 ho2=>?_
 refine gO ?_
 have o2:=od.nil ho2
 have hb2:=h1.keep0 o2
 refine gO1 hb2.cell ?_
 rw[fillL_one rfl rfl]
 refine gO ?_
 refine boxT fun vb w3 hvb hs3 hat3 ho3=>?_
 refine gO ?_
 refine boxT fun q w4 hq hs4 hat4 ho4=>?_
 refine gO ?_
 refine stT hat4 (by simp) rfl fun w5 hs5 hat5 ho5=>?_
 have o5:Only [] w w5:=((o2.nil ho3).nil ho4).trans ho5 fun y hy=>by have:=o2.size;simp only[lms]at hy;exact .inr (by omega)
 have hv5:=(hat3.keep0 ho4).keep ho5 (by simp;omega)
 have hq5:At w5 q [.pointer (some ⟨vb,0,none⟩)]:=hat5
 have hb5:=h1.keep0 o5
 refine gO ?_
 refine run_drt [q,b] ?_
 have od5:=Only.drew [] w5
 have qd:=hq5.keep0 od5
 have bd:=hb5.keep0 od5
 have vd5:=hv5.keep0 od5
 have o5d:=o5.nil od5
 have lt5: ∀z,z∈[q,b]→z<w5.drew.heap.size:=fun z hz=>by
  simp only[List.mem_cons,List.not_mem_nil,or_false]at hz
  rcases hz with rfl|rfl
  ·exact qd.lt
  ·exact bd.lt
 refine gO2 qd.cell bd.cell ?_
 refine callS (Rt.Leads_m (hR.keep0 o5d)) ?_
 rintro vl w6 ⟨ho6,f6,hl6,_⟩
 refine⟨.inr ((SB.refl _ _).only ho6 fun z hz=>⟨lt5 z hz,by simp⟩),?_⟩
 have o6:=o5d.nil ho6
 refine gO ?_
 refine callS (cRounds (hr.keep0 o6) hs hrf hl6 (by omega) (fun x hx=>by have:=hlp x hx;omega) h40) ?_
 rintro _ w7 ⟨ho7,mk,K,n7,rfl,hK7,gmk,kpt⟩
 refine⟨.inr (((SB.refl _ _).only ho6 fun z hz=>⟨lt5 z hz,by simp⟩).only ho7 fun z hz=>⟨Nat.lt_of_lt_of_le (lt5 z hz) ho6.size,by simp⟩),?_⟩
 have o7:=o6.nil ho7
 have hv7:=(vd5.keep0 ho6).keep0 ho7
 refine gO ?_
 refine stS hv7 (by simp) rfl fun w8 hs8 hat8 ho8=>⟨.inl rfl,?_⟩
 have hv8:At w8 vb [.pointer (some hp),.map (some mk),.map none,.slice none 0 0]:=hat8
 have z2:=o2.size
 have z6:=o6.size
 have vbw:w.heap.size≤vb:=by omega
 have vb6:vb<w6.heap.size:=by have:=vd5.lt;have:=ho6.size;omega
 have qw:w.heap.size≤q:=by omega
 have qv:q≠vb:=by omega
 have onv: ∀y,y∈[vb]→y∈([]:List Nat)∨w.heap.size≤y:=fun y hy=>by simp only[lms]at hy;subst hy;exact .inr vbw
 have o8:Only [] w w8:=o7.trans ho8 onv
 have hq8:=((qd.keep0 ho6).keep0 ho7).keep ho8 (by simpa using qv)
 have hK8:MB w8 mk K:=hK7.keep ho8 (by simp;omega)
 have hb8:=h1.keep0 o8
 refine gO ?_
 refine run_drt [q] ?_
 have od8:=Only.drew [] w8
 have o8d:=o8.nil od8
 have qd8:=hq8.keep0 od8
 have vd8:=hv8.keep0 od8
 refine gO1 qd8.cell ?_
 refine callS (gList (h.keep0 o8d) (by omega) (hr.keep0 o8d) hi) ?_
 rintro vA w9 ⟨ho9,f9,hA9,g9⟩
 have lt8: ∀z,z∈[q]→z<w8.drew.heap.size:=fun z hz=>by simp only[lms]at hz;subst hz;exact qd8.lt
 refine⟨.inr ((SB.refl _ _).only ho9 fun z hz=>⟨lt8 z hz,by simp⟩),?_⟩
 have o9:=o8d.nil ho9
 have hAl:=listA_len s L
 have dis9: ∀z,z<w8.drew.heap.size→z∉f9:=fun z hz e=>by have:=g9 z e;omega
 have vb8:vb<w8.drew.heap.size:=vd8.lt
 have mk8:mk<w8.drew.heap.size:=MpAt.lt (hK8.keep0 od8)
 refine gO ?_
 refine callS (deleteFunc (p:=fun x=>decide (x∈K)) (F:=136) (caps:=#[.pointer (some ⟨q,0,none⟩)]) hA9 (by kernel_rfl) (by omega) fun w' x ho hx=>?_) ?_
 ·exact vKept ((qd8.keep0 ho9).keep ho (dis9 q (lt8 q (by simp)))) ((vd8.keep0 ho9).keep ho (dis9 vb vb8)) (((hK8.keep0 od8).keep0 ho9).keep ho (dis9 mk mk8)) x
 rintro vD w10 ⟨ho10,hD10⟩
 refine⟨.inr (((SB.refl _ _).only ho9 fun z hz=>⟨lt8 z hz,by simp⟩).only ho10 fun z hz=>⟨Nat.lt_of_lt_of_le (lt8 z hz) ho9.size,dis9 z (lt8 z hz)⟩),?_⟩
 have o10:Only [] w w10:=o9.trans ho10 fun y hy=>.inr (by have:=g9 y hy;have:=o8d.size;omega)
 have hq10:=(qd8.keep0 ho9).keep ho10 (dis9 q (lt8 q (by simp)))
 have hv10:=(vd8.keep0 ho9).keep ho10 (dis9 vb vb8)
 have hK10:=((hK8.keep0 od8).keep0 ho9).keep ho10 (dis9 mk mk8)
 refine gO ?_
 refine stS hv10 (by simp) hD10.oneC' fun w11 hs11 hat11 ho11=>⟨.inl rfl,?_⟩
 have hv11:At w11 vb [.pointer (some hp),.map (some mk),.map none,vD]:=hat11
 have o11:Only [] w w11:=o10.trans ho11 onv
 have hq11:=hq10.keep ho11 (by simpa using qv)
 have hK11:MB w11 mk K:=hK10.keep ho11 (by simp;omega)
 have hD11:=hD10.keep ho11 fun z hz e=>dis9 vb vb8 (by simp only[lms]at e;exact e▸hz)
 have hb11:=h1.keep0 o11
 obtain⟨D,hDe⟩: ∃D,D=deadL s L K:=⟨_,rfl⟩
 have hDv:Sl w11 1 vD D.length (ints D) f9:=by rw[hDe];exact hD11
 have hDl:D.length≤L.length:=by rw[hDe];exact Nat.le_trans (List.length_filter_le _ _) hAl
 refine gO ?_
 refine run_drt [q,b,vb] ?_
 have od11:=Only.drew [] w11
 have o11d:=o11.nil od11
 have qd11:=hq11.keep0 od11
 have vd11:=hv11.keep0 od11
 have bd11:=hb11.keep0 od11
 have lt11: ∀z,z∈[q,b,vb]→z<w11.drew.heap.size:=fun z hz=>by
  simp only[List.mem_cons,List.not_mem_nil,or_false]at hz
  rcases hz with rfl|rfl|rfl
  ·exact qd11.lt
  ·exact bd11.lt
  ·exact vd11.lt
 refine gO3 qd11.cell bd11.cell vd11.cell ?_
 refine callS (Rt.Leads_m (hR.keep0 o11d)) ?_
 rintro vl2 w12 ⟨ho12,f12,hl12,g12⟩
 refine⟨.inr ((SB.refl _ _).only ho12 fun z hz=>⟨lt11 z hz,by simp⟩),?_⟩
 refine gO ?_
 refine appS hl12 ((hDv.keep0 od11).keep0 ho12).src ints_one (by omega) (by omega) ?_
 intro v13 w13 f13 hs13 hf13 ho13 _
 have dis12: ∀z,z<w11.drew.heap.size→z∉f12:=fun z hz e=>by have:=g12 z e;omega
 have sb13:SB [q,b,vb] w11.drew w13:=((SB.refl _ _).only ho12 fun z hz=>⟨lt11 z hz,by simp⟩).only ho13 fun z hz=>⟨Nat.lt_of_lt_of_le (lt11 z hz) ho12.size,dis12 z (lt11 z hz)⟩
 refine⟨.inr sb13,?_⟩
 have o13:Only [] w w13:=(o11d.nil ho12).trans ho13 fun y hy=>.inr (by have:=g12 y hy;have:=o11d.size;omega)
 have hs13':Sl w13 1 v13 (Rt.leadsO (some R)++D).length (ints (Rt.leadsO (some R)++D)) f13:=by rw[lla,ints_append];exact hs13
 have hDb: ∀x,x∈D→x≤4096:=fun x hx=>by
  rw[hDe]at hx
  obtain⟨i,rfl,hk⟩:=listA_live hi (List.mem_filter.1 hx).1
  have:=live_le hs hk
  omega
 refine gO ?_
 refine callS (cRounds (hr.keep0 o13) hs hrf hs13' (by simp only[lla];omega) (fun x hx=>by
  rcases List.mem_append.1 hx with e|e
  ·have:=hlp x e;omega
  ·have:=hDb x e;omega) h40) ?_
 rintro _ w14 ⟨ho14,ms,S,n14,rfl,hS14,gms,kpt2⟩
 have z13:w11.drew.heap.size≤w13.heap.size:=Nat.le_trans ho12.size ho13.size
 refine⟨.inr (sb13.only ho14 fun z hz=>⟨Nat.lt_of_lt_of_le (lt11 z hz) z13,by simp⟩),?_⟩
 have o14:=o13.nil ho14
 have vb11:=lt11 vb (by simp)
 have hv14:=((vd11.keep0 ho12).keep ho13 (dis12 vb vb11)).keep0 ho14
 refine gO ?_
 refine stS hv14 (by simp) rfl fun w15 hs15 hat15 ho15=>⟨.inl rfl,?_⟩
 have hv15:At w15 vb [.pointer (some hp),.map (some mk),.map (some ms),vD]:=hat15
 have ms13:w13.heap.size≤ms:=gms
 have vbms:vb≠ms:=by omega
 have o15:Only [] w w15:=o14.trans ho15 onv
 have mk11:mk<w11.drew.heap.size:=MpAt.lt (hK11.keep0 od11)
 have hK15:MB w15 mk K:=((((hK11.keep0 od11).keep0 ho12).keep ho13 (dis12 mk mk11)).keep0 ho14).keep ho15 (by simp;omega)
 have hS15:MB w15 ms S:=hS14.keep ho15 (by simp;omega)
 have q11:=lt11 q (by simp)
 have hq15:=(((qd11.keep0 ho12).keep ho13 (dis12 q q11)).keep0 ho14).keep ho15 (by simpa using qv)
 have f9lt: ∀z,z∈f9→z<w11.drew.heap.size:=fun z hz=>hDv.lt z hz
 have f9vb:vb∉f9:=fun e=>by have:=g9 vb e;have:w8.drew.heap.size=w8.heap.size:=rfl;omega
 have hD15:=(((((hDv.keep0 od11).keep0 ho12).keep ho13 fun z hz=>dis12 z (f9lt z hz)).keep0 ho14)).keep ho15 fun z hz e=>f9vb (by simp only[lms]at e;exact e▸hz)
 refine gO2 hq15.cell hv15.cell ?_
 refine callT (mDeleteFunc (p:=fun x=>decide (x∈K)) (F:=138) (caps:=#[.pointer (some ⟨q,0,none⟩)]) hS15 (by kernel_rfl) fun w' x ho hx=>?_) ?_
 ·exact vSaved (hq15.keep ho (by simp;omega)) (hv15.keep ho (by simpa using vbms)) (hK15.keep ho (by simp;omega)) x
 rintro _ w16 ⟨ho16,hS16⟩
 have o16:Only [] w w16:=o15.trans ho16 fun y hy=>by simp only[lms]at hy;subst hy;have:=o13.size;exact .inr (by omega)
 have hq16:=hq15.keep ho16 (by simp;omega)
 refine gO1 hq16.cell ?_
 have msf9:ms∉f9:=fun e=>by have:=f9lt ms e;omega
 have mkf9:mk∉f9:=fun e=>dis9 mk mk8 e
 refine⟨o16,vb,mk,ms,vD,f9,K,S,rfl,hv15.keep ho16 (by simpa using vbms),hK15.keep ho16 (by simp;omega),hS16,?_,kpt,?_,vbw,?_,?_,?_,?_,vbms,?_,f9vb,mkf9,msf9⟩
 ·rw[←hDe];exact hD15.keep ho16 fun z hz e=>msf9 (by simp only[lms]at e;exact e▸hz)
 ·rw[←hDe];exact kpt2
 ·omega
 ·have:=o13.size;omega
 ·intro y hy;have:=g9 y hy;have:=o8d.size;omega
 ·omega
 ·omega
end
section
set_option maxRecDepth 8000
variable {fp:List Nat} {xs:List Value} {n sz:Nat} {v:Value} {w w':World}
theorem SlW.keep {S:List Nat} (h:SlW w sz v n xs fp) (k:Only S w w') (hd: ∀x,x∈fp→x∉S):SlW w' sz v n xs fp:=by
 refine⟨h.1,h.2.elim .inl fun⟨g,cap,pre,ys,post,T,h1,h2,h3,h4,h5⟩=>.inr ⟨g,cap,pre,ys,post,T,h1,h2,?_,h4,h5⟩⟩
 rw[k.block g ((Array.getElem?_eq_some_iff.1 h3).1) (hd g (by simp[h2]))]
 exact h3
theorem SlW.keep0 (h:SlW w sz v n xs fp) (k:Only [] w w'):SlW w' sz v n xs fp:=h.keep k (by simp)
theorem SlW.val (h:SlW w sz v n xs fp): ∃(a:Option Addr) (cap:Nat),v=.slice a n cap:=by
 rcases h.2 with⟨rfl,rfl,_⟩|⟨g,cap,pre,ys,post,T,rfl,_⟩
 ·exact⟨_,_,rfl⟩
 ·exact⟨_,_,rfl⟩
theorem SlW.rd {xs:List Int} (h:SlW w 1 v xs.length (ints xs) fp):RdB w fp v xs:=by
 rcases h.2 with⟨rfl,h2,rfl⟩|⟨g,cap,pre,ys,post,T,rfl,rfl,h3,h4,h5⟩
 ·exact⟨none,0,by rw[h2],fun i hi=>by omega⟩
 ·refine⟨_,cap,rfl,fun i hi=>⟨_,rfl,by simp,?_⟩⟩
  rw[addr_add]
  simp only[World.cell?,h3]
  have hl:(ints xs).length=xs.length:=by simp[ints]
  simp[List.getElem?_append_right,List.getElem?_append_left,hl,hi,ints]
theorem SlW.tail {a:Option Addr} {cap:Nat} {x:Int} {xs:List Int} {k:IntKind} (h:SlW w 1 (.slice a n cap) (x::xs).length (ints (x::xs)) fp) (hn:n=(x::xs).length):
  ∃v',slcO 1 (.slice a n cap) (some (.int k 1)) none=some v'∧SlW w 1 v' xs.length (ints xs) fp:=by
 subst hn
 rcases h.2 with⟨_,h2,_⟩|⟨g,cap',pre,ys,post,T,h1,rfl,h3,h4,h5⟩
 ·simp at h2
 ·injection h1 with h6 _ h7
  subst h6;subst h7
  have hx:ints (x::xs)=.int .i64 x::ints xs:=rfl
  rw[hx]at h3 h4
  by_cases hc:1<cap
  ·refine⟨_,slcO_l (l:=1) (by simp) hc,by simp[ints],.inr ⟨g,cap-1,pre++[.int .i64 x],ys,post,T,?_,rfl,?_,?_,?_⟩⟩
   ·simp[addr_add]
   ·rw[h3];simp
   ·simp only[lla,List.length_cons]at h4⊢;omega
   ·simp only[List.length_cons]at h5;omega
  ·have hcap:cap=1:=by simp only[List.length_cons]at h5;omega
   subst hcap
   have hxs:xs=[]:=by
    cases xs with
    |nil=>rfl
    |cons y ys=>simp only[List.length_cons]at h5;omega
   subst hxs
   refine⟨_,slcO_all (l:=1) rfl,by simp[ints],.inr ⟨g,0,pre,[],.int .i64 x::ys++post,T,rfl,rfl,?_,?_,by simp⟩⟩
   ·rw[h3];simp[ints]
   ·simp[ints]
end
section
set_option maxRecDepth 8000
variable {s:HL} {x y:Int} {K T:List Int} {R:Rt.MS}
theorem strong_live (hs:s.Ok) (hsn:Snd true s R) (hy:y∈strongO (some s) x):Liv s y:=by
 obtain⟨j,h1,h2,h3,_⟩:=mem_strongR.1 hy
 by_cases c:(shapeO (some s) x).2=0
 ·obtain⟨k,rfl,hk⟩:=shape_live hs c
  rw[refsO_at hs hk]at h1 h2
  have:=hsn.ref hk h1
  unfold HL.RF at this
  rw[←h2]at this
  rcases this with e|⟨_,e⟩
  ·exact absurd e h3
  ·exact e
 ·exfalso
  have:(refsO (some s) x).length=0:=by
   unfold refsO
   rw[List.length_map,List.length_range]
   unfold shapeO at c⊢
   cases hh:hasO (some s) x with
   |true=>simp[objE,hh]at c
   |false=>simp[objE,hh]
  omega
structure Rea (s:HL) (x:Int) (K:List Int):Prop where
 nd:K.Nodup
 liv: ∀y,y∈K→Liv s y
 a: ∀y,y∈strongO (some s) x→y∈K
 c: ∀y z,y∈K→z∈strongO (some s) y→z∈K
 i: ∀P:Int→Prop,(∀y,y∈strongO (some s) x→P y)→(∀y z,P y→z∈strongO (some s) y→P z)→ ∀y,y∈K→P y
structure ReaT (s:HL) (x:Int) (K T:List Int):Prop where
 nd:K.Nodup
 liv: ∀y,y∈K→Liv s y
 lt: ∀y,y∈T→Liv s y
 a: ∀y,y∈strongO (some s) x→y∈K∨y∈T
 c: ∀y z,y∈K→z∈strongO (some s) y→z∈K∨z∈T
 i: ∀P:Int→Prop,(∀y,y∈strongO (some s) x→P y)→(∀y z,P y→z∈strongO (some s) y→P z)→ ∀y,y∈K∨y∈T→P y
theorem ReaT.done (h:ReaT s x K []):Rea s x K:=
 ⟨h.nd,h.liv,fun y hy=>(h.a y hy).resolve_right (by simp),fun y z hy hz=>(h.c y z hy hz).resolve_right (by simp),fun P h1 h2 y hy=>h.i P h1 h2 y (.inl hy)⟩
theorem ReaT.skip (h:ReaT s x K (y::T)) (hy:y∈K):ReaT s x K T:=
 ⟨h.nd,h.liv,fun z hz=>h.lt z (List.mem_cons_of_mem _ hz),fun z hz=>(h.a z hz).elim .inl fun e=>(List.mem_cons.1 e).elim (fun e=>.inl (e▸hy)) .inr,fun u z hu hz=>(h.c u z hu hz).elim .inl fun e=>(List.mem_cons.1 e).elim (fun e=>.inl (e▸hy)) .inr,fun P h1 h2 z hz=>h.i P h1 h2 z (hz.imp_right (List.mem_cons_of_mem _))⟩
theorem ReaT.step (hs:s.Ok) (hsn:Snd true s R) (h:ReaT s x K (y::T)) (hy:y∉K):ReaT s x (K++[y]) (T++strongO (some s) y):=by
 refine⟨?_,fun z hz=>?_,fun z hz=>?_,fun z hz=>?_,fun u z hu hz=>?_,fun P h1 h2 z hz=>?_⟩
 ·rw[List.nodup_append]
  exact⟨h.nd,by simp,fun a ha b hb e=>hy (by simp only[lms]at hb;rw[←hb,←e];exact ha)⟩
 ·rcases List.mem_append.1 hz with e|e
  ·exact h.liv z e
  ·simp only[lms]at e;rw[e];exact h.lt y (by simp)
 ·rcases List.mem_append.1 hz with e|e
  ·exact h.lt z (List.mem_cons_of_mem _ e)
  ·exact strong_live hs hsn e
 ·rcases h.a z hz with e|e
  ·exact .inl (List.mem_append_left _ e)
  ·rcases List.mem_cons.1 e with e|e
   ·exact .inl (by rw[e];simp)
   ·exact .inr (List.mem_append_left _ e)
 ·rcases List.mem_append.1 hu with e|e
  ·rcases h.c u z e hz with e|e
   ·exact .inl (List.mem_append_left _ e)
   ·rcases List.mem_cons.1 e with e|e
    ·exact .inl (by rw[e];simp)
    ·exact .inr (List.mem_append_left _ e)
  ·simp only[lms]at e
   rw[e]at hz
   exact .inr (List.mem_append_right _ hz)
 ·have hPy:P y:=h.i P h1 h2 y (.inr (by simp))
  rcases hz with e|e
  ·rcases List.mem_append.1 e with e|e
   ·exact h.i P h1 h2 z (.inl e)
   ·simp only[lms]at e;rw[e];exact hPy
  ·rcases List.mem_append.1 e with e|e
   ·exact h.i P h1 h2 z (.inr (List.mem_cons_of_mem _ e))
   ·exact h2 y z hPy e
def slLen (v:Value):Nat:=match v with
 |.slice _ n _=>n
 |_=>0
theorem vReach {w:World} {vb:Nat} {hp:Addr} {cs:List Value} {fp:List Nat} (hv:At w vb (.pointer (some hp)::cs)) (hr:HR w (some hp) fp (some s)) (hs:s.Ok) (hsn:Snd true s R) (h40:s.objs.length≤2000) (x:Int) (hx:Liv s x):
  Cs Tryz.prog 139 [.pointer (some ⟨vb,0,none⟩),.int .i64 x] w fun v w'=>Only [] w w'∧ ∃bm K,v=.map (some bm)∧MB w' bm K∧Rea s x K∧w.heap.size≤bm:=by
 have hx2:=hx.le hs
 refine enter_final_view_reach rfl ?_
 unfold x_final_view_reach
 refine gO ?_
 refine mkmapT fun bm w1 hbm hs1 hm1 ho1=>?_
 (repeat(first|with_reducible(first|refine nx ?_|refine r_6 rfl ?_)|simp only[go_sem,(hv.keep0 ho1).cell]))
 refine callT (cStrong (hr.keep0 ho1) hs x (by omega)) ?_
 rintro v0 w2 ⟨ho2,f2,hl2,g2⟩
 have o2:=ho1.nil ho2
 have sl15: ∀y,(strongO (some s) y).length≤15:=fun y=>Nat.le_trans strongR_len (refs_le hs y)
 have f2b:bm∉f2:=fun e=>by have:=g2 bm e;omega
 refine gO ?_
 refine run_loop (6::7::15::16::17::18::19::20::21::22::23::24::25::26::27::28::29::30::31::32::33::34::35::36::[]) (fun g w'=> ∃(T K:List Int) (ft:List Nat),SlW w' 1 (g 6) T.length (ints T) ft∧T.length≤16+16*K.length∧MB w' bm K∧ReaT s x K T∧Only [bm] w1 w'∧bm∉ft∧ ∀y,y∈ft→w1.heap.size≤y) (fun g w'=>16*(2000-mapLen w' bm)+slLen (g 6))
  ⟨strongO (some s) x,[],f2,by simp only[go_sem];exact hl2.toW,by have:=sl15 x;simp;omega,hm1.keep0 ho2,?_,ho2.of_nil,f2b,g2⟩ fun g w3 hI hnext=>?_
 ·exact⟨List.nodup_nil,fun y hy=>absurd hy (by simp),fun y hy=>strong_live hs hsn hy,fun y hy=>.inr hy,fun y z hy=>absurd hy (by simp),fun P h1 _ y hy=>h1 y (hy.resolve_left (by simp))⟩
 obtain⟨T,K,ft,hT,hTl,hK,hre,ho3,hbt,gt⟩:=hI
 have hKl:K.length≤2000:=Nat.le_trans (nodup_le hre.nd hre.liv) h40
 have o3:Only [] w w3:=ho1.trans ho3 fun y hy=>by simp only[lms]at hy;subst hy;exact .inr (by omega)
 generalize h6:g 6=v6 at hT
 obtain⟨a6,c6,rfl⟩:=hT.val
 cases T with
 |nil=>
  (repeat(first|with_reducible(first|refine nx ?_|refine r_6 rfl ?_)|simp only[go_sem,h6,show decide ((0:Int)<((0:Nat):Int))=false from rfl,show decide ((0:Int)<((([]:List Int).length:Nat):Int))=false from rfl]))
  exact⟨o3,bm,K,rfl,hK,hre.done,by omega⟩
 |cons y T=>
 have hml:=hK.len
 obtain⟨p,hp6,hc6⟩:=hT.rd.get (i:=0) (by simp)
 subst hp6
 obtain⟨v',hsl,hT'⟩:=hT.tail (k:=.i64) rfl
 simp only[List.length_cons]at hsl h6
 have hc0:w3.cell? (p.add 0)=some (.int .i64 y):=hc6
 have hyl:Liv s y:=hre.lt y (by simp)
 (repeat(first|with_reducible(first|refine nx ?_|refine r_6 rfl ?_)|simp only[go_sem,h6,dtr (show(0:Int)<((T.length+1:Nat):Int) by omega),if_pos (show(0:Int)<((T.length+1:Nat):Int) by omega),hc0,(show w3.cell? p=some (.int .i64 y)from hc0),hsl,Int.toNat_zero,Nat.zero_mul,show(0:Int).toNat*1=0 from rfl]))
 refine lkpT Tryz.underlying115 Tryz.underlying3 (Tryz.zeroValue4 _) hK ?_
 rw[getM_setD]
 obtain⟨a',c',e'⟩:=hT'.val
 by_cases c:y∈K
 ·rw[dtr c]
  refine gO ?_
  refine hnext _ w3 ⟨T,K,ft,by simp only[go_sem];exact hT',by simp only[List.length_cons]at hTl;omega,hK,hre.skip c,ho3,hbt,gt⟩ ?_
  ·simp only[go_sem,h6]
   rw[e'];simp only[slLen,List.length_cons];omega
 rw[dfl c]
 refine gO ?_
 refine mputT Tryz.underlying115 Tryz.underlying3 hK fun w4 hs4 hm4 ho4=>?_
 rw[putM_set c]at hm4
 have hK4:MB w4 bm (K++[y]):=hm4
 have o4:Only [bm] w1 w4:=ho3.trans ho4 fun z hz=>.inl hz
 have o4w:Only [] w w4:=ho1.trans o4 fun z hz=>by simp only[lms]at hz;subst hz;exact .inr (by omega)
 have hT4:=hT'.keep ho4 fun z hz e=>hbt (by simp only[lms]at e;exact e▸hz)
 subst e'
 (repeat(first|with_reducible(first|refine nx ?_|refine r_6 rfl ?_)|simp only[go_sem,(hv.keep0 o4w).cell]))
 refine callT (cStrong (hr.keep0 o4w) hs y (by have:=hyl.le hs;omega)) ?_
 rintro v5 w5 ⟨ho5,f5,hl5,g5⟩
 have sy:=sl15 y
 have hn4:=nodup_le (s:=s) (K:=K++[y]) (hre.step hs hsn c).nd (hre.step hs hsn c).liv
 simp only[lla,List.length_singleton]at hn4
 have hT5:=hT4.keep0 ho5
 refine gO ?_
 refine appTW hT5 hl5.src ints_one (by simp only[List.length_cons]at hTl;omega) (by simp only[List.length_cons]at hTl;omega) ?_
 intro v6 w6 f6 hs6 hf6 ho6 _
 have z4:=o4.size
 have z5:=ho5.size
 have o6:Only [bm] w1 w6:=(o4.nil ho5).trans ho6 fun z hz=>.inr (gt z hz)
 have hK6:=(hK4.keep0 ho5).keep ho6 (by exact hbt)
 have hbm6:bm<w5.heap.size:=MpAt.lt (hK4.keep0 ho5)
 have hs6':SlW w6 1 v6 (T++strongO (some s) y).length (ints (T++strongO (some s) y)) f6:=by rw[lla,ints_append];exact hs6
 obtain⟨a7,c7,e7⟩:=hs6'.val
 refine gO ?_
 refine hnext _ w6 ⟨T++strongO (some s) y,K++[y],f6,by simp only[go_sem];exact hs6',?_,hK6,hre.step hs hsn c,o6,?_,?_⟩ ?_
 ·simp only[lla,List.length_cons,List.length_nil]at hTl⊢;omega
 ·rcases hf6 with rfl|rfl
  ·exact hbt
  ·simp only[lms];omega
 ·intro z hz
  rcases hf6 with rfl|rfl
  ·exact gt z hz
  ·simp only[lms]at hz;omega
 ·rw[hK6.len]
  simp only[go_sem,h6]
  rw[e7]
  simp only[slLen,lla,List.length_cons,List.length_nil]at hml⊢
  omega
end
section
set_option maxRecDepth 8000
variable {g i:Nat}
theorem slc3O_one {n cap:Nat} (h:i<n) (hc:n≤cap):slc3O 1 (.slice (some ⟨g,0,none⟩) n cap) (.int .i64 (i:Int)) (.int .i64 ((i+1:Nat):Int)) (.int .i64 (n:Int))=some (.slice (some ⟨g,i,none⟩) 1 (n-i)):=by
 unfold slc3O
 simp only
 rw[if_pos ⟨by omega,by omega,by omega,by omega⟩]
 simp only[tnc]
 rw[if_neg (by omega),Option.map_some,addr_add,Nat.zero_add,Nat.mul_one,show i+1-i=1 by omega]
theorem sDelete {w:World} {v0:Value} {xs:List Int} (hsl:Sl w 1 v0 xs.length (ints xs) [g]) (hi:i<xs.length) (hl:xs.length≤4000):
  Cs Tryz.prog 104 [v0,.int .i64 (i:Int),.int .i64 ((i+1:Nat):Int)] w fun v w'=>Only [g] w w'∧Sl w' 1 v (xs.eraseIdx i).length (ints (xs.eraseIdx i)) [g]:=by
 obtain⟨cap,ys,rfl,hat,hcl⟩: ∃cap ys,v0=.slice (some ⟨g,0,none⟩) xs.length cap∧At w g (ints xs++ys)∧(ints xs++ys).length=cap:=by
  rcases hsl.2 with⟨_,h0,_⟩|⟨g',cap',ys,T,h1,h2,h3,h4,h5⟩
  ·omega
  ·cases h2;exact⟨cap',ys,h1,⟨T,h3⟩,by simpa using h4⟩
 have hcap:xs.length≤cap:=by rw[lla,ints_length]at hcl;omega
 have hin:(xs.eraseIdx i).length=xs.length-1:=List.length_eraseIdx_of_lt hi
 have hee:xs.eraseIdx i=xs.take i++xs.drop (i+1):=List.eraseIdx_eq_take_drop_succ xs i
 refine enter_slices_Delete___int_int_ rfl ?_
 unfold x_slices_Delete___int_int_
 have ne:((i:Int)==((i+1:Nat):Int))=false:=bqf (by omega)
 (repeat(first|with_reducible(first|refine nx ?_|refine r_6 rfl ?_)|simp only[go_sem,slc3O_one hi hcap,ne]))
 rw[slcO_h (show i≤cap by omega)]
 have hsA:Sl w.drew 1 (.slice (some ⟨g,0,none⟩) i cap) i (ints (xs.take i)) [g]:=by
  have h1:At w.drew g (ints (xs.take i)++(ints (xs.drop i)++ys)):=by
   rw[←List.append_assoc,←ints_append,List.take_append_drop];exact hat.keep0 (Only.drew [] w)
  exact Sl.mk1 h1 (by rw[ints_length,List.length_take];omega) (by rw[←hcl];simp only[lla,ints_length,List.length_take,List.length_drop];omega)
 obtain⟨vB,hB,hsB⟩: ∃vB,slcO 1 (.slice (some ⟨g,0,none⟩) xs.length cap) (some (.int .i64 ((i+1:Nat):Int))) none=some vB∧SrcIs w.drew 1 vB (xs.length-(i+1)) (ints (xs.drop (i+1))):=by
  have hlen:(ints (xs.drop (i+1))).length=(xs.length-(i+1))*1:=by rw[ints_length,List.length_drop,Nat.mul_one]
  by_cases c:i+1<cap
  ·refine⟨_,slcO_l (l:=i+1) (by omega) c,hlen,.inr ⟨_,_,rfl,?_⟩⟩
   rw[addr_add,Nat.zero_add,Nat.mul_one,cellsAt_at (hat.keep0 (Only.drew [] w)) (i+1) _ (by rw[lla,ints_length];omega)]
   congr 1
   rw[List.drop_append_of_le_length (by rw[ints_length];omega),List.take_append_of_le_length (by rw[List.length_drop,ints_length];omega)]
   rw[List.take_of_length_le (by rw[List.length_drop,ints_length];omega)]
   simp[ints,List.map_drop]
  ·have e1:i+1=xs.length:=by omega
   have e2:cap=xs.length:=by omega
   rw[e2]
   refine⟨_,slcO_all (l:=i+1) e1,hlen,?_⟩
   rw[show xs.length-(i+1)=0 by omega]
   refine .inr ⟨_,0,rfl,?_⟩
   rw[cellsAt_at (hat.keep0 (Only.drew [] w)) 0 _ (by simp),List.drop_eq_nil_of_le (show xs.length≤i+1 by omega)]
   simp[ints]
 refine gO1 hB ?_
 refine appT hsA hsB ints_one (by omega) (by omega) ?_
 intro v1 w1 f1 hs1 _ ho1 hap
 obtain⟨rfl,rfl⟩:=hap.2 _ _ rfl (by omega)
 have en:i+(xs.length-(i+1))=xs.length-1:=by omega
 rw[←ints_append,←hee,en]at hs1
 rw[en]
 obtain⟨zs,hat1,hcl1⟩: ∃zs,At w1 g (ints (xs.eraseIdx i)++zs)∧(ints (xs.eraseIdx i)++zs).length=cap:=by
  rcases hs1.2 with⟨h0,_⟩|⟨g',cap',zs,T,h1,h2,h3,h4,h5⟩
  ·cases h0
  ·cases h1;exact⟨zs,⟨T,h3⟩,by simpa using h4⟩
 have o1:Only [g] w w1:=((Only.drew [] w).of_nil).trans ho1 fun y hy=>.inl hy
 refine gO ?_
 rw[slcO_lh (show xs.length-1≤xs.length by omega) hcap (by omega)]
 (repeat(first|with_reducible(first|refine nx ?_|refine r_6 rfl ?_)|simp only[go_sem,addr_add,Nat.zero_add,Nat.mul_one,show xs.length-(xs.length-1)=1 by omega]))
 refine clearT Tryz.underlying33 (Tryz.zeroValue3 w1) rfl hat1 (by omega) fun w2 hs2 hat2 ho2=>?_
 refine gO ?_
 refine⟨o1.trans ho2 fun y hy=>.inl hy,?_⟩
 have hel:(ints (xs.eraseIdx i)).length=xs.length-1:=by rw[ints_length,hin]
 rw[List.take_left' hel,List.append_assoc]at hat2
 rw[hin]
 refine Sl.mk1 hat2 hel ?_
 rw[←hcl1]
 simp only[lla,hel,List.length_replicate,List.length_drop]
 have:(ints (xs.eraseIdx i)++zs).length=cap:=hcl1
 rw[lla,hel]at this
 omega
end
section
set_option maxRecDepth 8000
inductive Rs (s:HL) (x:Int):Int→Prop
 |one {y:Int}:y∈strongO (some s) x→Rs s x y
 |more {y z:Int}:Rs s x y→z∈strongO (some s) y→Rs s x z
theorem Rs.trans {s:HL} {x y z:Int} (h:Rs s x y) (k:Rs s y z):Rs s x z:=by
 induction k with
 |one e=>exact .more h e
 |more _ e ih=>exact .more ih e
theorem Rea.iff {s:HL} {x:Int} {K:List Int} (h:Rea s x K) (y:Int):y∈K↔Rs s x y:=by
 refine⟨fun hy=>h.i (Rs s x) (fun _=>.one) (fun _ _=>.more) y hy,fun hy=>?_⟩
 induction hy with
 |one e=>exact h.a _ e
 |more _ e ih=>exact h.c _ _ ih e
open Classical in
noncomputable def bef (s:HL) (x y:Int):Bool:=decide (Rs s x y)&&!decide (Rs s y x)
theorem bef_iff {s:HL} {x y:Int}:bef s x y=true↔Rs s x y∧ ¬Rs s y x:=by simp[bef]
theorem bef_trans {s:HL} {x y z:Int} (h:bef s x y=true) (k:bef s y z=true):bef s x z=true:=by
 rw[bef_iff]at*
 exact⟨h.1.trans k.1,fun e=>k.2 (e.trans h.1)⟩
theorem bef_irr (s:HL) (x:Int):bef s x x=false:=by
 rw[Bool.eq_false_iff];intro h;rw[bef_iff]at h;exact h.2 h.1
theorem bef_first (s:HL): ∀l:List Int,l≠ []→ ∃y,y∈l∧l.any (fun x=>bef s x y)=false
 | [],h=>absurd rfl h
 | [a],_=>⟨a,by simp,by simp[bef_irr]⟩
 |a::b::l,_=>by
  obtain⟨y,hy,hn⟩:=bef_first s (b::l) (by simp)
  by_cases c:bef s a y=true
  ·refine⟨a,by simp,?_⟩
   rw[List.any_eq_false]at hn⊢
   intro x hx hb
   rcases List.mem_cons.1 hx with rfl|hx
   ·rw[bef_irr]at hb;cases hb
   ·exact hn x hx (bef_trans hb c)
  ·refine⟨y,List.mem_cons_of_mem _ hy,?_⟩
   rw[List.any_cons,hn,Bool.or_false]
   simpa using c
inductive Ordr (s:HL):List Int→List Int→Prop
 |nil:Ordr s [] []
 |cons {l o:List Int} {i:Nat}:i<l.length→(∀j,j<i→l.any (fun x=>bef s x (l.getD j 0))=true)→l.any (fun x=>bef s x (l.getD i 0))=false→Ordr s (l.eraseIdx i) o→Ordr s l (l.getD i 0::o)
def RM (w:World) (s:HL) (rm N:Nat) (D:List Int):Prop:=rm<N∧ ∃m,MpAt w rm m∧ ∀x,x∈D→ ∃bm K,bm<N∧bm≠rm∧getM m x=some (.map (some bm))∧MB w bm K∧Rea s x K
theorem RM.keep {w w':World} {s:HL} {rm N:Nat} {D:List Int} {S:List Nat} (h:RM w s rm N D) (k:Only S w w') (hd: ∀z,z∈S→N≤z):RM w' s rm N D:=by
 obtain⟨h1,m,h2,h3⟩:=h
 refine⟨h1,m,h2.keep k fun e=>by have:=hd _ e;omega,fun x hx=>?_⟩
 obtain⟨bm,K,h4,h5,h6,h7,h8⟩:=h3 x hx
 exact⟨bm,K,h4,h5,h6,h7.keep k fun e=>by have:=hd _ e;omega,h8⟩
theorem RM.keep0 {w w':World} {s:HL} {rm N:Nat} {D:List Int} (h:RM w s rm N D) (k:Only [] w w'):RM w' s rm N D:=h.keep k (by simp)
open Classical in
theorem vBef {w:World} {qR qY rm N:Nat} {s:HL} {D:List Int} {x y:Int} (hR:At w qR [.map (some rm)]) (hY:At w qY [.int .i64 y]) (h:RM w s rm N D) (hx:x∈D) (hy:y∈D):
  Cs Tryz.prog 143 [.int .i64 x,.pointer (some ⟨qR,0,none⟩),.pointer (some ⟨qY,0,none⟩)] w fun v w'=>v=.bool (bef s x y)∧Only [] w w':=by
 obtain⟨_,m,hm,hD⟩:=h
 obtain⟨bx,Kx,_,_,gx,mx,rx⟩:=hD x hx
 obtain⟨by',Ky,_,_,gy,my,ry⟩:=hD y hy
 refine enter_final_view_order_1_1 rfl ?_
 unfold x_final_view_order_1_1
 have ex:decide (y∈Kx)=decide (Rs s x y):=by rw[decide_eq_decide];exact rx.iff y
 have ey:decide (x∈Ky)=decide (Rs s y x):=by rw[decide_eq_decide];exact ry.iff x
 refine gO2 hR.cell hY.cell ?_
 refine lkpT Tryz.underlying182 Tryz.underlying3 (Tryz.zeroValue115 _) hm ?_
 rw[gx]
 refine gO1 hY.cell ?_
 refine lkpT Tryz.underlying115 Tryz.underlying3 (Tryz.zeroValue4 _) mx ?_
 rw[getM_setD,ex]
 by_cases c:Rs s x y
 ·rw[dtr c]
  refine gO2 hR.cell hY.cell ?_
  refine lkpT Tryz.underlying182 Tryz.underlying3 (Tryz.zeroValue115 _) hm ?_
  rw[gy]
  refine gO1 hY.cell ?_
  refine lkpT Tryz.underlying115 Tryz.underlying3 (Tryz.zeroValue4 _) my ?_
  rw[getM_setD,ey]
  refine gO ?_
  exact⟨by rw[bef,dtr c,Bool.true_and],Only.refl _ _⟩
 ·rw[dfl c]
  refine gO ?_
  exact⟨by rw[bef,dfl c,Bool.false_and],Only.refl _ _⟩
theorem vFirst {w:World} {qL qR rm N:Nat} {s:HL} {D l:List Int} {vl:Value} {fl:List Nat} {y:Int} (hL:At w qL [vl]) (hl:Sl w 1 vl l.length (ints l) fl) (hll:l.length≤1000) (hR:At w qR [.map (some rm)]) (h:RM w s rm N D) (hs: ∀x,x∈l→x∈D) (hy:y∈D):
  Cs Tryz.prog 141 [.int .i64 y,.pointer (some ⟨qL,0,none⟩),.pointer (some ⟨qR,0,none⟩)] w fun v w'=>v=.bool (!(l.any fun x=>bef s x y))∧Only [] w w':=by
 obtain⟨al,cl,rfl⟩:=hl.val
 refine enter_final_view_order_1 rfl ?_
 unfold x_final_view_order_1
 refine gO ?_
 refine boxT fun q w1 hq hs1 hat1 ho1=>?_
 (repeat(first|with_reducible(first|refine nx ?_|refine r_6 rfl ?_)|simp only[go_sem,(hL.keep0 ho1).cell]))
 refine callT (containsFunc (p:=fun x=>bef s x y) (F:=143) (caps:=#[.pointer (some ⟨qR,0,none⟩),.pointer (some ⟨q,0,none⟩)]) (fun hne=>?_) (by kernel_rfl) hll fun w' x ho hx=>?_) ?_
 ·obtain⟨g,cap',ys,e,hat,_⟩:=(hl.keep0 ho1).pos (List.length_pos_iff.2 hne)
  cases e
  exact⟨g,ys,rfl,hat⟩
 ·exact vBef ((hR.keep0 ho1).keep0 ho) (hat1.keep0 ho) ((h.keep0 ho1).keep0 ho) (hs x hx) hy
 rintro _ w2 ⟨rfl,ho2⟩
 refine gO ?_
 exact ho1.nil ho2
end
section
section
variable {P:Program} {t kt et:TypeId} {w:World} {b:Nat} {m:IM} {k:Int} {d:Option Nat} {rest:XT} {ρ:Env} {C:Env→World→Prop} {fl:Bool} {L:List Nat} {w0:World}
theorem mputS (ht:P.underlying t=some (.map kt et)) (hd:P.underlying kt=some (.int .i64)) {v:Value} (h:MpAt w b m) (h2: ∀w',w'.heap.size=w.heap.size→MpAt w' b (putM m k v)→Only [b] w w'→(fl=true∨SB L w0 w')∧VT P L w0 rest (putO ρ d undef) w' C):
  RunUS P fl L w0 (Instr.mapUpdate t (.map (some b)) (.int .i64 k) v) d rest ρ w C:=by
 obtain⟨w',h3,h4,h5,h6⟩:=run_put (k:=k) ht hd h v
 exact runUS h3 (h2 w' h4 h5 h6).1 (h2 w' h4 h5 h6).2
end
theorem RM.put {w w2 w3:World} {s:HL} {rm:Nat} {D:List Int} {x:Int} {m:IM} {bm:Nat} {K:List Int} (h2:MpAt w rm m) (hm3:MpAt w3 rm (putM m x (.map (some bm)))) (hD: ∀y,y∈D→ ∃bm K,bm<w.heap.size∧bm≠rm∧getM m y=some (.map (some bm))∧MB w bm K∧Rea s y K)
  (o2:Only [] w w2) (hK:MB w2 bm K) (hre:Rea s x K) (hb:w.heap.size≤bm) (o3:Only [rm] w2 w3):RM w3 s rm w3.heap.size (D++[x]):=by
 have hrm:=h2.lt
 have z2:=o2.size
 have z3:=o3.size
 have hb2:bm<w2.heap.size:=MpAt.lt hK
 refine⟨by omega,_,hm3,fun y hy=>?_⟩
 rw[getM_putM]
 by_cases c:y=x
 ·rw[if_pos c,c]
  exact⟨bm,K,by omega,by omega,rfl,hK.keep o3 (by simp;omega),hre⟩
 ·rw[if_neg c]
  obtain⟨bm',K',g1,g2,g3,g4,g5⟩:=hD y ((List.mem_append.1 hy).resolve_right (by simpa using c))
  exact⟨bm',K',by omega,g2,g3,(g4.keep0 o2).keep o3 (by simpa using g2),g5⟩
set_option maxHeartbeats 1000000 in
theorem vOrder {w:World} {vb:Nat} {hp:Addr} {c1 c2 vd:Value} {fd fp:List Nat} {s:HL} {R:Rt.MS} {D:List Int} (hv:At w vb [.pointer (some hp),c1,c2,vd]) (hD:Sl w 1 vd D.length (ints D) fd) (hDl:D.length≤500) (hlv: ∀x,x∈D→Liv s x) (hr:HR w (some hp) fp (some s)) (hs:s.Ok) (hsn:Snd true s R) (h40:s.objs.length≤2000):
  Cs Tryz.prog 56 [.pointer (some ⟨vb,0,none⟩)] w fun v w'=>Only [] w w'∧ ∃o fo,Ordr s D o∧Sl w' 1 v o.length (ints o) fo∧ ∀y,y∈fo→w.heap.size≤y:=by
 obtain⟨ad,cd,rfl⟩:=hD.val
 refine enter_final_view_order rfl ?_
 unfold x_final_view_order
 refine gO ?_
 refine mkmapT fun rm w1 hrm hs1 hm1 ho1=>?_
 refine gO ?_
 refine boxT fun qR w2 hqR hs2 hat2 ho2=>?_
 refine gO ?_
 refine stT hat2 (by simp) rfl fun w3 hs3 hat3 ho3=>?_
 have hR3:At w3 qR [.map (some rm)]:=hat3
 have hm3:MpAt w3 rm []:=(hm1.keep0 ho2).keep ho3 (by simp;omega)
 have o3:Only [] w w3:=(ho1.nil ho2).trans ho3 fun y hy=>by simp only[lms]at hy;subst hy;exact .inr (by omega)
 (repeat(first|with_reducible(first|refine nx ?_|refine r_6 rfl ?_)|simp only[go_sem,(hv.keep0 o3).cell]))
 refine run_loop (5::15::16::17::18::19::20::21::22::23::24::[]) (fun g w'=> ∃i:Nat,g 15=.int .i64 (i:Int)∧i≤D.length∧Only [rm] w3 w'∧RM w' s rm w'.heap.size (D.take i)) (fun g _=>upTo D.length 15 g)
  ⟨0,by simp only[go_sem];rfl,by omega,Only.refl _ _,hm3.lt,[],hm3,fun x hx=>absurd hx (by simp)⟩ fun g w4 hI hnext=>?_
 obtain⟨i,h15,hi,ho4,hrmN,m,hm4,hDi⟩:=hI
 have o4:Only [] w w4:=o3.trans ho4 fun y hy=>by simp only[lms]at hy;subst hy;exact .inr (by omega)
 have hR4:=hR3.keep ho4 (by simp;omega)
 by_cases c:i<D.length
 ·obtain⟨gd,_,yd,ed,hatd,_,_⟩:=(hD.keep0 o4).pos (by omega)
  cases ed
  have ci:(0:Int)≤(i:Int)∧(i:Int)<(D.length:Int):=by omega
  have vr:w4.cell? ⟨gd,i,none⟩=some (.int .i64 (D.getD i 0)):=by rw[hatd.cell];exact ints_append_get yd c
  refine gJ4 h15 (dtr ci.2) (eq_true ci) vr ?_
  refine run_drt [qR] ?_
  have od:=Only.drew [] w4
  have hRd:=hR4.keep0 od
  have o4d:=o4.nil od
  have hxl:Liv s (D.getD i 0):=hlv _ (by simp[c])
  refine gO1 hRd.cell ?_
  refine callS (vReach (hv.keep0 o4d) (hr.keep0 o4d) hs hsn h40 (D.getD i 0) hxl) ?_
  rintro _ w5 ⟨ho5,bm,K,rfl,hK,hre,hbm⟩
  refine⟨.inr ((SB.refl _ _).only ho5 fun z hz=>⟨by simp only[lms]at hz;subst hz;exact hRd.lt,by simp⟩),?_⟩
  refine gO ?_
  refine mputS Tryz.underlying182 Tryz.underlying3 ((hm4.keep0 od).keep0 ho5) fun w6 hs6 hm6 ho6=>⟨.inl rfl,?_⟩
  refine gO2 h15 (i64_succ i (by omega)) ?_
  refine hnext _ w6 ⟨i+1,?_,by omega,((ho4.nil od).nil ho5).trans ho6 fun y hy=>.inl hy,?_⟩ ?_
  ·simp only[go_sem]
  ·have:=RM.put (w:=w4) hm4 hm6 hDi (od.nil ho5) hK hre hbm ho6
   rw[List.take_succ_eq_append_getElem c]
   simpa[c]using this
  ·exact up_lt h15
 have hiD:i=D.length:=by omega
 subst hiD
 rw[List.take_length]at hDi
 have hRM:RM w4 s rm w4.heap.size D:=⟨hrmN,m,hm4,hDi⟩
 (repeat(first|with_reducible(first|refine nx ?_|refine r_6 rfl ?_)|simp only[go_sem,h15,dfl (show¬((D.length:Nat):Int)<(D.length:Int) by omega),(hv.keep0 o4).cell]))
 refine callT (sclone (hD.keep0 o4).src ints_one (by omega)) ?_
 rintro vl w5 ⟨ho5,fc,hc5,gc⟩
 refine gO ?_
 refine boxT fun qL w6 hqL hs6 hat6 ho6=>?_
 refine gO ?_
 refine stT hat6 (by simp) hc5.oneC' fun w7 hs7 hat7 ho7=>?_
 have hL7:At w7 qL [vl]:=hat7
 have z4:=o4.size
 have z5:=ho5.size
 have o7:Only [] w w7:=((o4.nil ho5).nil ho6).trans ho7 fun y hy=>by simp only[lms]at hy;subst hy;exact .inr (by omega)
 have o47:Only [] w4 w7:=(ho5.nil ho6).trans ho7 fun y hy=>by simp only[lms]at hy;subst hy;exact .inr (by omega)
 have qLfc:qL∉fc:=fun e=>by have:=hc5.lt qL e;omega
 have hc7:Sl w7 1 vl D.length (ints D) fc:=(hc5.keep0 ho6).keep ho7 fun z hz e=>qLfc (by simp only[lms]at e;exact e▸hz)
 have hR7:=hR4.keep0 o47
 have hRM7:=hRM.keep0 o47
 have hqR4:qR<w4.heap.size:=hR4.lt
 have fw: ∀z,z∈qL::fc→w4.heap.size≤z:=fun z hz=>by
  rcases List.mem_cons.1 hz with rfl|hz
  ·omega
  ·exact gc z hz
 have fw0: ∀z,z∈qL::fc→z∈([]:List Nat)∨w.heap.size≤z:=fun z hz=>.inr (Nat.le_trans z4 (fw z hz))
 refine gO ?_
 refine run_loop (6::8::30::31::32::33::34::35::36::37::38::39::40::41::42::43::44::45::46::47::[]) (fun g w'=> ∃(l o:List Int) (vl:Value) (fo:List Nat),At w' qL [vl]∧Sl w' 1 vl l.length (ints l) fc∧l.length+o.length≤D.length∧(∀x,x∈l→x∈D)∧(∀O,Ordr s l O→Ordr s D (o++O))∧Only (qL::fc) w7 w'∧Sl w' 1 (g 6) o.length (ints o) fo∧ ∀y,y∈fo→w7.heap.size≤y) (fun _ w'=>match w'.cell? ⟨qL,0,none⟩with|some v=>slLen v|none=>0)
  ⟨D,[],vl,[],hL7,hc7,by simp,fun _ h=>h,fun O hO=>hO,Only.refl _ _,by simp only[go_sem];exact Sl.nil1 _,fun y hy=>absurd hy (by simp)⟩ fun g w8 hI hnext=>?_
 obtain⟨l,o,vl8,fo,hL8,hl8,hlo,hlD,hO,ho8,hq8,gfo⟩:=hI
 obtain⟨al,cl,rfl⟩:=hl8.val
 have o8:Only [] w w8:=o7.trans ho8 fw0
 cases l with
 |nil=>
  (repeat(first|with_reducible(first|refine nx ?_|refine r_6 rfl ?_)|simp only[go_sem,hL8.cell,show decide ((0:Int)<((0:Nat):Int))=false from rfl]))
  refine⟨o8,o,fo,?_,hq8,fun y hy=>by have:=gfo y hy;have:=o7.size;omega⟩
  have:=hO [] .nil
  simpa using this
 |cons l0 l1=>
 obtain⟨l,hl⟩: ∃l,l=l0::l1:=⟨_,rfl⟩
 rw[←hl]at hl8 hlo hlD hO hL8
 have hl1:0<l.length:=by rw[hl];simp
 obtain⟨gl,_,yl,el,hatl,hfc,_⟩:=hl8.pos hl1
 cases el
 have hR8:=hR7.keep ho8 fun e=>by have:=fw qR e;omega
 have hRM8:=hRM7.keep ho8 fw
 refine gO2 hL8.cell (dtr (show(0:Int)<(l.length:Int) by omega)) ?_
 refine callT (indexFuncX (p:=fun y=>!(l.any fun x=>bef s x y)) (F:=141) (caps:=#[.pointer (some ⟨qL,0,none⟩),.pointer (some ⟨qR,0,none⟩)]) (fun _=>⟨gl,yl,rfl,hatl⟩) (by kernel_rfl) (by omega) fun w' x ho hx=>?_) ?_
 ·exact vFirst (hL8.keep0 ho) (hl8.keep0 ho) (by omega) (hR8.keep0 ho) (hRM8.keep0 ho) hlD (hlD x hx)
 rintro _ w9 ⟨⟨k,rfl,hk⟩,ho9⟩
 obtain⟨i,rfl,hi,hpi,hbf⟩: ∃i:Nat,k=(i:Int)∧i<l.length∧l.any (fun x=>bef s x (l.getD i 0))=false∧(l.take i).any (fun y=>!(l.any fun x=>bef s x y))=false:=by
  rcases hk with⟨_,hn⟩|⟨i,h1,h2,h3,h4⟩
  ·obtain⟨y,hy,hyn⟩:=bef_first s l (by intro e;rw[e]at hl1;cases hl1)
   have:=List.any_eq_false.1 hn y hy
   simp[hyn]at this
  ·exact⟨i,h1,h2,by simpa using h3,h4⟩
 have hL9:=hL8.keep0 ho9
 have ci:(0:Int)≤(i:Int)∧(i:Int)<(l.length:Int):=by omega
 have vr:w9.cell? ⟨gl,i,none⟩=some (.int .i64 (l.getD i 0)):=by rw[(hatl.keep0 ho9).cell];exact ints_append_get yl hi
 refine gJ3 hL9.cell (eq_true ci) vr ?_
 rw[fillL_one rfl rfl]
 refine gO ?_
 refine bslT fun q10 w10 hq10 hs10 hat10 ho10=>?_
 refine gO ?_
 refine appT ((hq8.keep0 ho9).keep0 ho10) (SrcIs.at (us:=[.int .i64 (l.getD i 0)]) hat10 rfl) (by simp[oneC]) (by omega) (by omega) ?_
 intro v11 w11 f11 hs11 hf11 ho11 _
 have z7:=ho8.size
 have z8:=ho9.size
 have z9:=ho10.size
 have fofc: ∀z,z∈qL::fc→z∉fo:=fun z hz e=>by
  have:=gfo z e
  rcases List.mem_cons.1 hz with rfl|hz
  ·have:=hL7.lt;omega
  ·have:=hc7.lt z hz;omega
 have hL11:=(hL9.keep0 ho10).keep ho11 (fofc qL (by simp))
 have hl11:=((hl8.keep0 ho9).keep0 ho10).keep ho11 fun z hz=>fofc z (List.mem_cons_of_mem _ hz)
 rw[hfc]at hl11
 refine gO2 hL11.cell (i64_succ i (by omega)) ?_
 refine callT (sDelete hl11 hi (by omega)) ?_
 rintro v12 w12 ⟨ho12,hl12⟩
 rw[←hfc]at ho12 hl12
 have f11fc: ∀z,z∈qL::fc→z∉f11:=fun z hz e=>by
  rcases hf11 with rfl|rfl
  ·exact fofc z hz e
  ·simp only[lms]at e
   rcases List.mem_cons.1 hz with rfl|hz
   ·have:=hL7.lt;omega
   ·have:=hc7.lt z hz;omega
 have hL12:=hL11.keep ho12 qLfc
 refine gO ?_
 refine stT hL12 (by simp) hl12.oneC' fun w13 hs13 hat13 ho13=>?_
 have hL13:At w13 qL [v12]:=hat13
 have hl13:=hl12.keep ho13 fun z hz e=>qLfc (by simp only[lms]at e;exact e▸hz)
 have hq13:=(hs11.keep ho12 fun z hz e=>f11fc z (List.mem_cons_of_mem _ e) hz).keep ho13 fun z hz e=>f11fc z (by simp only[lms]at e;rw[e];simp) hz
 obtain⟨a13,c13,e13⟩:=hl13.val
 have hel:(l.eraseIdx i).length=l.length-1:=List.length_eraseIdx_of_lt hi
 refine gO ?_
 refine hnext _ w13 ⟨l.eraseIdx i,o++[l.getD i 0],v12,f11,hL13,hl13,?_,fun x hx=>hlD x (List.mem_of_mem_eraseIdx hx),fun O hO'=>?_,?_,?_,?_⟩ ?_
 ·rw[hel,lla,List.length_singleton];omega
 ·have:=hO (l.getD i 0::O) (.cons hi (fun j hj=>?_) hpi hO')
  ·simpa using this
  ·have:=List.any_eq_false.1 hbf (l.getD j 0) (by
    have hjl:j<l.length:=by omega
    rw[List.mem_take_iff_getElem]
    exact⟨j,by omega,by simp[hjl]⟩)
   simpa using this
 ·exact((((ho8.nil ho9).nil ho10).trans ho11 fun y hy=>.inr (gfo y hy)).trans ho12 fun y hy=>.inl (List.mem_cons_of_mem _ hy)).trans ho13 fun y hy=>.inl (by simp only[lms]at hy;rw[hy];simp)
 ·simp only[go_sem]
  rw[lla,ints_append];exact hq13
 ·intro y hy
  rcases hf11 with rfl|rfl
  ·exact gfo y hy
  ·simp only[lms]at hy;omega
 ·rw[hL13.cell,hL8.cell,e13]
  simp only[List.getElem?_cons_zero,slLen]
  omega
end
section
set_option maxRecDepth 8000
variable {K:List Int} {cs:List Value} {mk q vb:Nat} {c0:Value} {w:World}
theorem vKept1 (hq:At w q [.pointer (some ⟨vb,0,none⟩)]) (hv:At w vb (c0::.map (some mk)::cs)) (hK:MB w mk K) (x:Int):
  Cs Tryz.prog 54 [.int .i64 x,.pointer (some ⟨q,0,none⟩)] w fun v w'=>v=.bool (decide (x∈K))∧Only [] w w':=by
 refine enter_final_Registry_Collect_1 rfl ?_
 unfold x_final_Registry_Collect_1
 refine gO2 hq.cell hv.cell ?_
 refine lkpT Tryz.underlying115 Tryz.underlying3 (Tryz.zeroValue4 _) hK ?_
 rw[getM_setD]
 refine gO ?_
 exact Only.refl _ _
theorem vHeld2 {ms:Nat} {S:List Int} (hq:At w q [.pointer (some ⟨vb,0,none⟩)]) (hv:At w vb (c0::.map (some mk)::.map (some ms)::cs)) (hK:MB w mk K) (hS:MB w ms S) (x:Int):
  Cs Tryz.prog 55 [.int .i64 x,.pointer (some ⟨q,0,none⟩)] w fun v w'=>v=.bool (decide (x∈K)||decide (x∈S))∧Only [] w w':=by
 refine enter_final_Registry_Collect_2 rfl ?_
 unfold x_final_Registry_Collect_2
 refine gO2 hq.cell hv.cell ?_
 refine lkpT Tryz.underlying115 Tryz.underlying3 (Tryz.zeroValue4 _) hK ?_
 rw[getM_setD]
 by_cases c:x∈K
 ·rw[dtr c]
  refine gO ?_
  exact Only.refl _ _
 rw[dfl c]
 refine gO2 hq.cell hv.cell ?_
 refine lkpT Tryz.underlying115 Tryz.underlying3 (Tryz.zeroValue4 _) hS ?_
 rw[getM_setD]
 refine gO ?_
 exact Only.refl _ _
theorem vSame3 {k:Int} (hq:At w q [.int .i64 k]) (x:Int):
  Cs Tryz.prog 60 [.int .i64 x,.pointer (some ⟨q,0,none⟩)] w fun v w'=>v=.bool (x==k)∧Only [] w w':=by
 refine enter_final_Registry_Collect_3 rfl ?_
 unfold x_final_Registry_Collect_3
 refine gO1 hq.cell ?_
 exact Only.refl _ _
theorem cWordsAt {a:Option Addr} {fp:List Nat} {m:HO} (h:HR w a fp m) (x:Int) (hx:x≤4611686018427387904):
  Cs Tryz.prog 145 [.pointer a,.int .i64 x] w fun v w'=>v=.int .i64 (wordsS (shapeO m x).1)∧Only [] w w':=by
 refine enter_sound_Words rfl ?_
 unfold x_sound_Words
 refine gO ?_
 refine callT (hShape h x hx) ?_
 rintro _ w1 ⟨rfl,ho1⟩
 refine gO ?_
 refine boxT fun q w2 hq hs2 hat2 ho2=>?_
 refine gO ?_
 refine stNT (cs:=shV (shapeO m x).1) hat2 rfl (by simp[shV]) (shV_one _) fun w3 hs3 hat3 ho3=>?_
 rw[setL_sh]at hat3
 have o3:Only [] w w3:=ho1.nil (ho2.trans ho3 fun y hy=>by simp only[lms]at hy;subst hy;exact .inr (by omega))
 have hc3:cellsAt w3 ⟨q,0,none⟩ 3=some (shV (shapeO m x).1):=by
  rw[cellsAt_at hat3 0 3 (by simp[shV])];rfl
 refine gO1 hc3 ?_
 refine callT (hWords w3 (shapeO m x).1) ?_
 rintro _ w4 ⟨rfl,ho4⟩
 refine gO ?_
 exact o3.nil ho4
theorem gNext {b:Nat} {hp:Addr} {ar:Option Addr} {L:List Int} {fl fr:List Nat} {m:Rt.MO} (h:RG w b hp ar L fl) (hR:Rt.PR w ar fr m):
  Cs Tryz.prog 26 [.pointer (some ⟨b,0,none⟩)] w fun v w'=>v=.tuple #[.int .i64 (Rt.popO m).1.1,.int .i64 (Rt.popO m).1.2]∧Only fr w w'∧((Rt.popO m).1.2≠0→Only [] w w')∧ ∃fr',Rt.PR w' ar fr' (Rt.popO m).2∧ ∀x,x∈fr'→x∈fr∨w.heap.size≤x:=by
 refine enter_final_Registry_Next rfl ?_
 unfold x_final_Registry_Next
 refine gO ?_
 refine callT0 (gMade h) ?_
 obtain⟨v0,h1,h2,h3⟩:=id h
 refine gO1 h1.cell ?_
 refine callT (Rt.Pop_m hR) ?_
 rintro _ w1 ⟨rfl,ho1,ho1',f1,hp1,g1⟩
 refine gO ?_
 exact⟨ho1,ho1',f1,hp1,g1⟩
end
section
variable {caps:Array Value} {m:HO} {kept:Int→Bool} {fp:List Nat} {F n:Nat} {a:Option Addr} {w:World}
def clrO (m:HO) (x kd:Int):Nat→HO×Nat
 |0=>(m,0)
 |i+1=>if(refO (clrO m x kd i).1 x (i:Int)).1≠0∧softI kd i=true then(setRefM (clrO m x kd i).1 x (i:Int) 0,(clrO m x kd i).2+1)else clrO m x kd i
theorem clrO_le (m:HO) (x kd:Int): ∀i,(clrO m x kd i).2≤i
 |0=>Nat.le_refl _
 |i+1=>by
  have:=clrO_le m x kd i
  unfold clrO
  split
  ·simp only;omega
  ·omega
def clearO (m:HO) (x:Int) (kept:Int→Bool):HO×Nat:=
 if(shapeO m x).1.2.2≠1∧(shapeO m x).1.2.2≠2 then(m,0)else if(refO m x 0).1≠0∧kept (refO m x 0).1=true then(m,0)else clrO m x (shapeO m x).1.2.2 (shapeO m x).1.1.toNat
theorem cCleared (h:HR w a fp m) (x:Int) (hx:x≤4611686018427387904) (hn:(shapeO m x).1.1=(n:Int)) (hn15:n≤15) (hok:okF Tryz.prog F=true)
  (hF: ∀w' y,Only [] w w'→Cs Tryz.prog F ([.int .i64 y]++caps.toList) w' fun v w''=>v=.bool (kept y)∧Only [] w' w''):
  Cs Tryz.prog 144 [.pointer a,.int .i64 x,.func (.func F) #[] caps] w fun v w'=>v=.int .i64 (clearO m x kept).2∧HR w' a fp (clearO m x kept).1∧Only fp w w':=by
 refine enter_place_Cleared rfl ?_
 unfold x_place_Cleared
 refine gO ?_
 refine callT (hShape h x hx) ?_
 rintro _ w1 ⟨rfl,ho1⟩
 refine gO ?_
 refine boxT fun q w2 hq hs2 hat2 ho2=>?_
 refine gO ?_
 refine stNT (cs:=shV (shapeO m x).1) hat2 rfl (by simp[shV]) (shV_one _) fun w3 hs3 hat3 ho3=>?_
 rw[setL_sh]at hat3
 have o3:Only [] w w3:=ho1.nil (ho2.trans ho3 fun y hy=>by simp only[lms]at hy;subst hy;exact .inr (by omega))
 unfold clearO
 rw[hn,tnc]
 obtain⟨kd,hkd⟩: ∃kd,kd=(shapeO m x).1.2.2:=⟨_,rfl⟩
 have c30:w3.cell? ⟨q,0,none⟩=some (.int .i64 (n:Int)):=by rw[hat3.cell,←hn];rfl
 have c32:w3.cell? ⟨q,2,none⟩=some (.int .i64 kd):=by rw[hat3.cell,hkd];rfl
 rw[←hkd]
 have qfp:q∉fp:=fun e=>by have:=h.lt q e;have:=ho1.size;omega
 simp only[go_sem]
 refine run_seq ?_
 refine run_cut (21::22::23::24::25::26::27::28::[]) (fun _ w'=>w'=w3∧(kd=1∨kd=2)) (fun kk hkk=>?_) (fun g4 w4 hJ=>?_)
 ·by_cases c1:kd=1
  ·refine gO2 c32 (bnf c1) ?_
   refine hkk _ w3 ⟨rfl,.inl c1⟩
  by_cases c2:kd=2
  ·refine gO3 c32 (bnt c1) (bnf c2) ?_
   refine hkk _ w3 ⟨rfl,.inr c2⟩
  refine gO3 c32 (bnt c1) (bnt c2) ?_
  rw[if_pos ⟨c1,c2⟩]
  exact⟨rfl,h.keep0 o3,o3.of_nil⟩
 obtain⟨rfl,ck⟩:=hJ
 rw[if_neg (show¬(kd≠1∧kd≠2) by omega)]
 obtain⟨res,hres⟩: ∃res,res=(if(refO m x 0).1≠0∧kept (refO m x 0).1=true then(m,0)else clrO m x kd n):=⟨_,rfl⟩
 rw[←hres]
 refine run_seq ?_
 refine run_cut (9::10::29::30::31::32::33::34::35::36::37::38::39::40::41::[]) (fun _ w'=>Only [] w4 w'∧ ¬((refO m x 0).1≠0∧kept (refO m x 0).1=true)) (fun kk hkk=>?_) (fun g5 w5 hJ=>?_)
 ·refine gO ?_
  refine callT (hRef (h.keep0 o3) x 0 hx) ?_
  rintro _ w5 ⟨rfl,ho5⟩
  by_cases c0:(refO m x 0).1=0
  ·refine gO1 (bnf c0) ?_
   refine hkk _ w5 ⟨ho5,fun e=>e.1 c0⟩
  refine gO1 (bnt c0) ?_
  have hF':Cs Tryz.prog F ((#[]:Array Value).toList++[.int .i64 (refO m x 0).1]++caps.toList) w5 fun v w''=>v=.bool (kept (refO m x 0).1)∧Only [] w5 w'':=by
   have:=hF w5 (refO m x 0).1 (o3.nil ho5)
   simpa using this
  refine callVT (callVals_f F #[] [.int .i64 (refO m x 0).1] caps) hok hF' ?_
  rintro _ w6 ⟨rfl,ho6⟩
  cases ck2:kept (refO m x 0).1 with
  |true=>
   refine gO ?_
   rw[if_pos ⟨c0,ck2⟩]at hres
   rw[hres]
   exact⟨rfl,h.keep0 ((o3.nil ho5).nil ho6),((o3.nil ho5).nil ho6).of_nil⟩
  |false=>
   refine gO ?_
   refine hkk _ w6 ⟨ho5.nil ho6,fun e=>by rw[ck2]at e;cases e.2⟩
 obtain⟨ho5,cc⟩:=hJ
 rw[if_neg cc]at hres
 rw[hres]
 have o5:=o3.nil ho5
 have hat5:=hat3.keep0 ho5
 have c50:w5.cell? ⟨q,0,none⟩=some (.int .i64 (n:Int)):=by rw[hat5.cell,←hn];rfl
 refine gO1 c50 ?_
 refine run_loop (11::12::13::14::44::45::46::47::48::49::50::51::52::53::54::55::56::57::58::59::60::61::62::63::64::65::66::67::68::[]) (fun g w'=> ∃i:Nat,g 44=.int .i64 (i:Int)∧g 11=.int .i64 ((clrO m x kd i).2:Int)∧i≤n∧HR w' a fp (clrO m x kd i).1∧Only fp w5 w') (fun g _=>upTo n 44 g)
  ⟨0,by simp only[go_sem];rfl,by simp only[go_sem];rfl,by omega,h.keep0 o5,Only.refl _ _⟩ fun g6 w6 hI hnext=>?_
 obtain⟨i,h44,h11,hi,hr6,ho6⟩:=hI
 have o6:Only fp w w6:=(o5.of_nil).trans ho6 fun y hy=>.inl hy
 by_cases c:i<n
 rotate_left
 ·refine gO3 h44 h11 (dfl (show¬(i:Int)<(n:Int) by omega)) ?_
  have:i=n:=by omega
  subst this
  exact⟨rfl,hr6,o6⟩
 have hat6:=hat5.keep ho6 qfp
 have c62: ∀w7,Only [] w6 w7→w7.cell? ⟨q,2,none⟩=some (.int .i64 kd):=fun w7 o=>by rw[(hat6.keep0 o).cell,hkd];rfl
 have hle:=clrO_le m x kd i
 have hst:clrO m x kd (i+1)=if(refO (clrO m x kd i).1 x (i:Int)).1≠0∧softI kd i=true then(setRefM (clrO m x kd i).1 x (i:Int) 0,(clrO m x kd i).2+1)else clrO m x kd i:=rfl
 refine gO2 h44 (dtr (show(i:Int)<(n:Int) by omega)) ?_
 refine callT (hRef hr6 x (i:Int) hx) ?_
 rintro _ w7 ⟨rfl,ho7⟩
 by_cases c0:(refO (clrO m x kd i).1 x (i:Int)).1=0
 ·refine gO3 (bnf c0) h44 (i64_succ i (by omega)) ?_
  rw[if_neg (fun e=>e.1 c0)]at hst
  refine hnext _ w7 ⟨i+1,?_,?_,by omega,by rw[hst];exact hr6.keep0 ho7,ho6.nil ho7⟩ ?_
  ·simp only[go_sem]
  ·simp only[go_sem,h11];rw[hst]
  ·exact up_lt h44
 (repeat(first|with_reducible(first|refine nx ?_|refine r_6 rfl ?_)|simp only[go_sem,bnt c0,c62 w7 ho7,h44]))
 refine callT0 (cSoft w7 kd i) ?_
 cases hsf:softI kd i with
 |false=>
  refine gO2 h44 (i64_succ i (by omega)) ?_
  rw[if_neg (fun e=>by rw[hsf]at e;cases e.2)]at hst
  refine hnext _ w7 ⟨i+1,?_,?_,by omega,by rw[hst];exact hr6.keep0 ho7,ho6.nil ho7⟩ ?_
  ·simp only[go_sem]
  ·simp only[go_sem,h11];rw[hst]
  ·exact up_lt h44
 |true=>
  refine gO2 h44 h11 ?_
  refine callT (hSetRef (hr6.keep0 ho7) x (i:Int) 0 hx (by omega)) ?_
  rintro _ w8 ⟨rfl,hr8,ho8⟩
  refine gO4 h44 h11 (i64_succ i (by omega)) (i64_succ (clrO m x kd i).2 (by omega)) ?_
  rw[if_pos ⟨c0,hsf⟩]at hst
  refine hnext _ w8 ⟨i+1,?_,?_,by omega,by rw[hst];exact hr8,(ho6.nil ho7).trans ho8 fun y hy=>.inl hy⟩ ?_
  ·simp only[go_sem]
  ·simp only[go_sem];rw[hst]
  ·exact up_lt h44
theorem cClear (h:HR w a fp m) (x:Int) (hx:x≤4611686018427387904) (hn:(shapeO m x).1.1=(n:Int)) (hn15:n≤15) (hok:okF Tryz.prog F=true)
  (hF: ∀w' y,Only [] w w'→Cs Tryz.prog F ([.int .i64 y]++caps.toList) w' fun v w''=>v=.bool (kept y)∧Only [] w' w''):
  Cs Tryz.prog 57 [.pointer a,.int .i64 x,.func (.func F) #[] caps] w fun v w'=>v=.bool (decide (0<(clearO m x kept).2))∧HR w' a fp (clearO m x kept).1∧Only fp w w':=by
 refine enter_place_Clear rfl ?_
 unfold x_place_Clear
 refine gO ?_
 refine callT (cCleared h x hx hn hn15 hok hF) ?_
 rintro _ w1 ⟨rfl,hr1,ho1⟩
 have e:decide ((0:Int)<((clearO m x kept).2:Int))=decide (0<(clearO m x kept).2):=by rw[decide_eq_decide];omega
 refine gO1 e ?_
 exact⟨hr1,ho1⟩
end
def kst (keep:Int→Bool) (r:HO×Int×Int) (x:Int):HO×Int×Int:=if keep x then r else(killM r.1 x,IntKind.i64.wrap (r.2.1+1),IntKind.i64.wrap (r.2.2+wordsS (shapeO r.1 x).1))
theorem foldl_take {α β:Type} (f:α→β→α) (a:α) (l:List β) (d:β) {i:Nat} (h:i<l.length):(l.take (i+1)).foldl f a=f ((l.take i).foldl f a) (l.getD i d):=by
 rw[List.take_succ_eq_append_getElem h,List.foldl_append]
 simp[h]
set_option maxHeartbeats 1000000 in
theorem cKill {w:World} {a:Option Addr} {fp:List Nat} {m:HO} {F rb:Nat} {caps:Array Value} {keep:Int→Bool} {f0 fw0:Int} {y0 y1:Value} {ys:List Value} (h:HR w a fp m) (hA: ∀x,x∈allH m→x≤4611686018427387904) (hl:(allH m).length≤5000) (hrb:At w rb (y0::y1::.int .i64 f0::.int .i64 fw0::ys)) (hn:rb∉fp) (hok:okF Tryz.prog F=true)
  (hF: ∀w' y,Only (rb::fp) w w'→Cs Tryz.prog F ([.int .i64 y]++caps.toList) w' fun v w''=>v=.bool (keep y)∧Only [] w' w''):
  Cs Tryz.prog 61 [.pointer a,.func (.func F) #[] caps,.pointer (some ⟨rb,0,none⟩)] w fun _ w'=>At w' rb (y0::y1::.int .i64 ((allH m).foldl (kst keep) (m,f0,fw0)).2.1::.int .i64 ((allH m).foldl (kst keep) (m,f0,fw0)).2.2::ys)∧HR w' a fp ((allH m).foldl (kst keep) (m,f0,fw0)).1∧Only (rb::fp) w w':=by
 refine enter_sound_Kill rfl ?_
 unfold x_sound_Kill
 refine gO ?_
 refine callT (hAll h) ?_
 rintro v w1 ⟨ho1,fA,hA1,gA⟩
 obtain⟨A,hAe⟩: ∃A,A=allH m:=⟨_,rfl⟩
 rw[←hAe]at hA1 hA hl⊢
 obtain⟨aA,cA,rfl⟩:=hA1.val
 have dA: ∀z,z∈rb::fp→z∉fA:=fun z hz e=>by
  have:=gA z e
  rcases List.mem_cons.1 hz with rfl|hz
  ·have:=hrb.lt;omega
  ·have:=h.lt z hz;omega
 refine gO ?_
 refine run_loop (7::11::12::13::14::15::16::17::18::19::20::21::22::23::24::25::26::27::28::29::30::31::32::33::34::35::36::37::38::39::[]) (fun g w'=> ∃i:Nat,g 11=.int .i64 (i:Int)∧i≤A.length∧At w' rb (y0::y1::.int .i64 ((A.take i).foldl (kst keep) (m,f0,fw0)).2.1::.int .i64 ((A.take i).foldl (kst keep) (m,f0,fw0)).2.2::ys)∧HR w' a fp ((A.take i).foldl (kst keep) (m,f0,fw0)).1∧Only (rb::fp) w1 w') (fun g _=>upTo A.length 11 g)
  ⟨0,by simp only[go_sem];rfl,by omega,hrb.keep0 ho1,h.keep0 ho1,Only.refl _ _⟩ fun g w2 hI hnext=>?_
 obtain⟨i,h11,hi,hb2,hr2,ho2⟩:=hI
 have o2:Only (rb::fp) w w2:=(ho1.of_nil).trans ho2 fun y hy=>.inl hy
 by_cases c:i<A.length
 rotate_left
 ·refine gO2 h11 (dfl (show¬(i:Int)<(A.length:Int) by omega)) ?_
  rw[List.take_of_length_le (by omega)]at hb2 hr2
  exact⟨hb2,hr2,o2⟩
 obtain⟨gl,_,yl,el,hatl,_,_⟩:=(hA1.keep ho2 fun z hz e=>dA z e hz).pos (by omega)
 cases el
 have ci:(0:Int)≤(i:Int)∧(i:Int)<(A.length:Int):=by omega
 have vr:w2.cell? ⟨gl,i,none⟩=some (.int .i64 (A.getD i 0)):=by rw[hatl.cell];exact ints_append_get yl c
 have hft:=foldl_take (kst keep) (m,f0,fw0) A 0 c
 obtain⟨r,hr⟩: ∃r,r=(A.take i).foldl (kst keep) (m,f0,fw0):=⟨_,rfl⟩
 rw[←hr]at hb2 hr2 hft
 have hxA:=hA (A.getD i 0) (by simp[c])
 refine gJ4 h11 (dtr ci.2) (eq_true ci) vr ?_
 have hF':Cs Tryz.prog F ((#[]:Array Value).toList++[.int .i64 (A.getD i 0)]++caps.toList) w2 fun v w''=>v=.bool (keep (A.getD i 0))∧Only [] w2 w'':=by
  have:=hF w2 (A.getD i 0) o2
  simpa using this
 refine callVT (callVals_f F #[] [.int .i64 (A.getD i 0)] caps) hok hF' ?_
 rintro _ w3 ⟨rfl,ho3⟩
 have ek:kst keep r (A.getD i 0)=if keep (A.getD i 0)then r else(killM r.1 (A.getD i 0),IntKind.i64.wrap (r.2.1+1),IntKind.i64.wrap (r.2.2+wordsS (shapeO r.1 (A.getD i 0)).1)):=rfl
 by_cases ck:keep (A.getD i 0)=true
 ·rw[if_pos ck]at ek
  rw[ek]at hft
  refine gO3 ck h11 (i64_succ i (by omega)) ?_
  refine hnext _ w3 ⟨i+1,?_,by omega,?_,?_,ho2.nil ho3⟩ ?_
  ·simp only[go_sem]
  ·rw[hft];exact hb2.keep0 ho3
  ·rw[hft];exact hr2.keep0 ho3
  ·exact up_lt h11
 ·rw[if_neg ck]at ek
  rw[ek]at hft
  have ck':keep (A.getD i 0)=false:=by simpa using ck
  have hb3:=hb2.keep0 ho3
  refine gO2 ck' hb3.cell ?_
  refine stT hb3 (by simp) rfl fun w4 hs4 hat4 ho4=>?_
  have hr4:=(hr2.keep0 ho3).keep ho4 fun z hz e=>hn (by simp only[lms]at e;exact e▸hz)
  have hb4:At w4 rb (y0::y1::.int .i64 (IntKind.i64.wrap (r.2.1+1))::.int .i64 r.2.2::ys):=hat4
  refine gO ?_
  refine run_drt [rb] ?_
  have od:=Only.drew [] w4
  have hb4d:=hb4.keep0 od
  refine gO1 hb4d.cell ?_
  refine callS (cWordsAt (hr4.keep0 od) (A.getD i 0) hxA) ?_
  rintro _ w5 ⟨rfl,ho5⟩
  refine⟨.inr ((SB.refl _ _).only ho5 fun z hz=>⟨by simp only[lms]at hz;subst hz;exact hb4d.lt,by simp⟩),?_⟩
  have hb5:=hb4d.keep0 ho5
  refine gO ?_
  refine stS hb5 (by simp) rfl fun w6 hs6 hat6 ho6=>⟨.inl rfl,?_⟩
  have hr6:=((hr4.keep0 od).keep0 ho5).keep ho6 fun z hz e=>hn (by simp only[lms]at e;exact e▸hz)
  have hb6:At w6 rb (y0::y1::.int .i64 (IntKind.i64.wrap (r.2.1+1))::.int .i64 (IntKind.i64.wrap (r.2.2+wordsS (shapeO r.1 (A.getD i 0)).1))::ys):=hat6
  refine gO ?_
  refine callT (hKill hr6 (A.getD i 0) hxA) ?_
  rintro _ w7 ⟨rfl,hr7,ho7⟩
  have hb7:=hb6.keep ho7 hn
  have one: ∀z,z∈[rb]→z∈rb::fp∨w1.heap.size≤z:=fun z hz=>.inl (by simp only[lms]at hz;rw[hz];simp)
  have o7:Only (rb::fp) w1 w7:=(((((ho2.nil ho3).trans ho4 one).nil od).nil ho5).trans ho6 one).trans ho7 fun z hz=>.inl (List.mem_cons_of_mem _ hz)
  refine gO2 h11 (i64_succ i (by omega)) ?_
  refine hnext _ w7 ⟨i+1,?_,by omega,?_,?_,o7⟩ ?_
  ·simp only[go_sem]
  ·rw[hft];exact hb7
  ·rw[hft];exact hr7
  ·exact up_lt h11
section
section
variable {w:World} {b:Nat} {hp:Addr} {ar:Option Addr} {L:List Int} {fl fp fr:List Nat} {s:HL} {R:Rt.MS}
end
end
def usd (s:HL) (acc:Int) (x:Int):Int:=IntKind.i64.wrap (acc+s.size x.toNat)
theorem hUsed {w:World} {hp:Addr} {fp:List Nat} {s:HL} (h:HR w (some hp) fp (some s)) (h40:s.objs.length≤5000):
  Cs Tryz.prog 97 [.pointer (some hp)] w fun v w'=>v=.int .i64 ((allH (some s)).foldl (usd s) 0)∧Only [] w w':=by
 refine enter_heap_Heap_Used rfl ?_
 unfold x_heap_Heap_Used
 refine gO ?_
 refine callT (hAll h) ?_
 rintro v w1 ⟨ho1,fA,hA1,gA⟩
 obtain⟨A,hAe⟩: ∃A,A=allH (some s):=⟨_,rfl⟩
 have hl:A.length≤5000:=by rw[hAe,allH_len];exact h40
 have hlv: ∀x,x∈A→Liv s x:=fun x hx=>allH_mem.1 (by rw[←hAe];exact hx)
 rw[←hAe]at hA1⊢
 obtain⟨aA,cA,rfl⟩:=hA1.val
 obtain⟨b,e,gB,gW,cB,cW,yB,yW,sb,sg,pb,pg,bl,bf,h2,h3⟩:=id h
 cases e
 refine gO ?_
 refine run_loop (3::5::9::10::11::12::13::14::15::16::17::18::[]) (fun g w'=> ∃i:Nat,g 9=.int .i64 (i:Int)∧i≤A.length∧g 3=.int .i64 ((A.take i).foldl (usd s) 0)∧Only [] w1 w') (fun g _=>upTo A.length 9 g)
  ⟨0,by simp only[go_sem];rfl,by omega,by simp only[go_sem];rfl,Only.refl _ _⟩ fun g w2 hI hnext=>?_
 obtain⟨i,h9,hi,hg3,ho2⟩:=hI
 by_cases c:i<A.length
 rotate_left
 ·refine gO3 h9 hg3 (dfl (show¬(i:Int)<(A.length:Int) by omega)) ?_
  rw[List.take_of_length_le (by omega)]
  exact⟨rfl,ho1.nil ho2⟩
 obtain⟨gl,_,yl,el,hatl,_,_⟩:=(hA1.keep0 ho2).pos (by omega)
 cases el
 have ci:(0:Int)≤(i:Int)∧(i:Int)<(A.length:Int):=by omega
 obtain⟨k,hk,hlk⟩:=hlv (A.getD i 0) (by simp[c])
 have vr:w2.cell? ⟨gl,i,none⟩=some (.int .i64 ((2*k:Nat):Int)):=by rw[hatl.cell,←hk];exact ints_append_get yl c
 have hft:=foldl_take (usd s) 0 A 0 c
 rw[hk]at hft
 obtain⟨r,hr⟩: ∃r,r=(A.take i).foldl (usd s) 0:=⟨_,rfl⟩
 rw[←hr]at hft hg3
 have eu:usd s r ((2*k:Nat):Int)=IntKind.i64.wrap (r+s.size (2*k)):=by unfold usd;rw[tnc]
 refine gJ5 h9 hg3 (dtr ci.2) (eq_true ci) vr ?_
 refine callT (hSize (h3.keep0 (ho1.nil ho2)) hlk) ?_
 rintro _ w3 ⟨rfl,ho3⟩
 refine gO3 h9 hg3 (i64_succ i (by omega)) ?_
 refine hnext _ w3 ⟨i+1,?_,by omega,?_,ho2.nil ho3⟩ ?_
 ·simp only[go_sem]
 ·simp only[go_sem];rw[hft,eu]
 ·exact up_lt h9
set_option maxRecDepth 8000
theorem cDone {w:World} {hp:Addr} {fp:List Nat} {s:HL} {rb:Nat} {y0 y1 y2 y3 y4:Value} {ys:List Value} (h:HR w (some hp) fp (some s)) (h40:s.objs.length≤5000) (hrb:At w rb (y0::y1::y2::y3::y4::ys)):
  Cs Tryz.prog 63 [.pointer (some hp),.slice none 0 0,.pointer (some ⟨rb,0,none⟩)] w fun _ w'=>At w' rb (.int .i64 (s.objs.length:Int)::.int .i64 ((allH (some s)).foldl (usd s) 0)::y2::y3::.int .i64 0::ys)∧Only [rb] w w':=by
 refine enter_sound_Done rfl ?_
 unfold x_sound_Done
 refine gO ?_
 refine callT (hAll h) ?_
 rintro v w1 ⟨ho1,fA,hA1,gA⟩
 rw[allH_len]at hA1
 obtain⟨aA,cA,rfl⟩:=hA1.val
 refine gO ?_
 refine callT (hUsed (h.keep0 ho1) h40) ?_
 rintro _ w2 ⟨rfl,ho2⟩
 have hb2:=hrb.keep0 (ho1.nil ho2)
 refine gO ?_
 refine stT hb2 (by simp) rfl fun w3 hs3 hat3 ho3=>?_
 refine gO ?_
 refine stT hat3 (by simp) rfl fun w4 hs4 hat4 ho4=>?_
 refine gO ?_
 refine stT hat4 (by simp) rfl fun w5 hs5 hat5 ho5=>?_
 have o5:Only [rb] w w5:=((((ho1.nil ho2).of_nil).trans ho3 fun y hy=>.inl hy).trans ho4 fun y hy=>.inl hy).trans ho5 fun y hy=>.inl hy
 refine gO ?_
 refine run_loop (7::26::27::28::29::30::31::32::33::34::35::36::37::38::39::40::41::[]) (fun g w'=>g 26=.int .i64 0∧w'=w5) (fun _ _=>0) ⟨by simp only[go_sem],rfl⟩ fun g w6 hI hnext=>?_
 obtain⟨h26,rfl⟩:=hI
 (repeat(first|with_reducible(first|refine nx ?_|refine r_6 rfl ?_)|simp only[go_sem,h26,show decide ((0:Int)<((0:Nat):Int))=false from rfl]))
 exact⟨hat5,o5⟩
def heldE (s:HL) (k:Nat):Int:=if k=0 then 1 else if(s.B.getD k (0,0)).1≠1∧(s.B.getD k (0,0)).1≠2 then 5 else 0
theorem hHeld {w:World} {b:Nat} {s:HL} {gB gW cB cW:Nat} {yB yW:List Value} {sb sg pb pg bl bf:Nat} (h:HMs w b s gB gW cB cW yB yW sb sg pb pg bl bf) (k:Nat) (hk:k<s.B.length):
  Cs Tryz.prog 217 [.pointer (some ⟨b,0,none⟩),.int .i64 (k:Int),.bool true] w fun v w'=>v=.int .i64 (heldE s k)∧w'=w:=by
 have hB:=h.ok.b64
 have get:(blkV s.B++yB)[k*2]? =some (.int .i64 (s.B.getD k (0,0)).1):=by
  rw[List.getElem?_append_left (by rw[blkV_len];omega),Nat.mul_comm];exact(blkV_get hk).1
 have e1:(0:Int)≤(k:Int)∧(k:Int)<(s.B.length:Int):=⟨by omega,by omega⟩
 refine enter_heap_Heap_held rfl ?_
 unfold x_heap_Heap_held
 refine gO ?_
 refine callT0 (hMadeS h) ?_
 refine gO ?_
 refine callT0 (hThere (HR.intro h) (k:Int)) ?_
 unfold heldE
 by_cases k0:k=0
 ·have et:thereO (some s) (k:Int)=false:=by simp[thereO,k0]
  refine gO1 et ?_
  rw[if_pos k0]
 have et:thereO (some s) (k:Int)=true:=by simp only[thereO,Bool.and_eq_true,decide_eq_true_eq];omega
 rw[if_neg k0]
 by_cases c1:(s.B.getD k (0,0)).1=1
 ·refine gJ6 et h.hb.cell h.hB.cell (eq_true e1) get (bnf c1) ?_
  rw[if_neg (by omega)]
 by_cases c2:(s.B.getD k (0,0)).1=2
 ·refine gJ7 et h.hb.cell h.hB.cell (eq_true e1) get (bnt c1) (bnf c2) ?_
  rw[if_neg (by omega)]
 refine gJ7 et h.hb.cell h.hB.cell (eq_true e1) get (bnt c1) (bnt c2) ?_
 rw[if_pos ⟨c1,c2⟩]
section
variable {s s':HL} {x:Int}
def SamW (s s':HL):Prop:= ∃W,s'= {s with W:=W}
theorem SamW.refl (s:HL):SamW s s:=⟨s.W,rfl⟩
theorem SamW.trans {a b c:HL} (h:SamW a b) (k:SamW b c):SamW a c:=by
 obtain⟨W,rfl⟩:=h
 obtain⟨V,rfl⟩:=k
 exact⟨V,rfl⟩
theorem SamW.st (h:SamW s s'):s'.st=s.st:=by obtain⟨W,rfl⟩:=h;rfl
theorem SamW.B (h:SamW s s'):s'.B=s.B:=by obtain⟨W,rfl⟩:=h;rfl
theorem SamW.objs (h:SamW s s'):s'.objs=s.objs:=by unfold HL.objs;rw[h.st]
theorem setRef_sam {i to:Int} (e:setRefM (some s) x i to=some s'):SamW s s':=by
 unfold setRefM at e
 by_cases c:setRefE (some s) x i to=0
 ·simp only[if_pos c,Option.some.injEq]at e;exact⟨_,e.symm⟩
 ·simp only[if_neg c,Option.some.injEq]at e;exact e▸SamW.refl s
def clrRf (kd:Int) (m:Nat) (rf:List Int):List Int:=(List.range rf.length).map fun j=>if j<m∧softI kd j=true then 0 else rf.getD j 0
theorem clrRf_len (kd:Int) (m:Nat) (rf:List Int):(clrRf kd m rf).length=rf.length:=by simp[clrRf]
theorem clrRf_get {kd:Int} {m:Nat} {rf:List Int} {j:Nat} (h:j<rf.length):(clrRf kd m rf).getD j 0=if j<m∧softI kd j=true then 0 else rf.getD j 0:=by
 unfold clrRf;rw[map_range_getD h]
theorem clrRf_zero (kd:Int) (rf:List Int):clrRf kd 0 rf=rf:=by
 refine List.ext_getD' 0 (clrRf_len _ _ _) fun i hi=>?_
 rw[clrRf_len]at hi
 rw[clrRf_get hi,if_neg (by omega)]
def softN (kd:Int) (rf:List Int) (i:Nat):Nat:=((List.range i).filter fun j=>softI kd j&&(rf.getD j 0 !=0)).length
theorem softN_succ (kd:Int) (rf:List Int) (i:Nat):softN kd rf (i+1)=softN kd rf i+if softI kd i=true∧rf.getD i 0≠0 then 1 else 0:=by
 unfold softN
 rw[List.range_succ,List.filter_append,lla]
 congr 1
 by_cases c:softI kd i=true∧rf.getD i 0≠0
 ·rw[if_pos c,List.filter_cons_of_pos (by rw[c.1,bnt c.2];rfl)];rfl
 ·rw[if_neg c,List.filter_cons_of_neg]
  ·rfl
  ·intro e
   simp only[Bool.and_eq_true,bne_iff_ne]at e
   exact c e
theorem clrO_spec {s:HL} (h:s.Inv) {k:Nat} (hk:s.st.getD k 0=1) (kd:Int): ∀i,i≤(s.obAt k).rf.length→ ∃s',(clrO (some s) ((2*k:Nat):Int) kd i).1=some s'∧s'.Inv∧SamW s s'∧
  (∀j,s.st.getD j 0=1→s'.obAt j=if j=k then {s.obAt k with rf:=clrRf kd i (s.obAt k).rf}else s.obAt j)∧(clrO (some s) ((2*k:Nat):Int) kd i).2=softN kd (s.obAt k).rf i
 |0,_=>⟨s,rfl,h,SamW.refl s,fun j _=>by
   by_cases c:j=k
   ·subst c;rw[if_pos rfl,clrRf_zero]
   ·rw[if_neg c],rfl⟩
 |i+1,hi=>by
  obtain⟨s1,e1,i1,w1,o1,n1⟩:=clrO_spec h hk kd i (by omega)
  have hk1:s1.st.getD k 0=1:=by rw[w1.st];exact hk
  have ok:=o1 k hk
  rw[if_pos rfl]at ok
  have hl1:(s1.obAt k).rf.length=(s.obAt k).rf.length:=by rw[ok];exact clrRf_len _ _ _
  have hr:refO (some s1) ((2*k:Nat):Int) (i:Int)=((s.obAt k).rf.getD i 0,0):=by
   rw[at_ref i1.ok hk1 (by omega),ok]
   simp only
   rw[clrRf_get (by omega),if_neg (by omega)]
  have est:clrO (some s) ((2*k:Nat):Int) kd (i+1)=if(refO (clrO (some s) ((2*k:Nat):Int) kd i).1 ((2*k:Nat):Int) (i:Int)).1≠0∧softI kd i=true then(setRefM (clrO (some s) ((2*k:Nat):Int) kd i).1 ((2*k:Nat):Int) (i:Int) 0,(clrO (some s) ((2*k:Nat):Int) kd i).2+1)else clrO (some s) ((2*k:Nat):Int) kd i:=rfl
  rw[e1,hr]at est
  simp only at est
  rw[softN_succ]
  by_cases c:(s.obAt k).rf.getD i 0≠0∧softI kd i=true
  ·rw[if_pos c]at est
   rw[est,if_pos ⟨c.2,c.1⟩]
   obtain⟨s2,e2, -⟩:=abs_setRef i1.ok ((2*k:Nat):Int) (i:Int) 0
   have ok2:=setRef_Ok i1.ok e2
   refine⟨s2,e2,i1.setRef e2 ok2,w1.trans (setRef_sam e2),fun j hj=>?_,by simp only;rw[n1]⟩
   rw[obAt_setRef i1.ok ok2 hk1 (by omega) (.inl rfl) e2 j (by rw[w1.st];exact hj)]
   by_cases cj:j=k
   ·rw[if_pos cj,if_pos cj,ok]
    have e3:(clrRf kd i (s.obAt k).rf).set i 0=clrRf kd (i+1) (s.obAt k).rf:=by
     refine List.ext_getD' 0 (by rw[List.length_set,clrRf_len,clrRf_len]) fun t ht=>?_
     rw[List.length_set,clrRf_len]at ht
     rw[clrRf_get ht]
     by_cases ct:i=t
     ·subst ct
      rw[getD_set_eq (by rw[clrRf_len];omega),if_pos ⟨by omega,c.2⟩]
     ·rw[getD_set_ne' ct,clrRf_get ht]
      by_cases c3:t<i∧softI kd t=true
      ·rw[if_pos c3,if_pos ⟨by omega,c3.2⟩]
      ·rw[if_neg c3,if_neg (fun e=>c3 ⟨by omega,e.2⟩)]
    rw[←e3]
   ·rw[if_neg cj,if_neg cj,o1 j hj,if_neg cj]
  ·rw[if_neg c]at est
   rw[est,if_neg (fun e=>c ⟨e.2,e.1⟩)]
   refine⟨s1,e1,i1,w1,fun j hj=>?_,by rw[n1];rfl⟩
   rw[o1 j hj]
   by_cases cj:j=k
   ·rw[if_pos cj,if_pos cj]
    have e3:clrRf kd i (s.obAt k).rf=clrRf kd (i+1) (s.obAt k).rf:=by
     refine List.ext_getD' 0 (by rw[clrRf_len,clrRf_len]) fun t ht=>?_
     rw[clrRf_len]at ht
     rw[clrRf_get ht,clrRf_get ht]
     by_cases c3:t<i∧softI kd t=true
     ·rw[if_pos c3,if_pos ⟨by omega,c3.2⟩]
     ·rw[if_neg c3]
      by_cases c4:t<i+1∧softI kd t=true
      ·rw[if_pos c4]
       have:t=i:=by
        rcases Nat.lt_or_ge t i with h'|h'
        ·exact absurd ⟨h',c4.2⟩ c3
        ·omega
       subst this
       exact Decidable.byContradiction fun e=>c ⟨e,c4.2⟩
      ·rw[if_neg c4]
    rw[←e3]
   ·rw[if_neg cj,if_neg cj]
def stays (keep:Int→Bool) (o:Ob):Prop:=(o.sh.2.2≠1∧o.sh.2.2≠2)∨(o.rf.getD 0 0≠0∧keep (o.rf.getD 0 0)=true)
instance (keep:Int→Bool) (o:Ob):Decidable (stays keep o):=by unfold stays;infer_instance
def clrOb (keep:Int→Bool) (o:Ob):Ob:=if stays keep o then o else {o with rf:=clrRf o.sh.2.2 o.rf.length o.rf}
def clrN (keep:Int→Bool) (o:Ob):Nat:=if stays keep o then 0 else softN o.sh.2.2 o.rf o.rf.length
theorem clearO_spec (h:s.Inv) {k:Nat} (hk:s.st.getD k 0=1) (keep:Int→Bool): ∃s',(clearO (some s) ((2*k:Nat):Int) keep).1=some s'∧s'.Inv∧SamW s s'∧
  (∀j,s.st.getD j 0=1→s'.obAt j=if j=k then clrOb keep (s.obAt k)else s.obAt j)∧(clearO (some s) ((2*k:Nat):Int) keep).2=clrN keep (s.obAt k):=by
 obtain⟨l1,l2,l3⟩:=obAt_len h.ok hk
 have stay:stays keep (s.obAt k)→clearO (some s) ((2*k:Nat):Int) keep=(some s,0)→ ∃s',(clearO (some s) ((2*k:Nat):Int) keep).1=some s'∧s'.Inv∧SamW s s'∧(∀j,s.st.getD j 0=1→s'.obAt j=if j=k then clrOb keep (s.obAt k)else s.obAt j)∧(clearO (some s) ((2*k:Nat):Int) keep).2=clrN keep (s.obAt k):=fun hs e=>by
  rw[e]
  refine⟨s,rfl,h,SamW.refl s,fun j _=>?_,by unfold clrN;rw[if_pos hs]⟩
  by_cases c:j=k
  ·subst c;rw[if_pos rfl];unfold clrOb;rw[if_pos hs]
  ·rw[if_neg c]
 unfold clearO at stay⊢
 rw[at_shape h.ok hk]at stay⊢
 simp only at stay⊢
 by_cases c1:(s.obAt k).sh.2.2≠1∧(s.obAt k).sh.2.2≠2
 ·exact stay (.inl c1) (by rw[if_pos c1])
 rw[if_neg c1]at stay⊢
 have hr1:0<(s.obAt k).rf.length:=by
  simp only[validS,Bool.and_eq_true,Bool.or_eq_true,decide_eq_true_eq]at l3
  omega
 have e0:=at_ref h.ok hk hr1
 rw[show((0:Nat):Int)=0 from rfl]at e0
 rw[e0]at stay⊢
 simp only at stay⊢
 by_cases c2:(s.obAt k).rf.getD 0 0≠0∧keep ((s.obAt k).rf.getD 0 0)=true
 ·exact stay (.inr c2) (by rw[if_pos c2])
 rw[if_neg c2]at stay⊢
 have hns: ¬stays keep (s.obAt k):=fun e=>e.elim c1 c2
 have en:(s.obAt k).sh.1.toNat=(s.obAt k).rf.length:=by omega
 rw[en]
 obtain⟨s',a1,a2,a3,a4,a5⟩:=clrO_spec h hk (s.obAt k).sh.2.2 (s.obAt k).rf.length (Nat.le_refl _)
 refine⟨s',a1,a2,a3,fun j hj=>?_,by rw[a5];unfold clrN;rw[if_neg hns]⟩
 rw[a4 j hj]
 unfold clrOb
 rw[if_neg hns]
structure Clrd (s s':HL) (C:List Int) (keep:Int→Bool):Prop where
 inv:s'.Inv
 sam:SamW s s'
 ob: ∀i,s.st.getD i 0=1→s'.obAt i=if((2*i:Nat):Int)∈C then clrOb keep (s.obAt i)else s.obAt i
theorem Clrd.none (h:s.Inv) (keep:Int→Bool):Clrd s s [] keep:=⟨h,SamW.refl s,fun i _=>by rw[if_neg (by simp)]⟩
theorem Clrd.step {s1:HL} {C C':List Int} {keep:Int→Bool} (h:Clrd s s1 C keep) (hx:Liv s x) (hn:x∉C) (hc: ∀y,y∈C'↔y=x∨y∈C): ∃s2 k,x=((2*k:Nat):Int)∧s.st.getD k 0=1∧(clearO (some s1) x keep).1=some s2∧Clrd s s2 C' keep∧(clearO (some s1) x keep).2=clrN keep (s.obAt k):=by
 obtain⟨k,rfl,hk⟩:=hx
 have hk1:s1.st.getD k 0=1:=by rw[h.sam.st];exact hk
 obtain⟨s2,a1,a2,a3,a4,a5⟩:=clearO_spec h.inv hk1 keep
 have ok:s1.obAt k=s.obAt k:=by rw[h.ob k hk,if_neg hn]
 refine⟨s2,k,rfl,hk,a1,⟨a2,h.sam.trans a3,fun i hi=>?_⟩,by rw[a5,ok]⟩
 rw[a4 i (by rw[h.sam.st];exact hi),ok]
 by_cases c:i=k
 ·subst c
  rw[if_pos rfl,if_pos ((hc _).2 (.inl rfl))]
 ·rw[if_neg c,h.ob i hi]
  by_cases c2:((2*i:Nat):Int)∈C
  ·rw[if_pos c2,if_pos ((hc _).2 (.inr c2))]
  ·rw[if_neg c2,if_neg (fun e=>((hc _).1 e).elim (fun e=>c (by omega)) c2)]
end
section
set_option maxRecDepth 8000
variable {s:HL} {k:Nat}
theorem kill_spec (h:s.Inv) (hk:s.st.getD k 0=1): ∃s',killM (some s) ((2*k:Nat):Int)=some s'∧s'.Inv∧s'.B=s.B∧s'.born=s.born∧
  (∀i,s'.st.getD i 0=1↔i≠k∧s.st.getD i 0=1)∧(∀i,i≠k→s.st.getD i 0=1→s'.obAt i=s.obAt i)∧s'.objs=s.objs.filter (fun i=>i !=k):=by
 obtain⟨s',e1,e2,e3,e4,e5⟩:=abs_kill h.ok ((2*k:Nat):Int)
 have hob:=at_objE h.ok hk
 have hne:s'≠s:=by
  intro e
  subst e
  unfold killM at e1
  simp only[hob,if_true]at e1
  have h1:=Option.some.inj e1
  have h2:=congrArg HL.st h1
  simp only[tnc,Nat.mul_div_cancel_left k (show 0<2 by omega)]at h2
  have hlt:k<s'.st.length:=(h.ok.start hk).1
  rw[←h2,getD_set_eq hlt]at hk
  omega
 obtain⟨i,hi,e6,e7,e8,e9⟩:=e5.resolve_left hne
 have hik:i=k:=by
  unfold killM at e1
  simp only[hob,if_true]at e1
  have h1:=Option.some.inj e1
  have h2:=congrArg HL.st h1
  simp only[tnc,Nat.mul_div_cancel_left k (show 0<2 by omega)]at h2
  rw[e7]at h2
  have hlt:k<s.st.length:=(h.ok.start hk).1
  have hlt2:i<s.st.length:=(h.ok.start hi).1
  refine Decidable.byContradiction fun c=>?_
  have h3:(s.st.set k 0).getD k 0=(s.st.set i 0).getD k 0:=by rw[h2]
  rw[getD_set_eq hlt,getD_set_ne' c]at h3
  omega
 subst hik
 obtain⟨g1,g2,g3,_⟩:=h.ok.sz hi
 have hin:2*i+(s.size (2*i)).toNat≤s.W.length:=by omega
 have ok':s'.Ok:=by
  have:=h.ok.kill hi (pn:=s.pn.set i 0) (pl:=delM s.pl (s.W.getD (2*i) 0)) (by rw[List.length_set];exact h.ok.pl)
  refine⟨by rw[e3];exact h.ok.b2,by rw[e3];exact h.ok.b64,by rw[e9,e3];exact this.wl,by rw[e7,e3];exact this.sl,by rw[e8,e3];exact this.pl,fun j hj=>?_,fun j l hj hl hjl=>?_⟩
  ·rw[e7]at hj;rw[e9];exact this.fit j hj
  ·rw[e7]at hj hl
   have:=this.dj j l hj hl hjl
   unfold HL.size at this⊢
   rw[e9];exact this
 have hst: ∀j,s'.st.getD j 0=1↔j≠i∧s.st.getD j 0=1:=fun j=>by
  rw[e7]
  by_cases c:j=i
  ·subst c
   rw[getD_set_eq (h.ok.start hi).1]
   simp
  ·rw[getD_set_ne' (Ne.symm c)]
   exact⟨fun e=>⟨c,e⟩,fun e=>e.2⟩
 refine⟨s',e1,h.kill e1 ok',e3,e4,hst,fun j hj1 hj2=>?_,?_⟩
 ·refine obAt_congr h.ok hj2 (fun t t1 t2=>?_) (by rw[e8];exact getD_set_ne' (Ne.symm hj1))
  rw[e9,wipeW_get hin,if_neg]
  rcases Nat.lt_or_ge i j with hij|hij
  ·have:=h.ok.dj i j hi hj2 hij;omega
  ·have:=h.ok.dj j i hj2 hi (by omega);omega
 ·unfold HL.objs
  rw[e7,List.length_set]
  exact objsB_set (by omega)
structure Klld (s s':HL) (D:Nat→Bool):Prop where
 inv:s'.Inv
 B:s'.B=s.B
 born:s'.born=s.born
 st: ∀i,s'.st.getD i 0=1↔D i=false∧s.st.getD i 0=1
 ob: ∀i,D i=false→s.st.getD i 0=1→s'.obAt i=s.obAt i
 objs:s'.objs=s.objs.filter fun i=>!D i
theorem Klld.none (h:s.Inv) {D:Nat→Bool} (hD: ∀i,D i=false):Klld s s D:=
 ⟨h,rfl,rfl,fun i=>by simp[hD],fun _ _ _=>rfl,by
  rw[show(fun i=>!D i)=fun _=>true from funext fun i=>by rw[hD];rfl,List.filter_eq_self.2 fun _ _=>rfl]⟩
theorem Klld.step {s1:HL} {D D':Nat→Bool} (h:Klld s s1 D) (hk:s.st.getD k 0=1) (hn:D k=false) (hD: ∀i,D' i=(D i||decide (i=k))): ∃s2,killM (some s1) ((2*k:Nat):Int)=some s2∧Klld s s2 D'∧s1.obAt k=s.obAt k∧s1.st.getD k 0=1:=by
 have hk1:s1.st.getD k 0=1:=(h.st k).2 ⟨hn,hk⟩
 obtain⟨s2,a1,a2,a3,a4,a5,a6,a7⟩:=kill_spec h.inv hk1
 refine⟨s2,a1,⟨a2,a3.trans h.B,a4.trans h.born,fun i=>?_,fun i h1 h2=>?_,?_⟩,h.ob k hn hk,hk1⟩
 ·rw[a5,h.st,hD]
  by_cases c:i=k
  ·simp[c]
  ·simp[c]
 ·rw[hD]at h1
  simp only[Bool.or_eq_false_iff,decide_eq_false_iff_not]at h1
  rw[a6 i h1.2 ((h.st i).2 ⟨h1.1,h2⟩),h.ob i h1.1 h2]
 ·rw[a7,h.objs,List.filter_filter]
  refine List.filter_congr fun i _=>?_
  rw[hD]
  by_cases c:i=k
  ·simp[c]
  ·simp[c]
def wSum (s:HL) (l:List Nat):Int:=(l.map fun i=>wordsS (s.obAt i).sh).sum
theorem wSum_snoc (s:HL) (l:List Nat) (i:Nat):wSum s (l++[i])=wSum s l+wordsS (s.obAt i).sh:=by unfold wSum;simp
theorem wSum_le (s:HL): ∀l:List Nat,0≤wSum s l∧wSum s l≤218*l.length
 | []=>⟨Int.le_refl _,Int.le_refl _⟩
 |i::l=>by
  have h:=wSum_le s l
  have h2:=words_any (s.obAt i).sh
  have e:wSum s (i::l)=wordsS (s.obAt i).sh+wSum s l:=by unfold wSum;simp
  rw[e,List.length_cons]
  omega
def killB (keep:Int→Bool) (l:List Nat) (i:Nat):Bool:=decide (i∈l)&&!keep ((2*i:Nat):Int)
theorem kill_fold {s:HL} (h:s.Inv) (keep:Int→Bool): ∀n,n≤s.objs.length→ ∃s',(adrs (s.objs.take n)).foldl (kst keep) (some s,0,0)=(some s',(((s.objs.take n).filter fun i=>!keep ((2*i:Nat):Int)).length:Int),wSum s ((s.objs.take n).filter fun i=>!keep ((2*i:Nat):Int)))∧Klld s s' (killB keep (s.objs.take n))
 |0,_=>⟨s,rfl,Klld.none h fun i=>by simp[killB]⟩
 |n+1,hn=>by
  obtain⟨s1,e1,k1⟩:=kill_fold h keep n (by omega)
  have hlt:n<s.objs.length:=hn
  obtain⟨k,hk⟩: ∃k,k=s.objs[n]:=⟨_,rfl⟩
  have hks:s.st.getD k 0=1:=mem_objs.1 (by rw[hk];exact List.getElem_mem hlt)
  have et:s.objs.take (n+1)=s.objs.take n++[k]:=by rw[List.take_succ_eq_append_getElem hlt,hk]
  have hB:s.objs.length≤2048:=by
   have:=objsB_len s.st 0 s.st.length
   have:=h.ok.sl
   have:=h.ok.b64
   unfold HL.objs;omega
  rw[et,adrs_append,List.foldl_append,e1,List.filter_append]
  show∃s',kst keep _ _=_∧_
  have hlen:=List.length_filter_le (fun i=>!keep ((2*i:Nat):Int)) (s.objs.take n)
  rw[List.length_take]at hlen
  have hnk:k∉s.objs.take n:=by
   intro e
   have h1:=objs_nodup s
   rw[←List.take_append_drop (n+1) s.objs,et]at h1
   have h2:=(List.nodup_append.1 (List.nodup_append.1 h1).1).2.2
   exact h2 k e k (by simp) rfl
  unfold kst
  by_cases ck:keep ((2*k:Nat):Int)=true
  ·rw[if_pos ck,List.filter_cons_of_neg (by simp only[ck,Bool.not_true,Bool.false_eq_true,not_false_eq_true]),List.filter_nil,List.append_nil]
   refine⟨s1,rfl,?_⟩
   have:killB keep (s.objs.take n++[k])=killB keep (s.objs.take n):=by
    funext i
    unfold killB
    by_cases c:i=k
    ·subst c;simp only[ck,Bool.not_true,Bool.and_false]
    ·simp[c]
   rw[this];exact k1
  ·have ck':keep ((2*k:Nat):Int)=false:=by simpa using ck
   obtain⟨s2,a1,a2,a3,a4⟩:=k1.step (D':=killB keep (s.objs.take n++[k])) hks (by simp[killB,hnk]) fun i=>by
    unfold killB
    by_cases c:i=k
    ·subst c;simp only[ck',Bool.not_false,Bool.and_true,List.mem_append,lms,or_true,decide_true,hnk,decide_false,Bool.or_true]
    ·simp[c]
   rw[if_neg ck,List.filter_cons_of_pos (by simp only[ck',Bool.not_false]),List.filter_nil]
   refine⟨s2,?_,a2⟩
   simp only
   rw[a1,at_shape k1.inv.ok a4,a3,wSum_snoc,lla,List.length_singleton]
   have hw:=wSum_le s ((s.objs.take n).filter fun i=>!keep ((2*i:Nat):Int))
   have hw2:=words_any (s.obAt k).sh
   simp only
   rw[IntWalk.i64_in _ (by omega),IntWalk.i64_in _ (by omega)]
   rfl
theorem kill_all (h:s.Inv) (keep:Int→Bool): ∃s',(allH (some s)).foldl (kst keep) (some s,0,0)=(some s',((s.objs.filter fun i=>!keep ((2*i:Nat):Int)).length:Int),wSum s (s.objs.filter fun i=>!keep ((2*i:Nat):Int)))∧Klld s s' fun i=>!keep ((2*i:Nat):Int):=by
 obtain⟨s',e1,k1⟩:=kill_fold h keep s.objs.length (Nat.le_refl _)
 rw[List.take_length]at e1 k1
 refine⟨s',e1,k1.inv,k1.B,k1.born,fun i=>?_,fun i h1 h2=>k1.ob i (by unfold killB;rw[h1];simp) h2,?_⟩
 ·rw[k1.st]
  unfold killB
  constructor
  ·rintro⟨h1,h2⟩
   refine⟨?_,h2⟩
   simpa[mem_objs.2 h2]using h1
  ·rintro⟨h1,h2⟩
   exact⟨by rw[h1];simp,h2⟩
 ·rw[k1.objs]
  refine List.filter_congr fun i hi=>?_
  unfold killB
  simp[hi]
theorem used_fold (h:s.Inv):(allH (some s)).foldl (usd s) 0=wSum s s.objs:=by
 have key: ∀n,n≤s.objs.length→(adrs (s.objs.take n)).foldl (usd s) 0=wSum s (s.objs.take n):=by
  intro n
  induction n with
  |zero=>intro _;rfl
  |succ n ih=>
   intro hn
   have hlt:n<s.objs.length:=hn
   obtain⟨k,hk⟩: ∃k,k=s.objs[n]:=⟨_,rfl⟩
   have hks:s.st.getD k 0=1:=mem_objs.1 (by rw[hk];exact List.getElem_mem hlt)
   have hB:s.objs.length≤2048:=by
    have:=objsB_len s.st 0 s.st.length
    have:=h.ok.sl
    have:=h.ok.b64
    unfold HL.objs;omega
   rw[List.take_succ_eq_append_getElem hlt,←hk,adrs_append,List.foldl_append,ih (by omega),wSum_snoc]
   show usd s _ ((2*k:Nat):Int)=_
   unfold usd
   rw[tnc]
   obtain⟨r,d,kk,hv,hs,hz,e1,e2,e3⟩:=obAt_rf h.ok hks
   rw[hz,e1]
   have hw:=wSum_le s (s.objs.take n)
   have hw2:=words_any ((r:Int),(d:Int),(kk:Int))
   rw[List.length_take]at hw
   rw[IntWalk.i64_in _ (by omega)]
 have:=key s.objs.length (Nat.le_refl _)
 rwa[List.take_length]at this
end
section
variable {hp:Addr} {s:HL} {fp:List Nat} {w:World}
def objsK (s:HL) (k:Nat):List Nat:=objsB s.st (32*k) (32*(k+1))
theorem hObjects {b:Nat} {gB gW cB cW:Nat} {yB yW:List Value} {sb sg pb pg bl bf:Nat} (h:HMs w b s gB gW cB cW yB yW sb sg pb pg bl bf) (k:Nat) (hk:k<s.B.length):
  Cs Tryz.prog 183 [.pointer (some ⟨b,0,none⟩),.int .i64 (k:Int)] w fun v w'=>Only [] w w'∧ ∃fq,Sl w' 1 v (objsK s k).length (ints (adrs (objsK s k))) fq∧ ∀y,y∈fq→w.heap.size≤y:=by
 have hB:=h.ok.b64
 have e1:IntKind.i64.wrap ((k:Int)*64)=((2*(32*k):Nat):Int):=by rw[IntWalk.i64_in _ (by omega)];omega
 have e2:IntKind.i64.wrap (((k+1:Nat):Int)*64)=((2*(32*(k+1)):Nat):Int):=by rw[IntWalk.i64_in _ (by omega)];omega
 refine enter_heap_Heap_Objects rfl ?_
 unfold x_heap_Heap_Objects
 refine gO ?_
 refine callT0 (hMadeS h) ?_
 refine gO6 (dfl (show¬(k:Int)<0 by omega)) h.hb.cell (dfl (show¬(s.B.length:Int)≤(k:Int) by omega)) (i64_succ k (by omega)) e1 e2 ?_
 refine callT (hBetween h (32*k) (32*(k+1)) (by omega) (by omega)) ?_
 rintro v w' ⟨ho,fq,hs,hf⟩
 refine gO ?_
 exact⟨ho,fq,hs,hf⟩
def relE (s:HL) (k:Nat):Int:=if heldE s k≠0 then heldE s k else if(objsK s k).length≠0 then 8 else 0
def relM (s:HL) (k:Nat):HL:=if relE s k=0 then {s with B:=fillB s.B k (0,0) (s.span k)}else s
theorem relM_len (s:HL) (k:Nat):(relM s k).B.length=s.B.length:=by
 unfold relM
 split
 ·exact fillB_len _ _ _ _
 ·rfl
set_option maxHeartbeats 1000000 in
theorem hRelease (h0:HR w (some hp) fp (some s)) (k:Nat) (hk:k<s.B.length):
  Cs Tryz.prog 146 [.pointer (some hp),.int .i64 (k:Int)] w fun v w'=>v=.int .i64 (relE s k)∧HR w' (some hp) fp (some (relM s k))∧Only fp w w':=by
 obtain⟨b,eb,gB,gW,cB,cW,yB,yW,sb,sg,pb,pg,bl,bf,h2,h⟩:=id h0
 cases eb
 have hB:=h.ok.b64
 refine enter_heap_Heap_Release rfl ?_
 unfold x_heap_Heap_Release
 refine gO ?_
 refine callT0 (hHeld h k hk) ?_
 by_cases c1:heldE s k=0
 rotate_left
 ·refine gO1 (bnt c1) ?_
  have e:relE s k=heldE s k:=by unfold relE;rw[if_pos c1]
  refine⟨by rw[e],?_,Only.refl _ _⟩
  unfold relM
  rw[e,if_neg c1];exact h0
 refine gO1 (bnf c1) ?_
 refine callT (hObjects h k hk) ?_
 rintro v w1 ⟨ho1,fq,hs1,g1⟩
 obtain⟨a1,cc1,rfl⟩:=hs1.val
 by_cases c2:(objsK s k).length=0
 rotate_left
 ·refine gO1 (dtr (show(0:Int)<((objsK s k).length:Int) by omega)) ?_
  have e:relE s k=8:=by unfold relE;rw[if_neg (by simp[c1]),if_pos c2]
  refine⟨by rw[e],?_,ho1.of_nil⟩
  unfold relM
  rw[e,if_neg (by omega)];exact h0.keep0 ho1
 have h1:=h.keep0 ho1
 refine gO1 (dfl (show¬(0:Int)<((objsK s k).length:Int) by omega)) ?_
 refine callT0 (hSpan h1 k hk) ?_
 have hE:relE s k=0:=by unfold relE;rw[if_neg (by simp[c1]),if_neg (by simp[c2])]
 have hM:relM s k= {s with B:=fillB s.B k (0,0) (s.span k)}:=by unfold relM;rw[if_pos hE]
 rw[hE,hM]
 obtain⟨N,hN⟩: ∃N,N=s.span k:=⟨_,rfl⟩
 have hsl:=span_le (s:=s) hk
 rw[←hN]at hsl⊢
 refine gO ?_
 refine run_loop (6::21::22::23::24::25::26::27::28::29::30::31::32::33::34::35::36::37::38::39::40::[]) (fun g w'=> ∃n:Nat,∃B':List (Int×Int),g 6=.int .i64 (n:Int)∧n≤N∧B'.length=s.B.length∧(∀i,B'.getD i (0,0)=if k+n≤i∧i<k+N then(0,0)else s.B.getD i (0,0))∧HMs w' b {s with B:=B'} gB gW cB cW yB yW sb sg pb pg bl bf∧Only [gB] w1 w') (fun g _=>downTo 6 g)
  ⟨N,s.B,by simp only[go_sem],Nat.le_refl _,rfl,fun i=>by rw[if_neg (by omega)],h1,Only.refl _ _⟩ fun g w2 hI hnext=>?_
 obtain⟨n,B',h6,hn,hl,hget,h3,ho3⟩:=hI
 have inGB:gB∈fp:=by rw[h2];simp
 by_cases c3:0<n
 rotate_left
 ·have n0:n=0:=by omega
  subst n0
  refine gO2 h6 (dfl (show¬(0:Int)<((0:Nat):Int) by omega)) ?_
  have:B'=fillB s.B k (0,0) N:=by
   refine List.ext_getD' (0,0) (by rw[hl,fillB_len]) fun i _=>?_
   rw[hget,fillB_get _ _ _ _ hsl.1]
   rfl
  rw[←this]
  exact⟨⟨b,rfl,gB,gW,cB,cW,yB,yW,sb,sg,pb,pg,bl,bf,h2,h3⟩,(ho1.of_nil).trans ho3 fun z hz=>by simp only[lms]at hz;subst hz;exact .inl inGB⟩
 have e4:IntKind.i64.wrap (IntKind.i64.wrap ((k:Int)+(n:Int))-1)=((k+n-1:Nat):Int):=by
  rw[IntWalk.i64_in ((k:Int)+(n:Int)) (by omega),IntWalk.i64_in _ (by omega)];omega
 have e5:(0:Int)≤((k+n-1:Nat):Int)∧((k+n-1:Nat):Int)<(B'.length:Int):=⟨by omega,by omega⟩
 have e6:IntKind.i64.wrap ((n:Int)-1)=((n-1:Nat):Int):=by rw[IntWalk.i64_in _ (by omega)];omega
 refine gJ5 h6 (dtr (show(0:Int)<(n:Int) by omega)) h3.hb.cell e4 (eq_true e5) ?_
 refine stNT (cs:=bV (0,0)) (n:=2) (i:=(k+n-1)*2) h3.hB rfl (by simp only[lla,blkV_len];omega) (bV_one _) fun w5 hs5 hat5 ho5=>?_
 have hkn:k+n-1<B'.length:=by omega
 rw[blkV_set yB hkn]at hat5
 refine gO2 h6 e6 ?_
 refine hnext _ w5 ⟨n-1,B'.set (k+n-1) (0,0),?_,by omega,by rw[List.length_set];exact hl,fun i=>?_,?_,ho3.same ho5⟩ ?_
 ·simp only[go_sem]
 ·by_cases c:k+n-1=i
  ·subst c
   rw[getD_set_eq (by omega),if_pos ⟨by omega,by omega⟩]
  ·rw[getD_set_ne' c,hget]
   by_cases c4:k+n≤i∧i<k+N
   ·rw[if_pos c4,if_pos ⟨by omega,c4.2⟩]
   ·rw[if_neg c4,if_neg (fun e=>c4 ⟨by omega,e.2⟩)]
 ·have:=h3.setB (B':=B'.set (k+n-1) (0,0)) (by simp) hat5 ho5
  exact this
 ·rw[downTo_int h6,downTo_int (k:=.i64) (i:=((n-1:Nat):Int)) (by simp only[go_sem])];omega
def relAll (s:HL) (n:Nat):HL:=(List.range n).foldl relM s
theorem relAll_succ (s:HL) (n:Nat):relAll s (n+1)=relM (relAll s n) n:=by unfold relAll;rw[List.range_succ,List.foldl_append];rfl
theorem relAll_len (s:HL): ∀n,(relAll s n).B.length=s.B.length
 |0=>rfl
 |n+1=>by rw[relAll_succ,relM_len,relAll_len s n]
theorem cRelease (h:HR w (some hp) fp (some s)) (hB:s.B.length≤64):
  Cs Tryz.prog 62 [.pointer (some hp)] w fun _ w'=>HR w' (some hp) fp (some (relAll s s.B.length))∧Only fp w w':=by
 refine enter_sound_Release rfl ?_
 unfold x_sound_Release
 refine gO ?_
 refine callT0 (hBlocks h) ?_
 have eb:((blocksO (some s):Nat):Int)=(s.B.length:Int):=rfl
 refine gO1 eb ?_
 refine run_loop (2::5::6::7::8::9::10::11::[]) (fun g w'=> ∃i:Nat,g 5=.int .i64 (i:Int)∧i≤s.B.length∧HR w' (some hp) fp (some (relAll s i))∧Only fp w w') (fun g _=>upTo s.B.length 5 g)
  ⟨0,by simp only[go_sem];rfl,by omega,h,Only.refl _ _⟩ fun g w2 hI hnext=>?_
 obtain⟨i,h5,hi,hr,ho⟩:=hI
 by_cases c:i<s.B.length
 rotate_left
 ·refine gO2 h5 (dfl (show¬(i:Int)<(s.B.length:Int) by omega)) ?_
  rw[show s.B.length=i by omega]
  exact⟨hr,ho⟩
 refine gO2 h5 (dtr (show(i:Int)<(s.B.length:Int) by omega)) ?_
 refine callT (hRelease hr i (by rw[relAll_len];exact c)) ?_
 rintro _ w3 ⟨rfl,hr3,ho3⟩
 refine gO2 h5 (i64_succ i (by omega)) ?_
 refine hnext _ w3 ⟨i+1,?_,by omega,by rw[relAll_succ];exact hr3,ho.same ho3⟩ ?_
 ·simp only[go_sem]
 ·exact up_lt h5
end
section
def tup3 (o:Option Value) (u v:Value):Option Value:=match o with|some x=>some (.tuple #[x,u,v])|none=>none
theorem tup3_some (x u v:Value):tup3 (some x) u v=some (.tuple #[x,u,v]):=Eq.trans rfl rfl
theorem RetV_cNtt (a n t u:Nat) (ρ:Env) (w:World) (R:Value→World→Prop):RetV [.cN a n,.t t,.t u] ρ w R=RetC (tup3 (cellsO w n (ρ a)) (ρ t) (ρ u)) w R:=by
 unfold RetV RetC
 simp only[retO,resL,resX]
 cases cellsO w n (ρ a)<;>rfl
attribute [go_sem] tup3_some RetV_cNtt
section
variable {P:Program} {fl:Bool} {rest:XT} {L:List Nat} {w0 w:World} {d:Option Nat} {ρ:Env} {C:Env→World→Prop} {t kt et:TypeId} {b:Nat} {m:IM}
theorem mlenS (ht:P.underlying t=some (.map kt et)) (h:MpAt w b m) (hs:fl=true∨SB L w0 w) (h2:VT P L w0 rest (putO ρ d (.int .i64 m.length)) w C):RunS P fl L w0 (Builtin.len_ #[t] 0 #[.map (some b)]) d rest ρ w C:=runS (run_mlen ht h) hs h2
end
def inB (K:List Int) (x:Int):Bool:=decide (x∈K)
def savL (K S:List Int):List Int:=S.filter fun x=>!decide (x∈K)
def heldB (K S:List Int) (x:Int):Bool:=decide (x∈K)||decide (x∈savL K S)
def idA (s:HL) (a:Int):Int:=(identO (some s) a).1
def HL.obX (s:HL) (x:Int):Ob:=s.obAt (x.toNat/2)
def clrC (s:HL) (keep:Int→Bool) (C:List Int):Nat:=(C.filter fun x=>decide (0<clrN keep (s.obX x))).length
structure ColX (s:HL) (R:Rt.MS) (L:List Int) (s4:HL) (R':Rt.MS) (L' ids rep K S o:List Int) (s1 s2 s3:HL) (n:Nat):Prop where
 kpt:Kpt s (Rt.leadsO (some R)) K
 kpt2:Kpt s (Rt.leadsO (some R)++deadL s L K) S
 ord:Ordr s (deadL s L K) o
 nn:n=min o.length (64-R.Q.length)
 c1:Clrd s s1 K (inB K)
 c2:Clrd s1 s2 (savL K S) (heldB K S)
 k3:Klld s2 s3 fun i=>!heldB K S ((2*i:Nat):Int)
 r4:s4=relAll s3 s3.B.length
 RR:R'= {R with Q:=R.Q++o.take n}
 ii:ids=(o.take n).map (idA s)
 LL:L'=(tidyL s L).filter fun x=>!decide (x∈ids)
 rp:rep=[(s4.objs.length:Int),wSum s4 s4.objs,((s2.objs.filter fun i=>!heldB K S ((2*i:Nat):Int)).length:Int),wSum s2 (s2.objs.filter fun i=>!heldB K S ((2*i:Nat):Int)),0,0,((K.length+(savL K S).length:Nat):Int),((clrC s (inB K) K+clrC s1 (heldB K S) (savL K S):Nat):Int)]
theorem cnt_step {x:Int} {f f':Int→Bool} (h1:f x=false) (h2:f' x=true) (h3: ∀y,y≠x→f' y=f y) (p:Int→Bool): ∀ {K:List Int},K.Nodup→x∈K→((K.filter f').filter p).length=((K.filter f).filter p).length+if p x=true then 1 else 0
 | [],_,hx=>absurd hx (by simp)
 |y::K,hn,hx=>by
  have hn1:=List.nodup_cons.1 hn
  by_cases c:y=x
  ·subst c
   have e1:K.filter f'=K.filter f:=List.filter_congr fun z hz=>h3 z fun e=>hn1.1 (e▸hz)
   simp only[List.filter_cons,h1,h2,e1,if_true,Bool.false_eq_true,if_false]
   by_cases cp:p y=true
   ·simp only[cp,if_true,List.length_cons]
   ·simp only[cp,if_false,Nat.add_zero,Bool.false_eq_true]
  ·have ih:=cnt_step h1 h2 h3 p hn1.2 ((List.mem_cons.1 hx).resolve_left (Ne.symm c))
   simp only[List.filter_cons,h3 y c]
   cases f y with
   |false=>simp only[Bool.false_eq_true,if_false];exact ih
   |true=>
    simp only[if_true,List.filter_cons]
    cases p y with
    |false=>simp only[Bool.false_eq_true,if_false];exact ih
    |true=>simp only[if_true,List.length_cons];omega
theorem clrC_step {s:HL} {keep:Int→Bool} {K T:List Int} {x:Int} (hn:K.Nodup) (hx:x∈K) (hT:x∈T):clrC s keep (K.filter fun y=>!decide (y∈T.filter (·!=x)))=clrC s keep (K.filter fun y=>!decide (y∈T))+if 0<clrN keep (s.obX x)then 1 else 0:=by
 unfold clrC
 rw[cnt_step (x:=x) (f:=fun y=>!decide (y∈T)) (by simp[hT]) (by simp) (fun y hy=>by simp[hy]) _ hn hx]
 congr 1
 by_cases c:0<clrN keep (s.obX x)
 ·rw[if_pos c,if_pos (by simpa using c)]
 ·rw[if_neg c,if_neg (by simpa using c)]
theorem clrC_le (s:HL) (keep:Int→Bool) (C:List Int):clrC s keep C≤C.length:=List.length_filter_le _ _
theorem obX_at (s:HL) (k:Nat):s.obX ((2*k:Nat):Int)=s.obAt k:=by unfold HL.obX;rw[tnc,Nat.mul_div_cancel_left k (by omega)]
theorem mem_left {K T:List Int} {x y:Int} (hx:x∈K) (hT:x∈T):y∈(K.filter fun y=>!decide (y∈T.filter (·!=x)))↔y=x∨y∈K.filter fun y=>!decide (y∈T):=by
 by_cases c:y=x
 ·subst c;simp[hx]
 ·simp[c]
theorem left_all (K:List Int):(K.filter fun y=>!decide (y∈K))=[]:=by
 rw[List.filter_eq_nil_iff]
 intro y hy
 simp[hy]
theorem left_none (K:List Int):(K.filter fun y=>!decide (y∈([]:List Int)))=K:=by
 rw[List.filter_eq_self]
 intro y _
 simp
structure Kp (w:World) (q vb mk ms:Nat) (hp:Addr) (vd:Value) (K sv:List Int):Prop where
 q:At w q [.pointer (some ⟨vb,0,none⟩)]
 v:At w vb [.pointer (some hp),.map (some mk),.map (some ms),vd]
 k:MB w mk K
 s:MB w ms sv
theorem Kp.keep {w w':World} {q vb mk ms:Nat} {hp:Addr} {vd:Value} {K sv:List Int} {S:List Nat} (h:Kp w q vb mk ms hp vd K sv) (o:Only S w w') (hd: ∀y,y∈[q,vb,mk,ms]→y∉S):Kp w' q vb mk ms hp vd K sv:=
 ⟨h.q.keep o (hd _ (by simp)),h.v.keep o (hd _ (by simp)),h.k.keep o (hd _ (by simp)),h.s.keep o (hd _ (by simp))⟩
theorem Kp.keep0 {w w':World} {q vb mk ms:Nat} {hp:Addr} {vd:Value} {K sv:List Int} (h:Kp w q vb mk ms hp vd K sv) (o:Only [] w w'):Kp w' q vb mk ms hp vd K sv:=h.keep o fun _ _=>by simp
theorem Kp.lt {w:World} {q vb mk ms:Nat} {hp:Addr} {vd:Value} {K sv:List Int} (h:Kp w q vb mk ms hp vd K sv): ∀y,y∈[q,vb,mk,ms]→y<w.heap.size:=fun y hy=>by
 simp only[List.mem_cons,List.not_mem_nil,or_false]at hy
 rcases hy with rfl|rfl|rfl|rfl
 ·exact h.q.lt
 ·exact h.v.lt
 ·exact MpAt.lt h.k
 ·exact MpAt.lt h.s
theorem ident_clrd {s s1:HL} {C:List Int} {keep:Int→Bool} (hi:s.Inv) (h:Clrd s s1 C keep) {a:Int} (ha:Liv s a):identO (some s1) a=(idA s a,0):=by
 obtain⟨k,rfl,hk⟩:=ha
 have hk1:s1.st.getD k 0=1:=by rw[h.sam.st];exact hk
 unfold idA
 rw[at_ident h.inv.ok hk1,at_ident hi.ok hk,h.ob k hk]
 split
 ·unfold clrOb;split<;>rfl
 ·rfl
theorem ordr_mem {s:HL} {D o:List Int} (h:Ordr s D o):o.Perm D:=by
 induction h with
 |nil=>exact List.Perm.nil
 |@cons l o i hi _ _ _ ih=>
  refine(ih.cons (l.getD i 0)).trans ?_
  have e:l.getD i 0=l[i]:=by simp[hi]
  rw[e]
  rw[List.eraseIdx_eq_take_drop_succ]
  have e2:l=l.take i++l[i]::l.drop (i+1):=by rw[List.getElem_cons_drop,List.take_append_drop]
  exact(List.perm_middle.symm).trans (List.Perm.of_eq e2.symm)
theorem relM_inv {s:HL} (h:s.Inv) {k:Nat} (hk:k<s.B.length):(relM s k).Inv:=by
 unfold relM
 by_cases c:relE s k=0
 rotate_left
 ·rw[if_neg c];exact h
 rw[if_pos c]
 have hk0:k≠0:=fun e=>by
  subst e
  unfold relE heldE at c
  simp at c
 have hsp:=span_le (s:=s) hk
 refine h.setB (fillB_len _ _ _ _) (fun i _ hi=>?_) ?_
 ·rw[fillB_get _ _ _ _ hsp.1]at hi⊢
  split
  ·rfl
  ·rename_i hne
   rw[if_neg hne]at hi
   by_cases hl:i<s.B.length
   ·exact h.bf i hl hi
   ·rw[List.getD_eq_getElem?_getD,List.getElem?_eq_none (by omega)];rfl
 ·rw[fillB_get _ _ _ _ hsp.1,if_neg (by omega)]
theorem relM_sam (s:HL) (k:Nat): ∃B,relM s k= {s with B:=B}:=by
 unfold relM
 split
 ·exact⟨_,rfl⟩
 ·exact⟨s.B,rfl⟩
theorem relAll_spec {s:HL} (h:s.Inv): ∀n,n≤s.B.length→(∃B,relAll s n= {s with B:=B})∧(relAll s n).Inv
 |0,_=>⟨⟨s.B,rfl⟩,h⟩
 |n+1,hn=>by
  obtain⟨⟨B,e⟩,i⟩:=relAll_spec h n (by omega)
  rw[relAll_succ]
  refine⟨?_,relM_inv i (by rw[relAll_len];omega)⟩
  obtain⟨B',e'⟩:=relM_sam (relAll s n) n
  exact⟨B',by rw[e',e]⟩
theorem Clrd.live {s s1:HL} {C:List Int} {keep:Int→Bool} (h:Clrd s s1 C keep) {x:Int} (hx:Liv s x):Liv s1 x:=by
 obtain⟨k,e,hk⟩:=hx
 exact⟨k,e,by rw[h.sam.st];exact hk⟩
end
section
set_option maxRecDepth 8000
theorem strongO_at {s:HL} (h:s.Ok) {i:Nat} (hi:s.st.getD i 0=1):strongO (some s) ((2*i:Nat):Int)=strongR (s.obAt i).sh.2.2 0 (s.obAt i).rf:=by
 unfold strongO
 rw[at_shape h hi,refsO_at h hi]
theorem mem_strongO {s:HL} (h:s.Ok) {i:Nat} (hi:s.st.getD i 0=1) {y:Int}:y∈strongO (some s) ((2*i:Nat):Int)↔ ∃j,j<(s.obAt i).rf.length∧y=(s.obAt i).rf.getD j 0∧y≠0∧softI (s.obAt i).sh.2.2 j=false:=by
 rw[strongO_at h hi,mem_strongR]
 constructor
 ·rintro⟨j,h1,h2,h3,h4⟩;exact⟨j,h1,h2,h3,by rwa[Nat.zero_add]at h4⟩
 ·rintro⟨j,h1,h2,h3,h4⟩;exact⟨j,h1,h2,h3,by rwa[Nat.zero_add]⟩
theorem kindO_at {s:HL} (h:s.Ok) {i:Nat} (hi:s.st.getD i 0=1):kindO s ((2*i:Nat):Int)=(s.obAt i).sh.2.2:=by
 unfold kindO;rw[at_shape h hi]
theorem ephK_at {s:HL} (h:s.Ok) {i:Nat} (hi:s.st.getD i 0=1) (hl:0<(s.obAt i).rf.length):ephK s ((2*i:Nat):Int)=(s.obAt i).rf.getD 0 0:=by
 have:=at_ref h hi hl
 unfold ephK
 rw[show((0:Nat):Int)=0 from rfl]at this
 rw[this]
theorem ephV_at {s:HL} (h:s.Ok) {i:Nat} (hi:s.st.getD i 0=1) (hl:1<(s.obAt i).rf.length):ephV s ((2*i:Nat):Int)=(s.obAt i).rf.getD 1 0:=by
 have:=at_ref h hi hl
 unfold ephV
 rw[show((1:Nat):Int)=1 from rfl]at this
 rw[this]
theorem softI_cases {kd:Int} {j:Nat} (h:softI kd j=true):(j=0∧(kd=1∨kd=2))∨(j=1∧kd=2):=by
 unfold softI at h
 simp only[Bool.or_eq_true,Bool.and_eq_true,beq_iff_eq]at h
 omega
theorem live_at {s:HL} {k:Nat} (h:Liv s ((2*k:Nat):Int)):s.st.getD k 0=1:=by
 obtain⟨i,e,hi⟩:=h
 have:k=i:=by omega
 rw[this];exact hi
theorem clr_closed {s:HL} {R:Rt.MS} {F K:List Int} {keep:Int→Bool} (hi:s.Inv) (hsn:Snd true s R) (hk:Kpt s F K) (he: ∀x,keep x=true↔x∈K) {i:Nat} (hx:((2*i:Nat):Int)∈K) {r:Int} (hr:r∈(clrOb keep (s.obAt i)).rf):r=0∨r∈K:=by
 have hli:=live_at (hk.liv _ hx)
 obtain⟨l1,l2,l3⟩:=obAt_len hi.ok hli
 have strong: ∀j,j<(s.obAt i).rf.length→softI (s.obAt i).sh.2.2 j=false→(s.obAt i).rf.getD j 0=0∨(s.obAt i).rf.getD j 0∈K:=fun j hj hs=>by
  rcases hsn.ref hli hj with h0|⟨_,hl⟩
  ·exact .inl h0
  ·by_cases c:(s.obAt i).rf.getD j 0=0
   ·exact .inl c
   ·exact .inr (hk.cls.g _ _ (hk.liv _ hx) hx ((mem_strongO hi.ok hli).2 ⟨j,hj,rfl,c,hs⟩) hl)
 unfold clrOb at hr
 by_cases cs:stays keep (s.obAt i)
 ·rw[if_pos cs]at hr
  obtain⟨j,hj,rfl⟩:=List.mem_iff_getElem.1 hr
  have ej:(s.obAt i).rf[j]=(s.obAt i).rf.getD j 0:=by simp[hj]
  rw[ej]
  cases e:softI (s.obAt i).sh.2.2 j with
  |false=>exact strong j hj e
  |true=>
   have e2:=softI_cases e
   have hrf0:(s.obAt i).rf.getD 0 0≠0∧keep ((s.obAt i).rf.getD 0 0)=true:=cs.resolve_left (by omega)
   rcases e2 with⟨rfl,_⟩|⟨rfl,k2⟩
   ·exact .inr ((he _).1 hrf0.2)
   ·rcases hsn.ref hli hj with h0|⟨_,hl⟩
    ·exact .inl h0
    ·refine .inr ?_
     have h1:=hk.cls.e _ (hk.liv _ hx) hx (by rw[kindO_at hi.ok hli];exact k2) (by rw[ephK_at hi.ok hli (by omega)];exact(he _).1 hrf0.2) (by rw[ephV_at hi.ok hli hj];exact hl)
     rwa[ephV_at hi.ok hli hj]at h1
 ·rw[if_neg cs]at hr
  obtain⟨j,hj,rfl⟩:=List.mem_iff_getElem.1 hr
  simp only at hj⊢
  rw[clrRf_len]at hj
  have ej:(clrRf (s.obAt i).sh.2.2 (s.obAt i).rf.length (s.obAt i).rf)[j]'(by rw[clrRf_len];exact hj)=(clrRf (s.obAt i).sh.2.2 (s.obAt i).rf.length (s.obAt i).rf).getD j 0:=by simp[clrRf_len,hj]
  rw[ej,clrRf_get hj]
  by_cases c:softI (s.obAt i).sh.2.2 j=true
  ·rw[if_pos ⟨hj,c⟩];exact .inl rfl
  ·rw[if_neg (fun e=>c e.2)];exact strong j hj (by simpa using c)
theorem fl_mem {k:Nat} {L:List Int} {x:Int} (hx:x∈L) (h0:x≠0): ∃p,(p,x)∈Rt.fl k L:=by
 obtain⟨i,hi,rfl⟩:=List.mem_iff_getElem.1 hx
 refine⟨Rt.pl k i,?_⟩
 unfold Rt.fl
 refine List.mem_filter.2 ⟨?_,by simpa using h0⟩
 rw[List.mem_iff_getElem]
 exact⟨i,by simp[hi],by simp⟩
theorem leads_of {R:Rt.MS} (h:R.Ok) {x:Int} (hx:x∈R.S∨x∈R.G∨x∈R.Q) (h0:x≠0):x∈Rt.leadsO (some R):=by
 show x∈((Rt.filled R).map (·.2)).foldl Rt.addNew []
 rw[mem_foldAdd]
 refine .inr (List.mem_map.2 ?_)
 rw[Rt.filled_rows h]
 rcases hx with hx|hx|hx
 ·obtain⟨p,hp⟩:=fl_mem (k:=0) hx h0
  exact⟨(p,x),by simp[hp],rfl⟩
 ·obtain⟨p,hp⟩:=fl_mem (k:=1) hx h0
  exact⟨(p,x),by simp[hp],rfl⟩
 ·obtain⟨p,hp⟩:=fl_mem (k:=2) hx h0
  exact⟨(p,x),by simp[hp],rfl⟩
theorem kpt_mono {s:HL} {F G K S:List Int} (h:Kpt s F K) (h':Kpt s G S) (hs: ∀x,x∈F→x∈G): ∀x,x∈K→x∈S:=
 h.ind (· ∈S) ⟨fun x hx hl=>h'.cls.f x (hs x hx) hl,h'.cls.g,h'.cls.e⟩
theorem Snd.rfok {s:HL} {R:Rt.MS} (h:Snd true s R) (hs:s.Ok):RfOk s.abs:=h.1.mono fun _ hx=>hx.le hs
section
variable {s:HL} {R:Rt.MS} {L:List Int} {s4:HL} {R':Rt.MS} {L' ids rep K S o:List Int} {s1 s2 s3:HL} {n:Nat}
theorem ColX.sub (h:ColX s R L s4 R' L' ids rep K S o s1 s2 s3 n): ∀x,x∈K→x∈S:=kpt_mono h.kpt h.kpt2 fun x hx=>List.mem_append.2 (.inl hx)
theorem ColX.held (h:ColX s R L s4 R' L' ids rep K S o s1 s2 s3 n) (x:Int):heldB K S x=true↔x∈S:=by
 unfold heldB savL
 simp only[Bool.or_eq_true,decide_eq_true_eq,List.mem_filter,Bool.not_eq_true',decide_eq_false_iff_not]
 constructor
 ·rintro(hx|hx)
  ·exact h.sub x hx
  ·exact hx.1
 ·intro hx
  by_cases c:x∈K
  ·exact .inl c
  ·exact .inr ⟨hx,c⟩
theorem ColX.four (h:ColX s R L s4 R' L' ids rep K S o s1 s2 s3 n):(∃B,s4= {s3 with B:=B})∧s4.Inv:=by
 rw[h.r4];exact relAll_spec h.k3.inv _ (Nat.le_refl _)
theorem ColX.st (h:ColX s R L s4 R' L' ids rep K S o s1 s2 s3 n) (i:Nat):s4.st.getD i 0=1↔((2*i:Nat):Int)∈S:=by
 obtain⟨⟨B,e⟩,_⟩:=h.four
 have e1:s4.st=s3.st:=by rw[e]
 rw[e1,h.k3.st,h.c2.sam.st,h.c1.sam.st]
 constructor
 ·rintro⟨h1,h2⟩
  exact(h.held _).1 (by simpa using h1)
 ·intro hx
  exact⟨by simpa using(h.held _).2 hx,live_at (h.kpt2.liv _ hx)⟩
theorem ColX.live (h:ColX s R L s4 R' L' ids rep K S o s1 s2 s3 n) (x:Int):Liv s4 x↔x∈S:=by
 constructor
 ·rintro⟨k,rfl,hk⟩;exact(h.st k).1 hk
 ·intro hx
  obtain⟨k,rfl,_⟩:=h.kpt2.liv x hx
  exact⟨k,rfl,(h.st k).2 hx⟩
theorem ColX.ob (h:ColX s R L s4 R' L' ids rep K S o s1 s2 s3 n) {i:Nat} (hx:((2*i:Nat):Int)∈S):s4.obAt i=if((2*i:Nat):Int)∈K then clrOb (inB K) (s.obAt i)else clrOb (heldB K S) (s.obAt i):=by
 obtain⟨⟨B,e⟩,_⟩:=h.four
 have hl:=live_at (h.kpt2.liv _ hx)
 have hh:(!heldB K S ((2*i:Nat):Int))=false:=by simpa using(h.held _).2 hx
 have e1:s4.obAt i=s3.obAt i:=by rw[e];rfl
 have hl1:s1.st.getD i 0=1:=by rw[h.c1.sam.st];exact hl
 have hl2:s2.st.getD i 0=1:=by rw[h.c2.sam.st];exact hl1
 rw[e1,h.k3.ob i hh hl2,h.c2.ob i hl1,h.c1.ob i hl]
 by_cases c:((2*i:Nat):Int)∈K
 ·rw[if_neg (fun e=>by have:=(List.mem_filter.1 e).2;simp only[c,decide_true,Bool.not_true,Bool.false_eq_true]at this),if_pos c,if_pos c]
 ·rw[if_pos (by simp only[savL,List.mem_filter,hx,c,decide_false,Bool.not_false,and_self]),if_neg c,if_neg c]
theorem ColX.snd (h:ColX s R L s4 R' L' ids rep K S o s1 s2 s3 n) (hi:s.Inv) (hsn:Snd true s R) (hR:R.Ok):Snd true s4 R':=by
 have rootK: ∀x,x∈R.S∨x∈R.G∨x∈R.Q→PhP true s4 x:=fun x hx=>by
  by_cases c:x=0
  ·exact .inl c
  ·refine .inr ⟨rfl,(h.live x).2 (h.sub x (h.kpt.cls.f x (leads_of hR hx c) ?_))⟩
   have:PhP true s x:=by
    rcases hx with hx|hx|hx
    ·exact hsn.2.1 x hx
    ·exact hsn.2.2.1 x hx
    ·exact hsn.2.2.2 x hx
   exact(this.resolve_left c).2
 refine⟨fun ob hob r hr=>?_,?_⟩
 ·obtain⟨i,hio,rfl⟩:=List.mem_map.1 hob
  have hxS:=(h.st i).1 (mem_objs.1 hio)
  rw[h.ob hxS]at hr
  have key:r=0∨r∈S:=by
   split at hr
   ·rename_i c
    exact(clr_closed hi hsn h.kpt (fun x=>by unfold inB;exact decide_eq_true_iff) c hr).imp id (h.sub r)
   ·exact clr_closed hi hsn h.kpt2 h.held hxS hr
  exact key.imp id fun e=>⟨rfl,(h.live r).2 e⟩
 ·rw[h.RR]
  refine⟨fun x hx=>rootK x (.inl hx),fun x hx=>rootK x (.inr (.inl hx)),fun x hx=>?_⟩
  rcases List.mem_append.1 hx with hx|hx
  ·exact rootK x (.inr (.inr hx))
  ·have hD:=(ordr_mem h.ord).mem_iff.1 (List.mem_of_mem_take hx)
   have hl:=listA_live hi (List.mem_filter.1 hD).1
   exact .inr ⟨rfl,(h.live x).2 (h.kpt2.cls.f x (List.mem_append.2 (.inr hD)) hl)⟩
theorem ColX.len (h:ColX s R L s4 R' L' ids rep K S o s1 s2 s3 n):s4.objs.length=S.length:=by
 have hnd:(adrs s4.objs).Nodup:=by
  unfold adrs
  exact List.Pairwise.map _ (fun a b h e=>h (by omega)) (objs_nodup s4)
 refine Nat.le_antisymm ?_ ?_
 ·rw[←adrs_len]
  exact nodup_sub hnd fun x hx=>(h.live x).1 (allH_mem.1 (show x∈allH (some s4)from hx))
 ·exact nodup_le h.kpt2.nd fun x hx=>(h.live x).2 hx
end
end
section
variable {tb:Bool} {s:HL} {x:Int} {R l:List Int} {fp:List Nat} {v v':Value} {w w' w2:World}
structure ClsT (s:HL) (tb:Bool) (F:List Int) (P:Int→Prop):Prop where
 f: ∀x,x∈F→Liv s x→P x
 g: ∀x y,Liv s x→P x→y∈strongO (some s) x→Liv s y→P y
 e:tb=true→ ∀x,Liv s x→P x→kindO s x=2→P (ephK s x)→Liv s (ephV s x)→P (ephV s x)
structure KptT (s:HL) (tb:Bool) (F K:List Int):Prop where
 up:Rise K
 liv: ∀x,x∈K→Liv s x
 cls:ClsT s tb F (· ∈K)
 ind: ∀P,ClsT s tb F P→ ∀x,x∈K→P x
theorem Rise.nodup (h:Rise l):l.Nodup:=h.imp fun h e=>by omega
theorem KptT.kpt {F K:List Int} (h:KptT s true F K):Kpt s F K:=
 ⟨h.up.nodup,h.liv,⟨h.cls.f,h.cls.g,h.cls.e rfl⟩,fun P hP=>h.ind P ⟨hP.f,hP.g,fun _=>hP.e⟩⟩
structure RT (w w':World) (s:HL) (tb:Bool) (l R:List Int) (v:Value) (fp:List Nat):Prop where
 o:Only [] w w'
 sl:Sl w' 1 v R.length (ints R) fp
 ge: ∀y,y∈fp→w.heap.size≤y
 up:Rise R
 liv: ∀x,x∈R→Liv s x
 ind: ∀P,ClsT s tb l P→ ∀x,x∈R→P x
theorem RT.len (h:RT w w' s tb l R v fp):R.length≤s.objs.length:=h.up.le_objs h.liv
theorem RT.mono (h:RT w w' s tb l R v fp) (k:Only [] w' w2) (e:v'=v):RT w w2 s tb l R v' fp:=by
 subst e;exact⟨h.o.nil k,h.sl.keep0 k,h.ge,h.up,h.liv,h.ind⟩
theorem RT.incl {fp':List Nat} (h:RT w w' s tb l R v fp) (hok:s.Ok) (k:Only [] w' w2) (hs:Sl w2 1 v' (incl s R x).length (ints (incl s R x)) fp') (hg: ∀y,y∈fp'→y∈fp∨w'.heap.size≤y)
  (hx: ∀P,ClsT s tb l P→Liv s x→P x):RT w w2 s tb l (Go.Proofs.YteiildhelefodaaGreat.incl s R x) v' fp':=
 ⟨h.o.nil k,hs,fun y hy=>(hg y hy).elim (h.ge y) fun h'=>by have:=h.o.size;omega,incl_rise x h.up,fun y hy=>((mem_incl hok).1 hy).elim (fun e=>e.1▸e.2) (h.liv y),fun P hP y hy=>((mem_incl hok).1 hy).elim (fun e=>e.1▸hx P hP e.2) (h.ind P hP y)⟩
theorem liv_ne0 (h:s.Inv) (hx:Liv s x):x≠0:=by
 obtain⟨k,rfl,hk⟩:=hx
 intro e
 have:k=0:=by omega
 subst this
 exact h.z0 hk
def vint:Value→Int
 |.int _ n=>n
 |_=>0
def nbit (v9 v7:Value):Nat:=if vint v9=(vlen v7:Int)then 0 else 1
def DoneT (s:HL) (tb:Bool) (R0:List Int) (i:Nat) (R:List Int):Prop:= ∀a,a<i→(∀y,y∈strongO (some s) (R0.getD a 0)→Liv s y→y∈R)∧(tb=true→kindO s (R0.getD a 0)=2→ephK s (R0.getD a 0)∈R0→Liv s (ephV s (R0.getD a 0))→ephV s (R0.getD a 0)∈R)
theorem DoneT.mono {R0 R':List Int} {i:Nat} (h:DoneT s tb R0 i R) (hs: ∀x,x∈R→x∈R'):DoneT s tb R0 i R':=fun a ha=>⟨fun y hy hl=>hs y ((h a ha).1 y hy hl),fun h1 h2 h3 h4=>hs _ ((h a ha).2 h1 h2 h3 h4)⟩
set_option maxHeartbeats 2000000 in
theorem cReach {b:Nat} {fl:List Nat} {vl:Value} (hi:s.Inv) (hn:s.objs.length≤2000) (h:FM w b s.abs fp) (hl:Sl w 1 vl l.length (ints l) fl) (hll:l.length≤5000):
  Cs Tryz.prog 38 [.pointer (some ⟨b,0,none⟩),vl,.bool tb] w fun v w'=>Only [] w w'∧ ∃R fp',Sl w' 1 v R.length (ints R) fp'∧(∀y,y∈fp'→w.heap.size≤y)∧KptT s tb l R:=by
 obtain⟨_,vO,_,_,_,_,L,hfpe,hm⟩:=h
 have hfm:FM w b s.abs fp:=⟨_,_,_,_,_,_,_,hfpe,hm⟩
 obtain⟨lL,_⟩:=hm.ob (s0:=s) rfl
 obtain⟨av,cv,rfl⟩:=hm.valO
 obtain⟨al,cl,rfl⟩:=hl.val
 have hok:=hi.ok
 have hget: ∀i:Nat,i<l.length→ ∃g,al=some ⟨g,0,none⟩∧ ∀w',Only [] w w'→w'.cell? ⟨g,i,none⟩=some (.int .i64 (l.getD i 0)):=fun i hi=>by
  obtain⟨g,cap,ys,e,hat,_,_⟩:=hl.pos (by omega)
  cases e
  exact⟨g,rfl,fun w' ho=>by rw[(hat.keep0 ho).cell];exact ints_append_get ys (by omega)⟩
 refine enter_ref12_Reach rfl ?_
 unfold x_ref12_Reach
 refine gO ?_
 refine bslT fun q w1 hq hs1 hat1 ho1=>?_
 refine gO ?_
 refine run_loop (7::8::15::16::17::18::19::20::21::22::23::24::25::26::27::[]) (fun g w'=> ∃(i:Nat) (R:List Int) (fR:List Nat),g 8=.int .i64 (i:Int)∧i≤l.length∧RT w w' s tb l R (g 7) fR∧ ∀j,j<i→Liv s (l.getD j 0)→l.getD j 0∈R) (fun g _=>upTo l.length 8 g)
  ⟨0,[],[q],by simp only[go_sem];rfl,by omega,⟨ho1,by simp only[go_sem];exact Sl.empty1 hat1,fun y hy=>by simp only[lms]at hy;omega,List.Pairwise.nil,fun x hx=>absurd hx (by simp),fun P _ x hx=>absurd hx (by simp)⟩,fun j hj=>absurd hj (by omega)⟩ fun g1 w3 hI hnext=>?_
 obtain⟨i,R,fR,h8,hil,rt,all⟩:=hI
 by_cases c1:i<l.length
 ·obtain⟨g,rfl,hc⟩:=hget i c1
  have ci:(0:Int)≤(i:Int)∧(i:Int)<(l.length:Int):=by omega
  have z1:=i64_succ i (by omega)
  (repeat(first|with_reducible(first|refine nx ?_|refine r_6 rfl ?_)|simp only[go_sem,h8,dtr ci.2,if_pos ci,tnc,Nat.mul_one,hc w3 rt.o]))
  refine callT (cInclude (hfm.keep0 rt.o) hok rt.sl (by have:=rt.len;omega) (l.getD i 0)) ?_
  rintro vR w4 ⟨ho4,fR2,hR2,gR2⟩
  refine gO2 h8 z1 ?_
  refine hnext _ w4 ⟨i+1,incl s R (l.getD i 0),fR2,?_,by omega,?_,fun j hj hv=>?_⟩ ?_
  ·simp only[go_sem]
  ·simp only[go_sem];exact rt.incl hok ho4 hR2 gR2 fun P hP hv=>hP.f _ (by simp[c1]) hv
  ·by_cases e:j=i
   ·subst e;exact(mem_incl hok).2 (.inl ⟨rfl,hv⟩)
   ·exact(mem_incl hok).2 (.inr (all j (by omega) hv))
  ·exact up_lt h8
 have st0: ∀x,x∈l→Liv s x→x∈R:=fun x hx hv=>by
  obtain⟨j,hj,rfl⟩:=List.mem_iff_getElem.1 hx
  have:=all j (by omega)
  simp only[List.getD_eq_getElem?_getD,List.getElem?_eq_getElem hj,Option.getD_some]at this
  exact this hv
 refine gO2 h8 (dfl (show¬(i:Int)<(l.length:Int) by omega)) ?_
 refine run_loop (7::9::10::11::12::13::28::29::30::31::32::33::34::35::36::37::38::39::40::41::42::43::44::45::46::47::48::49::50::51::52::53::54::55::56::57::58::59::60::61::62::63::64::65::66::67::68::69::70::71::72::73::74::75::76::77::78::79::80::81::82::83::84::85::86::87::88::89::90::91::92::93::94::[]) (fun g w'=> ∃(R:List Int) (fR:List Nat) (nn:Int),g 9=.int .i64 nn∧RT w w' s tb l R (g 7) fR∧(∀x,x∈l→Liv s x→x∈R)∧nn≤R.length∧(nn=R.length→DoneT s tb R R.length R)) (fun g _=>2*(2000-vlen (g 7))+nbit (g 9) (g 7))
  ⟨R,fR, -1,by simp only[go_sem],by simp only[go_sem];exact rt,st0,by omega,fun e=>by omega⟩ fun g2 w4 hI hnext2=>?_
 clear hnext R fR rt all st0
 obtain⟨R0,f0,nn,h9,rt0,st0,hnn,hdone⟩:=hI
 have hlen0:=rt0.len
 obtain⟨a0,c0,h7⟩:=rt0.sl.val
 by_cases c2:nn=(R0.length:Int)
 ·refine gO3 h9 h7 (bnf c2) ?_
  have hd:=hdone c2
  refine⟨rt0.o,R0,f0,by rw[←h7];exact rt0.sl,rt0.ge,rt0.up,rt0.liv,⟨st0,fun x y hx hm hy hl=>?_,fun ht x hx hm hk he hl=>?_⟩,rt0.ind⟩
  ·obtain⟨a,ha,rfl⟩:=List.mem_iff_getElem.1 hm
   have e:R0.getD a 0=R0[a]:=by simp[ha]
   exact(hd a ha).1 y (by rw[e];exact hy) hl
  ·obtain⟨a,ha,rfl⟩:=List.mem_iff_getElem.1 hm
   have e:R0.getD a 0=R0[a]:=by simp[ha]
   have:=(hd a ha).2 ht
   rw[e]at this
   exact this hk he hl
 refine gO3 h9 h7 (bnt c2) ?_
 refine callT (hCopy12 (by rw[←h7];exact rt0.sl.src) (by omega)) ?_
 rintro vF w5 ⟨ho5,fF,hF,gF⟩
 obtain⟨aF,cF,rfl⟩:=hF.val
 have hgetF: ∀i:Nat,i<R0.length→ ∃g,aF=some ⟨g,0,none⟩∧g<w5.heap.size∧ ∀w',Only [] w5 w'→w'.cell? ⟨g,i,none⟩=some (.int .i64 (R0.getD i 0)):=fun i hi=>by
  obtain⟨g,cap,ys,e,hat,_,_⟩:=hF.pos (by omega)
  cases e
  exact⟨g,rfl,hat.lt,fun w' ho=>by rw[(hat.keep0 ho).cell];exact ints_append_get ys (by omega)⟩
 refine gO ?_
 refine run_loop (7::11::12::13::36::37::38::39::40::41::42::43::44::45::46::47::48::49::50::51::52::53::54::55::56::57::58::59::60::61::62::63::64::65::66::67::68::69::70::71::72::73::74::75::76::77::78::79::80::81::82::83::84::85::86::87::88::89::90::91::92::93::94::[]) (fun g w'=> ∃(i:Nat) (R:List Int) (fR:List Nat),g 11=.int .i64 (i:Int)∧i≤R0.length∧Only [] w5 w'∧RT w w' s tb l R (g 7) fR∧(∀x,x∈R0→x∈R)∧DoneT s tb R0 i R)
  (fun g _=>upTo R0.length 11 g) ⟨0,R0,f0,by simp only[go_sem];rfl,by omega,Only.refl _ _,by simp only[go_sem];exact rt0.mono ho5 rfl,fun _ h=>h,fun a ha=>absurd ha (by omega)⟩ fun g3 w6 hI hnext4=>?_
 obtain⟨i,R,fR,h11,hil,ho6,rt,sub,done⟩:=hI
 have hRl:=rt.len
 by_cases c1:i<R0.length
 rotate_left
 ·have hle:R0.length≤R.length:=nodup_sub rt0.up.nodup sub
  obtain⟨a7,c7,e7⟩:=rt.sl.val
  refine gO2 h11 (dfl (show¬(i:Int)<(R0.length:Int) by omega)) ?_
  refine hnext2 _ w6 ⟨R,fR,(R0.length:Int),?_,?_,fun x hx hv=>sub x (st0 x hx hv),by omega,fun e=>?_⟩ ?_
  ·simp only[go_sem]
  ·simp only[go_sem];exact rt
  ·have hback:=same_set rt0.up.nodup sub (by omega)
   have hlen:R.length=R0.length:=by omega
   intro a ha
   have hin:R.getD a 0∈R0:=hback _ (by simp[ha])
   obtain⟨a',ha',e'⟩:=List.mem_iff_getElem.1 hin
   have:=done a' (by omega)
   have ee:R0.getD a' 0=R.getD a 0:=by rw[←e'];simp[ha']
   rw[ee]at this
   exact⟨this.1,fun h1 h2 h3 h4=>this.2 h1 h2 (hback _ h3) h4⟩
  ·simp only[go_sem,h9,h7,e7]
   show 2*(2000-R.length)+nbit (.int .i64 (R0.length:Int)) (.slice a7 R.length c7)<2*(2000-R0.length)+nbit (.int .i64 nn) (.slice a0 R0.length c0)
   have n1:nbit (.int .i64 nn) (.slice a0 R0.length c0)=1:=by unfold nbit;rw[if_neg];exact c2
   rw[n1]
   unfold nbit
   show 2*(2000-R.length)+(if(R0.length:Int)=(R.length:Int)then 0 else 1)<_
   split<;>omega
 obtain⟨gF1,rfl,gFlt,hcF⟩:=hgetF i c1
 have ci:(0:Int)≤(i:Int)∧(i:Int)<(R0.length:Int):=by omega
 obtain⟨k,hke,hk0⟩:=rt0.liv (R0.getD i 0) (by simp[c1])
 obtain⟨q',hq',hqe⟩:=objs_index hk0
 obtain⟨gc,cr,cp,gr,vd,e1,e2,ovd,see⟩:=hm.see8 hq'
 cases e1
 rw[hqe]at e2 see
 have o6d:=rt.o.nil (Only.drew [] w6)
 have hm6:=hm.keep0 o6d
 obtain⟨s6c,_⟩:=see _ o6d
 have cq:(0:Int)≤(q':Int)∧(q':Int)<(L.length:Int):=by omega
 have rk15:=rf_le hok hk0
 have obl: ∀u,u∈obV (s.obAt k) (.slice cr (s.obAt k).rf.length cp) vd→oneC u=true:=by
  intro u hu
  simp only[obV,List.mem_cons,List.not_mem_nil,or_false]at hu
  rcases hu with rfl|rfl|rfl|rfl|rfl|rfl|rfl|rfl<;>first|rfl|exact ovd
 refine gO2 h11 (dtr ci.2) ?_
 refine run_cut (12::42::43::44::45::46::47::48::49::50::51::52::53::[]) (fun g w'=> ∃q,g 12=.pointer (some ⟨q,0,none⟩)∧At w' q (obV (s.obAt k) (.slice cr (s.obAt k).rf.length cp) vd)∧w6.heap.size≤q∧Only [] w6 w') (fun kk hkk=>?_) (fun g7 w7 hJ=>?_)
 ·refine run_drt [b,gF1,gc] ?_
  have blt:=hm6.hb.lt
  have ltz: ∀z,z∈[b,gF1,gc]→z<w6.drew.heap.size∧z∉([]:List Nat):=fun z hz=>by
   refine⟨?_,by simp⟩
   have:w6.drew.heap.size=w6.heap.size:=rfl
   have:=ho6.size
   simp only[List.mem_cons,List.not_mem_nil,or_false]at hz
   rcases hz with rfl|rfl|rfl
   ·exact blt
   ·omega
   ·obtain⟨g',_,_,e',rowc,_,_⟩:=hm6.row (by omega)
    cases e'
    exact rowc.lt
  have sb0:SB [b,gF1,gc] w6.drew w6.drew:=SB.refl _ _
  (repeat(first|with_reducible(first|refine nx ?_|refine r_6 rfl ?_)|simp only[go_sem,h11,hm6.hb.cell,if_pos ci,tnc,Nat.mul_one,hcF _ (ho6.nil (Only.drew [] w6))]))
  refine⟨?_,?_⟩
  ·refine callS0 (fIndex (hfm.keep0 o6d) (R0.getD i 0)) (.inr sb0) ?_
   rw[hke,abs_ix hq' hqe]
   (repeat(first|with_reducible(first|refine nx ?_|refine r_6 rfl ?_)|simp only[go_sem,show ixI (some q')=(q':Int)from rfl,if_pos cq,tnc,s6c]))
   refine boxS fun q w7 hq hs7 hat7 ho7=>⟨.inr (sb0.only ho7 ltz),?_⟩
   refine gO ?_
   refine stNS hat7 rfl (by simp) obl fun w8 hs8 hat8 ho8=>⟨.inl rfl,?_⟩
   refine gO ?_
   have z6:w6.drew.heap.size=w6.heap.size:=rfl
   refine hkk _ w8 ⟨q,?_,hat8,by omega,((Only.drew [] w6).nil ho7).trans ho8 fun y hy=>by simp only[lms]at hy;exact .inr (by omega)⟩
   ·simp only[go_sem]
  ·refine boxS fun q w7 hq hs7 hat7 ho7=>⟨.inr (sb0.only ho7 ltz),?_⟩
   refine gO ?_
   refine callS0 (fIndex (hfm.keep0 (o6d.nil ho7)) (R0.getD i 0)) (.inr (sb0.only ho7 ltz)) ?_
   rw[hke,abs_ix hq' hqe]
   obtain⟨s7c,_⟩:=see _ (o6d.nil ho7)
   (repeat(first|with_reducible(first|refine nx ?_|refine r_6 rfl ?_)|simp only[go_sem,show ixI (some q')=(q':Int)from rfl,if_pos cq,tnc,s6c,s7c]))
   refine stNS hat7 rfl (by simp) obl fun w8 hs8 hat8 ho8=>⟨.inl rfl,?_⟩
   refine gO ?_
   have z6:w6.drew.heap.size=w6.heap.size:=rfl
   refine hkk _ w8 ⟨q,?_,hat8,by omega,((Only.drew [] w6).nil ho7).trans ho8 fun y hy=>by simp only[lms]at hy;exact .inr (by omega)⟩
   ·simp only[go_sem]
 obtain⟨q,h12,hatq,gq,ho7⟩:=hJ
 have rk:s.RF k=fun j=>(s.obAt k).rf.getD j 0:=rfl
 have c5: ∀w',Only [] w7 w'→w'.cell? ⟨q,5,none⟩=some (.slice cr (s.obAt k).rf.length cp):=fun w' o=>by rw[(hatq.keep0 o).cell];rfl
 have c4: ∀w',Only [] w7 w'→w'.cell? ⟨q,4,none⟩=some (.int .i64 (s.obAt k).sh.2.2):=fun w' o=>by rw[(hatq.keep0 o).cell];rfl
 have c2s: ∀w',Only [] w7 w'→cellsAt w' ⟨q,2,none⟩ 3=some (shV (s.obAt k).sh):=fun w' o=>by rw[cellsAt_at (hatq.keep0 o) 2 3 (by simp[obV])];rfl
 have hxR:((2*k:Nat):Int)∈R0:=by rw[←hke];simp[c1]
 refine gO ?_
 refine run_loop (7::13::54::55::56::57::58::59::60::61::62::63::64::65::66::67::68::69::70::71::72::[]) (fun g w'=> ∃(j:Nat) (R:List Int) (fR:List Nat),g 13=.int .i64 (j:Int)∧j≤(s.obAt k).rf.length∧Only [] w7 w'∧RT w w' s tb l R (g 7) fR∧(∀x,x∈R0→x∈R)∧DoneT s tb R0 i R∧ ∀j',j'<j→softI (s.obAt k).sh.2.2 j'=false→Liv s (s.RF k j')→s.RF k j'∈R)
  (fun g _=>upTo (s.obAt k).rf.length 13 g) ⟨0,R,fR,by simp only[go_sem];rfl,by omega,Only.refl _ _,by simp only[go_sem];exact rt.mono ho7 rfl,sub,done,fun j' hj=>absurd hj (by omega)⟩ fun g8 w8 hI hnext6=>?_
 clear R fR rt sub done hRl
 obtain⟨j,R,fR,h13,hj,ho8,rt,sub,done,donej⟩:=hI
 have hRl:=rt.len
 obtain⟨_,srf⟩:=see w8 rt.o
 have o68:Only [] w5 w8:=(ho6.nil ho7).nil ho8
 by_cases c2:j<(s.obAt k).rf.length
 ·have cj:(0:Int)≤(j:Int)∧(j:Int)<((s.obAt k).rf.length:Int):=by omega
  have z1:=i64_succ j (by omega)
  obtain rfl:=e2 (by omega)
  (repeat(first|with_reducible(first|refine nx ?_|refine r_6 rfl ?_)|simp only[go_sem,h13,h12,c5 w8 ho8,dtr cj.2,c2s w8 ho8]))
  refine callT (fStrong w8 (s.obAt k).sh j) ?_
  rintro _ w9 ⟨rfl,ho9⟩
  have tj:w9.cell? ⟨gr,j,none⟩=some (.int .i64 (s.RF k j)):=(see w9 (rt.o.nil ho9)).2 j c2
  cases hsf:softI (s.obAt k).sh.2.2 j with
  |true=>
   refine gO2 h13 z1 ?_
   refine hnext6 _ w9 ⟨j+1,R,fR,?_,by omega,ho8.nil ho9,?_,sub,done,fun j' hj' hs' hv=>?_⟩ ?_
   ·simp only[go_sem]
   ·simp only[go_sem];exact rt.mono ho9 rfl
   ·by_cases e:j'=j
    ·subst e;rw[hsf]at hs';cases hs'
    ·exact donej j' (by omega) hs' hv
   ·exact up_lt h13
  |false=>
   (repeat(first|with_reducible(first|refine nx ?_|refine r_6 rfl ?_)|simp only[go_sem,h13,h12,c5 w9 (ho8.nil ho9),if_pos cj,tnc,Nat.mul_one,tj]))
   refine callT (cInclude (hfm.keep0 (rt.o.nil ho9)) hok (rt.sl.keep0 ho9) (by omega) (s.RF k j)) ?_
   rintro vR w10 ⟨ho10,fR2,hR2,gR2⟩
   refine gO2 h13 z1 ?_
   have gR2': ∀y,y∈fR2→y∈fR∨w8.heap.size≤y:=fun y hy=>(gR2 y hy).imp id fun h'=>by have:=ho9.size;omega
   have up: ∀x,x∈R→x∈incl s R (s.RF k j):=fun x hx=>(mem_incl hok).2 (.inr hx)
   refine hnext6 _ w10 ⟨j+1,incl s R (s.RF k j),fR2,?_,by omega,(ho8.nil ho9).nil ho10,?_,fun x hx=>up x (sub x hx),done.mono up,fun j' hj' hs' hv=>?_⟩ ?_
   ·simp only[go_sem]
   ·simp only[go_sem]
    exact rt.incl hok (ho9.nil ho10) hR2 gR2' fun P hP hv=>hP.g _ _ (rt0.liv _ hxR) (rt0.ind P hP _ hxR) ((mem_strongO hok hk0).2 ⟨j,c2,rfl,liv_ne0 hi hv,hsf⟩) hv
   ·by_cases e:j'=j
    ·subst e;exact(mem_incl hok).2 (.inl ⟨rfl,hv⟩)
    ·exact up _ (donej j' (by omega) hs' hv)
   ·exact up_lt h13
 clear hnext6
 have jn:j=(s.obAt k).rf.length:=by omega
 subst jn
 have strong: ∀y,y∈strongO (some s) ((2*k:Nat):Int)→Liv s y→y∈R:=fun y hy hv=>by
  obtain⟨j',h1,h2,h3,h4⟩:=(mem_strongO hok hk0).1 hy
  rw[h2]at hv⊢
  exact donej j' h1 h4 hv
 have fin: ∀(g9:Env) (w9:World) (R':List Int) (fR':List Nat),Only [] w8 w9→RT w w9 s tb l R' (g9 7) fR'→(∀x,x∈R→x∈R')→(tb=true→(s.obAt k).sh.2.2=2→ephK s ((2*k:Nat):Int)∈R0→Liv s (ephV s ((2*k:Nat):Int))→ephV s ((2*k:Nat):Int)∈R')→g9 11=.int .i64 ((i+1:Nat):Int)→
   ∃(i:Nat) (R:List Int) (fR:List Nat),g9 11=.int .i64 (i:Int)∧i≤R0.length∧Only [] w5 w9∧RT w w9 s tb l R (g9 7) fR∧(∀x,x∈R0→x∈R)∧DoneT s tb R0 i R:=fun g9 w9 R' fR' o9 rt' up hep h11'=>⟨i+1,R',fR',h11',by omega,o68.nil o9,rt',fun x hx=>up x (sub x hx),fun a ha=>by
  by_cases e:a=i
  ·subst e
   rw[hke]
   exact⟨fun y hy hv=>up y (strong y hy hv),fun h1 h2 h3 h4=>hep h1 (by rw[kindO_at hok hk0]at h2;exact h2) h3 h4⟩
  ·have:=(done.mono up) a (by omega)
   exact this⟩
 have z1:=i64_succ i (by omega)
 obtain⟨l1,_,lv⟩:=obAt_len hok hk0
 cases tb with
 |false=>
  (repeat(first|with_reducible(first|refine nx ?_|refine r_6 rfl ?_)|simp only[go_sem,h13,h12,c5 w8 ho8,dfl (show¬((s.obAt k).rf.length:Int)<((s.obAt k).rf.length:Int) by omega),h11,z1]))
  refine hnext4 _ w8 (fin _ w8 R fR (Only.refl _ _) ?_ (fun _ h=>h) (fun e=>by cases e) ?_) ?_
  ·simp only[go_sem];exact rt
  ·simp only[go_sem]
  ·exact up_lt h11
 |true=>
 by_cases k2:(s.obAt k).sh.2.2=2
 rotate_left
 ·(repeat(first|with_reducible(first|refine nx ?_|refine r_6 rfl ?_)|simp only[go_sem,h13,h12,c5 w8 ho8,dfl (show¬((s.obAt k).rf.length:Int)<((s.obAt k).rf.length:Int) by omega),h11,z1,c4 w8 ho8,bqf k2]))
  refine hnext4 _ w8 (fin _ w8 R fR (Only.refl _ _) ?_ (fun _ h=>h) (fun _ e=>absurd e k2) ?_) ?_
  ·simp only[go_sem];exact rt
  ·simp only[go_sem]
  ·exact up_lt h11
 have rl2:2≤(s.obAt k).rf.length:=by
  simp only[validS,Bool.and_eq_true,Bool.or_eq_true,decide_eq_true_eq]at lv
  omega
 obtain rfl:=e2 (by omega)
 have cz0:(0:Int)≤0∧(0:Int)<((s.obAt k).rf.length:Int):=by omega
 have cz1:(0:Int)≤1∧(1:Int)<((s.obAt k).rf.length:Int):=by omega
 have t0:w8.cell? ⟨gr,0,none⟩=some (.int .i64 (s.RF k 0)):=srf 0 (by omega)
 have t1:w8.cell? ⟨gr,1,none⟩=some (.int .i64 (s.RF k 1)):=srf 1 (by omega)
 have tn0:((0:Int)).toNat=0:=rfl
 have tn1:((1:Int)).toNat=1:=rfl
 have eK:ephK s ((2*k:Nat):Int)=s.RF k 0:=ephK_at hok hk0 (by omega)
 have eV:ephV s ((2*k:Nat):Int)=s.RF k 1:=ephV_at hok hk0 (by omega)
 (repeat(first|with_reducible(first|refine nx ?_|refine r_6 rfl ?_)|simp only[go_sem,h13,h12,c5 w8 ho8,dfl (show¬((s.obAt k).rf.length:Int)<((s.obAt k).rf.length:Int) by omega),c4 w8 ho8,bqt k2,if_pos cz0,if_pos cz0.2,tn0,Nat.zero_mul,t0]))
 refine callT0 (hHas12 rt.sl.rd (by omega) (s.RF k 0)) ?_
 cases hcn:R.contains (s.RF k 0)with
 |false=>
  refine gO2 h11 z1 ?_
  refine hnext4 _ w8 (fin _ w8 R fR (Only.refl _ _) ?_ (fun _ h=>h) (fun _ _ e=>?_) ?_) ?_
  ·simp only[go_sem];exact rt
  ·rw[eK]at e;rw[List.contains_iff_mem.2 (sub _ e)]at hcn;cases hcn
  ·simp only[go_sem]
  ·exact up_lt h11
 |true=>
  have hin:=List.contains_iff_mem.1 hcn
  (repeat(first|with_reducible(first|refine nx ?_|refine r_6 rfl ?_)|simp only[go_sem,h12,c5 w8 ho8,if_pos cz1,if_pos cz1.2,tn1,Nat.one_mul,t1]))
  refine callT (cInclude (hfm.keep0 rt.o) hok rt.sl (by omega) (s.RF k 1)) ?_
  rintro vR w10 ⟨ho10,fR2,hR2,gR2⟩
  refine gO2 h11 z1 ?_
  have up: ∀x,x∈R→x∈incl s R (s.RF k 1):=fun x hx=>(mem_incl hok).2 (.inr hx)
  refine hnext4 _ w10 (fin _ w10 (incl s R (s.RF k 1)) fR2 ho10 ?_ up (fun _ _ _ hv=>?_) ?_) ?_
  ·simp only[go_sem]
   exact rt.incl hok ho10 hR2 gR2 fun P hP hv=>by
    have:=hP.e rfl _ (rt0.liv _ hxR) (rt0.ind P hP _ hxR) (by rw[kindO_at hok hk0];exact k2) (by rw[eK];exact rt.ind P hP _ hin) (by rw[eV];exact hv)
    rwa[eV]at this
  ·rw[eV]at hv⊢;exact(mem_incl hok).2 (.inl ⟨rfl,hv⟩)
  ·simp only[go_sem]
  ·exact up_lt h11
end
section
set_option maxRecDepth 8000
variable {j:Nat}
theorem ints_take_succ {l:List Int} (hj:j<l.length):ints (l.take j)++[Value.int .i64 (l.getD j 0)]=ints (l.take (j+1)):=by
 have e:l.getD j 0=l[j]:=by simp[hj]
 rw[List.take_succ_eq_append_getElem hj,e]
 unfold ints
 rw[List.map_append];rfl
theorem blkV_take_succ {B:List (Int×Int)} (hj:j<B.length):blkV (B.take j)++[Value.int .i64 (B.getD j (0,0)).1,Value.int .i64 (B.getD j (0,0)).2]=blkV (B.take (j+1)):=by
 rw[List.take_succ_eq_append_getElem hj,blkV_append]
 simp[blkV,hj]
theorem adrs_get {l:List Nat} {i:Nat} (h:i<l.length):(adrs l).getD i 0=((2*l.getD i 0:Nat):Int):=by simp[adrs,h]
theorem cRead {w:World} {hb:Nat} {s:HL} {fh:List Nat} (h:HR w (some ⟨hb,0,none⟩) fh (some s)) (hi:s.Inv):Cs Tryz.prog 17 [.pointer (some ⟨hb,0,none⟩)] w fun v w'=>Only [] w w'∧ ∃b fp,v=.pointer (some ⟨b,0,none⟩)∧FM w' b s.abs fp∧ ∀x,x∈fp→w.heap.size≤x:=by
 have hok:=hi.ok
 have hb64:=hok.b64
 refine enter_law12_Read rfl ?_
 unfold x_law12_Read
 refine gO ?_
 refine callT0 (hBirths h) ?_
 have hbo:bornO (some s)=s.born:=rfl
 rw[hbo]
 refine gO ?_
 rw[fillL_one rfl rfl]
 refine gO ?_
 refine boxT fun qb w1 hq1 hs1 hat1 ho1=>?_
 simp only[go_sem]
 refine run_seq ?_
 refine run_cut (4::5::22::23::24::25::26::27::28::29::30::31::32::33::34::35::36::37::38::39::40::41::42::43::44::[]) (fun _ w'=> ∃vB fB,At w' qb [vB,.slice none 0 0,.slice none 0 0,.int .i64 (s.born:Int)]∧Sl w' 2 vB s.B.length (blkV s.B) fB∧(∀x,x∈fB→w1.heap.size≤x)∧Only [] w w') (fun kk hkk=>?_) (fun g1 w2 hJ=>?_)
 ·refine gO ?_
  refine run_loop (4::5::22::23::24::25::26::27::28::29::30::31::32::33::34::35::36::37::38::39::40::41::42::43::44::[]) (fun g w'=> ∃(i:Nat) (vB:Value) (fB:List Nat),g 4=.int .i64 (i:Int)∧i≤s.B.length∧At w' qb [vB,.slice none 0 0,.slice none 0 0,.int .i64 (s.born:Int)]∧Sl w' 2 vB i (blkV (s.B.take i)) fB∧(∀x,x∈fB→w1.heap.size≤x)∧Only [] w w') (fun g _=>upTo s.B.length 4 g)
   ⟨0,.slice none 0 0,[],by simp only[go_sem];rfl,by omega,hat1,Sl.nil2 _,by simp,ho1⟩ fun g w' hI hnext=>?_
  obtain⟨i,vB,fB,h4,hil,hat,hsl,hfB,ho⟩:=hI
  have hw':=h.keep0 ho
  have hblk:((blocksO (some s):Nat):Int)=(s.B.length:Int):=rfl
  by_cases c1:i<s.B.length
  rotate_left
  ·refine gO1 h4 ?_
   refine callT0 (hBlocks hw') ?_
   refine gO3 h4 hblk (dfl (show¬(i:Int)<(s.B.length:Int) by omega)) ?_
   obtain rfl:i=s.B.length:=by omega
   rw[List.take_length]at hsl
   refine hkk _ w' ⟨vB,fB,hat,hsl,hfB,ho⟩
  refine gO1 h4 ?_
  refine callT0 (hBlocks hw') ?_
  refine gO4 h4 hblk (dtr (show(i:Int)<(s.B.length:Int) by omega)) hat.cell ?_
  refine callT0 (hState hw' (i:Int)) ?_
  refine gO1 h4 ?_
  refine callT0 (hSpace hw' (i:Int)) ?_
  have e1:stateO (some s) (i:Int)=(s.B.getD i (0,0)).1:=by
   show(if 0≤(i:Int)∧(i:Int)<(s.B.length:Int)then(s.b (i:Int)).1 else-1)=_
   rw[if_pos (by omega)];rfl
  have e2:bspaceO (some s) (i:Int)=(s.B.getD i (0,0)).2:=by
   show(if 0≤(i:Int)∧(i:Int)<(s.B.length:Int)then(s.b (i:Int)).2 else-1)=_
   rw[if_pos (by omega)];rfl
  rw[e1,e2]
  refine gO ?_
  rw[fillL_one rfl rfl,fillL_one rfl rfl]
  refine gO ?_
  rw[fillL_ag (n:=2) rfl rfl]
  refine gO ?_
  refine bslT fun q4 w4 hq4 hs4 hat4 ho4=>?_
  refine gO ?_
  refine appT (sz:=2) (m:=1) (us:=[.int .i64 (s.B.getD i (0,0)).1,.int .i64 (s.B.getD i (0,0)).2]) (hsl.keep0 ho4) (SrcIs.at hat4 rfl) (by simp[oneC]) (by omega) (by omega) ?_
  intro v5 w5 f5 hs5 hf5 ho5 _
  rw[blkV_take_succ c1]at hs5
  have hz:=ho.size
  have hz1:=ho1.size
  have hz4:=ho4.size
  have hqf:qb∉fB:=fun hx=>by have:=hfB qb hx;omega
  have hat5:=(hat.keep0 ho4).keep ho5 hqf
  have hfB5: ∀x,x∈f5→w1.heap.size≤x:=fun x hx=>by
   rcases hf5 with rfl|rfl
   ·exact hfB x hx
   ·simp only[lms]at hx;have:=hat.lt;omega
  have o5:Only [] w w5:=(ho.nil ho4).trans ho5 fun x hx=>.inr (by have:=hfB x hx;omega)
  refine gO ?_
  refine stT hat5 (by simp) hs5.oneC' fun w6 hs6 hat6 ho6=>?_
  simp only[List.set_cons_zero,List.set_cons_succ]at hat6
  refine gO2 h4 (i64_succ i (by omega)) ?_
  refine hnext _ w6 ⟨i+1,v5,f5,?_,by omega,hat6,hs5.keep ho6 fun x hx=>off1 (by have:=hfB5 x hx;omega),hfB5,o5.trans ho6 fun x hx=>by simp only[lms]at hx;subst hx;exact .inr (by omega)⟩ ?_
  ·simp only[go_sem]
  ·exact up_lt h4
 obtain⟨vB,fB,hat2,hB2,hfB,ho2⟩:=hJ
 refine gO ?_
 refine callT (hAll (h.keep0 ho2)) ?_
 rintro vA w3 ⟨ho3,fq,hA3,hfq⟩
 have hA:allH (some s)=adrs s.objs:=rfl
 rw[hA]at hA3
 have hAl:(adrs s.objs).length=s.objs.length:=adrs_len _
 rw[hAl]at hA3
 obtain⟨aA,cA,rfl⟩:=hA3.val
 have hol:s.objs.length≤2048:=by
  have:=objsB_len s.st 0 s.st.length
  have hl:s.objs.length≤s.st.length:=this
  have:=hok.sl
  omega
 have hz1:=ho1.size
 have hz2:=ho2.size
 have hz3:=ho3.size
 have hq2:=hat2.lt
 have hB2l:=hB2.lt
 have hfql:=hA3.lt
 have oo3:=ho2.nil ho3
 refine gO ?_
 refine run_loop (7::8::9::10::11::12::13::14::15::16::17::47::48::49::50::51::52::53::54::55::56::57::58::59::60::61::62::63::64::65::66::67::68::69::70::71::72::73::74::75::76::77::78::79::80::81::82::83::84::85::86::87::88::89::90::91::92::93::94::95::96::97::98::99::100::101::102::103::104::105::106::107::108::109::110::111::112::113::114::115::116::117::118::119::120::121::122::123::124::125::126::127::128::129::130::131::132::133::134::[]) (fun g w'=> ∃(i:Nat) (vO:Value) (fO:List Nat) (L:List OM),g 7=.int .i64 (i:Int)∧i≤s.objs.length∧At w' qb [vB,vO,.slice none 0 0,.int .i64 (s.born:Int)]∧Sl w' 8 vO i (omV L) fO∧L.map OM.o=(s.objs.take i).map s.obAt∧(∀m,m∈L→m.ok w')∧(fO++omF L).Nodup∧(∀x,x∈fO++omF L→w3.heap.size≤x)∧Only [qb] w3 w') (fun g _=>upTo s.objs.length 7 g)
  ⟨0,.slice none 0 0,[],[],by simp only[go_sem];rfl,by omega,hat2.keep0 ho3,Sl.nil8 _,by simp,by simp,by simp[omF],by simp[omF],Only.refl _ _⟩ fun g w' hI hnext=>?_
 obtain⟨i,vO,fO,L,h7,hil,hat,hO,hLm,hLok,hnd,hge,ho⟩:=hI
 have oo:Only [] w w':=oo3.trans ho fun x hx=>by simp only[lms]at hx;subst hx;exact .inr (by omega)
 have hLl:L.length=i:=by have:=congrArg List.length hLm;simp only[List.length_map,List.length_take]at this;omega
 by_cases c1:i<s.objs.length
 rotate_left
 ·refine gO2 h7 (dfl (show¬(i:Int)<(s.objs.length:Int) by omega)) ?_
  obtain rfl:i=s.objs.length:=by omega
  rw[List.take_length]at hLm
  have hnd':=List.nodup_append.1 hnd
  have hO3: ∀x,x∈fO→w3.heap.size≤x:=fun x hx=>hge x (by simp[hx])
  have hL3: ∀x,x∈omF L→w3.heap.size≤x:=fun x hx=>hge x (by simp[hx])
  have hB3:=(hB2.keep0 ho3).keep ho fun x hx=>off1 (by have:=hfB x hx;omega)
  refine⟨oo,qb,qb::(fB++(fO++([]++omF L))),rfl,⟨vB,vO,.slice none 0 0,fB,fO,[],L,rfl,⟨⟨?_,?_,?_,?_⟩,hat,hB3,?_,⟨rfl,.inl ⟨rfl,rfl,rfl⟩⟩,?_,hLok,nd4_mk ?_ ?_ ?_ ?_ hnd'.2.1 hnd'.1 hB2.nodup (by simp)⟩⟩,?_⟩
  ·exact hok.b2
  ·exact hok.b64
  ·show(s.objs.map s.obAt).length≤2048;rw[List.length_map];exact hol
  ·exact fun o ho=>abs_Ok hok o ho
  ·rw[hLl];exact hO
  ·exact hLm.symm
  ·rintro y (hy|hy|hy|hy)
   ·have:=hfB y hy;omega
   ·have:=hO3 y hy;omega
   ·simp at hy
   ·have:=hL3 y hy;omega
  ·exact fun y hy=>⟨fun h=>by have:=hO3 y h;have:=hB2l y hy;omega,by simp,fun h=>by have:=hL3 y h;have:=hB2l y hy;omega⟩
  ·exact fun y hy=>⟨by simp,fun h=>hnd'.2.2 y hy y h rfl⟩
  ·simp
  ·intro x hx
   simp only[List.mem_cons,List.mem_append,List.nil_append]at hx
   rcases hx with rfl|hx|hx|hx
   ·omega
   ·have:=hfB x hx;omega
   ·have:=hO3 x hx;omega
   ·have:=hL3 x hx;omega
 refine gO2 h7 (dtr (show(i:Int)<(s.objs.length:Int) by omega)) ?_
 obtain⟨k,hk⟩: ∃k,k=s.objs.getD i 0:=⟨_,rfl⟩
 have hmem:k∈s.objs:=by rw[hk];simp[c1]
 have hki:=mem_objs.1 hmem
 have hxl:((2*k:Nat):Int)≤4096:=by have:=(hok.start hki).1;have:=hok.sl;omega
 obtain⟨hrl,hdl,hvs⟩:=obAt_len hok hki
 have hw':=h.keep0 oo
 -- the list of addresses, at any later time
 obtain⟨gA,cA',yA,eA,hatA3,rfl,hcA⟩:=hA3.pos (by omega)
 cases eA
 have hgA:gA<w3.heap.size:=hfql gA (by simp)
 have hgAb:gA≠qb:=by have:=hfq gA (by simp);omega
 have hatA:=hatA3.keep ho (off1 hgAb)
 have hAc:(ints (adrs s.objs)++yA)[i]? =some (.int .i64 ((2*k:Nat):Int)):=by
  rw[hk,←adrs_get c1];exact ints_append_get yA (by omega)
 have ci:(0:Int)≤(i:Int)∧(i:Int)<(s.objs.length:Int):=by omega
 refine run_cut (8::53::54::55::56::57::58::59::60::61::62::63::[]) (fun ρ' w4=> ∃u,ρ' 8=.pointer (some ⟨u,0,none⟩)∧At w4 u [.int .i64 ((2*k:Nat):Int),.int .i64 0,.int .i64 0,.int .i64 0,.int .i64 0,.slice none 0 0,.slice none 0 0,.bool (s.obAt k).pin]∧w'.heap.size≤u∧Only [] w' w4) (fun kk hkk=>?_) (fun g4 w4 hJ=>?_)
 ·have hwd:=hw'.keep0 (Only.drew [] w')
  have hgd:gA<w'.drew.heap.size:=hatA.lt
  have sbd: ∀z,z∈[gA]→z<w'.drew.heap.size∧z∉([]:List Nat):=fun z hz=>⟨by simp only[lms]at hz;subst hz;exact hgd,by simp⟩
  have hbld:aggO (fillL [Value.int .i64 0,.int .i64 0,.int .i64 0,.int .i64 0,.int .i64 0,.slice none 0 0,.slice none 0 0,.bool false] [(0,1,.int .i64 ((2*k:Nat):Int)),(7,1,.bool (s.obAt k).pin)])=some (.agg ⟨[.int .i64 ((2*k:Nat):Int),.int .i64 0,.int .i64 0,.int .i64 0,.int .i64 0,.slice none 0 0,.slice none 0 0,.bool (s.obAt k).pin]⟩):=by
   rw[fillL_one rfl rfl,fillL_one rfl rfl];rfl
  have one8: ∀u,u∈[Value.int .i64 ((2*k:Nat):Int),.int .i64 0,.int .i64 0,.int .i64 0,.int .i64 0,.slice none 0 0,.slice none 0 0,.bool (s.obAt k).pin]→oneC u=true:=by simp[oneC]
  refine run_drt [gA] ?_
  refine gJ4 h7 hatA.drew.cell (eq_true ci) hAc ?_
  refine⟨?_,?_⟩
  ·refine callS1 (hPinned hwd ((2*k:Nat):Int) (by omega)) (.inr ⟨SB.refl _ _,sbd⟩) fun w5 ho5=>?_
   rw[at_pinned hok hki]
   refine gO1 hbld ?_
   refine boxS fun u w6 hu hs6 hat6 ho6=>⟨.inr (((SB.refl _ _).only ho5 sbd).only ho6 fun z hz=>⟨by have:=(sbd z hz).1;have:=ho5.size;omega,by simp⟩),?_⟩
   refine gO ?_
   refine stNS hat6 rfl (by simp) one8 fun w7 hs7 hat7 ho7=>⟨.inl rfl,?_⟩
   refine gO ?_
   have hu5:w'.heap.size≤w5.heap.size:=ho5.size
   refine hkk _ w7 ⟨u,?_,hat7,by omega,((((Only.drew [] w').nil ho5).nil ho6).trans ho7 fun x hx=>by simp only[lms]at hx;subst hx;exact .inr (by omega))⟩
   ·simp only[go_sem]
  ·refine boxS fun u w5 hu hs5 hat5 ho5=>⟨.inr ((SB.refl _ _).only ho5 sbd),?_⟩
   refine gO ?_
   refine callS1 (hPinned (hwd.keep0 ho5) ((2*k:Nat):Int) (by omega)) (.inr ⟨(SB.refl _ _).only ho5 sbd,fun z hz=>⟨by have:=(sbd z hz).1;have:=ho5.size;omega,by simp⟩⟩) fun w6 ho6=>?_
   rw[at_pinned hok hki]
   refine gO1 hbld ?_
   refine stNS (hat5.keep0 ho6) rfl (by simp) one8 fun w7 hs7 hat7 ho7=>⟨.inl rfl,?_⟩
   refine gO ?_
   have hu5:u=w'.heap.size:=hu
   refine hkk _ w7 ⟨u,?_,hat7,by omega,((((Only.drew [] w').nil ho5).nil ho6).trans ho7 fun x hx=>by simp only[lms]at hx;subst hx;exact .inr (by omega))⟩
   ·simp only[go_sem]
 obtain⟨u,h8,hu4,hul,ho4⟩:=hJ
 have hw4:=hw'.keep0 ho4
 have hid:=at_ident hok hki
 have hsh:=at_shape hok hki
 have hrf: ∀j,j<(s.obAt k).rf.length→refO (some s) ((2*k:Nat):Int) (j:Int)=((s.obAt k).rf.getD j 0,0):=fun j hj=>at_ref hok hki hj
 have hdt: ∀j,j<(s.obAt k).dt.length→dataO (some s) ((2*k:Nat):Int) (j:Int)=((s.obAt k).dt.getD j 0,0):=fun j hj=>at_data hok hki hj
 have hoa:(s.obAt k).a=((2*k:Nat):Int):=rfl
 refine gO2 h8 hu4.cell ?_
 refine callT1 (hIdent hw4 ((2*k:Nat):Int) (by omega)) fun w5 ho5=>?_
 rw[hid]
 refine gO1 h8 ?_
 refine stT (hu4.keep0 ho5) (by simp) rfl fun w6 hs6 hu6 ho6=>?_
 simp only[List.set_cons_zero,List.set_cons_succ]at hu6
 have huf:u∉fh:=fun hx=>by have:=h.lt u hx;have:=oo.size;omega
 have hw6:=(hw4.keep0 ho5).keep ho6 fun x hx=>off1 (fun e=>huf (e▸hx))
 refine gO2 h8 hu6.cell ?_
 refine callT1 (hShape hw6 ((2*k:Nat):Int) (by omega)) fun w7 ho7=>?_
 rw[hsh]
 refine gO1 h8 ?_
 refine stNT (cs:=shV (s.obAt k).sh) (hu6.keep0 ho7) rfl (by simp[shV]) (shV_one _) fun w8 hs8 hu8 ho8=>?_
 have hu8:At w8 u [.int .i64 ((2*k:Nat):Int),.int .i64 (s.obAt k).id,.int .i64 (s.obAt k).sh.1,.int .i64 (s.obAt k).sh.2.1,.int .i64 (s.obAt k).sh.2.2,.slice none 0 0,.slice none 0 0,.bool (s.obAt k).pin]:=hu8
 have o8:Only [] w' w8:=((((ho4.nil ho5).of_nil (T:=[u])).same ho6).nil ho7|>.same ho8).mono fun x hx=>by simp only[lms]at hx;subst hx;exact .inr hul
 have hw8:=hw'.keep0 o8
 have hul8:=hu8.lt
 have hz8:=o8.size
 have hzw:=ho.size
 have hvs':=hvs
 simp only[validS,Bool.and_eq_true,decide_eq_true_eq]at hvs'
 have ux: ∀ {w9 w10:World},Only [] w8 w9→True:=fun _=>trivial
 clear ux
 refine gO ?_
 refine run_loop (9::10::11::12::80::81::82::83::84::85::86::87::88::89::90::91::92::93::94::95::96::97::98::99::100::101::[]) (fun g w'=> ∃(j:Nat) (vr:Value) (fr:List Nat),g 9=.int .i64 (j:Int)∧j≤(s.obAt k).rf.length∧At w' u [.int .i64 ((2*k:Nat):Int),.int .i64 (s.obAt k).id,.int .i64 (s.obAt k).sh.1,.int .i64 (s.obAt k).sh.2.1,.int .i64 (s.obAt k).sh.2.2,vr,.slice none 0 0,.bool (s.obAt k).pin]∧Sl w' 1 vr j (ints ((s.obAt k).rf.take j)) fr∧(∀x,x∈fr→w8.heap.size≤x)∧Only [u] w8 w') (fun g _=>upTo (s.obAt k).rf.length 9 g)
  ⟨0,.slice none 0 0,[],by simp only[go_sem];rfl,by omega,hu8,Sl.nil1 _,by simp,Only.refl _ _⟩ fun g9 w9 hI9 hnext9=>?_
 obtain⟨j,vr,fr,h9,hjl,hu9,hr9,hfr9,ho9⟩:=hI9
 have hw9:=hw8.keep ho9 fun x hx=>off1 (fun e=>huf (e▸hx))
 by_cases c2:j<(s.obAt k).rf.length
 ·refine gO4 h8 h9 hu9.cell (dtr (show(j:Int)<(s.obAt k).sh.1 by omega)) ?_
  refine callT1 (hRef hw9 ((2*k:Nat):Int) (j:Int) (by omega)) fun w10 ho10=>?_
  rw[hrf j c2]
  have hu10:=hu9.keep0 ho10
  refine gO2 h8 hu10.cell ?_
  rw[fillL_one rfl rfl]
  refine gO ?_
  refine bslT fun q11 w11 hq11 hs11 hat11 ho11=>?_
  refine gO ?_
  refine appT (sz:=1) (m:=1) (us:=[.int .i64 ((s.obAt k).rf.getD j 0)]) ((hr9.keep0 ho10).keep0 ho11) (SrcIs.at hat11 rfl) (by simp[oneC]) (by omega) (by omega) ?_
  intro v12 w12 f12 hs12 hf12 ho12 _
  rw[ints_take_succ c2]at hs12
  have z9:=ho9.size
  have z10:=ho10.size
  have hf12': ∀x,x∈f12→w8.heap.size≤x:=fun x hx=>by
   rcases hf12 with rfl|rfl
   ·exact hfr9 x hx
   ·simp only[lms]at hx;omega
  have hu12:=(hu10.keep0 ho11).keep ho12 fun hx=>by have:=hfr9 u hx;omega
  have o12:Only [u] w8 w12:=((ho9.nil ho10).nil ho11).trans ho12 fun x hx=>.inr (hfr9 x hx)
  refine gO1 h8 ?_
  refine stT hu12 (by simp) hs12.oneC' fun w13 hs13 hu13 ho13=>?_
  simp only[List.set_cons_zero,List.set_cons_succ]at hu13
  refine gO2 h9 (i64_succ j (by omega)) ?_
  refine hnext9 _ w13 ⟨j+1,v12,f12,?_,by omega,hu13,hs12.keep ho13 fun x hx=>off1 (by have:=hf12' x hx;omega),hf12',o12.same ho13⟩ ?_
  ·simp only[go_sem]
  ·exact up_lt h9
 obtain rfl:j=(s.obAt k).rf.length:=by omega
 rw[List.take_length]at hr9
 have hr9l:=hr9.lt
 refine gO4 h8 h9 hu9.cell (dfl (show¬(((s.obAt k).rf.length:Nat):Int)<(s.obAt k).sh.1 by omega)) ?_
 refine run_loop (13::14::15::16::102::103::104::105::106::107::108::109::110::111::112::113::114::115::116::117::118::119::120::121::122::123::[]) (fun g w'=> ∃(j:Nat) (vd:Value) (fd:List Nat),g 13=.int .i64 (j:Int)∧j≤(s.obAt k).dt.length∧At w' u [.int .i64 ((2*k:Nat):Int),.int .i64 (s.obAt k).id,.int .i64 (s.obAt k).sh.1,.int .i64 (s.obAt k).sh.2.1,.int .i64 (s.obAt k).sh.2.2,vr,vd,.bool (s.obAt k).pin]∧Sl w' 1 vd j (ints ((s.obAt k).dt.take j)) fd∧(∀x,x∈fd→w9.heap.size≤x)∧Only [u] w9 w') (fun g _=>upTo (s.obAt k).dt.length 13 g)
  ⟨0,.slice none 0 0,[],by simp only[go_sem];rfl,by omega,hu9,Sl.nil1 _,by simp,Only.refl _ _⟩ fun gA wA hIA hnextA=>?_
 obtain⟨j,vd,fd,hA13,hjlA,huA,hdA,hfdA,hoA⟩:=hIA
 have hwA:=hw9.keep hoA fun x hx=>off1 (fun e=>huf (e▸hx))
 have z9:=ho9.size
 by_cases c3:j<(s.obAt k).dt.length
 ·refine gO4 h8 hA13 huA.cell (dtr (show(j:Int)<(s.obAt k).sh.2.1 by omega)) ?_
  refine callT1 (hData hwA ((2*k:Nat):Int) (j:Int) (by omega)) fun w10 ho10=>?_
  rw[hdt j c3]
  have hu10:=huA.keep0 ho10
  refine gO2 h8 hu10.cell ?_
  rw[fillL_one rfl rfl]
  refine gO ?_
  refine bslT fun q11 w11 hq11 hs11 hat11 ho11=>?_
  refine gO ?_
  refine appT (sz:=1) (m:=1) (us:=[.int .i64 ((s.obAt k).dt.getD j 0)]) ((hdA.keep0 ho10).keep0 ho11) (SrcIs.at hat11 rfl) (by simp[oneC]) (by omega) (by omega) ?_
  intro v12 w12 f12 hs12 hf12 ho12 _
  rw[ints_take_succ c3]at hs12
  have zA:=hoA.size
  have z10:=ho10.size
  have hf12': ∀x,x∈f12→w9.heap.size≤x:=fun x hx=>by
   rcases hf12 with rfl|rfl
   ·exact hfdA x hx
   ·simp only[lms]at hx;omega
  have hu12:=(hu10.keep0 ho11).keep ho12 fun hx=>by have:=hfdA u hx;omega
  have o12:Only [u] w9 w12:=((hoA.nil ho10).nil ho11).trans ho12 fun x hx=>.inr (hfdA x hx)
  refine gO1 h8 ?_
  refine stT hu12 (by simp) hs12.oneC' fun w13 hs13 hu13 ho13=>?_
  simp only[List.set_cons_zero,List.set_cons_succ]at hu13
  refine gO2 hA13 (i64_succ j (by omega)) ?_
  refine hnextA _ w13 ⟨j+1,v12,f12,?_,by omega,hu13,hs12.keep ho13 fun x hx=>off1 (by have:=hf12' x hx;omega),hf12',o12.same ho13⟩ ?_
  ·simp only[go_sem]
  ·exact up_lt hA13
 obtain rfl:j=(s.obAt k).dt.length:=by omega
 rw[List.take_length]at hdA
 have hdAl:=hdA.lt
 have oA:Only [] w' wA:=o8.trans (ho9.trans hoA fun x hx=>.inl hx) fun x hx=>by simp only[lms]at hx;subst hx;exact .inr hul
 have hqu:qb≠u:=by have:=ho.size;omega
 have hatAq:=hat.keep0 oA
 have hc8:cellsAt wA ⟨u,0,none⟩ 8=some [.int .i64 ((2*k:Nat):Int),.int .i64 (s.obAt k).id,.int .i64 (s.obAt k).sh.1,.int .i64 (s.obAt k).sh.2.1,.int .i64 (s.obAt k).sh.2.2,vr,vd,.bool (s.obAt k).pin]:=cellsAt_at huA 0 8 (by simp)
 refine gO6 h8 hA13 huA.cell (dfl (show¬(((s.obAt k).dt.length:Nat):Int)<(s.obAt k).sh.2.1 by omega)) hatAq.cell hc8 ?_
 rw[fillL_ag (n:=8) rfl rfl]
 refine gO ?_
 refine bslT fun qB wB hqB hsB hatB hoB=>?_
 refine gO ?_
 have hmo:OM.ok wA ⟨s.obAt k,vr,vd,fr,fd⟩:=⟨hr9.keep hoA fun x hx=>off1 (by have:=hfr9 x hx;omega),hdA⟩
 have hatB':At wB qB (OM.V ⟨s.obAt k,vr,vd,fr,fd⟩):=hatB
 refine appT (sz:=8) ((hO.keep0 oA).keep0 hoB) (SrcIs.at (m:=1) hatB' rfl) (V_one hmo) (by omega) (by omega) ?_
 intro vC wC fC hsC hfC hoC _
 have zA:=oA.size
 have zB:=hoB.size
 have hO3: ∀x,x∈fO→w3.heap.size≤x:=fun x hx=>hge x (by simp[hx])
 have hL3: ∀x,x∈omF L→w3.heap.size≤x:=fun x hx=>hge x (by simp[hx])
 have hfC': ∀x,x∈fC→w3.heap.size≤x:=fun x hx=>by
  rcases hfC with rfl|rfl
  ·exact hO3 x hx
  ·simp only[lms]at hx;omega
 have hatC:=(hatAq.keep0 hoB).keep hoC fun hx=>by have:=hO3 qb hx;omega
 refine gO ?_
 refine stT hatC (by simp) hsC.oneC' fun wD hsD hatD hoD=>?_
 simp only[List.set_cons_zero,List.set_cons_succ]at hatD
 refine gO2 h7 (i64_succ i (by omega)) ?_
 have oC:Only [] w' wB:=oA.nil hoB
 have oD:Only [qb] w3 wD:=(((ho.nil oC).trans hoC fun x hx=>.inr (hO3 x hx))).same hoD
 have hmD: ∀m:OM,m.ok wB→(∀x,x∈m.fr++m.fd→w3.heap.size≤x∧x∉fO)→m.ok wD:=fun m hm hx=>(hm.keep hoC fun x hx'=>(hx x (List.mem_append.2 hx')).2).keep hoD fun x hx'=>off1 (by have:=(hx x (List.mem_append.2 hx')).1;omega)
 have hnd':=List.nodup_append.1 hnd
 have hLO: ∀x,x∈omF L→x∉fO:=fun x h1 h2=>hnd'.2.2 x h2 x h1 rfl
 have hOl:=hO.lt
 have hLlt: ∀x,x∈omF L→x<w'.heap.size:=fun x hx=>by
  simp only[omF,List.mem_flatMap,List.mem_append]at hx
  obtain⟨m,hm,hx⟩:=hx
  rcases hx with hx|hx
  ·exact(hLok m hm).r.lt x hx
  ·exact(hLok m hm).d.lt x hx
 have hnew: ∀x,x∈fr++fd→w8.heap.size≤x∧x<wA.heap.size:=fun x hx=>by
  rcases List.mem_append.1 hx with h|h
  ·have:=hfr9 x h;have:=hr9l x h;have:=hoA.size;omega
  ·have:=hfdA x h;have:=hdAl x h;omega
 have hfrd:(fr++fd).Nodup:=by
  rw[List.nodup_append]
  exact⟨hr9.nodup,hdA.nodup,fun x h1 y h2 e=>by have:=hr9l x h1;have:=hfdA y h2;omega⟩
 have heF:omF (L++[⟨s.obAt k,vr,vd,fr,fd⟩])=omF L++(fr++fd):=by rw[omF_append];simp[omF]
 have hfCd: ∀x,x∈fC→x∉omF L∧x∉fr++fd:=fun x hx=>by
  rcases hfC with rfl|rfl
  ·exact⟨fun h=>hLO x h hx,fun h=>by have:=hnew x h;have:=hOl x hx;omega⟩
  ·simp only[lms]at hx
   exact⟨fun h=>by have:=hLlt x h;omega,fun h=>by have:=hnew x h;omega⟩
 refine hnext _ wD ⟨i+1,vC,fC,L++[⟨s.obAt k,vr,vd,fr,fd⟩],?_,by omega,hatD,?_,?_,?_,?_,?_,oD⟩ ?_
 ·simp only[go_sem]
 ·have e1:omV [(⟨s.obAt k,vr,vd,fr,fd⟩:OM)]=OM.V ⟨s.obAt k,vr,vd,fr,fd⟩:=by simp[omV]
  rw[omV_append,e1]
  exact hsC.keep hoD fun x hx=>off1 (by have:=hfC' x hx;omega)
 ·rw[List.map_append,hLm,List.take_succ_eq_append_getElem c1,List.map_append]
  have:s.objs[i]=k:=by rw[hk];simp[c1]
  rw[this];rfl
 ·intro m hm
  rcases List.mem_append.1 hm with hm|hm
  ·exact hmD m (((hLok m hm).keep0 oC)) fun x hx=>by
    have:=mem_omF hm (List.mem_append.1 hx)
    exact⟨hL3 x this,hLO x this⟩
  ·simp only[lms]at hm
   subst hm
   exact hmD _ (hmo.keep0 hoB) fun x hx=>⟨by have:=(hnew x hx).1;omega,fun h=>by have:=(hnew x hx).1;have:=hOl x h;omega⟩
 ·rw[heF,List.nodup_append,List.nodup_append]
  refine⟨hsC.nodup,⟨hnd'.2.1,hfrd,fun x h1 y h2 e=>by subst e;have:=hLlt x h1;have:=hnew x h2;omega⟩,fun x h1 y h2 e=>?_⟩
  subst e
  rcases List.mem_append.1 h2 with h|h
  ·exact(hfCd x h1).1 h
  ·exact(hfCd x h1).2 h
 ·intro x hx
  rw[heF]at hx
  rcases List.mem_append.1 hx with h|h
  ·exact hfC' x h
  rcases List.mem_append.1 h with h|h
  ·exact hL3 x h
  ·have:=(hnew x h).1;omega
 ·exact up_lt h7
end
section
set_option maxRecDepth 8000
variable {j:Nat} {R r:Rt.MS}
theorem pj_M (h:r.M=R.M) (j:Nat):Rt.pj r j=Rt.pj R j:=by unfold Rt.pj;rw[h]
theorem segJ_M (h:r.M=R.M) (j:Nat):Rt.segJ r j=Rt.segJ R j:=by unfold Rt.segJ;rw[h]
theorem getO_pj (h:R.Ok) (hj:j<16*R.M+16+R.Q.length):Rt.getO (some R) (Rt.pj R j)=(R.V.getD j 0,0):=by
 unfold Rt.getO
 simp only[Rt.seg_pj hj,Rt.rd_segJ h hj]
theorem setO_pj (hr:r.Ok) (hM:r.M=R.M) (hQ:r.Q.length=R.Q.length) (hj:j<16*R.M+16+R.Q.length) {y:Int} (hy:0<y):Rt.setO (some r) (Rt.pj R j) y=(0,some (r.wr (Rt.segJ R j) y)):=by
 have hs:Rt.seg r (Rt.pj R j)=some (Rt.segJ R j):=by rw[←pj_M hM,←segJ_M hM];exact Rt.seg_pj (by rw[hM,hQ];exact hj)
 have hb:Rt.badA (Rt.pj R j) y=false:=by
  unfold Rt.badA
  rw[dfl (show¬y<0 by omega),dfl (show¬y=0 by omega)];rfl
 unfold Rt.setO
 simp only[hs,hb,Bool.false_eq_true,if_false]
theorem cReadRoots {w:World} {rb:Nat} {fr:List Nat} (h:Rt.PR w (some ⟨rb,0,none⟩) fr (some R)) (hp: ∀x,x∈R.V→0≤x):
  Cs Tryz.prog 35 [.pointer (some ⟨rb,0,none⟩)] w fun v w'=>Only [] w w'∧ ∃b fp,v=.pointer (some ⟨b,0,none⟩)∧Rt.RR w' (some ⟨b,0,none⟩) fp (some R)∧ ∀x,x∈fp→w.heap.size≤x:=by
 have hok:R.Ok:=by obtain⟨_,_,_,_,_,_,_,_,_,hpm⟩:=h;exact hpm.ok
 have m1:=hok.m1
 have m4:=hok.m4
 obtain⟨N,hN⟩: ∃N,N=16*R.M+16+R.Q.length:=⟨_,rfl⟩
 refine enter_law12_ReadRoots rfl ?_
 unfold x_law12_ReadRoots
 refine gO ?_
 refine callT0 (Rt.Mutators_m h) ?_
 have em:Rt.mutO (some R)=(R.M:Int):=rfl
 have en:Rt.newO (R.M:Int)=some ⟨R.M,List.replicate (16*R.M) 0,List.replicate 16 0,[]⟩:=by
  unfold Rt.newO;rw[if_pos (by omega),tnc]
 rw[em]
 refine gO ?_
 refine callT (Rt.rNew w (R.M:Int)) ?_
 rintro _ w1 ⟨ho1,a,fp1,rfl,hr1,_,g1⟩
 rw[en]at hr1
 have esome:(Rt.newO (R.M:Int)).isSome=true:=by rw[en];rfl
 obtain⟨b,rfl,vs,vg,vq,fs,rows,fg,fq,rfl,hm1⟩:=hr1
 refine gO2 esome (bnf (rfl:(0:Int)=0)) ?_
 refine callT (Rt.Queue_m (h.keep0 ho1)) ?_
 rintro vQ w2 ⟨ho2,f2,hs2,g2⟩
 refine gO ?_
 refine callT (hCopy12 hs2.src (by have:=hok.lq;show R.Q.length≤_;omega)) ?_
 rintro vC w3 ⟨ho3,f3,hs3,g3⟩
 have eq:Rt.queueO (some R)=R.Q:=rfl
 rw[eq]at hs3
 have o13:=ho2.nil ho3
 have hm3:=hm1.keep0 o13
 refine gO ?_
 refine stT (i:=2) hm3.hb (by simp) hs3.oneC' fun w4 hs4 hat4 ho4=>?_
 have hlt1: ∀x,x∈b::(fs++(rows.map (·.1)++(fg++fq)))→x<w1.heap.size:=(show Rt.RM w1 b _ _ from⟨_,_,_,_,_,_,_,rfl,hm1⟩).lt
 have z2:=ho2.size
 have z3:=ho3.size
 have hb1:=hlt1 b (by simp)
 have hsC:=hs3.keep ho4 fun y hy e=>by simp only[lms]at e;have:=g3 y hy;omega
 have hm4:=Rt.RMs.turn (q:=R.Q) (vq':=vC) hm1 hok.lq hsC hat4 ((o13.of_nil (T:=b::fq)).trans ho4 fun y hy=>.inl (by simp only[lms]at hy;rw[hy];simp)) fun y hy=>.inr (by have:=g3 y hy;omega)
 obtain⟨fp,hfp⟩: ∃fp,fp=b::(fs++(rows.map (·.1)++(fg++f3))):=⟨_,rfl⟩
 rw[←hfp]at hm4
 have z1:=ho1.size
 have gfp: ∀x,x∈fp→w.heap.size≤x:=fun x hx=>by
  rw[hfp]at hx
  simp only[List.mem_cons,List.mem_append]at hx
  rcases hx with rfl|hx|hx|hx|hx
  ·exact g1 _ (by simp)
  ·exact g1 x (by simp[hx])
  ·exact g1 x (by simp only[List.mem_cons,List.mem_append];exact .inr (.inr (.inl hx)))
  ·exact g1 x (by simp[hx])
  ·have:=g3 x hx;omega
 have o4:Only [] w w4:=((ho1.nil ho2).nil ho3).trans ho4 fun y hy=>.inr (by simp only[lms]at hy;exact gfp y (by rw[hfp,hy];simp))
 refine gO ?_
 refine callT (Rt.Places_m (h.keep0 o4)) ?_
 rintro vP w5 ⟨ho5,f5,hs5,g5⟩
 have hpl:=Rt.placesO_length hok
 obtain⟨ap,cp,rfl⟩:=hs5.val
 rw[hpl]
 rw[hpl]at hs5
 have o5:=o4.nil ho5
 have z5:=ho5.size
 have lt4:=hm4.lt
 have hil:=Rt.idx_length (s:=R)
 have hV:=Rt.V_length hok
 have hd5: ∀y,y∈f5→y∉fp:=fun y hy e=>by have:=g5 y hy;have:=lt4 y e;omega
 have r0V:(({(⟨R.M,List.replicate (16*R.M) 0,List.replicate 16 0,[]⟩:Rt.MS)with Q:=R.Q}:Rt.MS)).V=List.replicate (16*R.M) 0++List.replicate 16 0++R.Q:=rfl
 refine gO ?_
 refine run_loop (6::7::8::27::28::29::30::31::32::33::34::35::36::37::38::39::40::41::42::43::44::45::46::47::48::[]) (fun g w'=> ∃(i:Nat) (r:Rt.MS),g 6=.int .i64 (i:Int)∧i≤(Rt.idx R).length∧Rt.RR w' (some ⟨b,0,none⟩) fp (some r)∧r.Ok∧r.M=R.M∧r.Q.length=R.Q.length∧(∀j,r.V.getD j 0=R.V.getD j 0∨(r.V.getD j 0=0∧j∉(Rt.idx R).take i))∧Only fp w5 w') (fun g _=>upTo (Rt.idx R).length 6 g)
  ⟨0,{(⟨R.M,List.replicate (16*R.M) 0,List.replicate 16 0,[]⟩:Rt.MS)with Q:=R.Q},by simp only[go_sem];rfl,by omega,⟨b,rfl,hm4.keep0 ho5⟩,⟨m1,m4,by simp,by simp,hok.lq⟩,rfl,rfl,fun j=>?_,Only.refl _ _⟩ fun g6 w6 hI hnext=>?_
 ·rw[r0V]
  by_cases c:j<16*R.M+16
  ·refine .inr ⟨?_,by simp⟩
   rw[List.getD_eq_getElem?_getD,List.getElem?_append_left (by simp;omega),List.replicate_append_replicate,List.getElem?_replicate,if_pos (by omega)];rfl
  ·refine .inl ?_
   have h1:=hok.ls
   have h2:=hok.lg
   unfold Rt.MS.V
   rw[List.getD_eq_getElem?_getD,List.getD_eq_getElem?_getD,List.getElem?_append_right (by simp;omega),List.getElem?_append_right (by simp;omega)]
   simp[h1,h2]
 obtain⟨i,r,h6,hi,hr6,rok,rM,rQ,rV,ho6⟩:=hI
 by_cases c1:i<(Rt.idx R).length
 rotate_left
 ·refine gO2 h6 (dfl (show¬(i:Int)<((Rt.idx R).length:Int) by omega)) ?_
  have er:r=R:=by
   refine Rt.MS.ext_V rok hok rM (List.ext_getD' 0 (by rw[Rt.V_length rok,hV,rM,rQ]) fun j hj=>?_)
   rcases rV j with e|⟨e,hn⟩
   ·exact e
   ·rw[List.take_of_length_le (by omega)]at hn
    rw[e]
    refine Decidable.byContradiction fun c=>hn (Rt.idx_mem ?_ (fun e2=>c e2.symm))
    rw[Rt.V_length rok,rM,rQ]at hj;exact hj
  rw[er]at hr6
  exact⟨o5.trans ho6 fun y hy=>.inr (gfp y hy),b,fp,rfl,hr6,gfp⟩
 have ci:(0:Int)≤(i:Int)∧(i:Int)<((Rt.idx R).length:Int):=by omega
 obtain⟨gp,cp',ep,hcp,gpf⟩:=(hs5.keep ho6 hd5).place (i:=i) (by omega)
 rw[hpl]at ep
 cases ep
 rw[Rt.places_getD hok c1]at hcp
 obtain⟨j0,hj0⟩: ∃j0,j0=(Rt.idx R).getD i 0:=⟨_,rfl⟩
 obtain⟨jl,jne⟩:=Rt.idx_at c1
 rw[←hj0]at hcp jl jne
 have hy0:0<R.V.getD j0 0:=by
  have:R.V.getD j0 0∈R.V:=by
   rw[List.getD_eq_getElem?_getD,List.getElem?_eq_getElem (by omega)]
   exact List.getElem_mem _
  have:=hp _ this
  omega
 refine gJ4 h6 (dtr ci.2) (eq_true ci) hcp ?_
 have hPR6:Rt.PR w6 (some ⟨rb,0,none⟩) fr (some R):=(h.keep0 o5).keep ho6 fun y hy e=>by have:=h.lt y hy;have:=gfp y e;omega
 refine callT (Rt.Get_m hPR6 (Rt.pj R j0)) ?_
 rintro _ w7 ⟨rfl,ho7⟩
 rw[getO_pj hok jl]
 have hcp7:cellsAt w7 ⟨gp,i*3,none⟩ 3=some (Rt.plV (Rt.pj R j0)):=by
  obtain⟨gp',cp',ep,hcp',_⟩:=((hs5.keep ho6 hd5).keep0 ho7).place (i:=i) (by omega)
  rw[hpl]at ep
  cases ep
  rw[Rt.places_getD hok c1,←hj0]at hcp'
  exact hcp'
 refine gJ3 h6 (eq_true ci) hcp7 ?_
 refine callT (Rt.rSet (hr6.keep0 ho7) (Rt.pj R j0) (R.V.getD j0 0)) ?_
 rintro _ w8 ⟨rfl,hr8,ho8⟩
 rw[setO_pj rok rM rQ jl hy0]at hr8
 have lq:=hok.lq
 refine gO2 h6 (i64_succ i (by omega)) ?_
 refine hnext _ w8 ⟨i+1,r.wr (Rt.segJ R j0) (R.V.getD j0 0),?_,by omega,hr8,rok.wr _ _,by rw[Rt.wr_M];exact rM,by rw[Rt.wr_Q];exact rQ,fun j=>?_,(ho6.nil ho7).same ho8⟩ ?_
 ·simp only[go_sem]
 ·rw[←segJ_M rM,Rt.wr_segJ rok (by rw[rM,rQ];exact jl)]
  by_cases e:j0=j
  ·subst e
   exact .inl (getD_set_eq (by rw[Rt.V_length rok,rM,rQ];exact jl))
  ·rw[getD_set_ne' e]
   refine(rV j).imp id fun e2=>⟨e2.1,fun hm=>e2.2 ?_⟩
   rw[List.take_succ_eq_append_getElem c1]at hm
   rcases List.mem_append.1 hm with hm|hm
   ·exact hm
   ·simp only[lms]at hm
    exact absurd (show j0=j by rw[hj0,hm];simp[c1]) e
 ·exact up_lt h6
end
def rep0 (sc cl:Nat):List Value:=[.int .i64 0,.int .i64 0,.int .i64 0,.int .i64 0,.int .i64 0,.int .i64 0,.int .i64 (sc:Int),.int .i64 (cl:Int)]
theorem setL_rep0 (a0 a1 a2 a3 a4 a5 a6 a7:Value):setL (rep0 0 0) 0 [a0,a1,a2,a3,a4,a5,a6,a7]=[a0,a1,a2,a3,a4,a5,a6,a7]:=rfl
set_option maxHeartbeats 4000000 in
theorem gCollect {w:World} {b:Nat} {hp:Addr} {ar:Option Addr} {L:List Int} {fl fp fr:List Nat} {s:HL} {R:Rt.MS} (h:RG w b hp ar L fl) (hl:L.length≤500) (hr:HR w (some hp) fp (some s)) (hi:s.Inv) (hR:Rt.PR w ar fr (some R)) (hsn:Snd true s R) (h40:s.objs.length≤2000) (hll:(Rt.leadsO (some R)).length≤500) (hrf:RfOk s.abs) (hbp:b∉fp) (hbr:b∉fr) (hpr: ∀y,y∈fp→y∉fr):
  Cs Tryz.prog 14 [.pointer (some ⟨b,0,none⟩)] w fun v w'=> ∃s4 R' L' ids rep K S o s1 s2 s3 n pv fpv fl' fr',ColX s R L s4 R' L' ids rep K S o s1 s2 s3 n∧v=.tuple #[.agg ⟨ints rep⟩,pv,.int .i64 0]∧
   HR w' (some hp) fp (some s4)∧Rt.PR w' ar fr' (some R')∧RG w' b hp ar L' fl'∧Sl w' 1 pv ids.length (ints ids) fpv∧Only (b::(fp++fr)) w w'∧(∀y,y∈fr'→y∈fr∨w.heap.size≤y)∧(∀y,y∈fl'→w.heap.size≤y)∧(∀y,y∈fl'→y∉fr')∧(∀y,y∈fpv→w.heap.size≤y):=by
 obtain⟨v0,g1,g2,g3⟩:=id h
 have hbw:=g1.lt
 have hRok:R.Ok:=by
  obtain⟨_,_,_,_,_,_,_,_,_,hpm⟩:=hR
  exact hpm.ok
 refine enter_final_Registry_Collect rfl ?_
 unfold x_final_Registry_Collect
 refine gO ?_
 refine boxT fun rt w1 hrt hs1 hat1 ho1=>?_
 refine gO ?_
 refine callT (gView (h.keep0 ho1) hl (hr.keep0 ho1) hi (hR.keep0 ho1) hsn h40 hll hrf) ?_
 rintro _ w2 ⟨ho2,vb,mk,ms,vd,fd,K,S,rfl,hv2,hK2,hS2,hd2,kpt,kpt2,gvb,gmk,gms,gfd,nvk,nvs,nks,nvd,nkd,nsd⟩
 obtain⟨sv,hsv⟩: ∃sv,sv=savL K S:=⟨_,rfl⟩
 have hS2':MB w2 ms sv:=by rw[hsv];exact hS2
 have z1:=ho1.size
 have z2:=ho2.size
 refine gO ?_
 refine boxT fun q w3 hq hs3 hat3 ho3=>?_
 refine gO ?_
 refine stT hat3 (by simp) rfl fun w4 hs4 hat4 ho4=>?_
 have o2:Only [] w w2:=ho1.nil ho2
 have o3:Only [] w w3:=o2.nil ho3
 have o4:Only [] w w4:=o3.trans ho4 fun y hy=>by simp only[lms]at hy;exact .inr (by omega)
 have hvb2:=hv2.lt
 have hmk2:=MpAt.lt hK2
 have hms2:=MpAt.lt hS2
 have kp4:Kp w4 q vb mk ms hp vd K sv:=by
  refine⟨hat4,(hv2.keep0 ho3).keep ho4 ?_,(hK2.keep0 ho3).keep ho4 ?_,(hS2'.keep0 ho3).keep ho4 ?_⟩<;>simp<;>omega
 have hd4: ∀y,y∈[q,vb,mk,ms]→w.heap.size≤y∧y<w4.heap.size:=fun y hy=>⟨by
  simp only[List.mem_cons,List.not_mem_nil,or_false]at hy
  rcases hy with rfl|rfl|rfl|rfl<;>omega,kp4.lt y hy⟩
 have hD4:Sl w4 1 vd (deadL s L K).length (ints (deadL s L K)) fd:=(hd2.keep0 ho3).keep ho4 fun z hz e=>by
  simp only[lms]at e;have:=hd2.lt z hz;omega
 have hrt4:At w4 rt (rep0 0 0):=(((hat1.keep0 ho2).keep0 ho3).keep ho4 (by simp;omega))
 have hrtl:w.heap.size≤rt∧rt<w4.heap.size:=⟨by omega,hrt4.lt⟩
 refine gO ?_
 refine callT (gTidy (h.keep0 o4) (by omega) (hr.keep0 o4) hi hbp) ?_
 rintro _ w5 ⟨fl1,hg5,ho5,gfl1⟩
 have z5:=ho5.size
 have z4:=o4.size
 have nb4: ∀y,w.heap.size≤y→y∉ [b]:=fun y hy=>by simp only[lms];omega
 have kp5:=kp4.keep ho5 fun y hy=>nb4 y (hd4 y hy).1
 have o5:Only (b::(fp++fr)) w w5:=(o4.of_nil).trans ho5 fun y hy=>.inl (by simp only[lms]at hy;rw[hy];simp)
 have hr5:=(hr.keep0 o4).keep ho5 fun y hy e=>hbp (by simp only[lms]at e;exact e▸hy)
 have hR5:=(hR.keep0 o4).keep ho5 fun y hy e=>hbr (by simp only[lms]at e;exact e▸hy)
 have hD5:=hD4.keep ho5 fun y hy=>nb4 y (by have:=gfd y hy;omega)
 have hrt5:=hrt4.keep ho5 (nb4 rt hrtl.1)
 have hLl:=listA_len s L
 have hdl:(deadL s L K).length≤500:=Nat.le_trans (List.length_filter_le _ _) (Nat.le_trans hLl hl)
 have hKl:K.length≤2000:=Nat.le_trans (nodup_le kpt.nd kpt.liv) h40
 have hSl:S.length≤2000:=Nat.le_trans (nodup_le kpt2.nd kpt2.liv) h40
 have hsvl:sv.length≤2000:=by rw[hsv];exact Nat.le_trans (List.length_filter_le _ _) hSl
 have hsvn:sv.Nodup:=by rw[hsv];exact List.Nodup.sublist List.filter_sublist kpt2.nd
 have hsvv: ∀x,x∈sv→Liv s x:=fun x hx=>by rw[hsv]at hx;exact kpt2.liv x (List.mem_filter.1 hx).1
 have esc:IntKind.i64.wrap ((K.length:Int)+(sv.length:Int))=((K.length+sv.length:Nat):Int):=by rw[IntWalk.i64_in _ (by omega)];omega
 refine gO ?_
 refine run_cut (9::31::32::33::34::35::36::37::38::39::40::41::42::[]) (fun g w'=> ∃rb,g 9=.pointer (some ⟨rb,0,none⟩)∧w5.heap.size≤rb∧At w' rb (rep0 (K.length+sv.length) 0)∧Only [] w5 w') (fun kk hkk=>?_) (fun g6 w6 hJ=>?_)
 ·refine run_drt [q,vb] ?_
  have od:=Only.drew [] w5
  have kpd:=kp5.keep0 od
  have lts: ∀z,z∈[q,vb]→z<w5.drew.heap.size∧z∉([]:List Nat):=fun z hz=>⟨kpd.lt z (by simp only[List.mem_cons,List.not_mem_nil,or_false]at hz⊢;omega),by simp⟩
  refine gO2 kpd.q.cell kpd.v.cell ?_
  have sb0:SB [q,vb] w5.drew w5.drew:=SB.refl _ _
  refine⟨mlenS Tryz.underlying115 kpd.k (.inr sb0) ?_,boxS fun rb w6 hrb hs6 hat6 ho6=>?_⟩
  ·refine gO ?_
   refine⟨mlenS Tryz.underlying115 kpd.s (.inl rfl) ?_,boxS fun rb w6 hrb hs6 hat6 ho6=>?_⟩
   ·(repeat(first|with_reducible(first|refine nx ?_|refine r_6 rfl ?_)|simp only[go_sem,setM_len,esc]))
    rw[fillL_one rfl rfl]
    refine gO ?_
    refine boxS fun rb w6 hrb hs6 hat6 ho6=>⟨.inr (sb0.only ho6 lts),?_⟩
    refine gO ?_
    refine stNS (cs:=rep0 (K.length+sv.length) 0) hat6 rfl (by simp[rep0]) (by simp[rep0,oneC]) fun w7 hs7 hat7 ho7=>⟨.inl rfl,?_⟩
    refine gO ?_
    refine hkk _ w7 ⟨rb,?_,by have:=od.size;omega,hat7,(od.nil ho6).trans ho7 fun y hy=>by simp only[lms]at hy;have:=od.size;exact .inr (by omega)⟩
    ·simp only[go_sem]
   ·refine⟨.inr (sb0.only ho6 lts),?_⟩
    refine gO ?_
    refine mlenS Tryz.underlying115 (kpd.keep0 ho6).s (.inl rfl) ?_
    (repeat(first|with_reducible(first|refine nx ?_|refine r_6 rfl ?_)|simp only[go_sem,setM_len,esc]))
    rw[fillL_one rfl rfl]
    refine gO ?_
    refine stNS (cs:=rep0 (K.length+sv.length) 0) hat6 rfl (by simp[rep0]) (by simp[rep0,oneC]) fun w7 hs7 hat7 ho7=>⟨.inl rfl,?_⟩
    refine gO ?_
    refine hkk _ w7 ⟨rb,?_,by have:=od.size;omega,hat7,(od.nil ho6).trans ho7 fun y hy=>by simp only[lms]at hy;have:=od.size;exact .inr (by omega)⟩
    ·simp only[go_sem]
  ·refine⟨.inr (sb0.only ho6 lts),?_⟩
   refine gO ?_
   refine mlenS Tryz.underlying115 (kpd.keep0 ho6).k (.inr (sb0.only ho6 lts)) ?_
   refine gO ?_
   refine mlenS Tryz.underlying115 (kpd.keep0 ho6).s (.inl rfl) ?_
   (repeat(first|with_reducible(first|refine nx ?_|refine r_6 rfl ?_)|simp only[go_sem,setM_len,esc]))
   rw[fillL_one rfl rfl]
   refine gO ?_
   refine stNS (cs:=rep0 (K.length+sv.length) 0) hat6 rfl (by simp[rep0]) (by simp[rep0,oneC]) fun w7 hs7 hat7 ho7=>⟨.inl rfl,?_⟩
   refine gO ?_
   refine hkk _ w7 ⟨rb,?_,by have:=od.size;omega,hat7,(od.nil ho6).trans ho7 fun y hy=>by simp only[lms]at hy;have:=od.size;exact .inr (by omega)⟩
   ·simp only[go_sem]
 obtain⟨rb,h9,grb,hrb6,ho6⟩:=hJ
 have kp6:=kp5.keep0 ho6
 have z6:=ho6.size
 have o6:=o5.nil ho6
 refine gO1 kp6.q.cell ?_
 refine callT (vOrder kp6.v (hD5.keep0 ho6) hdl (fun x hx=>listA_live hi (List.mem_filter.1 hx).1) (hr5.keep0 ho6) hi.ok hsn h40) ?_
 rintro vo w7 ⟨ho7,o,fo,hO,hs7,gfo⟩
 obtain⟨ao,co,rfl⟩:=hs7.val
 have z7:=ho7.size
 have o7:=o6.nil ho7
 have kp7:=kp6.keep0 ho7
 have hol:o.length≤500:=by rw[(ordr_mem hO).length_eq];exact hdl
 have hov: ∀x,x∈o→Liv s x:=fun x hx=>listA_live hi (List.mem_filter.1 ((ordr_mem hO).mem_iff.1 hx)).1
 refine gO2 kp7.q.cell kp7.v.cell ?_
 refine rangeT Tryz.underlying115 kp7.k fun r w8 hr8 hs8 hit8 ho8=>?_
 have z8:=ho8.size
 have o8:=o7.nil ho8
 have kp8:=kp7.keep0 ho8
 have hg8:=((hg5.keep0 ho6).keep0 ho7).keep0 ho8
 have hrb8:=(hrb6.keep0 ho7).keep0 ho8
 have hrh8:=((hr5.keep0 ho6).keep0 ho7).keep0 ho8
 have nrb:rb∉fp:=fun e=>by have:=hr.lt rb e;omega
 have bd: ∀y,y∈[q,vb,mk,ms]→y∉rb::fp:=fun y hy e=>by
  have:=hd4 y hy
  rcases List.mem_cons.1 e with e|e
  ·omega
  ·have:=hr.lt y e;omega
 have bnr:b∉rb::fp:=fun e=>by
  rcases List.mem_cons.1 e with e|e
  ·omega
  ·exact hbp e
 refine gO ?_
 refine run_loop (11::50::51::52::53::54::55::56::57::58::59::60::61::62::63::64::[]) (fun _ w'=> ∃(T:List Int) (s1:HL),ItAt w' r mk (setM K) (setM T)∧(∀x,x∈T→x∈K)∧Clrd s s1 (K.filter fun y=>!decide (y∈T)) (inB K)∧HR w' (some hp) fp (some s1)∧At w' rb (rep0 (K.length+sv.length) (clrC s (inB K) (K.filter fun y=>!decide (y∈T))))∧Only (rb::fp) w7 w') (fun _ w'=>itLeft w' r mk)
  ⟨K,s,hit8,fun _ h=>h,?_,hrh8,?_,ho8.of_nil⟩ fun g9 w9 hI hnext=>?_
 ·rw[left_all];exact Clrd.none hi _
 ·rw[left_all];exact hrb8
 obtain⟨T,s1,hit,hTK,hC,hr9,hrb9,ho9⟩:=hI
 obtain⟨vg,gb7,gl7,gn7⟩:=id ((hg5.keep0 ho6).keep0 ho7)
 have gb9:=gb7.keep ho9 bnr
 have hl9:=hit.left
 refine gO ?_
 refine nextT hit (fun h0=>?_) (fun e w10 hp10 hs10 ho10 hit10 hen10=>?_)
 rotate_left
 ·obtain⟨hx,he⟩:=mem_setM hp10
  obtain⟨x,v⟩:=e
  simp only at hx he
  obtain rfl:v=.bool true:=(Prod.mk.inj he).2
  rw[setM_filter]at hit10
  have hxK:=hTK x hx
  have hxv:=kpt.liv x hxK
  have rr: ∀y,y∈[r]→y∈rb::fp∨w7.heap.size≤y:=fun y hy=>by simp only[lms]at hy;exact .inr (by omega)
  have nr: ∀y,y<w7.heap.size→y∉ [r]:=fun y hy=>by simp only[lms];omega
  have ltT:(setM (T.filter (·!=x))).length<(setM T).length:=by
   rw[setM_len,setM_len]
   rcases Nat.lt_or_ge (T.filter (·!=x)).length T.length with h'|h'
   ·exact h'
   ·have:=List.filter_eq_self.1 (List.Sublist.eq_of_length_le List.filter_sublist h') x hx
    simp at this
  have sT: ∀y,y∈T.filter (·!=x)→y∈K:=fun y hy=>hTK y (List.mem_filter.1 hy).1
  obtain⟨s2,k,rfl,hk,e2,hC2,n2⟩:=hC.step (C':=K.filter fun y=>!decide (y∈T.filter (·!=x))) hxv (by simp[hx]) fun y=>mem_left hxK hx
  have hr10:=hr9.keep ho10 fun y hy=>nr y (by have:=hr.lt y hy;omega)
  have hrb10:=hrb9.keep ho10 (nr rb (by have:=hrb6.lt;omega))
  have gb10:=gb9.keep ho10 (nr b (by omega))
  have kp9:=kp7.keep ho9 bd
  have kp10:=kp9.keep ho10 fun y hy=>nr y (by have:=hd4 y hy;omega)
  have hx62:((2*k:Nat):Int)≤4611686018427387904:=by have:=live_le hi.ok hk;omega
  have hk1:s1.st.getD k 0=1:=by rw[hC.sam.st];exact hk
  obtain⟨l1,_,_⟩:=obAt_len hC.inv.ok hk1
  have hl15:=rf_le hC.inv.ok hk1
  refine gO ?_
  refine entryT hen10 ?_
  refine gO1 gb10.cell ?_
  refine callT (cClear (n:=(s1.obAt k).rf.length) (kept:=inB K) (F:=54) (caps:=#[.pointer (some ⟨q,0,none⟩)]) hr10 ((2*k:Nat):Int) hx62 (by rw[at_shape hC.inv.ok hk1];exact l1.symm) hl15 (by kernel_rfl) fun w' y ho=>?_) ?_
  ·exact vKept1 (kp10.keep0 ho).q (kp10.keep0 ho).v (kp10.keep0 ho).k y
  rintro _ w11 ⟨rfl,hr11,ho11⟩
  rw[e2]at hr11
  rw[n2]
  have hrb11:=hrb10.keep ho11 nrb
  have ofp: ∀y,y∈fp→y∈rb::fp∨w7.heap.size≤y:=fun y hy=>.inl (List.mem_cons_of_mem _ hy)
  have o11:Only (rb::fp) w7 w11:=(ho9.trans ho10 rr).trans ho11 ofp
  have hit11:ItAt w11 r mk (setM K) (setM (T.filter (·!=((2*k:Nat):Int)))):=hit10.keep ho11 (fun e=>by have:=hr.lt r e;omega) (fun e=>by have:=hr.lt mk e;omega)
  have hcs:=clrC_step (s:=s) (keep:=inB K) kpt.nd hxK hx
  rw[obX_at]at hcs
  by_cases cn:0<clrN (inB K) (s.obAt k)
  ·rw[if_pos cn]at hcs
   have hcl:=clrC_le s (inB K) (K.filter fun y=>!decide (y∈T))
   have hcl2:=List.length_filter_le (fun y=>!decide (y∈T)) K
   have c7:w11.cell? ⟨rb,7,none⟩=some (.int .i64 (clrC s (inB K) (K.filter fun y=>!decide (y∈T)):Nat)):=by rw[hrb11.cell];rfl
   refine gO4 h9 (dtr cn) c7 (i64_succ (clrC s (inB K) (K.filter fun y=>!decide (y∈T))) (by omega)) ?_
   refine stT (i:=7) hrb11 (by simp[rep0]) rfl fun w12 hs12 hat12 ho12=>?_
   have hrb12:At w12 rb (rep0 (K.length+sv.length) (clrC s (inB K) (K.filter fun y=>!decide (y∈T.filter (·!=((2*k:Nat):Int)))))):=by rw[hcs];exact hat12
   refine gO ?_
   have n1: ∀y,y∈fp→y∉ [rb]:=fun y hy e=>nrb (by simp only[lms]at e;exact e▸hy)
   have hit12:ItAt w12 r mk (setM K) (setM (T.filter (·!=((2*k:Nat):Int)))):=hit11.keep ho12 (by simp only[lms];have:=hrb6.lt;omega) (by simp only[lms];have:=(hd4 mk (by simp)).2;omega)
   refine hnext _ w12 ⟨T.filter (·!=((2*k:Nat):Int)),s2,hit12,sT,hC2,hr11.keep ho12 n1,hrb12,o11.trans ho12 fun y hy=>by simp only[lms]at hy;exact .inl (by rw[hy];simp)⟩ ?_
   ·rw[hl9,hit12.left];exact ltT
  ·rw[if_neg cn,Nat.add_zero]at hcs
   rw[dfl cn]
   refine gO ?_
   refine hnext _ w11 ⟨T.filter (·!=((2*k:Nat):Int)),s2,hit11,sT,hC2,hr11,by rw[hcs];exact hrb11,o11⟩ ?_
   ·rw[hl9,hit11.left];exact ltT
 ·have hT:T=[]:=by cases T with
   |nil=>rfl
   |cons a T=>cases h0
  subst hT
  rw[left_none]at hC hrb9
  have z9:=ho9.size
  have o9:Only (b::(fp++fr)) w w9:=o7.trans ho9 fun y hy=>by
   rcases List.mem_cons.1 hy with rfl|hy
   ·exact .inr (by omega)
   ·exact .inl (by simp[hy])
  have kp9:=kp7.keep ho9 bd
  have fl5: ∀y,y∈fl1→w.heap.size≤y∧y<w5.heap.size:=fun y hy=>by
   obtain⟨_,_,gl,_⟩:=hg5
   exact⟨by have:=gfl1 y hy;omega,gl.lt y hy⟩
  have nfp: ∀y,y∈fl1→y∉rb::fp:=fun y hy e=>by
   have:=fl5 y hy
   rcases List.mem_cons.1 e with e|e
   ·omega
   ·have:=hr.lt y e;omega
  have hg9:RG w9 b hp ar (tidyL s L) fl1:=((hg5.keep0 ho6).keep0 ho7).keep ho9 bnr nfp
  have hR9:Rt.PR w9 ar fr (some R):=((hR5.keep0 ho6).keep0 ho7).keep ho9 fun y hy e=>by
   have:=hR.lt y hy
   rcases List.mem_cons.1 e with e|e
   ·omega
   ·exact hpr y e hy
  have hvo9:Sl w9 1 (.slice ao o.length co) o.length (ints o) fo:=hs7.keep ho9 fun y hy e=>by
   have:=gfo y hy
   rcases List.mem_cons.1 e with e|e
   ·have:=hrb6.lt;omega
   ·have:=hr.lt y e;omega
  have hro:=hR9.lt
  have hLt:(tidyL s L).length≤500:=Nat.le_trans (List.length_filter_le _ _) hl
  have hX: ∀y,w.heap.size≤y→y∉fl1→y∉b::(fl1++fr):=fun y h1 h2 e=>by
   rcases List.mem_cons.1 e with e|e
   ·omega
   ·rcases List.mem_append.1 e with e|e
    ·exact h2 e
    ·have:=hR.lt y e;omega
  have hX5: ∀y,w5.heap.size≤y→y∉b::(fl1++fr):=fun y h1=>hX y (by omega) fun e=>by have:=fl5 y e;omega
  obtain⟨Qn,hQn⟩: ∃Qn,Qn=R.Q.length:=⟨_,rfl⟩
  obtain⟨idl,hidl⟩: ∃idl:Nat→List Int,idl=fun n=>(o.take n).map (idA s):=⟨_,rfl⟩
  obtain⟨Lf,hLf⟩: ∃Lf:Nat→List Int,Lf=fun n=>(tidyL s L).filter fun x=>!decide (x∈idl n):=⟨_,rfl⟩
  (repeat(first|with_reducible(first|refine r_1 ?_|refine r_2 ?_|refine r_4 ?_|refine r_5 ?_|refine r_6 rfl ?_|refine r_7 ?_|refine r_8 ?_|refine r_9 ?_|refine r_0 ?_)|simp only[go_sem]))
  refine run_cut (12::14::15::16::67::68::69::70::71::72::73::74::75::76::77::78::79::80::81::82::83::84::85::86::87::88::89::90::91::92::93::94::95::96::97::98::99::100::[]) (fun g w'=> ∃n fr1 fpv,n=min o.length (64-R.Q.length)∧Rt.PR w' ar fr1 (some {R with Q:=R.Q++o.take n})∧(∀y,y∈fr1→y∈fr∨w9.heap.size≤y)∧RG w' b hp ar (Lf n) fl1∧Sl w' 1 (g 12) n (ints (idl n)) fpv∧(∀y,y∈fpv→w9.heap.size≤y)∧Only (b::(fl1++fr)) w9 w') (fun kk hkk=>?_) (fun g13 w13 hJ=>?_)
  ·refine gO ?_
   refine run_loop (12::14::15::16::67::68::69::70::71::72::73::74::75::76::77::78::79::80::81::82::83::84::85::86::87::88::89::90::91::92::93::94::95::96::97::98::99::100::[]) (fun g w'=> ∃i fr1 fpv,g 67=.int .i64 ((i:Nat):Int)∧i≤o.length∧R.Q.length+i≤64∧Rt.PR w' ar fr1 (some {R with Q:=R.Q++o.take i})∧(∀y,y∈fr1→y∈fr∨w9.heap.size≤y)∧RG w' b hp ar (Lf i) fl1∧Sl w' 1 (g 12) i (ints (idl i)) fpv∧(∀y,y∈fpv→w9.heap.size≤y∧y∉fr1)∧Only (b::(fl1++fr)) w9 w') (fun g _=>upTo o.length 67 g)
    ⟨0,fr,[],by simp only[go_sem];rfl,by omega,?_,?_,fun y hy=>.inl hy,?_,?_,by simp,Only.refl _ _⟩ fun g10 w10 hI hnext=>?_
   ·have:=hRok.lq;omega
   ·rw[List.take_zero,List.append_nil];exact hR9
   ·have:Lf 0=tidyL s L:=by rw[hLf];exact List.filter_eq_self.2 fun x _=>by simp[hidl]
    rw[this];exact hg9
   ·have:idl 0=[]:=by rw[hidl];rfl
    rw[this];simp only[go_sem];exact Sl.nil1 _
   obtain⟨i,fr1,fpv,h67,hi1,hi2,hRi,gfr1,hgi,hvi,gvi,ho10⟩:=hI
   have z10:=ho10.size
   by_cases c:i<o.length
   rotate_left
   ·refine gO2 h67 (dfl (show¬(i:Int)<(o.length:Int) by omega)) ?_
    refine hkk _ w10 ⟨i,fr1,fpv,by omega,hRi,gfr1,hgi,?_,fun y hy=>(gvi y hy).1,ho10⟩
    ·simp only[go_sem];exact hvi
   obtain⟨go,_,yo,eo,hato,_,_⟩:=(hvo9.keep ho10 fun y hy=>hX5 y (by have:=gfo y hy;omega)).pos (by omega)
   cases eo
   have ci:(0:Int)≤(i:Int)∧(i:Int)<(o.length:Int):=by omega
   have vr:w10.cell? ⟨go,i,none⟩=some (.int .i64 (o.getD i 0)):=by rw[hato.cell];exact ints_append_get yo c
   obtain⟨k,hok,hk⟩:=hov (o.getD i 0) (by simp[c])
   have hk0:k≠0:=fun e=>hi.z0 (e▸hk)
   have hkl:=live_le hi.ok hk
   obtain⟨vgi,gbi,gli,gni⟩:=id hgi
   obtain⟨agi,cgi,rfl⟩:=gli.val
   have hfr1: ∀y,y∈fr1→y∉fl1:=fun y hy e=>by
    have:=fl5 y e
    rcases gfr1 y hy with h'|h'
    ·have:=hR.lt y h';omega
    ·omega
   have hbf1:b∉fr1:=fun e=>(gfr1 b e).elim hbr fun h'=>by omega
   rw[hok]at vr
   refine gJ5 h67 (dtr ci.2) (eq_true ci) vr gbi.cell ?_
   refine callT (Rt.Push_m hRi ((2*k:Nat):Int)) ?_
   rintro _ w11 ⟨rfl,ho11,ho11',fr2,hR11,gfr2⟩
   by_cases c64:R.Q.length+i=64
   ·have e6:Rt.pushO (some {R with Q:=R.Q++o.take i}) ((2*k:Nat):Int)=(6,some {R with Q:=R.Q++o.take i}):=by
     unfold Rt.pushO
     simp only
     rw[if_neg (by omega),if_pos (by rw[lla,List.length_take];omega)]
    rw[e6]at ho11' hR11⊢
    have ho0:=ho11' (by simp)
    refine gO ?_
    refine hkk _ w11 ⟨i,fr1,fpv,by omega,hRi.keep0 ho0,gfr1,hgi.keep0 ho0,?_,fun y hy=>(gvi y hy).1,ho10.nil ho0⟩
    ·simp only[go_sem];exact hvi.keep0 ho0
   have e0:Rt.pushO (some {R with Q:=R.Q++o.take i}) ((2*k:Nat):Int)=(0,some {R with Q:=R.Q++o.take (i+1)}):=by
    unfold Rt.pushO
    simp only
    rw[if_neg (by omega),if_neg (by rw[lla,List.length_take];omega),List.take_succ_eq_append_getElem c,List.append_assoc]
    have:o[i]=((2*k:Nat):Int):=by rw[←hok];simp[c]
    rw[this]
   rw[e0]at hR11⊢
   have gfr2': ∀y,y∈fr2→y∈fr∨w9.heap.size≤y:=fun y hy=>(gfr2 y hy).elim (gfr1 y) fun h'=>.inr (by omega)
   have hg11:=hgi.keep ho11 hbf1 fun y hy e=>hfr1 y e hy
   have hv11:=hvi.keep ho11 fun y hy=>(gvi y hy).2
   have z11:=ho11.size
   have gb11:=gbi.keep ho11 hbf1
   have gl11:=gli.keep ho11 fun y hy e=>hfr1 y e hy
   have o11:Only (b::(fl1++fr)) w9 w11:=ho10.trans ho11 fun y hy=>(gfr1 y hy).imp (fun h'=>by simp[h']) fun h'=>h'
   have hr11:HR w11 (some hp) fp (some s1):=hr9.keep o11 fun y hy e=>by
    have:=hr.lt y hy
    rcases List.mem_cons.1 e with e|e
    ·exact hbp (e▸hy)
    ·rcases List.mem_append.1 e with e|e
     ·have:=fl5 y e;omega
     ·exact hpr y hy e
   have hid:identO (some s1) ((2*k:Nat):Int)=(idA s ((2*k:Nat):Int),0):=ident_clrd hi hC ⟨k,rfl,hk⟩
   refine gO2 h67 gb11.cell ?_
   refine callT (hIdent hr11 ((2*k:Nat):Int) (by omega)) ?_
   rintro _ w12 ⟨rfl,ho12⟩
   rw[hid]
   refine gO ?_
   refine boxT fun q2 w13 hq2 hs13 hat13 ho13=>?_
   refine gO ?_
   refine stT hat13 (by simp) rfl fun w14 hs14 hat14 ho14=>?_
   have o14:Only [] w11 w14:=(ho12.nil ho13).trans ho14 fun y hy=>by simp only[lms]at hy;have:=ho12.size;exact .inr (by omega)
   have hat14':At w14 q2 [.int .i64 (idA s ((2*k:Nat):Int))]:=hat14
   refine gO1 hat14'.cell ?_
   rw[fillL_one rfl rfl]
   refine gO ?_
   refine bslT fun q3 w15 hq3 hs15 hat15 ho15=>?_
   refine gO ?_
   have o15:=o14.nil ho15
   refine appT (hv11.keep0 o15) (SrcIs.at (us:=[.int .i64 (idA s ((2*k:Nat):Int))]) hat15 rfl) (by simp[oneC]) (by omega) (by omega) ?_
   intro v16 w16 fp16 hs16 hfp16 ho16 _
   have z12:=ho12.size
   have g16: ∀y,y∈fp16→y∈fpv∨w15.heap.size≤y:=fun y hy=>by
    rcases hfp16 with rfl|rfl
    ·exact .inl hy
    ·simp only[lms]at hy;exact .inr (by omega)
   have nfl: ∀y,y∈fl1→y∉fpv:=fun y hy e=>by have:=fl5 y hy;have:=(gvi y e).1;omega
   have gb16:=(gb11.keep0 o15).keep ho16 (fun e=>by have:=(gvi b e).1;omega)
   have gl16:=(gl11.keep0 o15).keep ho16 nfl
   have hq16:=(hat14'.keep0 ho15).keep ho16 (fun e=>by have:=hvi.lt q2 e;omega)
   refine gO1 gb16.cell ?_
   refine callT (deleteFunc (p:=fun x=>x==idA s ((2*k:Nat):Int)) (F:=60) (caps:=#[.pointer (some ⟨q2,0,none⟩)]) gl16 (by kernel_rfl) (Nat.le_trans (by rw[hLf];exact List.length_filter_le _ _) (Nat.le_trans hLt (by omega))) fun w' x ho hx=>vSame3 (hq16.keep ho fun e=>by have:=fl5 q2 e;omega) x) ?_
   rintro vD w17 ⟨ho17,hD17⟩
   have bfl:b∉fl1:=fun e=>by have:=fl5 b e;omega
   have gb17:=gb16.keep ho17 bfl
   refine gO ?_
   refine stT (i:=2) gb17 (by simp) hD17.oneC' fun w18 hs18 hat18 ho18=>?_
   have hidS:idl (i+1)=idl i++[idA s ((2*k:Nat):Int)]:=by
    rw[hidl]
    simp only
    rw[List.take_succ_eq_append_getElem c,List.map_append]
    have:o[i]=((2*k:Nat):Int):=by rw[←hok];simp[c]
    rw[this];rfl
   have hLS:(Lf i).filter (fun x=>!(x==idA s ((2*k:Nat):Int)))=Lf (i+1):=by
    rw[hLf]
    simp only
    rw[List.filter_filter,hidS]
    refine List.filter_congr fun x _=>?_
    by_cases cx:x=idA s ((2*k:Nat):Int)
    ·simp[cx]
    ·simp only[bqf cx,Bool.not_false,Bool.true_and,List.mem_append,lms,cx,or_false]
   rw[hLS]at hD17
   have hD18:=hD17.keep ho18 fun y hy e=>bfl (by simp only[lms]at e;exact e▸hy)
   have hg18:RG w18 b hp ar (Lf (i+1)) fl1:=⟨vD,hat18,hD18,bfl⟩
   have z15:=o15.size
   have z16:=ho16.size
   have z17:=ho17.size
   have f2lt:=hR11.lt
   have n16: ∀y,y∈fr2→y∉fpv:=fun y hy e=>by
    have:=hvi.lt y e
    rcases gfr2 y hy with h'|h'
    ·exact(gvi y e).2 h'
    ·omega
   have nl2: ∀y,y∈fr2→y∉fl1:=fun y hy e=>by
    have:=fl5 y e
    rcases gfr2' y hy with h'|h'
    ·have:=hR.lt y h';omega
    ·omega
   have nb2:b∉fr2:=fun e=>(gfr2' b e).elim hbr fun h'=>by omega
   have hR18:=(((hR11.keep0 o15).keep ho16 n16).keep ho17 nl2).keep ho18 fun y hy e=>nb2 (by simp only[lms]at e;exact e▸hy)
   have nv1: ∀y,y∈fp16→y∉fl1:=fun y hy e=>by
    have:=fl5 y e
    rcases g16 y hy with h'|h'
    ·have:=(gvi y h').1;omega
    ·omega
   have nv2: ∀y,y∈fp16→w9.heap.size≤y∧y∉fr2:=fun y hy=>by
    rcases g16 y hy with h'|h'
    ·exact⟨(gvi y h').1,fun e=>n16 y e h'⟩
    ·exact⟨by omega,fun e=>by have:=f2lt y e;omega⟩
   have hv18:=(hs16.keep ho17 nv1).keep ho18 fun y hy e=>by simp only[lms]at e;have:=(nv2 y hy).1;omega
   have ei:ints (idl i)++[Value.int .i64 (idA s ((2*k:Nat):Int))]=ints (idl (i+1)):=by rw[hidS,ints_append];rfl
   rw[ei]at hv18
   have o18:Only (b::(fl1++fr)) w9 w18:=(((o11.nil o15).trans ho16 fun y hy=>.inr (gvi y hy).1).trans ho17 fun y hy=>.inl (by simp[hy])).trans ho18 fun y hy=>.inl (by simp only[lms]at hy;rw[hy];simp)
   refine gO2 h67 (i64_succ i (by omega)) ?_
   refine hnext _ w18 ⟨i+1,fr2,fp16,?_,by omega,by omega,hR18,gfr2',hg18,?_,nv2,o18⟩ ?_
   ·simp only[go_sem]
   ·simp only[go_sem];exact hv18
   ·exact up_lt h67
  obtain⟨n,fr1,fpv,hn,hR13,gfr1,hg13,hv13,gv13,ho13⟩:=hJ
  have z13:=ho13.size
  have kp13:=kp9.keep ho13 fun y hy=>hX y (hd4 y hy).1 fun e=>by have:=gfl1 y e;have:=(hd4 y hy).2;omega
  have hrb13:=hrb9.keep ho13 (hX5 rb grb)
  have hrt9:=((hrt5.keep0 ho6).keep0 ho7).keep ho9 fun e=>by
   rcases List.mem_cons.1 e with e|e
   ·have:=hrtl.2;omega
   ·have:=hr.lt rt e;have:=hrtl.1;omega
  have hrt13:=hrt9.keep ho13 (hX rt hrtl.1 fun e=>by have:=gfl1 rt e;have:=hrtl.2;omega)
  have hr13:HR w13 (some hp) fp (some s1):=hr9.keep ho13 fun y hy e=>by
   have:=hr.lt y hy
   rcases List.mem_cons.1 e with e|e
   ·exact hbp (e▸hy)
   ·rcases List.mem_append.1 e with e|e
    ·have:=fl5 y e;omega
    ·exact hpr y hy e
  have o13:Only (b::(fp++fr)) w w13:=o9.trans ho13 fun y hy=>by
   rcases List.mem_cons.1 hy with e|e
   ·exact .inl (by rw[e];simp)
   ·rcases List.mem_append.1 e with e|e
    ·exact .inr (fl5 y e).1
    ·exact .inl (by simp[e])
  obtain⟨vg13,gb13,gl13,gn13⟩:=id hg13
  have hheld: ∀x,heldB K S x=(decide (x∈K)||decide (x∈sv)):=fun x=>by rw[hsv];rfl
  obtain⟨N1,hN1⟩: ∃N1,N1=clrC s (inB K) K:=⟨_,rfl⟩
  rw[←hN1]at hrb13
  have hN1l:N1≤2000:=by rw[hN1];exact Nat.le_trans (clrC_le _ _ _) hKl
  refine gO2 kp13.q.cell kp13.v.cell ?_
  refine rangeT Tryz.underlying115 kp13.s fun r2 w14 hr2 hs14 hit14 ho14=>?_
  have z14:=ho14.size
  refine gO ?_
  refine run_loop (17::106::107::108::109::110::111::112::113::114::115::116::117::118::119::120::[]) (fun _ w'=> ∃(T:List Int) (s2:HL),ItAt w' r2 ms (setM sv) (setM T)∧(∀x,x∈T→x∈sv)∧Clrd s1 s2 (sv.filter fun y=>!decide (y∈T)) (heldB K S)∧HR w' (some hp) fp (some s2)∧At w' rb (rep0 (K.length+sv.length) (N1+clrC s1 (heldB K S) (sv.filter fun y=>!decide (y∈T))))∧Only (rb::fp) w13 w') (fun _ w'=>itLeft w' r2 ms)
   ⟨sv,s1,hit14,fun _ h=>h,?_,hr13.keep0 ho14,?_,ho14.of_nil⟩ fun g15 w15 hI hnext=>?_
  ·rw[left_all];exact Clrd.none hC.inv _
  ·rw[left_all];exact hrb13.keep0 ho14
  obtain⟨T,s2,hit,hTK,hC2,hr15,hrb15,ho15⟩:=hI
  have gb15:=gb13.keep ho15 bnr
  have hl15:=hit.left
  refine gO ?_
  refine nextT hit (fun h0=>?_) (fun e w16 hp16 hs16 ho16 hit16 hen16=>?_)
  rotate_left
  ·obtain⟨hx,he⟩:=mem_setM hp16
   obtain⟨x,v⟩:=e
   simp only at hx he
   obtain rfl:v=.bool true:=(Prod.mk.inj he).2
   rw[setM_filter]at hit16
   have hxK:=hTK x hx
   have hxv:=hC.live (hsvv x hxK)
   have rr: ∀y,y∈[r2]→y∈rb::fp∨w13.heap.size≤y:=fun y hy=>by simp only[lms]at hy;exact .inr (by omega)
   have nr: ∀y,y<w13.heap.size→y∉ [r2]:=fun y hy=>by simp only[lms];omega
   have ltT:(setM (T.filter (·!=x))).length<(setM T).length:=by
    rw[setM_len,setM_len]
    rcases Nat.lt_or_ge (T.filter (·!=x)).length T.length with h'|h'
    ·exact h'
    ·have:=List.filter_eq_self.1 (List.Sublist.eq_of_length_le List.filter_sublist h') x hx
     simp at this
   have sT: ∀y,y∈T.filter (·!=x)→y∈sv:=fun y hy=>hTK y (List.mem_filter.1 hy).1
   obtain⟨s3,k,rfl,hk,e2,hC3,n2⟩:=hC2.step (C':=sv.filter fun y=>!decide (y∈T.filter (·!=x))) hxv (by simp[hx]) fun y=>mem_left hxK hx
   have hr16:=hr15.keep ho16 fun y hy=>nr y (by have:=hr.lt y hy;omega)
   have hrb16:=hrb15.keep ho16 (nr rb (hrb13.lt))
   have gb16:=gb15.keep ho16 (nr b (by omega))
   have kp15:=kp13.keep ho15 bd
   have kp16:=kp15.keep ho16 fun y hy=>nr y (by have:=hd4 y hy;omega)
   have hx62:((2*k:Nat):Int)≤4611686018427387904:=by have:=live_le hC.inv.ok hk;omega
   have hk1:s2.st.getD k 0=1:=by rw[hC2.sam.st];exact hk
   obtain⟨l1,_,_⟩:=obAt_len hC2.inv.ok hk1
   have hl15':=rf_le hC2.inv.ok hk1
   refine gO ?_
   refine entryT hen16 ?_
   refine gO1 gb16.cell ?_
   refine callT (cClear (n:=(s2.obAt k).rf.length) (kept:=heldB K S) (F:=55) (caps:=#[.pointer (some ⟨q,0,none⟩)]) hr16 ((2*k:Nat):Int) hx62 (by rw[at_shape hC2.inv.ok hk1];exact l1.symm) hl15' (by kernel_rfl) fun w' y ho=>?_) ?_
   ·rw[hheld];exact vHeld2 (kp16.keep0 ho).q (kp16.keep0 ho).v (kp16.keep0 ho).k (kp16.keep0 ho).s y
   rintro _ w17 ⟨rfl,hr17,ho17⟩
   rw[e2]at hr17
   rw[n2]
   have hrb17:=hrb16.keep ho17 nrb
   have ofp: ∀y,y∈fp→y∈rb::fp∨w13.heap.size≤y:=fun y hy=>.inl (List.mem_cons_of_mem _ hy)
   have o17:Only (rb::fp) w13 w17:=(ho15.trans ho16 rr).trans ho17 ofp
   have hit17:ItAt w17 r2 ms (setM sv) (setM (T.filter (·!=((2*k:Nat):Int)))):=hit16.keep ho17 (fun e=>by have:=hr.lt r2 e;omega) (fun e=>by have:=hr.lt ms e;omega)
   have hcs:=clrC_step (s:=s1) (keep:=heldB K S) hsvn hxK hx
   rw[obX_at]at hcs
   by_cases cn:0<clrN (heldB K S) (s1.obAt k)
   ·rw[if_pos cn]at hcs
    have hcl:=clrC_le s1 (heldB K S) (sv.filter fun y=>!decide (y∈T))
    have hcl2:=List.length_filter_le (fun y=>!decide (y∈T)) sv
    have c7:w17.cell? ⟨rb,7,none⟩=some (.int .i64 (N1+clrC s1 (heldB K S) (sv.filter fun y=>!decide (y∈T)):Nat)):=by rw[hrb17.cell];rfl
    refine gO4 h9 (dtr cn) c7 (i64_succ (N1+clrC s1 (heldB K S) (sv.filter fun y=>!decide (y∈T))) (by omega)) ?_
    refine stT (i:=7) hrb17 (by simp[rep0]) rfl fun w18 hs18 hat18 ho18=>?_
    have hrb18:At w18 rb (rep0 (K.length+sv.length) (N1+clrC s1 (heldB K S) (sv.filter fun y=>!decide (y∈T.filter (·!=((2*k:Nat):Int)))))):=by rw[hcs,←Nat.add_assoc];exact hat18
    refine gO ?_
    have n1: ∀y,y∈fp→y∉ [rb]:=fun y hy e=>nrb (by simp only[lms]at e;exact e▸hy)
    have hit18:ItAt w18 r2 ms (setM sv) (setM (T.filter (·!=((2*k:Nat):Int)))):=hit17.keep ho18 (by simp only[lms];have:=hrb13.lt;omega) (by simp only[lms];have:=(hd4 ms (by simp)).2;omega)
    refine hnext _ w18 ⟨T.filter (·!=((2*k:Nat):Int)),s3,hit18,sT,hC3,hr17.keep ho18 n1,hrb18,o17.trans ho18 fun y hy=>by simp only[lms]at hy;exact .inl (by rw[hy];simp)⟩ ?_
    ·rw[hl15,hit18.left];exact ltT
   ·rw[if_neg cn,Nat.add_zero]at hcs
    rw[dfl cn]
    refine gO ?_
    refine hnext _ w17 ⟨T.filter (·!=((2*k:Nat):Int)),s3,hit17,sT,hC3,hr17,by rw[hcs];exact hrb17,o17⟩ ?_
    ·rw[hl15,hit17.left];exact ltT
  have hT:T=[]:=by cases T with
   |nil=>rfl
   |cons a T=>cases h0
  subst hT
  rw[left_none]at hC2 hrb15
  have z15:=ho15.size
  have o15:Only (b::(fp++fr)) w w15:=o13.trans ho15 fun y hy=>by
   rcases List.mem_cons.1 hy with rfl|hy
   ·exact .inr (by omega)
   ·exact .inl (by simp[hy])
  have kp15:=kp13.keep ho15 bd
  have hB64:=hi.ok.b64
  have hob2:s2.objs=s.objs:=by rw[hC2.sam.objs,hC.sam.objs]
  obtain⟨s3,hkf,hK3⟩:=kill_all hC2.inv (heldB K S)
  have hall:(allH (some s2)).length≤5000:=by rw[allH_len,hob2];omega
  refine gO2 gb15.cell h9 ?_
  refine callT (cKill (keep:=heldB K S) (F:=55) (caps:=#[.pointer (some ⟨q,0,none⟩)]) hr15 (fun x hx=>by have:=(allH_mem.1 hx).le hC2.inv.ok;omega) hall hrb15 nrb (by kernel_rfl) fun w' y ho=>?_) ?_
  ·rw[hheld];exact vHeld2 (kp15.keep ho bd).q (kp15.keep ho bd).v (kp15.keep ho bd).k (kp15.keep ho bd).s y
  rintro _ w16 ⟨hrb16,hr16,ho16⟩
  rw[hkf]at hrb16 hr16
  simp only at hrb16 hr16
  have gb16:=gb15.keep ho16 bnr
  refine gO2 gb16.cell h9 ?_
  refine callT (cRelease hr16 (by rw[hK3.B,hC2.sam.B,hC.sam.B];exact hB64)) ?_
  rintro _ w17 ⟨hr17,ho17⟩
  have hrb17:=hrb16.keep ho17 nrb
  have gb17:=gb16.keep ho17 hbp
  obtain⟨⟨B4,e4⟩,i4⟩:=relAll_spec hK3.inv s3.B.length (Nat.le_refl _)
  obtain⟨s4,hs4'⟩: ∃s4,s4=relAll s3 s3.B.length:=⟨_,rfl⟩
  rw[←hs4']at hr17 i4 e4
  have hob4:s4.objs=s3.objs:=by rw[e4];rfl
  have hl4:s4.objs.length≤5000:=by rw[hob4,hK3.objs,hob2];exact Nat.le_trans (List.length_filter_le _ _) (by omega)
  refine gO2 gb17.cell h9 ?_
  refine callT (cDone hr17 hl4 hrb17) ?_
  rintro _ w18 ⟨hrb18,ho18⟩
  rw[used_fold i4]at hrb18
  have z16:=ho16.size
  have z17:=ho17.size
  have z18:=ho18.size
  have o3w:Only (rb::fp) w15 w18:=((ho16.trans ho17 fun y hy=>.inl (by simp[hy])).trans ho18 fun y hy=>.inl (by simp only[lms]at hy;rw[hy];simp))
  have o18:Only (b::(fp++fr)) w w18:=o15.trans o3w fun y hy=>by
   rcases List.mem_cons.1 hy with rfl|hy
   ·exact .inr (by omega)
   ·exact .inl (by simp[hy])
  have o13w:Only (rb::fp) w13 w18:=ho15.same o3w
  have rtn:rt∉rb::fp:=fun e=>by
   rcases List.mem_cons.1 e with e|e
   ·have:=hrtl.2;omega
   ·have:=hr.lt rt e;have:=hrtl.1;omega
  have hrt18:=hrt13.keep o13w rtn
  have hc18:cellsAt w18 ⟨rb,0,none⟩ 8=some [.int .i64 (s4.objs.length:Int),.int .i64 (wSum s4 s4.objs),.int .i64 ((s2.objs.filter fun i=>!heldB K S ((2*i:Nat):Int)).length:Int),.int .i64 (wSum s2 (s2.objs.filter fun i=>!heldB K S ((2*i:Nat):Int))),.int .i64 0,.int .i64 0,.int .i64 ((K.length+sv.length:Nat):Int),.int .i64 ((N1+clrC s1 (heldB K S) sv:Nat):Int)]:=by
   rw[cellsAt_at hrb18 0 8 (by simp)];rfl
  refine gO2 h9 hc18 ?_
  refine stNT (n:=8) (i:=0) hrt18 rfl (by simp[rep0]) (by simp[oneC]) fun w19 hs19 hat19 ho19=>?_
  rw[setL_rep0]at hat19
  have hc19:cellsAt w19 ⟨rt,0,none⟩ 8=some [.int .i64 (s4.objs.length:Int),.int .i64 (wSum s4 s4.objs),.int .i64 ((s2.objs.filter fun i=>!heldB K S ((2*i:Nat):Int)).length:Int),.int .i64 (wSum s2 (s2.objs.filter fun i=>!heldB K S ((2*i:Nat):Int))),.int .i64 0,.int .i64 0,.int .i64 ((K.length+sv.length:Nat):Int),.int .i64 ((N1+clrC s1 (heldB K S) sv:Nat):Int)]:=by
   rw[cellsAt_at hat19 0 8 (by simp)];rfl
  refine gO1 hc19 ?_
  have nrt: ∀y,y≠rt→y∉ [rt]:=fun y hy=>by simpa using hy
  have f13: ∀y,y∈fl1→y∉rb::fp:=nfp
  have frn: ∀y,y∈fr1→y∉rb::fp:=fun y hy e=>by
   rcases List.mem_cons.1 e with e|e
   ·rcases gfr1 y hy with h'|h'
    ·have:=hR.lt y h';omega
    ·have:=hrb9.lt;omega
   ·rcases gfr1 y hy with h'|h'
    ·exact hpr y e h'
    ·have:=hr.lt y e;omega
  have frt: ∀y,y∈fr1→y≠rt:=fun y hy e=>by
   have:=hrtl
   rcases gfr1 y hy with h'|h'
   ·have:=hR.lt y h';omega
   ·omega
  have fvn: ∀y,y∈fpv→y∉rb::fp∧y≠rt:=fun y hy=>⟨fun e=>by
   have:=gv13 y hy
   rcases List.mem_cons.1 e with e|e
   ·have:=hrb9.lt;omega
   ·have:=hr.lt y e;omega,by have:=gv13 y hy;have:=hrtl.2;omega⟩
  have hidn:(idl n).length=n:=by
   rw[hidl]
   simp only[List.length_map,List.length_take]
   omega
  refine⟨s4,{R with Q:=R.Q++o.take n},Lf n,idl n,[(s4.objs.length:Int),wSum s4 s4.objs,((s2.objs.filter fun i=>!heldB K S ((2*i:Nat):Int)).length:Int),wSum s2 (s2.objs.filter fun i=>!heldB K S ((2*i:Nat):Int)),0,0,((K.length+sv.length:Nat):Int),((N1+clrC s1 (heldB K S) sv:Nat):Int)],K,S,o,s1,s2,s3,n,g13 12,fpv,fl1,fr1,
   ⟨kpt,kpt2,hO,hn,hC,by rw[←hsv];exact hC2,hK3,hs4',rfl,by rw[hidl],by rw[hLf],by rw[hN1,hsv]⟩,rfl,?_,?_,?_,?_,?_,?_,?_,?_,?_⟩
  ·exact(hr17.keep ho18 fun y hy e=>nrb (by simp only[lms]at e;exact e▸hy)).keep ho19 fun y hy=>nrt y (by have:=hr.lt y hy;have:=hrtl.1;omega)
  ·exact(hR13.keep o13w frn).keep ho19 fun y hy=>nrt y (frt y hy)
  ·exact(hg13.keep o13w bnr nfp).keep ho19 (nrt b (by have:=hrtl.1;omega)) fun y hy=>nrt y (by have:=gfl1 y hy;have:=hrtl.2;omega)
  ·rw[hidn]
   exact(hv13.keep o13w fun y hy=>(fvn y hy).1).keep ho19 fun y hy=>nrt y (fvn y hy).2
  ·exact o18.trans ho19 fun y hy=>by simp only[lms]at hy;exact .inr (by have:=hrtl.1;omega)
  ·intro y hy
   exact(gfr1 y hy).imp id fun h'=>by omega
  ·exact fun y hy=>(fl5 y hy).1
  ·intro y hy e
   have:=fl5 y hy
   rcases gfr1 y e with h'|h'
   ·have:=hR.lt y h';omega
   ·omega
  ·intro y hy;have:=gv13 y hy;omega
section
variable {s s1 s2 s3 s4:HL} {x:Int} {K L' S ids o rep:List Int} {n:Nat} {R':Rt.MS}
def eA0:HO:=newH 4
def eA1:HO:=claimM eA0 1 1 (1,0) (0,0)
def eA2:HO:=placeM eA1 64 (0,0,0)
def eA3:HO:=placeM eA2 66 (1,0,0)
def eA4:HO:=setRefM eA3 66 0 64
def rA:Rt.MS:=⟨1,List.replicate 16 0,List.replicate 16 0,[]⟩
theorem eA_f1:claimE eA0 1 1 (1,0)=0∧(placeR eA1 64 (0,0,0)).2=0∧(placeR eA2 66 (1,0,0)).2=0∧setRefE eA3 66 0 64=0∧eA1.map HL.born=some 0∧eA2.map HL.born=some 1:=by decide+kernel
theorem eA_f2:eA4.map (fun s=>(s.objs,adO s 1,adO s 2,idA s 64,idA s 66))=some ([32,33],some 64,some 66,1,2):=by decide+kernel
theorem eA_f3:eA4.map (fun s=>(regE s [] 64,regL s [] 64,regE s [1] 66,regL s [1] 66,tidyL s [1,2]))=some (0,[1],0,[1,2],[1,2]):=by decide+kernel
theorem eA_f4:eA4.map (fun s=>((s.obAt 32).rf,(s.obAt 33).rf,strongO (some s) 64,strongO (some s) 66))=some ([],[64],[],[64]):=by decide+kernel
theorem eA_f5:eA4.map (fun s=>s.B.length)=some 4:=by decide+kernel
theorem rA_leads:Rt.leadsO (some rA)=[]:=by decide+kernel
theorem eA_inv: ∃s,eA4=some s∧s.Inv:=by
 obtain⟨s0,e0,i0,_⟩:=new_inv (n:=4) (by omega) (by omega)
 have e0:eA0=some s0:=e0
 obtain⟨s1,e1,_,i1,_⟩:=(abs_claim i0 1 0).2
 have e1':eA1=some s1:=by unfold eA1;rw[e0];exact e1
 obtain⟨s2,e2,_,i2,_⟩:=abs_place i1 64 (0,0,0)
 have e2':eA2=some s2:=by unfold eA2;rw[e1'];exact e2
 obtain⟨s3,e3,_,i3,_⟩:=abs_place i2 66 (1,0,0)
 have e3':eA3=some s3:=by unfold eA3;rw[e2'];exact e3
 obtain⟨s4,e4,_⟩:=abs_setRef i3.ok 66 0 64
 refine⟨s4,by unfold eA4;rw[e3'];exact e4,i3.setRef e4 (setRef_Ok i3.ok e4)⟩
structure ExA (s:HL):Prop where
 inv:s.Inv
 objs:s.objs=[32,33]
 ad1:adO s 1=some 64
 ad2:adO s 2=some 66
 id1:idA s 64=1
 id2:idA s 66=2
 rf1:(s.obAt 32).rf=[]
 rf2:(s.obAt 33).rf=[64]
 st1:strongO (some s) 64=[]
 st2:strongO (some s) 66=[64]
 reg1:regE s [] 64=0∧regL s [] 64=[1]
 reg2:regE s [1] 66=0∧regL s [1] 66=[1,2]
 td:tidyL s [1,2]=[1,2]
 B:s.B.length=4
theorem exA: ∃s,eA4=some s∧ExA s:=by
 obtain⟨s,e,hi⟩:=eA_inv
 have f1:=eA_f2
 have f2:=eA_f3
 have f3:=eA_f4
 have f4:=eA_f5
 rw[e]at f1 f2 f3 f4
 simp only[Option.map_some,Option.some.injEq,Prod.mk.injEq]at f1 f2 f3 f4
 exact⟨s,e,hi,f1.1,f1.2.1,f1.2.2.1,f1.2.2.2.1,f1.2.2.2.2,f3.1,f3.2.1,f3.2.2.1,f3.2.2.2,⟨f2.1,f2.2.1⟩,⟨f2.2.2.1,f2.2.2.2.1⟩,f2.2.2.2.2,f4⟩
theorem rA_zero {P:Int→Prop} (h0:P 0):RtP P rA:=⟨fun x hx=>by rw[(List.mem_replicate.1 hx).2];exact h0,fun x hx=>by rw[(List.mem_replicate.1 hx).2];exact h0,fun x hx=>absurd hx (by simp[rA])⟩
theorem ExA.snd (h:ExA s):Snd true s rA:=by
 refine⟨fun ob hob r hr=>?_,rA_zero (.inl rfl)⟩
 obtain⟨i,hio,rfl⟩:=List.mem_map.1 hob
 rw[h.objs]at hio
 simp only[List.mem_cons,List.not_mem_nil,or_false]at hio
 rcases hio with rfl|rfl
 ·rw[h.rf1]at hr;simp at hr
 ·rw[h.rf2]at hr
  simp only[lms]at hr
  subst hr
  exact .inr ⟨rfl,32,rfl,mem_objs.1 (by rw[h.objs];simp)⟩
theorem kpt_none {F:List Int} (h:Kpt s F K) (hF: ∀x,x∈F→ ¬Liv s x):K=[]:=by
 have: ∀x,x∈K→False:=h.ind (fun _=>False) ⟨fun x hx hl=>hF x hx hl,fun _ _ _ hp _ _=>hp,fun _ _ hp _ _ _=>hp⟩
 cases K with
 |nil=>rfl
 |cons x K=>exact absurd (List.mem_cons_self) (this x)
theorem rs_none {y:Int} (h:strongO (some s) x=[]): ¬Rs s x y:=by
 intro e
 induction e with
 |one e=>rw[h]at e;simp at e
 |more _ _ ih=>exact ih
theorem ordr_one (h:Ordr s [x] o):o=[x]:=by
 have:=ordr_mem h
 exact List.perm_singleton.1 this
theorem ExA.first (h:ExA s) (c:ColX s rA [1,2] s4 R' L' ids rep K S o s1 s2 s3 n):
  s4.objs.length=2∧L'=[]∧ids=[2,1]∧R'= {rA with Q:=[66,64]}∧rep.getD 0 0=2:=by
 have hl:=rA_leads
 have l64:Liv s 64:=⟨32,rfl,mem_objs.1 (by rw[h.objs];simp)⟩
 have l66:Liv s 66:=⟨33,rfl,mem_objs.1 (by rw[h.objs];simp)⟩
 have hK:K=[]:=kpt_none c.kpt fun x hx=>by rw[hl]at hx;simp at hx
 subst hK
 have hD:deadL s [1,2] []=[64,66]:=by
  unfold deadL listA
  simp[h.ad1,h.ad2]
 have hk2:=c.kpt2
 rw[hl,hD]at hk2
 have hSl:S.length=2:=by
  have h1:=nodup_le hk2.nd hk2.liv
  rw[h.objs]at h1
  have h2:([64,66]:List Int).length≤S.length:=nodup_sub (by decide) fun x hx=>hk2.cls.f x (by simpa using hx) (by
   simp only[List.mem_cons,List.not_mem_nil,or_false]at hx
   rcases hx with rfl|rfl
   ·exact l64
   ·exact l66)
  simp only[List.length_cons,List.length_nil]at h1 h2
  omega
 have b1:bef s 66 64=true:=bef_iff.2 ⟨.one (by rw[h.st2];simp),rs_none h.st1⟩
 have b2:bef s 64 66=false:=by
  rw[Bool.eq_false_iff]
  exact fun e=>rs_none h.st1 (bef_iff.1 e).1
 have ho:o=[66,64]:=by
  have:=c.ord
  rw[hD]at this
  cases this with
  |@cons _ o' i hi h1 h2 h3=>
   have hi2:i<2:=hi
   have:i=1:=by
    have:i=0∨i=1:=by omega
    rcases this with rfl|rfl
    ·simp[b1]at h2
    ·rfl
   subst this
   have e:([64,66]:List Int).eraseIdx 1=[64]:=rfl
   rw[e]at h3
   rw[ordr_one h3];rfl
 have hn:n=2:=by rw[c.nn,ho];rfl
 have hids:ids=[2,1]:=by rw[c.ii,ho,hn];simp[h.id1,h.id2]
 have hlen:=c.len.trans hSl
 refine⟨hlen,?_,hids,?_,?_⟩
 ·rw[c.LL,h.td,hids];decide
 ·rw[c.RR,ho,hn];rfl
 ·rw[c.rp,hlen];rfl
theorem ColX.none (s:HL) {R:Rt.MS} (c:ColX s R [] s4 R' L' ids rep K S o s1 s2 s3 n) (hl:Rt.leadsO (some R)=[]):rep.getD 2 0=(s.objs.length:Int):=by
 have hK:K=[]:=kpt_none c.kpt fun x hx=>by rw[hl]at hx;simp at hx
 have hS:S=[]:=kpt_none c.kpt2 fun x hx=>by
  rw[hl]at hx
  unfold deadL listA at hx
  simp at hx
 subst hK hS
 rw[c.rp]
 show((s2.objs.filter fun i=>!heldB [] [] ((2*i:Nat):Int)).length:Int)=_
 rw[show(fun i:Nat=>!heldB [] [] ((2*i:Nat):Int))=fun _=>true from funext fun i=>by simp[heldB,savL],List.filter_eq_self.2 fun _ _=>rfl,c.c2.sam.objs,c.c1.sam.objs]
end
section
set_option maxRecDepth 20000
variable {s:HL} {a:Int} {A L:List Int} {b:Nat} {R:Rt.MS} {w:World}
theorem cKept {hb rb:Nat} {p2 p3:Value} {fh fr:List Nat} (hat:At w b [.pointer (some ⟨hb,0,none⟩),.pointer (some ⟨rb,0,none⟩),p2,p3]) (hi:s.Inv) (hn:s.objs.length≤2000) (hh:HR w (some ⟨hb,0,none⟩) fh (some s)) (hr:Rt.PR w (some ⟨rb,0,none⟩) fr (some R)) (hp: ∀x,x∈R.V→0≤x):
  Cs Tryz.prog 18 [.pointer (some ⟨b,0,none⟩)] w fun v w'=>Only [] w w'∧ ∃K fK,Sl w' 1 v K.length (ints K) fK∧(∀y,y∈fK→w.heap.size≤y)∧KptT s true (Rt.leadsO (some R)) K:=by
 have hRok:R.Ok:=by obtain⟨_,_,_,_,_,_,_,_,_,hpm⟩:=hr;exact hpm.ok
 refine enter_law12_Scene_Kept rfl ?_
 unfold x_law12_Scene_Kept
 refine gO ?_
 refine run_drt [b] ?_
 have od:=Only.drew [] w
 have hd:=hat.keep0 od
 have lts: ∀z,z∈[b]→z<w.drew.heap.size∧z∉([]:List Nat):=fun z hz=>by simp only[lms]at hz;subst hz;exact⟨hd.lt,by simp⟩
 have sb0:SB [b] w.drew w.drew:=SB.refl _ _
 refine gO1 hd.cell ?_
 refine callS (cRead (hh.keep0 od) hi) ?_
 rintro _ w1 ⟨ho1,q1,f1,rfl,hf1,g1⟩
 refine⟨.inr (sb0.only ho1 lts),?_⟩
 refine gO ?_
 refine callS (cReadRoots (hr.keep0 (od.nil ho1)) hp) ?_
 rintro _ w2 ⟨ho2,q2,f2,rfl,hf2,g2⟩
 refine⟨.inl rfl,?_⟩
 refine gO ?_
 refine callS (Rt.rLeads hf2) ?_
 rintro vl w3 ⟨ho3,f3,hs3,g3⟩
 refine⟨.inl rfl,?_⟩
 have hll:(Rt.leadsO (some R)).length≤5000:=by
  have h1:=Rt.foldl_addNew_length ((Rt.filled R).map (·.2)) []
  have h2:(Rt.filled R).length≤R.V.length:=by
   rw[Rt.filled_idx hRok,List.length_map,Rt.V_length hRok]
   exact Rt.idx_length
  have:=Rt.V_le hRok
  have e:Rt.leadsO (some R)=((Rt.filled R).map (·.2)).foldl Rt.addNew []:=rfl
  rw[e]
  simp only[List.length_nil,List.length_map]at h1
  omega
 refine gO ?_
 refine callS (cReach (tb:=true) hi hn ((hf1.keep0 ho2).keep0 ho3) hs3 hll) ?_
 rintro vK w4 ⟨ho4,K,fK,hK,gK,kpt⟩
 refine⟨.inl rfl,?_⟩
 have o3:=((od.nil ho1).nil ho2).nil ho3
 refine gO ?_
 exact⟨o3.nil ho4,K,fK,hK,fun y hy=>by have:=gK y hy;have:=o3.size;omega,kpt⟩
theorem fAt {fp:List Nat} (hi:s.Inv) (h:FM w b s.abs fp) (x:Int):Cs Tryz.prog 21 [.pointer (some ⟨b,0,none⟩),.int .i64 x] w fun v w'=>v=.tuple #[.int .i64 (adE s x).1,.int .i64 (adE s x).2]∧w'=w:=by
 obtain⟨_,vO,_,_,_,_,L,hfpe,hm⟩:=id h
 obtain⟨lL,lob⟩:=hm.ob (s0:=s) rfl
 obtain⟨av,cv,rfl⟩:=hm.valO
 have hB:=hi.ok.b64
 have hol:=hm.ok.ol
 have hol2:s.abs.O.length=s.objs.length:=abs_len s
 refine enter_ref02_Heap_At rfl ?_
 unfold x_ref02_Heap_At
 refine gO ?_
 refine callT0 (fMade h) ?_
 refine gO ?_
 refine run_loop (6::10::11::12::13::14::15::16::17::18::19::20::21::22::23::24::25::26::27::28::29::30::31::32::33::34::35::36::[]) (fun g w'=> ∃i:Nat,g 6=.int .i64 (i:Int)∧i≤L.length∧(∀j,j<i→(L.getD j default).o.id≠x)∧w'=w) (fun g _=>upTo L.length 6 g)
  ⟨0,by simp only[go_sem];rfl,by omega,fun j hj=>absurd hj (by omega),rfl⟩ fun g w1 hI hnext=>?_
 obtain⟨i,h6,hil,hno,rfl⟩:=hI
 by_cases c:i<L.length
 rotate_left
 ·have en:adO s x=none:=by
   cases e:adO s x with
   |none=>rfl
   |some a=>
    unfold adO at e
    cases e2:getM s.pl x with
    |none=>rw[e2]at e;cases e
    |some v=>
     obtain⟨k,hk,_,hw⟩:=hi.pm.b x v e2
     obtain⟨j,hj,hje⟩:=objs_index hk
     have:=hno j (by omega)
     rw[(lob j hj).1,hje]at this
     exact absurd hw this
  refine gO3 h6 hm.hb.cell (dfl (show¬(i:Int)<(L.length:Int) by omega)) ?_
  unfold adE
  rw[en]
 have ci:(0:Int)≤(i:Int)∧(i:Int)<(L.length:Int):=by omega
 obtain⟨gc,cc,ys,e1,rowc,_,_⟩:=hm.row (by omega)
 cases e1
 have c1:w1.cell? ⟨gc,i*8+1,none⟩=some (.int .i64 (L.getD i default).o.id):=by rw[rowc.cell,omV_cell ys c (by omega)];rfl
 have c0:w1.cell? ⟨gc,i*8,none⟩=some (.int .i64 (L.getD i default).o.a):=by
  have:=omV_cell (j:=0) ys c (by omega)
  rw[Nat.add_zero]at this
  rw[rowc.cell,this];rfl
 by_cases cx:(L.getD i default).o.id=x
 ·have hk:=mem_objs.1 (show s.objs.getD i 0∈s.objs by simp[show i<s.objs.length by omega])
  have eo:=(lob i (by omega)).1
  have ea:adO s x=some (L.getD i default).o.a:=by
   rw[←cx,eo]
   unfold adO
   have:=hi.pm.a _ hk
   rw[show(s.obAt (s.objs.getD i 0)).id=s.W.getD (2*s.objs.getD i 0) 0 from rfl,this];rfl
  refine gJ7 h6 hm.hb.cell (dtr ci.2) (eq_true ci) c1 c0 (bqt cx) ?_
  unfold adE
  rw[ea]
 ·(repeat(first|with_reducible(first|refine nx ?_|refine r_6 rfl ?_)|simp only[go_sem,h6,hm.hb.cell,dtr ci.2,if_pos ci,tnc,c1,c0,bqf cx,i64_succ i (by omega)]))
  refine hnext _ w1 ⟨i+1,?_,by omega,fun j hj=>?_,rfl⟩ ?_
  ·simp only[go_sem]
  ·by_cases e:j=i
   ·subst e;exact cx
   ·exact hno j (by omega)
  ·exact up_lt h6
theorem RT0 (h:Snd true s R) (hs:s.Ok): ∀x,x∈R.V→0≤x:=fun x hx=>by
 unfold Rt.MS.V at hx
 rcases List.mem_append.1 hx with hx|hx
 ·rcases List.mem_append.1 hx with hx|hx
  ·exact((h.2.1 x hx).le hs).1
  ·exact((h.2.2.1 x hx).le hs).1
 ·exact((h.2.2.2 x hx).le hs).1
structure RgA (s:HL) (L A:List Int):Prop where
 e:L=A.map (idA s)
 nd:A.Nodup
 liv: ∀a,a∈A→Liv s a
theorem adO_id (hi:s.Inv) (h:Liv s a):adO s (idA s a)=some a:=by
 obtain⟨k,rfl,hk⟩:=h
 have h1:=hi.pm.a _ hk
 have e:idA s ((2*k:Nat):Int)=s.W.getD (2*k) 0:=by
  unfold idA;rw[at_ident hi.ok hk];rfl
 rw[e]
 unfold adO
 rw[h1]
theorem idA_inj (hi:s.Inv) {c:Int} (ha:Liv s a) (hc:Liv s c) (e:idA s a=idA s c):a=c:=by
 have h1:=adO_id hi ha
 rw[e,adO_id hi hc]at h1
 exact(Option.some.inj h1).symm
theorem RgA.list (hi:s.Inv) (h:RgA s L A):listA s L=A:=by
 rw[h.e]
 unfold listA
 rw[List.filterMap_map]
 have: ∀l:List Int,(∀a,a∈l→Liv s a)→l.filterMap (adO s∘idA s)=l:=fun l=>by
  induction l with
  |nil=>intro _;rfl
  |cons a l ih=>
   intro hl
   rw[List.filterMap_cons_some (show(adO s∘idA s) a=some a from adO_id hi (hl a (by simp))),ih fun b hb=>hl b (by simp[hb])]
 exact this A h.liv
theorem RgA.tidy (hi:s.Inv) (h:RgA s L A):tidyL s L=L:=by
 unfold tidyL
 refine List.filter_eq_self.2 fun x hx=>?_
 rw[h.e]at hx
 obtain⟨a,ha,rfl⟩:=List.mem_map.1 hx
 rw[adO_id hi (h.liv a ha)];rfl
theorem RgA.mem (hi:s.Inv) (h:RgA s L A) (ha:Liv s a):idA s a∈L↔a∈A:=by
 rw[h.e,List.mem_map]
 constructor
 ·rintro⟨c,hc,e⟩
  rw[←idA_inj hi (h.liv c hc) ha e];exact hc
 ·intro hc;exact⟨a,hc,rfl⟩
theorem identO_live (hi:s.Inv) (h:Liv s a):identO (some s) a=(idA s a,0):=by
 obtain⟨k,rfl,hk⟩:=h
 unfold idA
 rw[at_ident hi.ok hk]
theorem RgA.reg (hi:s.Inv) (h:RgA s L A) (hl:A.length<64) (ha:Liv s a):regE s L a=(if a∈A then 8 else 0)∧regL s L a=(if a∈A then L else L++[idA s a]):=by
 have hL:L.length=A.length:=by rw[h.e,List.length_map]
 unfold regE regL
 rw[identO_live hi ha,h.tidy hi]
 simp only[ne_eq,not_true_eq_false,if_false]
 by_cases c:a∈A
 ·rw[if_pos c,if_pos c,if_pos ((h.mem hi ha).2 c),if_pos ((h.mem hi ha).2 c)]
  exact⟨rfl,rfl⟩
 ·have c':=fun e=>c ((h.mem hi ha).1 e)
  rw[if_neg c,if_neg c,if_neg c',if_neg c',if_neg (by omega),if_neg (by omega)]
  exact⟨rfl,rfl⟩
theorem RgA.add (h:RgA s L A) (ha:Liv s a) (hn:a∉A):RgA s (L++[idA s a]) (A++[a]):=by
 refine⟨by rw[h.e,List.map_append];rfl,?_,fun c hc=>?_⟩
 ·rw[List.nodup_append]
  refine⟨h.nd,List.pairwise_singleton _ _,fun x hx y hy e=>?_⟩
  simp only[lms]at hy
  exact hn (by rw[←hy,←e];exact hx)
 ·rcases List.mem_append.1 hc with hc|hc
  ·exact h.liv c hc
  ·simp only[lms]at hc;rw[hc];exact ha
end
section
set_option maxRecDepth 8000
variable {h0 h1:Nat} {w:World}
theorem cInts {va vb:Value} {xs ys:List Int} {fa fb:List Nat} (ha:Sl w 1 va xs.length (ints xs) fa) (hb:Sl w 1 vb ys.length (ints ys) fb) (hl:xs.length≤100000):
  Cs Tryz.prog 15 [va,vb] w fun v w'=>v=.bool (decide (xs=ys))∧Only [] w w':=by
 obtain⟨aa,ca,rfl⟩:=ha.val
 obtain⟨ab,cb,rfl⟩:=hb.val
 refine enter_law12_Ints rfl ?_
 unfold x_law12_Ints
 by_cases c0:xs.length=ys.length
 rotate_left
 ·refine gO1 (bnt (show¬(xs.length:Int)=(ys.length:Int) by omega)) ?_
  exact⟨by rw[dfl (fun e=>c0 (by rw[e]))],Only.refl _ _⟩
 refine gO1 (bnf (show(xs.length:Int)=(ys.length:Int) by omega)) ?_
 refine run_loop (5::11::12::13::14::15::16::17::18::19::20::21::22::23::24::25::[]) (fun g w'=> ∃i:Nat,g 5=.int .i64 (i:Int)∧i≤xs.length∧(∀j,j<i→xs.getD j 0=ys.getD j 0)∧Only [] w w') (fun g _=>upTo xs.length 5 g) ⟨0,by simp only[go_sem];rfl,by omega,fun j hj=>absurd hj (by omega),Only.refl _ _⟩ fun g w1 hI hnext=>?_
 obtain⟨i,h5,hi,heq,ho⟩:=hI
 by_cases c1:i<xs.length
 rotate_left
 ·refine gO2 h5 (dfl (show¬(i:Int)<(xs.length:Int) by omega)) ?_
  refine⟨?_,ho⟩
  rw[dtr]
  refine List.ext_getElem c0 fun j h1 h2=>?_
  have:=heq j (by omega)
  simpa[List.getD_eq_getElem?_getD,h1,h2]using this
 obtain⟨ga,_,ya,ea,hata,_,_⟩:=(ha.keep0 ho).pos (by omega)
 obtain⟨gb,_,yb,eb,hatb,_,_⟩:=(hb.keep0 ho).pos (by omega)
 cases ea
 cases eb
 have ci:(0:Int)≤(i:Int)∧(i:Int)<(xs.length:Int):=by omega
 have ci':(0:Int)≤(i:Int)∧(i:Int)<(ys.length:Int):=by omega
 have da:w1.drew.cell? ⟨ga,i,none⟩=some (.int .i64 (xs.getD i 0)):=by rw[hata.drew.cell];exact ints_append_get ya (by omega)
 have db:w1.drew.cell? ⟨gb,i,none⟩=some (.int .i64 (ys.getD i 0)):=by rw[hatb.drew.cell];exact ints_append_get yb (by omega)
 have od:=ho.nil (Only.drew [] w1)
 by_cases c2:xs.getD i 0=ys.getD i 0
 ·(repeat(first|with_reducible(first|refine nx ?_|refine r_6 rfl ?_)|simp only[go_sem,h5,dtr ci.2,if_pos ci,if_pos ci',tnc,Nat.mul_one,da,db,bnf c2,i64_succ i (by omega)]))
  refine hnext _ _ ⟨i+1,?_,by omega,fun j hj=>?_,od⟩ ?_
  ·simp only[go_sem]
  ·by_cases e:j=i
   ·rw[e];exact c2
   ·exact heq j (by omega)
  ·exact up_lt h5
 ·refine gJ7 h5 (dtr ci.2) (eq_true ci) (eq_true ci') da db (bnt c2) ?_
  exact⟨by rw[dfl (fun e=>c2 (by rw[e]))],od⟩
theorem U8At.up {v:Value} {n sz:Nat} {f:Nat→Nat→Nat} (h:U8At h0 w v n sz f) (hh:h0≤h1):U8At h1 w v n sz f:=by
 obtain⟨a,c,e,hf,hc⟩:=h
 exact⟨a,c,e,hf,fun i hi=>by obtain⟨p,e1,e2,e3⟩:=hc i hi;exact⟨p,e1,by omega,e3⟩⟩
theorem BegAt.keep0 {w':World} {cs:List Value} {g:BG} {vO vD vL vP vN:Value} (h:BegAt h0 w cs g vO vD vL vP vN) (hz:h0≤w.heap.size) (hh:h0≤h1) (o:Only [] w w'):BegAt h1 w' cs g vO vD vL vP vN:=
 ⟨h.e,h.l0,h.l1,(h.o.keep hz o (by simp)).up hh,(h.d.keep hz o (by simp)).up hh,(h.l.keep hz o (by simp)).up hh,(h.p.keep hz o (by simp)).up hh,(h.n.keep hz o (by simp)).up hh⟩
end
structure Bgn (g:BG) (w0 w:World) (nl b hb rb qb kb:Nat) (s:HL) (R:Rt.MS) (fh fr ff fk:List Nat) (gb:Nat) (L A:List Int) (flr:List Nat):Prop where
 sc:SCs w b hb rb qb kb s R fh fr ff fk
 rg:RG w gb ⟨hb,0,none⟩ (some ⟨rb,0,none⟩) L flr
 ra:RgA s L A
 n1:A.length≤nl
 n2:A.length≤40
 sz:Sz s 40 (2+g.bl%23)
 sn:Snd true s R
 op:OpenR g (s,R)
 ge: ∀y,y∈b::(fh++(fr++(ff++fk)))→w0.heap.size≤y
 gg:w0.heap.size≤gb
 ng:gb∉b::(fh++(fr++(ff++fk)))
 nl: ∀y,y∈flr→y∉b::(fh++(fr++(ff++fk)))
 gl: ∀y,y∈flr→w0.heap.size≤y
theorem atS_live {s:HL} {n:Nat} (h:atS s n≠0):Liv s (atS s n):=((atS_ph s n).resolve_left h).2
set_option maxHeartbeats 1000000 in
theorem cBegun {w:World} {cs:List Value} {g:BG} {vO vD vL vP vN vl:Value} {nl:Nat} {fl:Nat→Nat→Nat} (h:BegAt w.heap.size w cs g vO vD vL vP vN) (hl:U8At w.heap.size w vl nl 1 fl):
  Cs Tryz.prog 9 [.agg ⟨cs⟩,vl] w fun v w'=>Only [] w w'∧ ∃b hb rb qb kb s R fh fr ff fk gb L A flr,v=.tuple #[.pointer (some ⟨b,0,none⟩),.pointer (some ⟨gb,0,none⟩)]∧Bgn g w w' nl b hb rb qb kb s R fh fr ff fk gb L A flr:=by
 have hcs:=h.e
 refine enter_law20_begun rfl ?_
 unfold x_law20_begun
 refine gO ?_
 refine boxT fun q w1 hq hs1 hat1 ho1=>?_
 have hz1:=ho1.size
 have hc1:cellsAt w1 ⟨q,0,none⟩ 7=some cs:=by rw[cellsAt_at hat1 0 7 (by rw[hcs];simp),hcs];rfl
 have hg1:=h.keep0 (Nat.le_refl _) hz1 ho1
 refine gO1 hc1 ?_
 refine callT (cOpen1 hg1) ?_
 rintro _ w2 ⟨b,rfl,s,R,fp,⟨hb,rb,qb,kb,fh,fr,ff,fk,rfl,sc⟩,gfp,ho2,sz,sn,op⟩
 have z2:=ho2.size
 have o2:=ho1.nil ho2
 refine gO ?_
 refine run_drt [b] ?_
 have od:=Only.drew [] w2
 have scd:=sc.keep0 od
 refine gO1 scd.at_.cell ?_
 have hRok:=sc.Rok
 have hmu:Rt.mutO (some R)≠0:=by
  have:=hRok.m1
  show(R.M:Int)≠0
  omega
 refine callS (gNew scd.h sc.inv.ok scd.r hmu) ?_
 rintro _ w3 ⟨ho3,gb,rfl,hg3,ggb⟩
 refine⟨.inl rfl,?_⟩
 have o23:=od.nil ho3
 have o3:=o2.nil o23
 have z3:=o23.size
 have sc3:=sc.keep0 o23
 have ggb2:w2.heap.size≤gb:=ggb
 obtain⟨al,cl,rfl,fb,hcl⟩:=id hl
 have flt:=sc.lt
 have ngb:gb∉b::(fh++(fr++(ff++fk))):=fun e=>by have:=flt gb e;omega
 have hbfh:gb∉fh:=fun e=>ngb (by simp[e])
 refine gO1 (bnf (rfl:(0:Int)=0)) ?_
 refine run_loop (9::10::11::34::35::36::37::38::39::40::41::42::43::44::45::46::47::48::49::50::51::52::53::54::55::56::57::58::59::60::61::62::[]) (fun g' w'=> ∃(i:Nat) (L A:List Int) (flr:List Nat),g' 9=.int .i64 (i:Int)∧i≤40∧i≤nl∧RgA s L A∧A.length≤i∧RG w' gb ⟨hb,0,none⟩ (some ⟨rb,0,none⟩) L flr∧(∀y,y∈flr→w3.heap.size≤y)∧Only [gb] w3 w') (fun g' _=>upTo 40 9 g')
  ⟨0,[],[],[],by simp only[go_sem];rfl,by omega,by omega,⟨rfl,List.nodup_nil,by simp⟩,by simp,hg3,by simp,Only.refl _ _⟩ fun g4 w4 hI hnext=>?_
 obtain⟨i,L,A,flr,h9,hi40,hinl,ra,hA,hg4,gfl,ho4⟩:=hI
 have z4:=ho4.size
 have keepF: ∀ {S:List Nat},(∀x,x∈S→x∈b::(fh++(fr++(ff++fk))))→ ∀x,x∈S→x∉ [gb]:=fun hS x hx e=>by
  simp only[lms]at e
  exact ngb (e▸hS x hx)
 have sc4:SCs w4 b hb rb qb kb s R fh fr ff fk:=sc3.keep ho4 (keepF fun _ h=>h)
 have o4:Only [] w w4:=o3.trans ho4 fun y hy=>by simp only[lms]at hy;exact .inr (by omega)
 have bgn:Bgn g w w4 nl b hb rb qb kb s R fh fr ff fk gb L A flr:=⟨sc4,hg4,ra,by omega,by omega,sz,sn,op,fun y hy=>by have:=gfp y hy;omega,by omega,ngb,fun y hy e=>by have:=gfl y hy;have:=flt y e;omega,fun y hy=>by have:=gfl y hy;have:=o3.size;omega⟩
 by_cases c1:i<nl
 rotate_left
 ·refine gO2 h9 (dfl (show¬(i:Int)<(nl:Int) by omega)) ?_
  exact⟨o4,b,hb,rb,qb,kb,s,R,fh,fr,ff,fk,gb,L,A,flr,rfl,bgn⟩
 by_cases c2:i<40
 rotate_left
 ·refine gO3 h9 (dtr (show(i:Int)<(nl:Int) by omega)) (dfl (show¬(i:Int)<40 by omega)) ?_
  exact⟨o4,b,hb,rb,qb,kb,s,R,fh,fr,ff,fk,gb,L,A,flr,rfl,bgn⟩
 have ci:(0:Int)≤(i:Int)∧(i:Int)<(nl:Int):=by omega
 obtain⟨p,rfl,hp1,hp2⟩:=hcl i c1
 have m100:((fl i 0:Nat):Int).tmod 100=((fl i 0%100:Nat):Int):=tmodN _ 100
 have hc0:w4.cell? (p.add i)=some (u8V (fl i 0)):=by
  have:=hp2 0 (by omega)
  rw[Nat.mul_one]at this
  rw[cell_of_heap (w:=w) (w':=w4) (by rw[add_block];exact o4.block _ hp1 (by simp))]
  exact this
 have z1:=i64_succ i (by omega)
 have hA64:A.length<64:=by omega
 (repeat(first|with_reducible(first|refine nx ?_|refine r_6 rfl ?_)|simp only[go_sem,h9,dtr ci.2,dtr (show(i:Int)<40 by omega),if_pos ci,tnc,Nat.mul_one,hc0,u8V,conv_u8 (fl i 0) (fb i 0),m100]))
 refine callT (cAt sc4 (fl i 0%100) (by omega)) ?_
 rintro _ w5 ⟨rfl,ho5⟩
 obtain⟨y,hy⟩: ∃y,y=atS s (fl i 0%100):=⟨_,rfl⟩
 have hyle:=atS_le sc.inv.ok (fl i 0%100)
 rw[←hy]at hyle⊢
 by_cases c0:y=0
 ·refine gO3 (bnf c0) h9 z1 ?_
  refine hnext _ w5 ⟨i+1,L,A,flr,?_,by omega,by omega,ra,by omega,hg4.keep0 ho5,gfl,ho4.nil ho5⟩ ?_
  ·simp only[go_sem]
  ·exact up_lt h9
 have hlv:Liv s y:=by rw[hy]at c0⊢;exact atS_live c0
 refine gO1 (bnt c0) ?_
 refine callT (gRegister (hg4.keep0 ho5) (by rw[ra.e,List.length_map];omega) (sc4.h.keep0 ho5) sc.inv hbfh y (by omega)) ?_
 rintro _ w6 ⟨rfl,f6,hg6,ho6,gf6⟩
 obtain⟨r1,r2⟩:=ra.reg sc.inv hA64 hlv
 rw[r2]at hg6
 rw[r1]
 have z5:=ho5.size
 have gf6': ∀y,y∈f6→w3.heap.size≤y:=fun y hy=>(gf6 y hy).elim (gfl y) fun h'=>by omega
 by_cases cm:y∈A
 ·rw[if_pos cm]at hg6
  rw[if_pos cm]
  refine gO4 (bnt (show¬(8:Int)=0 by omega)) (bnf (rfl:(8:Int)=8)) h9 z1 ?_
  refine hnext _ w6 ⟨i+1,L,A,f6,?_,by omega,by omega,ra,by omega,hg6,gf6',(ho4.nil ho5).same ho6⟩ ?_
  ·simp only[go_sem]
  ·exact up_lt h9
 ·rw[if_neg cm]at hg6
  rw[if_neg cm]
  refine gO3 (bnf (rfl:(0:Int)=0)) h9 z1 ?_
  refine hnext _ w6 ⟨i+1,L++[idA s y],A++[y],f6,?_,by omega,by omega,ra.add hlv cm,by rw[lla,List.length_singleton];omega,hg6,gf6',(ho4.nil ho5).same ho6⟩ ?_
  ·simp only[go_sem]
  ·exact up_lt h9
section
open Classical in
end
end Go.Proofs.YteiildhelefodaaGreat
