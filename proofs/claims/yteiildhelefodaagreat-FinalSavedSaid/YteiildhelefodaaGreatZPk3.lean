/- What the walks need, joined: FxK, FxL, EqL, EqM, EqN, EqP, HpY, ScA, ScB, ScC, ScD, BrL, BrM, BrP, EqQ, Lv, FnA, EngM, FnB, FnC, LwJ, FnD, FnE, FnF, FnG -/
import Derived.Test.YteiildhelefodaaGreatZPk2
import Derived.ChangeSlices
import Derived.Test.YteiildhelefodaaGreatZCode
import Derived.Test.YteiildhelefodaaGreatZCodeD
set_option linter.unusedSimpArgs false
set_option linter.unusedVariables false
namespace Go.Proofs.YteiildhelefodaaGreat
set_option maxRecDepth 100000
section
variable {fp:List Nat} {b j:Nat} {s:RL} {w:World}
def inBlk (k:Int) (o:Ob):Bool:=decide (o.a/64=k)
def RL.objsR (s:RL) (k:Int):List Int:=(s.O.filter (inBlk k)).map Ob.a
theorem filter_take_succ {O:List Ob} {p:Ob→Bool} (hj:j<O.length):((O.take (j+1)).filter p)=(O.take j).filter p++(if p (O.getD j default)then [O.getD j default]else []):=by
 rw[List.take_add_one,List.filter_append]
 congr 1
 have:O[j]? =some (O.getD j default):=by simp[hj]
 rw[this]
 simp only[Option.toList_some]
 by_cases h:p (O.getD j default)=true
 ·rw[if_pos h,List.filter_cons_of_pos h,List.filter_nil]
 ·rw[if_neg h,List.filter_cons_of_neg h,List.filter_nil]
theorem fObjects (h:FM w b s fp) (k:Int):Cs Tryz.prog 253 [.pointer (some ⟨b,0,none⟩),.int .i64 k] w fun v w'=>Only [] w w'∧ ∃fq,Sl w' 1 v (s.objsR k).length (ints (s.objsR k)) fq∧ ∀y,y∈fq→w.heap.size≤y:=by
 have h00:=h
 obtain⟨vB,vO,vF,fB,fO,fF,L,hfp,hm⟩:=h
 have hlen:=hm.len
 have hol:=hm.ok.ol
 have hB:=hm.ok.b64
 obtain⟨ao,co,hvO⟩:=hm.valO
 refine enter_ref02_Heap_Objects rfl ?_
 unfold x_ref02_Heap_Objects
 refine gO ?_
 refine run_loop (5::6::7::8::9::10::11::12::13::14::15::16::17::18::19::20::21::22::23::24::25::26::27::28::29::30::31::32::33::34::35::36::37::38::39::40::41::[]) (fun g w'=> ∃(j:Nat) (fq:List Nat),g 6=.int .i64 (j:Int)∧j≤L.length∧Sl w' 1 (g 5) (((s.O.take j).filter (inBlk k)).map Ob.a).length (ints (((s.O.take j).filter (inBlk k)).map Ob.a)) fq∧(∀y,y∈fq→w.heap.size≤y)∧Only [] w w') (fun g _=>upTo L.length 6 g)
  ⟨0,[],by simp only[go_sem];rfl,by omega,by simp only[go_sem];exact Sl.nil1 _,by simp,Only.refl _ _⟩ fun g w2 hI hnext=>?_
 obtain⟨j,fq,h6,hj,h5,hfq,ho2⟩:=hI
 have hm2:=hm.keep0 ho2
 refine gO ?_
 refine callT0 (fMade (h00.keep0 ho2)) ?_
 by_cases hlt:j<L.length
 ·obtain⟨g8,cap,ys,e8,hat,_,_⟩:=hm2.row (by omega)
  have e2:(0:Int)≤(j:Int)∧(j:Int)<(L.length:Int):=⟨by omega,by omega⟩
  have hoo:=hm2.getO hlt
  have hbo:=hm2.ok.ob (s.O.getD j default) (by rw[hoo,hm2.eq];exact List.mem_map.2 ⟨_,by simp[hlt],rfl⟩)
  have ha0:=hbo.a0
  have ha1:=hbo.a1
  have hwo:=words_le hbo.v
  obtain⟨na,hna⟩: ∃n:Nat,(s.O.getD j default).a=n:=⟨(s.O.getD j default).a.toNat,by omega⟩
  have hc:w2.cell? ⟨g8,j*8,none⟩=some (.int .i64 (na:Int)):=by
   have:=omV_cell (j:=0) ys hlt (by omega)
   rw[hat.cell,←Nat.add_zero (j*8),this,←hna,hoo];rfl
  have hsucc:=filter_take_succ (p:=inBlk k) (show j<s.O.length by omega)
  by_cases c1:((na/64:Nat):Int)=k
  ·have hp:inBlk k (s.O.getD j default)=true:=by unfold inBlk;rw[hna,dtr];omega
   rw[if_pos hp]at hsucc
   have hl:(((s.O.take j).filter (inBlk k)).map Ob.a).length≤2048:=by
    rw[List.length_map]
    have:=List.length_filter_le (inBlk k) (s.O.take j)
    rw[List.length_take]at this;omega
   (repeat(first|with_reducible(first|refine nx ?_|refine r_6 rfl ?_)|simp only[go_sem,h6,hm2.hb.cell,e8,dtr e2.2,if_pos e2,tnc,hc,tdiv64 na (by omega),bqt c1]))
   rw[fillL_one rfl rfl]
   refine gO ?_
   refine bslT fun q w3 hq hs3 hat3 ho3=>?_
   refine gO ?_
   refine appT (h5.keep0 ho3) (SrcIs.at hat3 rfl) (by simp[oneC]) (by omega) (by omega) ?_
   intro v4 w4 f4 hs4 hf4 ho4 _
   have o4:Only [] w w4:=(ho2.nil ho3).trans ho4 fun y hy=>.inr (hfq y hy)
   refine gO2 h6 (i64_succ j (by omega)) ?_
   refine hnext _ w4 ⟨j+1,f4,?_,by omega,?_,?_,o4⟩ ?_
   ·simp only[go_sem]
   ·simp only[go_sem]
    rw[hsucc,List.map_append,List.map_cons,List.map_nil,hna,lla,ints_append]
    exact hs4
   ·intro y hy
    have:=ho2.size
    have:=ho3.size
    rcases hf4 with rfl|rfl
    ·exact hfq y hy
    ·simp only[lms]at hy;omega
   ·exact up_lt h6
  ·have hp:inBlk k (s.O.getD j default)=false:=by unfold inBlk;rw[hna,dfl];omega
   rw[if_neg (by rw[hp];simp),List.append_nil]at hsucc
   (repeat(first|with_reducible(first|refine nx ?_|refine r_6 rfl ?_)|simp only[go_sem,h6,hm2.hb.cell,e8,dtr e2.2,if_pos e2,tnc,hc,tdiv64 na (by omega),bqf c1,i64_succ j (by omega)]))
   refine hnext _ w2 ⟨j+1,fq,?_,by omega,?_,hfq,ho2⟩ ?_
   ·simp only[go_sem]
   ·simp only[go_sem]
    rw[hsucc]
    exact h5
   ·exact up_lt h6
 ·refine gO4 h6 hm2.hb.cell hvO (dfl (show¬(j:Int)<(L.length:Int) by omega)) ?_
  refine⟨ho2,fq,?_,hfq⟩
  rw[show j=s.O.length by omega,List.take_length]at h5
  exact h5
def GRuns (k:Nat) (R:List (Int×Int)):Prop:= ∀r,r∈R→((64*k:Nat):Int)≤r.1∧r.1<((64*(k+1):Nat):Int)
def RL.stepG (s:RL) (x:Int) (st:List (Int×Int)×Int):List (Int×Int)×Int:=(if st.2<x then st.1++[(st.2,x-st.2)]else st.1,x+wordsS (s.shapeR x).1)
def RL.goG (s:RL):List Int→List (Int×Int)×Int→List (Int×Int)×Int
 | [],st=>st
 |x::l,st=>s.goG l (s.stepG x st)
theorem goG_snoc (s:RL): ∀(l:List Int) (x:Int) (st:List (Int×Int)×Int),s.goG (l++[x]) st=s.stepG x (s.goG l st)
 | [],_,_=>rfl
 |_::l,x,st=>goG_snoc s l x _
theorem goG_succ (s:RL) {l:List Int} (hj:j<l.length) (st:List (Int×Int)×Int):s.goG (l.take (j+1)) st=s.stepG (l.getD j 0) (s.goG (l.take j) st):=by
 rw[List.take_succ_eq_append_getElem hj,goG_snoc];simp[hj]
def RL.gapsR (s:RL) (k:Nat):List (Int×Int):=
 if s.stateR (k:Int)=1 then
  (if(s.goG (s.objsR (k:Int)) ([],((64*k:Nat):Int))).2<((64*(k+1):Nat):Int)then(s.goG (s.objsR (k:Int)) ([],((64*k:Nat):Int))).1++[((s.goG (s.objsR (k:Int)) ([],((64*k:Nat):Int))).2,((64*(k+1):Nat):Int)-(s.goG (s.objsR (k:Int)) ([],((64*k:Nat):Int))).2)]else(s.goG (s.objsR (k:Int)) ([],((64*k:Nat):Int))).1)
 else []
theorem Sl.nil2 (w:World):Sl w 2 (.slice none 0 0) 0 [] []:=⟨rfl,.inl ⟨rfl,rfl,rfl⟩⟩
theorem blkV_append (B C:List (Int×Int)):blkV (B++C)=blkV B++blkV C:=by simp[blkV]
theorem fGaps (h:FM w b s fp) (k:Nat) (hk:k≤64):Cs Tryz.prog 267 [.pointer (some ⟨b,0,none⟩),.int .i64 (k:Int)] w fun v w'=>Only [] w w'∧ ∃R fq,Sl w' 2 v R.length (blkV R) fq∧GRuns k R∧R.length≤3000∧(∀y,y∈fq→w.heap.size≤y)∧R=s.gapsR k:=by
 have hol:=h.ok.ol
 refine enter_ref02_Heap_Gaps rfl ?_
 unfold x_ref02_Heap_Gaps
 refine gO ?_
 refine callT0 (fState h (k:Int)) ?_
 by_cases c1:s.stateR (k:Int)=1
 rotate_left
 ·refine gO1 (bnt c1) ?_
  exact⟨Only.refl _ _,[],[],Sl.nil2 _,fun r hr=>absurd hr (by simp),by simp,by simp,by unfold RL.gapsR;rw[if_neg c1]⟩
 have e1:IntKind.i64.wrap ((k:Int)*64)=((64*k:Nat):Int):=by rw[IntWalk.i64_in _ (by omega)];omega
 refine gO2 (bnf c1) e1 ?_
 refine callT (fObjects h (k:Int)) ?_
 rintro vl w1 ⟨ho1,fl,hsl,hfl⟩
 have hmem: ∀i,i<(s.objsR (k:Int)).length→ ∃na:Nat,(s.objsR (k:Int)).getD i 0=na∧na/64=k∧ ∃j,ixO s.O (na:Int)=some j:=by
  intro i hi
  have h1:(s.objsR (k:Int)).getD i 0∈s.objsR (k:Int):=by simp[hi]
  simp only[RL.objsR,List.mem_map,List.mem_filter]at h1
  obtain⟨o,⟨ho,hp⟩,he⟩:=h1
  simp only[inBlk,decide_eq_true_eq]at hp
  have hbo:=h.ok.ob o ho
  have ha0:=hbo.a0
  refine⟨o.a.toNat,?_,by omega,?_⟩
  ·show(s.objsR (k:Int)).getD i 0=_
   rw[show(s.objsR (k:Int)).getD i 0=o.a from he.symm];omega
  ·rw[show((o.a.toNat:Nat):Int)=o.a by omega]
   cases e:ixO s.O o.a with
   |some j=>exact⟨j,rfl⟩
   |none=>
    exfalso
    obtain⟨t,ht,rfl⟩:=List.mem_iff_getElem.1 ho
    have key: ∀(O:List Ob) (a:Int),ixO O a=none→ ∀t (ht:t<O.length),(O[t]).a≠a:=by
     intro O a
     induction O with
     |nil=>intro _ t ht;simp at ht
     |cons p O ih=>
      intro hn t ht
      unfold ixO at hn
      split at hn
      ·cases hn
      ·rename_i hne
       have hn':ixO O a=none:=by simpa using hn
       cases t with
       |zero=>exact hne
       |succ t=>exact ih hn' t (by simpa using ht)
    exact key _ _ e t ht rfl
 have hll:(s.objsR (k:Int)).length≤2048:=by
  unfold RL.objsR
  rw[List.length_map]
  have:=List.length_filter_le (inBlk (k:Int)) s.O
  omega
 obtain⟨al,cl,hvl⟩:=hsl.val
 subst hvl
 refine gO ?_
 refine run_loop (5::6::8::20::21::22::23::24::25::26::27::28::29::30::31::32::33::34::35::36::37::38::39::40::41::42::43::44::45::46::47::48::49::50::51::52::53::54::55::56::57::58::59::60::61::[]) (fun g w'=> ∃(j:Nat) (na:Nat) (R:List (Int×Int)) (fq:List Nat),g 8=.int .i64 (j:Int)∧j≤(s.objsR (k:Int)).length∧g 6=.int .i64 (na:Int)∧64*k≤na∧na≤64*k+300∧Sl w' 2 (g 5) R.length (blkV R) fq∧GRuns k R∧R.length≤j∧(∀y,y∈fq→w1.heap.size≤y)∧Only [] w1 w'∧s.goG ((s.objsR (k:Int)).take j) ([],((64*k:Nat):Int))=(R,(na:Int))) (fun g _=>upTo (s.objsR (k:Int)).length 8 g)
  ⟨0,64*k,[],[],by simp only[go_sem];rfl,by omega,by simp only[go_sem],by omega,by omega,by simp only[go_sem];exact Sl.nil2 _,fun r hr=>absurd hr (by simp),by simp,by simp,Only.refl _ _,rfl⟩ fun g w2 hI hnext=>?_
 obtain⟨j,na,R,fq,h8,hj,h6,hn1,hn2,h5,hR,hRl,hfq,ho2,hgo⟩:=hI
 have o2:=ho1.nil ho2
 have hsl2:=hsl.keep0 ho2
 refine gO1 h8 ?_
 refine condT (fun hlt=>?_) (fun hge=>?_)
 ·have hlt:j<(s.objsR (k:Int)).length:=by simpa using hlt
  have e2:(0:Int)≤(j:Int)∧(j:Int)<((s.objsR (k:Int)).length:Int):=⟨by omega,by omega⟩
  obtain⟨x,hx,hxk,t,ht⟩:=hmem j hlt
  obtain⟨gl,cl',ysl,hvl',hatl,_,_⟩:=hsl.pos (by omega)
  cases hvl'
  have hpcw: ∀w',Only [] w1 w'→w'.cell? ⟨gl,j,none⟩=some (.int .i64 (x:Int)):=fun w' ho=>by rw[(hatl.keep0 ho).cell,ints_append_get ysl hlt,hx]
  have hpc:=hpcw w2 ho2
  have hplt:=hatl.lt
  obtain⟨t1,t2,t3⟩:=ixO_spec ht
  refine run_skip (run_seq (run_block (run_seq ?_)))
  refine run_cut (5::26::27::28::29::30::31::32::33::34::35::36::37::38::39::40::41::42::[]) (fun ρ' w'=> ∃R' fq',Sl w' 2 (ρ' 5) R'.length (blkV R') fq'∧GRuns k R'∧R'.length≤j+1∧(∀y,y∈fq'→w1.heap.size≤y)∧Only [] w1 w'∧R'=(if(na:Int)<(x:Int)then R++[((na:Int),(x:Int)-(na:Int))]else R)) (fun kk hkk=>?_) (fun g' w3 hJ=>?_)
  ·by_cases c2:(na:Int)<(x:Int)
   ·have e3:IntKind.i64.wrap ((x:Int)-(na:Int))=(x:Int)-(na:Int):=IntWalk.i64_in _ (by omega)
    refine gJ6 h8 h6 (eq_true e2) hpc (dtr c2) e3 ?_
    rw[fillL_one rfl rfl,fillL_one rfl rfl]
    refine gO ?_
    rw[fillL_ag (n:=2) rfl rfl]
    refine gO ?_
    refine bslT fun q w3 hq hs3 hat3 ho3=>?_
    refine gO ?_
    refine appT (sz:=2) (us:=bV ((na:Int),(x:Int)-(na:Int))) (h5.keep0 ho3) (SrcIs.at hat3 rfl) (bV_one _) (by omega) (by omega) ?_
    intro v4 w4 f4 hs4 hf4 ho4 _
    refine gO ?_
    refine hkk _ w4 ⟨R++[((na:Int),(x:Int)-(na:Int))],f4,?_,?_,by simp;omega,?_,(ho2.nil ho3).trans ho4 fun y hy=>.inr (hfq y hy),by rw[if_pos c2]⟩
    ·simp only[go_sem]
     rw[blkV_append,lla]
     simpa[blkV,bV]using hs4
    ·intro r hr
     simp only[List.mem_append,lms]at hr
     rcases hr with hr|rfl
     ·exact hR r hr
     ·simp only;omega
    ·intro y hy
     have:=ho2.size
     have:=ho3.size
     rcases hf4 with rfl|rfl
     ·exact hfq y hy
     ·simp only[lms]at hy;omega
   ·refine gJ5 h8 h6 (eq_true e2) hpc (dfl c2) ?_
    refine hkk _ w2 ⟨R,fq,?_,hR,by omega,hfq,ho2,by rw[if_neg c2]⟩
    ·simp only[go_sem];exact h5
  obtain⟨R',fq',h5',hR',hRl',hfq',ho3,hR'e⟩:=hJ
  have o3d:=ho3.nil (Only.drew [] w3)
  have hd:=(h.keep0 ho1).keep0 o3d
  have hpc3:=hpcw w3.drew o3d
  obtain⟨vB,vO,vF,fB,fO,fF,L,hfp,hm⟩:=hd
  have hlen:=hm.len
  have hB:=hm.ok.b64
  obtain⟨g8,cap,ys,rfl,hat,hfO,_⟩:=hm.row (by omega)
  obtain⟨_,hc3⟩:=hm.all (cap:=0) hat (show t<L.length by omega)
  have e4:(0:Int)≤(t:Int)∧(t:Int)<(L.length:Int):=⟨by omega,by omega⟩
  have hbo:=hm.ok.ob (s.O.getD t default) (by simp[t1])
  rw[hm.getO (by omega)]at hbo
  have hwo:=words_le hbo.v
  have hltb:=hm.hb.lt
  have hltg:=hat.lt
  have h3s:=o3d.size
  have hsb: ∀z,z∈[gl,b,g8]→z<w3.drew.heap.size∧z∉([]:List Nat):=fun z hz=>⟨by simp only[List.mem_cons,List.not_mem_nil,or_false]at hz;rcases hz with rfl|rfl|rfl;exact Nat.lt_of_lt_of_le hplt h3s;exact hltb;exact hltg,by simp⟩
  refine run_drt [gl,b,g8] ?_
  refine gJ4 h8 (eq_true e2) hpc3 hm.hb.cell ?_
  refine callS0 (fIndex ((h.keep0 ho1).keep0 o3d) (x:Int)) (.inr (SB.refl _ _)) ?_
  rw[ht]
  (repeat(first|with_reducible(first|refine nx ?_|refine r_6 rfl ?_)|simp only[go_sem,show ixI (some t)=(t:Int)from rfl,if_pos e4,tnc,hc3]))
  refine callS1 (fWords w3.drew (L.getD t default).o.sh) (.inr ⟨SB.refl _ _,hsb⟩) fun w4 ho4=>?_
  have e5:IntKind.i64.wrap ((x:Int)+wordsS (L.getD t default).o.sh)=((x+(wordsS (L.getD t default).o.sh).toNat:Nat):Int):=by rw[IntWalk.i64_in _ (by omega)];omega
  refine gO3 e5 h8 (i64_succ j (by omega)) ?_
  refine hnext _ w4 ⟨j+1,x+(wordsS (L.getD t default).o.sh).toNat,R',fq',?_,by omega,?_,by omega,by omega,?_,hR',by omega,hfq',o3d.nil ho4,?_⟩ ?_
  ·simp only[go_sem]
  ·simp only[go_sem]
  ·simp only[go_sem]
   exact(h5'.keep0 (Only.drew [] w3)).keep0 ho4
  ·have hsx:(s.shapeR (x:Int)).1=(L.getD t default).o.sh:=by unfold RL.shapeR RL.ob;rw[ht,Option.map_some,hm.getO (by omega)]
   rw[goG_succ s hlt,hgo,hx]
   unfold RL.stepG
   rw[hsx,hR'e]
   simp only[Prod.mk.injEq,true_and]
   omega
  ·exact up_lt h8
 ·have hge: ¬j<(s.objsR (k:Int)).length:=by simpa using hge
  clear hnext
  rw[List.take_of_length_le (by omega)]at hgo
  have e6:IntKind.i64.wrap (IntKind.i64.wrap ((k:Int)+1)*64)=((64*(k+1):Nat):Int):=by rw[IntWalk.i64_in ((k:Int)+1) (by omega),IntWalk.i64_in _ (by omega)];omega
  by_cases c2:(na:Int)<((64*(k+1):Nat):Int)
  ·have e3:IntKind.i64.wrap (((64*(k+1):Nat):Int)-(na:Int))=((64*(k+1):Nat):Int)-(na:Int):=IntWalk.i64_in _ (by omega)
   refine gO4 e6 h6 (dtr c2) e3 ?_
   rw[fillL_one rfl rfl,fillL_one rfl rfl]
   refine gO ?_
   rw[fillL_ag (n:=2) rfl rfl]
   refine gO ?_
   refine bslT fun q w3 hq hs3 hat3 ho3=>?_
   refine gO ?_
   refine appT (sz:=2) (us:=bV ((na:Int),((64*(k+1):Nat):Int)-(na:Int))) (h5.keep0 ho3) (SrcIs.at hat3 rfl) (bV_one _) (by omega) (by omega) ?_
   intro v4 w4 f4 hs4 hf4 ho4 _
   refine gO ?_
   refine⟨(o2.nil ho3).trans ho4 fun y hy=>.inr (by have:=hfq y hy;have:=ho1.size;omega),R++[((na:Int),((64*(k+1):Nat):Int)-(na:Int))],f4,?_,?_,by simp;omega,?_,by unfold RL.gapsR;rw[if_pos c1,hgo,if_pos c2]⟩
   ·rw[blkV_append,lla]
    simpa[blkV,bV]using hs4
   ·intro r hr
    simp only[List.mem_append,lms]at hr
    rcases hr with hr|rfl
    ·exact hR r hr
    ·simp only;omega
   ·intro y hy
    have:=o2.size
    have:=ho3.size
    have:=ho1.size
    rcases hf4 with rfl|rfl
    ·have:=hfq y hy;omega
    ·simp only[lms]at hy;omega
  ·refine gO3 e6 h6 (dfl c2) ?_
   exact⟨o2,R,fq,h5,hR,by omega,fun y hy=>by have:=hfq y hy;have:=ho1.size;omega,by unfold RL.gapsR;rw[if_pos c1,hgo,if_neg c2]⟩
end
section
variable {fp:List Nat} {b:Nat} {s:RL} {w:World}
def RL.FreeAt (s:RL) (n i:Nat):Prop:=1≤i∧i+n≤s.B.length∧ ∀j,j<n→s.stateR ((i+j:Nat):Int)=0
def RL.FreeIs (s:RL) (n k:Nat):Prop:=(k=0∧ ∀i,¬s.FreeAt n i)∨(s.FreeAt n k∧ ∀i,i<k→ ¬s.FreeAt n i)
theorem fFree (h:FM w b s fp) (n:Nat) (hn:n≤100):Cs Tryz.prog 227 [.pointer (some ⟨b,0,none⟩),.int .i64 (n:Int)] w fun v w'=>(∃k:Nat,v=.int .i64 (k:Int)∧k≤64∧s.FreeIs n k)∧w'=w:=by
 have hB:=h.ok.b64
 refine enter_ref05_Free rfl ?_
 unfold x_ref05_Free
 refine gO ?_
 refine run_loop (4::5::6::7::8::9::10::11::12::13::14::15::16::17::18::19::20::21::22::23::24::25::26::27::28::29::30::31::[]) (fun g w'=> ∃i:Nat,g 5=.int .i64 (i:Int)∧1≤i∧i≤s.B.length+1∧(∀i',i'<i→ ¬s.FreeAt n i')∧w'=w) (fun g _=>upTo 100 5 g)
  ⟨1,by simp only[go_sem];rfl,by omega,by omega,fun i' hi' h=>by have:=h.1;omega,rfl⟩ fun g w1 hI hnext=>?_
 obtain⟨i,h5,hi1,hi,hno,rfl⟩:=hI
 have e1:IntKind.i64.wrap ((i:Int)+(n:Int))=((i+n:Nat):Int):=by rw[IntWalk.i64_in _ (by omega)];omega
 refine gO2 h5 e1 ?_
 refine callT0 (fBlocks h) ?_
 refine gO ?_
 refine condT (fun hlt=>?_) (fun hge=>?_)
 ·have hlt:i+n≤s.B.length:=by
   have:((i+n:Nat):Int)≤(s.B.length:Int):=by simpa using hlt
   omega
  refine gO ?_
  refine run_loop (6::15::16::17::18::19::20::21::22::23::24::25::26::27::[]) (fun g' w'=> ∃j:Nat,g' 6=.int .i64 (j:Int)∧j≤n∧(∀j',j'<j→s.stateR ((i+j':Nat):Int)=0)∧w'=w1) (fun g' _=>upTo n 6 g')
   ⟨0,by simp only[go_sem];rfl,by omega,fun j' hj'=>absurd hj' (by omega),rfl⟩ fun g' w2 hI' hnext'=>?_
  obtain⟨j,h6,hj,hz,rfl⟩:=hI'
  have out: ∀ρ':Env,True:=fun _=>trivial
  clear out
  by_cases c1:j<n
  ·have e2:IntKind.i64.wrap ((i:Int)+(j:Int))=((i+j:Nat):Int):=by rw[IntWalk.i64_in _ (by omega)];omega
   refine gO4 h6 (dtr (show(j:Int)<(n:Int) by omega)) h5 e2 ?_
   refine callT0 (fState h ((i+j:Nat):Int)) ?_
   by_cases c2:s.stateR ((i+j:Nat):Int)=0
   ·refine gO3 (bqt c2) h6 (i64_succ j (by omega)) ?_
    refine hnext' _ w2 ⟨j+1,?_,by omega,fun j' hj'=>?_,rfl⟩ ?_
    ·simp only[go_sem]
    ·by_cases e:j'=j
     ·rw[e];exact c2
     ·exact hz j' (by omega)
    ·exact up_lt h6
   ·refine gO5 (bqf c2) h6 (bqf (show¬(j:Int)=(n:Int) by omega)) h5 (i64_succ i (by omega)) ?_
    refine hnext _ w2 ⟨i+1,?_,by omega,by omega,fun i' hi'=>?_,rfl⟩ ?_
    ·simp only[go_sem]
    ·by_cases e:i'=i
     ·rw[e];exact fun h=>c2 (h.2.2 j c1)
     ·exact hno i' (by omega)
    ·exact up_lt h5
  ·refine gO4 h6 (dfl (show¬(j:Int)<(n:Int) by omega)) (bqt (show(j:Int)=(n:Int) by omega)) h5 ?_
   exact⟨i,rfl,by omega,.inr ⟨⟨hi1,hlt,fun j' hj'=>hz j' (by omega)⟩,hno⟩⟩
 ·have hge: ¬i+n≤s.B.length:=by
   intro h
   have: ¬((i+n:Nat):Int)≤(s.B.length:Int):=by simpa using hge
   omega
  refine gO ?_
  refine⟨0,rfl,by omega,.inl ⟨rfl,fun i' h=>?_⟩⟩
  by_cases e:i'<i
  ·exact hno i' e h
  ·have:=h.2.1;omega
def GapOk (s:RL) (a:Int) (ok:Bool):Prop:=ok=true→ ∃k:Nat,1≤k∧k<s.B.length∧s.stateR (k:Int)=1∧((64*k:Nat):Int)≤a∧a<((64*(k+1):Nat):Int)
def RL.GapAt (s:RL) (sh:Sh) (sp:Int) (i:Nat) (a:Int):Prop:=1≤i∧i<s.B.length∧s.stateR (i:Int)=1∧s.spaceR (i:Int)=sp∧ ∃j,j<(s.gapsR i).length∧wordsS sh≤((s.gapsR i).getD j (0,0)).2∧a=((s.gapsR i).getD j (0,0)).1∧ ∀j',j'<j→ ¬wordsS sh≤((s.gapsR i).getD j' (0,0)).2
def RL.GapIs (s:RL) (sh:Sh) (sp a:Int) (ok:Bool):Prop:=(ok=false∧ ∀i a',¬s.GapAt sh sp i a')∨(ok=true∧ ∃i,s.GapAt sh sp i a∧ ∀i' a',i'<i→ ¬s.GapAt sh sp i' a')
theorem fGap (h:FM w b s fp) (sh:Sh) (sp:Int):Cs Tryz.prog 229 [.pointer (some ⟨b,0,none⟩),.agg ⟨shV sh⟩,.int .i64 sp] w fun v w'=>(∃a ok,v=.tuple #[.int .i64 a,.bool ok]∧GapOk s a ok∧s.GapIs sh sp a ok)∧Only [] w w':=by
 have hB:=h.ok.b64
 refine enter_ref12_Gap rfl ?_
 unfold x_ref12_Gap
 refine gO ?_
 refine boxT fun q w1 hq hs1 hat1 ho1=>?_
 refine gO ?_
 refine run_loop (6::7::8::9::10::11::12::13::14::15::16::17::18::19::20::21::22::23::24::25::26::27::28::29::30::31::32::33::34::35::36::37::38::39::40::41::42::43::44::45::46::47::48::49::[]) (fun g w'=> ∃i:Nat,g 8=.int .i64 (i:Int)∧1≤i∧i≤s.B.length+1∧(∀i' a',i'<i→ ¬s.GapAt sh sp i' a')∧Only [] w1 w') (fun g _=>upTo 100 8 g)
  ⟨1,by simp only[go_sem];rfl,by omega,by omega,fun i' a' hi' h=>by have:=h.1;omega,Only.refl _ _⟩ fun g w2 hI hnext=>?_
 obtain⟨i,h8,hi1,hi,hno,ho2⟩:=hI
 have o2:=ho1.nil ho2
 have h2:=h.keep0 o2
 refine gO1 h8 ?_
 refine callT0 (fBlocks h2) ?_
 refine gO ?_
 refine condT (fun hlt=>?_) (fun hge=>?_)
 ·have hlt:i<s.B.length:=by simpa using hlt
  have next: ∀w3,Only [] w2 w3→ ∀ρ':Env,True:=fun _ _ _=>trivial
  clear next
  refine gO1 h8 ?_
  refine callT0 (fState h2 (i:Int)) ?_
  by_cases c1:s.stateR (i:Int)=1
  rotate_left
  ·refine gO3 (bnt c1) h8 (i64_succ i (by omega)) ?_
   refine hnext _ w2 ⟨i+1,?_,by omega,by omega,fun i' a' hi' h=>?_,ho2⟩ ?_
   ·simp only[go_sem]
   ·by_cases e:i'=i
    ·subst e;exact c1 h.2.2.1
    ·exact hno i' a' (by omega) h
   ·exact up_lt h8
  refine gO2 (bnf c1) h8 ?_
  refine callT0 (fSpace h2 (i:Int)) ?_
  by_cases c2:s.spaceR (i:Int)=sp
  rotate_left
  ·refine gO3 (bnt c2) h8 (i64_succ i (by omega)) ?_
   refine hnext _ w2 ⟨i+1,?_,by omega,by omega,fun i' a' hi' h=>?_,ho2⟩ ?_
   ·simp only[go_sem]
   ·by_cases e:i'=i
    ·subst e;exact c2 h.2.2.2.1
    ·exact hno i' a' (by omega) h
   ·exact up_lt h8
  refine gO2 (bnf c2) h8 ?_
  refine callT (fGaps h2 i (by omega)) ?_
  rintro vR w3 ⟨ho3,R,fq,hR,hruns,hRl,hfq,hRe⟩
  have o13:=ho2.nil ho3
  obtain⟨aR,cR,hvR⟩:=hR.val
  subst hvR
  refine gO ?_
  refine run_loop (6::7::10::31::32::33::34::35::36::37::38::39::40::41::42::43::44::45::46::47::48::49::[]) (fun g' w'=> ∃j:Nat,g' 10=.int .i64 (j:Int)∧j≤R.length∧(∀j',j'<j→ ¬wordsS sh≤(R.getD j' (0,0)).2)∧Only [] w3 w') (fun g' _=>upTo R.length 10 g')
   ⟨0,by simp only[go_sem];rfl,by omega,fun j' hj'=>absurd hj' (by omega),Only.refl _ _⟩ fun g' w4 hI' hnext'=>?_
  obtain⟨j,h10,hj,hnj,ho4⟩:=hI'
  have o14:=o13.nil ho4
  refine gO1 h10 ?_
  refine condT (fun hlt'=>?_) (fun hge'=>?_)
  ·have hlt':j<R.length:=by simpa using hlt'
   obtain⟨gR,capR,ysR,hvR',hatR,hfR⟩: ∃g cap ys,Value.slice aR R.length cR=.slice (some ⟨g,0,none⟩) R.length cap∧At w3 g (blkV R++ys)∧fq=[g]:=by
    rcases hR.2 with⟨_,h0,_⟩|⟨g,cap,ys,T,q1,q2,q3,q4,q5⟩
    ·omega
    ·exact⟨g,cap,ys,q1,⟨T,q3⟩,q2⟩
   cases hvR'
   have e2:(0:Int)≤(j:Int)∧(j:Int)<(R.length:Int):=⟨by omega,by omega⟩
   have hat4:=hatR.keep0 ho4
   obtain⟨b1,b2⟩:=blk_at (B:=R) ysR hlt'
   have hcq: ∀w',Only [] w1 w'→cellsAt w' ⟨q,0,none⟩ 3=some (shV sh):=fun w' k=>cellsAt_at (hat1.keep0 k) 0 3 (by simp[shV])
   have hl1:=hat4.lt
   have hl2:=(hat1.keep0 o14).lt
   have hsb: ∀z,z∈[gR,q]→z<w4.drew.heap.size∧z∉([]:List Nat):=fun z hz=>⟨by show z<w4.heap.size;simp only[List.mem_cons,List.not_mem_nil,or_false]at hz;rcases hz with rfl|rfl;exact hl1;exact hl2,by simp⟩
   refine gO ?_
   refine run_drt [gR,q] ?_
   (repeat(first|with_reducible(first|refine nx ?_|refine r_6 rfl ?_)|simp only[go_sem,h10,if_pos e2,tnc,hat4.drew.cell,b2,hcq w4.drew (o14.nil (Only.drew [] w4))]))
   refine callS1 (fWords w4.drew sh) (.inr ⟨SB.refl _ _,hsb⟩) fun w5 ho5=>?_
   have o5:=(Only.drew [] w4).nil ho5
   by_cases c3:wordsS sh≤(R.getD j (0,0)).2
   ·(repeat(first|with_reducible(first|refine nx ?_|refine r_6 rfl ?_)|simp only[go_sem,dtr c3,h10,if_pos e2,tnc,(hat4.keep0 o5).cell,b1]))
    refine⟨⟨_,true,rfl,fun _=>⟨i,hi1,hlt,c1,?_⟩,.inr ⟨rfl,i,⟨hi1,hlt,c1,c2,j,by rw[←hRe];exact hlt',by rw[←hRe];exact c3,by rw[←hRe],by rw[←hRe];exact hnj⟩,hno⟩⟩,(ho1.nil o14).nil o5⟩
    exact hruns _ (by simp[hlt'])
   ·refine gO3 (dfl c3) h10 (i64_succ j (by omega)) ?_
    refine hnext' _ w5 ⟨j+1,?_,by omega,fun j' hj'=>?_,ho4.nil o5⟩ ?_
    ·simp only[go_sem]
    ·by_cases e:j'=j
     ·rw[e];exact c3
     ·exact hnj j' (by omega)
    ·exact up_lt h10
  ·have hge': ¬j<R.length:=by simpa using hge'
   refine gO2 h8 (i64_succ i (by omega)) ?_
   refine hnext _ w4 ⟨i+1,?_,by omega,by omega,fun i' a' hi' h=>?_,o14⟩ ?_
   ·simp only[go_sem]
   ·by_cases e:i'=i
    ·subst e
     obtain⟨_,_,_,_,j',e1,e2,_,_⟩:=h
     rw[←hRe]at e1 e2
     exact hnj j' (by omega) e2
    ·exact hno i' a' (by omega) h
   ·exact up_lt h8
 ·have hge: ¬i<s.B.length:=by simpa using hge
  refine gO ?_
  exact⟨⟨0,false,rfl,(fun h=>by cases h),.inl ⟨rfl,fun i' a' h=>hno i' a' (by have:=h.2.1;omega) h⟩⟩,o2⟩
def FirstOk (s s' : RL) (sh : Sh) (sp a : Int) (ok : Bool) (c : Nat) : Prop := (ok = false ∧ s' = s ∧ c = 0) ∨ (ok = true ∧ ∃ k : Nat, k ≤ 64 ∧
  ((wordsS sh ≤ 32 ∧ 1 ≤ k ∧ k < s.B.length ∧ s.stateR (k : Int) = 1 ∧ ((64 * k : Nat) : Int) ≤ a ∧ a < ((64 * (k + 1) : Nat) : Int) ∧ s' = s ∧ c = 1) ∨
   (32 < wordsS sh ∧ a = ((64 * k : Nat) : Int) ∧ s.claimLE (k : Int) ((wordsS sh + 63) / 64) sp = 0 ∧ s' = s.claimLM (k : Int) ((wordsS sh + 63) / 64) sp ∧ c = 2) ∨
   (wordsS sh ≤ 32 ∧ a = ((64 * k : Nat) : Int) ∧ s.claimE (k : Int) sp = 0 ∧ s' = s.claimM (k : Int) sp ∧ c = 3)))
def RL.FirstU (s:RL) (sh:Sh) (sp a:Int) (c:Nat):Prop:=
 (32<wordsS sh∧ ∃k,s.FreeIs ((wordsS sh+63)/64).toNat k∧((c=0∧(k=0∨s.claimLE (k:Int) ((wordsS sh+63)/64) sp≠0))∨(c=2∧k≠0∧s.claimLE (k:Int) ((wordsS sh+63)/64) sp=0∧a=((64*k:Nat):Int))))∨
 (¬32<wordsS sh∧((c=1∧s.GapIs sh sp a true)∨((∃a',s.GapIs sh sp a' false)∧ ∃k,s.FreeIs 1 k∧((c=0∧(k=0∨s.claimE (k:Int) sp≠0))∨(c=3∧k≠0∧s.claimE (k:Int) sp=0∧a=((64*k:Nat):Int))))))
theorem fFirst (h:FM w b s fp) (sh:Sh) (sp:Int):Cs Tryz.prog 157 [.pointer (some ⟨b,0,none⟩),.agg ⟨shV sh⟩,.int .i64 sp] w fun v w'=> ∃a ok s' c,v=.tuple #[.int .i64 a,.bool ok]∧FM w' b s' fp∧Only fp w w'∧FirstOk s s' sh sp a ok c∧s.FirstU sh sp a c:=by
 have hw:=words_any sh
 refine enter_ref12_First rfl ?_
 unfold x_ref12_First
 refine gO ?_
 refine boxT fun q w1 hq hs1 hat1 ho1=>?_
 have hcq: ∀w',Only [] w1 w'→cellsAt w' ⟨q,0,none⟩ 3=some (shV sh):=fun w' k=>cellsAt_at (hat1.keep0 k) 0 3 (by simp[shV])
 (repeat(first|with_reducible(first|refine nx ?_|refine r_6 rfl ?_)|simp only[go_sem,hcq w1 (Only.refl _ _)]))
 refine callT1 (fLarge w1 sh) fun w2 ho2=>?_
 have mul64: ∀k:Nat,k≤64→IntKind.i64.wrap ((k:Int)*64)=((64*k:Nat):Int):=fun k hk=>by rw[IntWalk.i64_in _ (by omega)];omega
 by_cases c32:32<wordsS sh
 ·(repeat(first|with_reducible(first|refine nx ?_|refine r_6 rfl ?_)|simp only[go_sem,dtr c32,hcq w2 ho2]))
  refine callT1 (fNeed w2 sh) fun w3 ho3=>?_
  have o3:=(ho1.nil ho2).nil ho3
  have h3:=h.keep0 o3
  obtain⟨n,hn⟩: ∃n:Nat,(wordsS sh+63)/64=n:=⟨((wordsS sh+63)/64).toNat,by omega⟩
  rw[hn]
  have hnn:((wordsS sh+63)/64).toNat=n:=by omega
  refine gO ?_
  refine callT (fFree h3 n (by omega)) ?_
  rintro v w4 ⟨⟨k,rfl,hk,hfr⟩,rfl⟩
  by_cases c0:k=0
  ·refine gO1 (bqt (show(k:Int)=0 by omega)) ?_
   exact⟨0,false,s,0,rfl,h3,o3.of_nil,.inl ⟨rfl,rfl,rfl⟩,.inl ⟨c32,k,by rw[hnn];exact hfr,.inl ⟨rfl,.inl c0⟩⟩⟩
  (repeat(first|with_reducible(first|refine nx ?_|refine r_6 rfl ?_)|simp only[go_sem,bqf (show¬(k:Int)=0 by omega),mul64 k hk]))
  refine callT (fClaimLarge h3 (k:Int) (n:Int) sp (by omega) (by omega)) ?_
  rintro v w5 ⟨rfl,h5,ho5⟩
  by_cases ce:s.claimLE (k:Int) (n:Int) sp=0
  ·refine gO1 (bqt ce) ?_
   refine⟨_,true,_,2,rfl,h5,o3.of_nil.same ho5,.inr ⟨rfl,k,hk,.inr (.inl ⟨c32,rfl,?_,?_,rfl⟩)⟩,.inl ⟨c32,k,by rw[hnn];exact hfr,.inr ⟨rfl,c0,by rw[hn];exact ce,rfl⟩⟩⟩
   ·rw[hn];exact ce
   ·rw[hn]
  ·refine gO1 (bqf ce) ?_
   refine⟨_,false,_,0,rfl,h5,o3.of_nil.same ho5,.inl ⟨rfl,?_,rfl⟩,.inl ⟨c32,k,by rw[hnn];exact hfr,.inl ⟨rfl,.inr (by rw[hn];exact ce)⟩⟩⟩
   unfold RL.claimLM;rw[if_neg ce]
 ·(repeat(first|with_reducible(first|refine nx ?_|refine r_6 rfl ?_)|simp only[go_sem,dfl c32,hcq w2 ho2]))
  refine callT (fGap (h.keep0 (ho1.nil ho2)) sh sp) ?_
  rintro v w3 ⟨⟨a,ok,rfl,hg,hgu⟩,ho3⟩
  have o3:=(ho1.nil ho2).nil ho3
  have h3:=h.keep0 o3
  cases ok with
  |true=>
   obtain⟨k,k1,k2,k3,k4,k5⟩:=hg rfl
   have:=h.ok.b64
   refine gO ?_
   exact⟨a,true,s,1,rfl,h3,o3.of_nil,.inr ⟨rfl,k,by omega,.inl ⟨by omega,k1,k2,k3,k4,k5,rfl,rfl⟩⟩,.inr ⟨c32,.inl ⟨rfl,hgu⟩⟩⟩
  |false=>
   refine gO ?_
   refine callT (fFree h3 1 (by omega)) ?_
   rintro v w4 ⟨⟨k,rfl,hk,hfr⟩,rfl⟩
   by_cases c0:k=0
   ·refine gO1 (bqt (show(k:Int)=0 by omega)) ?_
    exact⟨0,false,s,0,rfl,h3,o3.of_nil,.inl ⟨rfl,rfl,rfl⟩,.inr ⟨c32,.inr ⟨⟨a,hgu⟩,k,hfr,.inl ⟨rfl,.inl c0⟩⟩⟩⟩
   (repeat(first|with_reducible(first|refine nx ?_|refine r_6 rfl ?_)|simp only[go_sem,bqf (show¬(k:Int)=0 by omega),mul64 k hk]))
   refine callT (fClaim h3 (k:Int) sp) ?_
   rintro v w5 ⟨rfl,h5,ho5⟩
   by_cases ce:s.claimE (k:Int) sp=0
   ·refine gO1 (bqt ce) ?_
    exact⟨_,true,_,3,rfl,h5,o3.of_nil.same ho5,.inr ⟨rfl,k,hk,.inr (.inr ⟨by omega,rfl,ce,rfl,rfl⟩)⟩,.inr ⟨c32,.inr ⟨⟨a,hgu⟩,k,hfr,.inr ⟨rfl,c0,ce,rfl⟩⟩⟩⟩
   ·refine gO1 (bqf ce) ?_
    refine⟨_,false,_,0,rfl,h5,o3.of_nil.same ho5,.inl ⟨rfl,?_,rfl⟩,.inr ⟨c32,.inr ⟨⟨a,hgu⟩,k,hfr,.inl ⟨rfl,.inr ce⟩⟩⟩⟩
    unfold RL.claimM;rw[if_neg ce]
end
section
set_option maxRecDepth 8000
variable {s s':HL} {m:IM} {k:Int} {i:Nat}
theorem getM_putM (m:IM) (k:Int) (v:Value) (x:Int):getM (putM m k v) x=if x=k then some v else getM m x:=by
 induction m with
 |nil=>
  unfold putM getM getM
  by_cases c:x=k
  ·rw[if_pos c,if_pos c.symm]
  ·rw[if_neg c,if_neg (fun e=>c e.symm)]
 |cons p m ih=>
  unfold putM
  by_cases c:p.1=k
  ·rw[if_pos c]
   unfold getM
   by_cases c2:x=k
   ·rw[if_pos c2.symm,if_pos c2]
   ·rw[if_neg (fun e=>c2 e.symm),if_neg c2,if_neg (fun e=>c2 (by rw[←e];exact c))]
  ·rw[if_neg c]
   unfold getM
   by_cases c2:p.1=x
   ·rw[if_pos c2,if_neg (fun e=>c (by rw[c2];exact e)),if_pos c2]
   ·rw[if_neg c2,ih,if_neg c2]
theorem keys_putM {v:Value} {y:Int} (h:y∈(putM m k v).map (·.1)):y=k∨y∈m.map (·.1):=by
 induction m with
 |nil=>left;simpa[putM]using h
 |cons p m ih=>
  unfold putM at h
  by_cases c:p.1=k
  ·rw[if_pos c]at h
   rcases List.mem_cons.1 h with e|e
   ·exact .inl e
   ·exact .inr (List.mem_cons_of_mem _ e)
  ·rw[if_neg c]at h
   rcases List.mem_cons.1 h with e|e
   ·exact .inr (by rw[e];exact List.mem_cons_self)
   ·rcases ih e with e|e
    ·exact .inl e
    ·exact .inr (List.mem_cons_of_mem _ e)
theorem nodup_putM (h:(m.map (·.1)).Nodup) (k:Int) (v:Value):((putM m k v).map (·.1)).Nodup:=by
 induction m with
 |nil=>simp[putM]
 |cons p m ih=>
  obtain⟨h1,h2⟩:=List.nodup_cons.1 h
  unfold putM
  by_cases c:p.1=k
  ·rw[if_pos c];exact List.nodup_cons.2 ⟨by rw[←c];exact h1,h2⟩
  ·rw[if_neg c]
   refine List.nodup_cons.2 ⟨fun e=>?_,ih h2⟩
   rcases keys_putM e with e|e
   ·exact c e
   ·exact h1 e
theorem getM_none (h:k∉m.map (·.1)):getM m k=none:=by
 induction m with
 |nil=>rfl
 |cons p m ih=>
  unfold getM
  simp only[List.map_cons,List.mem_cons,not_or]at h
  rw[if_neg (fun e=>h.1 e.symm),ih h.2]
theorem getM_delM (h:(m.map (·.1)).Nodup) (k x:Int):getM (delM m k) x=if x=k then none else getM m x:=by
 induction m with
 |nil=>unfold delM getM;split<;>rfl
 |cons p m ih=>
  obtain⟨h1,h2⟩:=List.nodup_cons.1 h
  unfold delM
  by_cases c:p.1=k
  ·rw[if_pos c]
   by_cases c2:x=k
   ·rw[if_pos c2];subst c2;exact getM_none (by rw[←c];exact h1)
   ·rw[if_neg c2];show _=getM (p::m) x;rw[getM,if_neg (fun e=>c2 (by rw[←e];exact c))]
  ·rw[if_neg c]
   show(if p.1=x then some p.2 else getM (delM m k) x)=if x=k then none else if p.1=x then some p.2 else getM m x
   rw[ih h2]
   by_cases c2:x=k
   ·rw[if_pos c2,if_pos c2,if_neg (fun e=>c (by rw[e];exact c2))]
   ·rw[if_neg c2,if_neg c2]
theorem nodup_delM (h:(m.map (·.1)).Nodup) (k:Int):((delM m k).map (·.1)).Nodup:=by
 have sub: ∀m:IM,((delM m k).map (·.1)).Sublist (m.map (·.1)):=fun m=>by
  induction m with
  |nil=>exact List.Sublist.slnil
  |cons p m ih=>
   unfold delM
   by_cases c:p.1=k
   ·rw[if_pos c];exact List.sublist_cons_self _ _
   ·rw[if_neg c];exact List.Sublist.cons_cons _ ih
 exact List.Nodup.sublist (sub m) h
structure HL.PlOk (s:HL):Prop where
 nd:(s.pl.map (·.1)).Nodup
 a: ∀i,s.st.getD i 0=1→getM s.pl (s.W.getD (2*i) 0)=some (.int .i64 ((2*i:Nat):Int))
 b: ∀k v,getM s.pl k=some v→ ∃i,s.st.getD i 0=1∧v=.int .i64 ((2*i:Nat):Int)∧s.W.getD (2*i) 0=k
 c: ∀i,s.st.getD i 0=1→s.W.getD (2*i) 0≤s.born
theorem HL.PlOk.inj (h:s.PlOk) {j:Nat} (hi:s.st.getD i 0=1) (hj:s.st.getD j 0=1) (e:s.W.getD (2*i) 0=s.W.getD (2*j) 0):i=j:=by
 have h1:=h.a i hi
 rw[e,h.a j hj]at h1
 have:((2*j:Nat):Int)=((2*i:Nat):Int):=by injection h1 with h1;injection h1
 omega
theorem HL.PlOk.congr (h:s.PlOk) (hp:s'.pl=s.pl) (hb:s'.born=s.born) (hs: ∀i,s'.st.getD i 0=1↔s.st.getD i 0=1) (hw: ∀i,s.st.getD i 0=1→s'.W.getD (2*i) 0=s.W.getD (2*i) 0):s'.PlOk:=
 ⟨by rw[hp];exact h.nd,fun i hi=>by rw[hp,hw i ((hs i).1 hi)];exact h.a i ((hs i).1 hi),fun k v e=>by
  rw[hp]at e
  obtain⟨i,h1,h2,h3⟩:=h.b k v e
  exact⟨i,(hs i).2 h1,h2,by rw[hw i h1];exact h3⟩,fun i hi=>by rw[hb,hw i ((hs i).1 hi)];exact h.c i ((hs i).1 hi)⟩
theorem HL.PlOk.kill (h:s.PlOk) (hi:s.st.getD i 0=1) (hp:s'.pl=delM s.pl (s.W.getD (2*i) 0)) (hb:s'.born=s.born) (hs: ∀j,s'.st.getD j 0=1↔j≠i∧s.st.getD j 0=1) (hw: ∀j,j≠i→s.st.getD j 0=1→s'.W.getD (2*j) 0=s.W.getD (2*j) 0):s'.PlOk:=by
 refine⟨by rw[hp];exact nodup_delM h.nd _,fun j hj=>?_,fun k v e=>?_,fun j hj=>?_⟩
 ·obtain⟨h1,h2⟩:=(hs j).1 hj
  rw[hp,hw j h1 h2,getM_delM h.nd,if_neg fun e=>h1 (h.inj h2 hi e)]
  exact h.a j h2
 ·rw[hp,getM_delM h.nd]at e
  by_cases c:k=s.W.getD (2*i) 0
  ·rw[if_pos c]at e;cases e
  rw[if_neg c]at e
  obtain⟨j,h1,h2,h3⟩:=h.b k v e
  have hne:j≠i:=fun e=>c (by rw[←h3,e])
  exact⟨j,(hs j).2 ⟨hne,h1⟩,h2,by rw[hw j hne h1];exact h3⟩
 ·obtain⟨h1,h2⟩:=(hs j).1 hj
  rw[hb,hw j h1 h2];exact h.c j h2
theorem HL.PlOk.place (h:s.PlOk) {k:Nat} (hk:s.st.getD k 0≠1) (hp:s'.pl=putM s.pl ((s.born+1:Nat):Int) (.int .i64 ((2*k:Nat):Int))) (hb:s'.born=s.born+1) (hs: ∀j,s'.st.getD j 0=1↔j=k∨s.st.getD j 0=1) (hwk:s'.W.getD (2*k) 0=((s.born+1:Nat):Int)) (hw: ∀j,j≠k→s.st.getD j 0=1→s'.W.getD (2*j) 0=s.W.getD (2*j) 0):s'.PlOk:=by
 refine⟨by rw[hp];exact nodup_putM h.nd _ _,fun j hj=>?_,fun x v e=>?_,fun j hj=>?_⟩
 ·rw[hp,getM_putM]
  by_cases c:j=k
  ·rw[c,if_pos hwk]
  have hj2:=((hs j).1 hj).resolve_left c
  have:=h.c j hj2
  rw[hw j c hj2,if_neg (by omega)]
  exact h.a j hj2
 ·rw[hp,getM_putM]at e
  by_cases c:x=((s.born+1:Nat):Int)
  ·rw[if_pos c]at e
   injection e with e
   exact⟨k,(hs k).2 (.inl rfl),e.symm,by rw[hwk,c]⟩
  rw[if_neg c]at e
  obtain⟨j,h1,h2,h3⟩:=h.b x v e
  have hne:j≠k:=fun e=>hk (e▸h1)
  exact⟨j,(hs j).2 (.inr h1),h2,by rw[hw j hne h1];exact h3⟩
 ·rw[hb]
  by_cases c:j=k
  ·rw[c,hwk];exact Int.le_refl _
  have hj2:=((hs j).1 hj).resolve_left c
  have:=h.c j hj2
  rw[hw j c hj2];omega
end
section
variable {s:HL} {x:Int} {i j:Nat}
def HL.obAt (s : HL) (i : Nat) : Ob :=
  ⟨((2 * i : Nat) : Int), s.W.getD (2 * i) 0, shapeN (s.W.getD (2 * i + 1) 0), (List.range (shapeN (s.W.getD (2 * i + 1) 0)).1.toNat).map (fun j => s.W.getD (2 * i + 2 + j) 0),
    (List.range (shapeN (s.W.getD (2 * i + 1) 0)).2.1.toNat).map (fun j => s.W.getD (2 * i + 2 + (shapeN (s.W.getD (2 * i + 1) 0)).1.toNat + j) 0), decide (s.pn.getD i 0 = 1)⟩
def HL.abs (s:HL):RL:=⟨s.B,s.objs.map s.obAt,[],s.born⟩
structure HL.Inv (s:HL):Prop where
 ok:s.Ok
 bf: ∀i,i<s.B.length→(s.B.getD i (0,0)).1=0→s.B.getD i (0,0)=(0,0)
 ids: ∀i,s.st.getD i 0=1→1≤s.W.getD (2*i) 0
 pz: ∀i,s.st.getD i 0≠1→s.pn.getD i 0=0
 fz: ∀k,(∀i,s.st.getD i 0=1→k<2*i∨((2*i:Nat):Int)+s.size (2*i)≤(k:Int))→s.W.getD k 0=0
 b0:(s.B.getD 0 (0,0)).1=0
 z0:s.st.getD 0 0≠1
 pm:s.PlOk
theorem mem_objs:i∈s.objs↔s.st.getD i 0=1:=by
 unfold HL.objs
 rw[mem_objsB]
 constructor
 ·exact fun h=>h.2
 ·intro h
  refine⟨⟨Nat.zero_le _,?_⟩,h⟩
  rcases Nat.lt_or_ge i s.st.length with h'|h'
  ·exact h'
  ·rw[List.getD_eq_getElem?_getD,List.getElem?_eq_none h']at h;simp at h
theorem objs_nodup (s:HL):s.objs.Nodup:=List.Nodup.sublist List.filter_sublist List.nodup_range
theorem abs_ix (hj:j<s.objs.length) (hi:s.objs.getD j 0=i):ixO s.abs.O ((2*i:Nat):Int)=some j:=by
 have hl:s.abs.O.length=s.objs.length:=by simp[HL.abs]
 have get: ∀k,k<s.objs.length→(s.abs.O.getD k default).a=((2*s.objs.getD k 0:Nat):Int):=fun k hk=>by simp[HL.abs,hk,HL.obAt]
 refine ixO_some (by omega) (by rw[get j hj,hi]) fun k hk=>?_
 rw[get k (by omega)]
 intro e
 have e2:s.objs.getD k 0=s.objs.getD j 0:=by omega
 have hkl:k<s.objs.length:=by omega
 have e3:s.objs[k]=s.objs[j]:=by simpa[hkl,hj]using e2
 have:=(List.getElem_inj (h₀:=hkl) (h₁:=hj) (objs_nodup s)).1 e3
 omega
theorem objs_index (h:s.st.getD i 0=1): ∃j,j<s.objs.length∧s.objs.getD j 0=i:=by
 obtain⟨j,hj,e⟩:=List.mem_iff_getElem.1 (mem_objs.2 h)
 exact⟨j,hj,by simpa[hj]using e⟩
theorem abs_none (h: ∀i,s.st.getD i 0=1→((2*i:Nat):Int)≠x):ixO s.abs.O x=none:=by
 refine ixO_none fun j hj=>?_
 have hl:j<s.objs.length:=by simpa[HL.abs]using hj
 have:(s.abs.O.getD j default).a=((2*s.objs.getD j 0:Nat):Int):=by simp[HL.abs,hl,HL.obAt]
 rw[this]
 exact h _ (mem_objs.1 (by simp[hl]))
theorem has_iff (h:s.Ok):hasO (some s) x=true↔ ∃i:Nat,x=((2*i:Nat):Int)∧s.st.getD i 0=1:=by
 constructor
 ·exact has_spec h
 ·rintro⟨i,rfl,hi⟩
  have hlt:=(h.start hi).1
  simp only[hasO,Bool.and_eq_true,decide_eq_true_eq]
  refine⟨⟨by omega,by omega⟩,?_⟩
  show(if hasB s.st.length (((2*i:Nat):Int)/2)=true then((s.st.getD (((2*i:Nat):Int)/2).toNat 0:Nat):Int)else-1)=1
  rw[show((2*i:Nat):Int)/2=(i:Int) by omega,if_pos (hasB_of hlt),tnc,hi];rfl
theorem abs_cases (h:s.Ok) (x:Int):(hasO (some s) x=false∧ixO s.abs.O x=none)∨ ∃i j:Nat,x=((2*i:Nat):Int)∧s.st.getD i 0=1∧hasO (some s) x=true∧j<s.objs.length∧s.objs.getD j 0=i∧ixO s.abs.O x=some j:=by
 cases hh:hasO (some s) x with
 |true=>
  obtain⟨i,rfl,hi⟩:=(has_iff h).1 hh
  obtain⟨j,hj,e⟩:=objs_index hi
  exact .inr ⟨i,j,rfl,hi,rfl,hj,e,abs_ix hj e⟩
 |false=>
  refine .inl ⟨rfl,abs_none fun i hi e=>?_⟩
  have:hasO (some s) x=true:=(has_iff h).2 ⟨i,e.symm,hi⟩
  rw[hh]at this;cases this
theorem abs_has (h:s.Ok) (x:Int):s.abs.has x=hasO (some s) x:=by
 unfold RL.has
 rcases abs_cases h x with⟨h1,h2⟩|⟨i,j,_,_,h1,_,_,h2⟩
 ·rw[h1,h2];rfl
 ·rw[h1,h2];rfl
theorem abs_lacks (h:s.Ok) (x:Int):s.abs.lacks x=objE (some s) x:=by
 unfold RL.lacks objE
 rw[abs_has h]
theorem abs_get (hj:j<s.objs.length) (e:s.objs.getD j 0=i):s.abs.O.getD j default=s.obAt i:=by
 subst e;simp[HL.abs,hj]
theorem abs_ob (h:s.Ok) (x:Int):(hasO (some s) x=false∧s.abs.ob x=none)∨ ∃i:Nat,x=((2*i:Nat):Int)∧s.st.getD i 0=1∧hasO (some s) x=true∧s.abs.ob x=some (s.obAt i):=by
 unfold RL.ob
 rcases abs_cases h x with⟨h1,h2⟩|⟨i,j,hx,hi,h1,hj,e,h2⟩
 ·exact .inl ⟨h1,by rw[h2];rfl⟩
 ·exact .inr ⟨i,hx,hi,h1,by rw[h2,Option.map_some,abs_get hj e]⟩
theorem obAt_rf (h:s.Ok) (hi:s.st.getD i 0=1): ∃r d k:Nat,validS (r,d,k)=true∧shapeN (s.W.getD (2*i+1) 0)=((r:Int),(d:Int),(k:Int))∧s.size (2*i)=wordsS (r,d,k)∧(s.obAt i).sh=((r:Int),(d:Int),(k:Int))∧(s.obAt i).rf=(List.range r).map (fun j=>s.W.getD (2*i+2+j) 0)∧(s.obAt i).dt=(List.range d).map (fun j=>s.W.getD (2*i+2+r+j) 0):=by
 obtain⟨_,_,_,r,d,k,h1,h2,h3⟩:=h.sz hi
 refine⟨r,d,k,h1,h2,h3,h2,?_,?_⟩
 ·simp only[HL.obAt,h2,tnc]
 ·simp only[HL.obAt,h2,tnc]
theorem map_range_getD {f:Nat→Int} {n:Nat} (h:i<n):((List.range n).map f).getD i 0=f i:=by simp[h]
theorem abs_setRefE (h:s.Ok) (x i to:Int):s.abs.setRefR x i to=setRefE (some s) x i to:=by
 unfold RL.setRefR setRefE fieldO objE
 rcases abs_ob h x with⟨h1,h2⟩|⟨o,rfl,ho,h1,h2⟩
 ·rw[h1,h2];rfl
 ·obtain⟨r,d,k,hv,hs,hz,e1,e2,_⟩:=obAt_rf h ho
  rw[h1,h2]
  simp only[if_true,ne_eq,not_true_eq_false,if_false,cond_false]
  have hsa:s.shapeAt ((2*o:Nat):Int)=((r:Int),(d:Int),(k:Int)):=hs
  rw[hsa,e2,List.length_map,List.length_range,abs_has h]
  by_cases c:i<0∨(r:Int)≤i
  ·rw[if_pos c,if_pos c];rfl
  ·rw[if_neg c,if_neg c];rfl
theorem abs_upd {s':HL} {f:Ob→Ob} (hi:s.st.getD i 0=1) (hB:s'.B=s.B) (hs:s'.st=s.st) (hb:s'.born=s.born) (h1:s'.obAt i=f (s.obAt i)) (h2: ∀k,k≠i→s.st.getD k 0=1→s'.obAt k=s.obAt k):s'.abs=s.abs.upd ((2*i:Nat):Int) f:=by
 obtain⟨j,hj,e⟩:=objs_index hi
 unfold RL.upd
 rw[abs_ix hj e]
 have ho:s'.objs=s.objs:=by unfold HL.objs;rw[hs]
 show RL.mk s'.B (s'.objs.map s'.obAt) [] s'.born=RL.mk s.B (s.abs.O.set j (f (s.abs.O.getD j default))) [] s.born
 rw[hB,hb,ho,abs_get hj e,←h1]
 congr 1
 show s.objs.map s'.obAt=(s.objs.map s.obAt).set j (s'.obAt i)
 apply List.ext_getElem
 ·simp
 intro k k1 k2
 have k3:k<s.objs.length:=by simpa using k1
 rw[List.getElem_set]
 by_cases hk:j=k
 ·subst hk
  rw[if_pos rfl,List.getElem_map]
  congr 1
  simpa[hj]using e
 ·rw[if_neg hk,List.getElem_map,List.getElem_map]
  refine h2 _ (fun e2=>hk ?_) (mem_objs.1 (List.getElem_mem k3))
  have e3:s.objs[j]=s.objs[k]:=by rw[e2];simpa[hj]using e
  exact(List.getElem_inj (h₀:=hj) (h₁:=k3) (objs_nodup s)).1 e3
theorem abs_setRef (h:s.Ok) (x i to:Int): ∃s',setRefM (some s) x i to=some s'∧s'.abs=s.abs.setRefM x i to∧s'.B=s.B∧s'.st=s.st∧s'.born=s.born∧s'.pn=s.pn:=by
 unfold setRefM RL.setRefM
 rw[abs_setRefE h]
 by_cases c:setRefE (some s) x i to=0
 rotate_left
 ·rw[if_neg c];simp only[if_neg c];exact⟨s,rfl,rfl,rfl,rfl,rfl,rfl⟩
 rw[if_pos c]
 simp only[if_pos c]
 refine⟨_,rfl,?_,rfl,rfl,rfl,rfl⟩
 have hf:(fieldO (some s) x i false).2=0:=by
  unfold setRefE at c
  by_cases c2:(fieldO (some s) x i false).2=0
  ·exact c2
  ·simp only[ne_eq,c2,not_false_eq_true,if_true]at c
 obtain⟨o,k,rfl,ho,hk,k1,k2,k3⟩:=field_spec h hf
 obtain⟨r,d,q,hv,hs,hz,e1,e2,e3⟩:=obAt_rf h ho
 have hw:=words_le hv
 simp only at hw
 -- which reference it is
 have hfo:fieldO (some s) ((2*o:Nat):Int) i false=(((2*o:Nat):Int)+2+i,0)∧0≤i∧i<(r:Int):=by
  have hsa:s.shapeAt ((2*o:Nat):Int)=((r:Int),(d:Int),(q:Int)):=hs
  have hh:objE (some s) ((2*o:Nat):Int)=0:=by unfold objE;rw[(has_iff h).2 ⟨o,rfl,ho⟩];rfl
  unfold fieldO at hf⊢
  simp only[hh,ne_eq,not_true_eq_false,if_false,cond_false,hsa]at hf⊢
  by_cases c2:i<0∨(r:Int)≤i
  ·rw[if_pos c2]at hf;cases hf
  ·rw[if_neg c2];exact⟨rfl,by omega,by omega⟩
 obtain⟨hfo1,i0,ir⟩:=hfo
 obtain⟨n,rfl⟩: ∃n:Nat,i=n:=⟨i.toNat,by omega⟩
 have hkn:k=2*o+2+n:=by
  have e4:=hk
  rw[hfo1]at e4;simp only at e4;omega
 rw[hk,tnc]
 have hne: ∀j,j≠k→(s.W.set k to).getD j 0=s.W.getD j 0:=fun j hj=>getD_set_ne' (Ne.symm hj)
 have hhd:=h.inside ho k1 k2
 refine abs_upd (s:=s) (s':= {s with W:=s.W.set k to}) ho rfl rfl rfl ?_ fun t ht hto=>?_
 ·unfold HL.obAt
  simp only[hne (2*o) (by omega),hne (2*o+1) (by omega),hs,tnc]
  congr 1
  ·apply List.ext_getElem
   ·simp
   intro j j1 j2
   have j3:j<r:=by simpa using j1
   rw[List.getElem_set]
   simp only[List.getElem_map,List.getElem_range]
   by_cases c3:n=j
   ·subst c3;rw[if_pos rfl,←hkn];exact getD_set_eq k3
   ·rw[if_neg c3,hne _ (by omega)]
  ·apply List.map_congr_left
   intro j hj
   exact hne _ (by omega)
 ·obtain⟨r',d',q',hv',hs',hz',_,_,_⟩:=obAt_rf h hto
  have hw':=words_le hv'
  simp only at hw'
  have hout: ∀j:Nat,2*t≤j→(j:Int)<((2*t:Nat):Int)+s.size (2*t)→j≠k:=by
   intro j hj1 hj2 e
   subst e
   rcases Nat.lt_or_ge o t with hot|hot
   ·have:=h.dj o t ho hto hot;omega
   ·have:=h.dj t o hto ho (by omega);omega
  unfold HL.obAt
  have a0:=hne (2*t) (hout _ (by omega) (by rw[hz'];omega))
  have a1:=hne (2*t+1) (hout _ (by omega) (by rw[hz'];omega))
  simp only[a0,a1,hs',tnc]
  congr 1
  ·apply List.map_congr_left
   intro j hj
   have:=List.mem_range.1 hj
   exact hne _ (hout _ (by omega) (by rw[hz'];omega))
  ·apply List.map_congr_left
   intro j hj
   have:=List.mem_range.1 hj
   exact hne _ (hout _ (by omega) (by rw[hz'];omega))
end
section
set_option maxRecDepth 8000
variable {s:HL} {l:List Nat} {i:Nat}
theorem obAt_congr {s':HL} (h:s.Ok) (hi:s.st.getD i 0=1) (hW: ∀k:Nat,2*i≤k→(k:Int)<((2*i:Nat):Int)+s.size (2*i)→s'.W.getD k 0=s.W.getD k 0) (hp:s'.pn.getD i 0=s.pn.getD i 0):s'.obAt i=s.obAt i:=by
 obtain⟨r,d,q,hv,hs,hz,_,_,_⟩:=obAt_rf h hi
 have hw:=words_le hv
 simp only at hw
 have a0:=hW (2*i) (by omega) (by rw[hz];omega)
 have a1:=hW (2*i+1) (by omega) (by rw[hz];omega)
 unfold HL.obAt
 simp only[a0,a1,hs,tnc,hp]
 congr 1
 ·apply List.map_congr_left
  intro j hj
  have:=List.mem_range.1 hj
  exact hW _ (by omega) (by rw[hz];omega)
 ·apply List.map_congr_left
  intro j hj
  have:=List.mem_range.1 hj
  exact hW _ (by omega) (by rw[hz];omega)
theorem abs_pin (h:s.Ok) (x:Int) (v:Nat) (hv:v≤1): ∃s',pinM (some s) x v=some s'∧s'.abs=s.abs.pinM x (decide (v=1))∧s'.B=s.B∧s'.W=s.W∧s'.st=s.st∧s'.born=s.born∧(∀i,s.st.getD i 0≠1→s'.pn.getD i 0=s.pn.getD i 0):=by
 simp only[pinM,RL.pinM]
 rw[←abs_lacks h]
 rcases abs_cases h x with⟨h1,h2⟩|⟨i,j,rfl,hi,h1,hj,e,h2⟩
 ·have:s.abs.lacks x=4:=by rw[abs_lacks h];unfold objE;rw[h1];rfl
  simp only[this]
  refine⟨s,rfl,?_,rfl,rfl,rfl,rfl,fun _ _=>rfl⟩
  unfold RL.upd;rw[h2]
 ·have:s.abs.lacks ((2*i:Nat):Int)=0:=by rw[abs_lacks h];unfold objE;rw[h1];rfl
  simp only[this,if_true,tnc,Nat.mul_div_cancel_left i (show 0<2 by omega)]
  have hlt:=(h.start hi).1
  have hsl:=h.sl
  have hpl:=h.pl
  refine⟨_,rfl,?_,rfl,rfl,rfl,rfl,fun k hk=>getD_set_ne' (by rintro rfl;exact hk hi)⟩
  refine abs_upd (s:=s) (s':= {s with pn:=s.pn.set i v}) hi rfl rfl rfl ?_ fun k hk hk1=>obAt_congr (s':= {s with pn:=s.pn.set i v}) h hk1 (fun _ _ _=>rfl) (getD_set_ne' (Ne.symm hk))
  unfold HL.obAt
  simp only[getD_set_eq (show i<s.pn.length by omega)]
theorem erase_filter (hn:l.Nodup) {j:Nat} (hj:j<l.length):l.eraseIdx j=l.filter fun k=>k !=l.getD j 0:=by
 induction l generalizing j with
 |nil=>simp at hj
 |cons a l ih=>
  rw[List.nodup_cons]at hn
  cases j with
  |zero=>
   rw[List.eraseIdx_cons_zero,List.getD_cons_zero,List.filter_cons_of_neg (by simp)]
   refine(List.filter_eq_self.2 fun k hk=>?_).symm
   simp only[bne_iff_ne,ne_eq]
   rintro rfl;exact hn.1 hk
  |succ j=>
   rw[List.eraseIdx_cons_succ,List.getD_cons_succ,List.filter_cons_of_pos,ih hn.2 (by simpa using hj)]
   simp only[bne_iff_ne,ne_eq]
   rintro rfl
   exact hn.1 (by simp[show j<l.length by simpa using hj])
theorem objsB_set {lo hi v:Nat} (hv:v≠1):objsB (l.set i v) lo hi=(objsB l lo hi).filter fun k=>k !=i:=by
 unfold objsB
 rw[List.filter_filter]
 apply List.filter_congr
 intro k _
 by_cases e:k=i
 ·subst e
  have:(l.set k v).getD k 0≠1:=by
   by_cases hk:k<l.length
   ·rw[getD_set_eq hk];exact hv
   ·simp[List.getD_eq_getElem?_getD,List.getElem?_eq_none (Nat.not_lt.1 hk),hk]
  rw[dfl this];simp
 ·rw[getD_set_ne' (Ne.symm e)]
  simp[e]
theorem abs_kill (h:s.Ok) (x:Int): ∃s',killM (some s) x=some s'∧s'.abs=s.abs.killM x∧s'.B=s.B∧s'.born=s.born∧
  ((s'=s)∨ ∃i:Nat,s.st.getD i 0=1∧s'.pl=delM s.pl (s.W.getD (2*i) 0)∧s'.st=s.st.set i 0∧s'.pn=s.pn.set i 0∧s'.W=wipeW s.W (2*i) (s.size (2*i)).toNat):=by
 simp only[killM,RL.killM]
 rw[←abs_lacks h]
 rcases abs_cases h x with⟨h1,h2⟩|⟨i,j,rfl,hi,h1,hj,e,h2⟩
 ·have:s.abs.lacks x=4:=by rw[abs_lacks h];unfold objE;rw[h1];rfl
  simp only[this]
  refine⟨s,rfl,?_,rfl,rfl,.inl rfl⟩
  rw[h2]
 ·have:s.abs.lacks ((2*i:Nat):Int)=0:=by rw[abs_lacks h];unfold objE;rw[h1];rfl
  simp only[this,if_true,tnc,Nat.mul_div_cancel_left i (show 0<2 by omega)]
  refine⟨_,rfl,?_,rfl,rfl,.inr ⟨i,hi,rfl,rfl,rfl,rfl⟩⟩
  rw[h2]
  obtain⟨g1,g2,g3,_⟩:=h.sz hi
  have hin:2*i+(s.size (2*i)).toNat≤s.W.length:=by omega
  show RL.mk s.B _ [] s.born=RL.mk s.B (s.abs.O.eraseIdx j) [] s.born
  congr 1
  show List.map _ (objsB (s.st.set i 0) 0 (s.st.set i 0).length)=(s.objs.map s.obAt).eraseIdx j
  rw[List.length_set,objsB_set (by omega),map_erase,erase_filter (objs_nodup s) hj,e]
  apply List.map_congr_left
  intro k hk
  obtain⟨k1,k2⟩:=List.mem_filter.1 hk
  have hk1:s.st.getD k 0=1:=mem_objs.1 k1
  have hki:k≠i:=by simpa using k2
  refine obAt_congr h hk1 (fun t t1 t2=>?_) (getD_set_ne' (Ne.symm hki))
  simp only
  rw[wipeW_get hin,if_neg]
  rcases Nat.lt_or_ge i k with hik|hik
  ·have:=h.dj i k hi hk1 hik;omega
  ·have:=h.dj k i hk1 hi (by omega);omega
theorem wrong_congr {t:HL} (h:s.B=t.B) (a words:Int):wrongB s a words=wrongB t a words:=by
 unfold wrongB HL.b HL.span
 rw[h]
theorem find_spec (h:s.Ok) {x:Int} (e:(findO (some s) x).2=0): ∃i:Nat,s.st.getD i 0=1∧(findO (some s) x).1=((2*i:Nat):Int)∧((2*i:Nat):Int)≤x∧x<((2*i:Nat):Int)+s.size (2*i):=by
 unfold findO at e⊢
 simp only at e⊢
 split at e
 ·cases e
 ·rename_i h1
  rw[if_neg h1]
  split at e
  ·cases e
  ·rename_i i hi
   split at e
   ·cases e
   ·rename_i h2
    have hl:s.starts.lastO (x/2+1) 1=lastI (fun k=>decide ((k:Int)<x/2+1)&&decide (((s.st.getD k 0:Nat):Int)=1)) s.st.length:=rfl
    have hi':=hi
    rw[hl]at hi'
    obtain⟨i1,i2⟩:=lastI_spec hi'
    simp only[Bool.and_eq_true,decide_eq_true_eq]at i2
    refine⟨i,by omega,?_,by omega,by omega⟩
    simp only[hi,if_neg h2]
    omega
theorem abs_fits (h:s.Inv) (a:Int) (sh:Sh) (hv:validS sh=true):s.abs.fitsR a sh 0=fitsE s a (wordsS sh) (-1):=by
 have hw:=words_le hv
 have hwl:=h.ok.wl
 unfold RL.fitsR fitsE
 have hB:s.abs.B=s.B:=rfl
 by_cases c1:a<0∨a%2≠0∨((64*s.abs.B.length:Nat):Int)≤a
 ·rw[if_pos c1,if_pos]
  rw[hB]at c1
  simp only[argB,Bool.or_eq_true,decide_eq_true_eq]
  omega
 have hA:argB s a=false:=by
  rw[hB]at c1
  simp only[argB,Bool.or_eq_false_iff,decide_eq_false_iff_not]
  omega
 rw[if_neg c1,hA]
 simp only[Bool.false_eq_true,if_false]
 rw[wrong_congr (t:=s) (show s.abs.hl.B=s.B from rfl)]
 by_cases c2:wrongB s a (wordsS sh)=true
 ·rw[if_pos c2,if_pos c2]
 rw[if_neg c2,if_neg c2]
 have key:s.abs.O.any (overB a (wordsS sh) 0)=true↔(List.range ((wordsS sh+1)/2).toNat).any (takenB s a (-1))=true:=by
  simp only[List.any_eq_true]
  constructor
  ·rintro⟨o,ho,hov⟩
   obtain⟨i,hi,rfl⟩:=List.mem_map.1 ho
   have hi1:=mem_objs.1 hi
   obtain⟨r,d,q,hv',hs,hz,e1,_,_⟩:=obAt_rf h.ok hi1
   have hov':(((2*i:Nat):Int)<a+wordsS sh)∧a<((2*i:Nat):Int)+s.size (2*i):=by
    simp only[overB,Bool.and_eq_true,decide_eq_true_eq]at hov
    obtain⟨⟨_,h1⟩,h2⟩:=hov
    rw[e1]at h2
    exact⟨h1,by rw[hz];exact h2⟩
   obtain⟨g1,g2,g3,_⟩:=h.ok.sz hi1
   rw[hB]at c1
   have ha2:a%2=0:=by omega
   refine⟨((max a ((2*i:Nat):Int)-a)/2).toNat,List.mem_range.2 (by omega),?_⟩
   have e5:a+2*((((max a ((2*i:Nat):Int)-a)/2).toNat:Nat):Int)=(((max a ((2*i:Nat):Int)).toNat:Nat):Int):=by omega
   unfold takenB
   rw[e5,find_of h.ok hi1 (by omega) (by omega)]
   simp;omega
  ·rintro⟨j,hj,ht⟩
   have hj':=List.mem_range.1 hj
   unfold takenB at ht
   simp only[Bool.and_eq_true,beq_iff_eq]at ht
   obtain⟨i,hi1,_,i2,i3⟩:=find_spec h.ok ht.1
   obtain⟨r,d,q,hv',hs,hz,e1,_,_⟩:=obAt_rf h.ok hi1
   obtain⟨g1,g2,g3,_⟩:=h.ok.sz hi1
   refine⟨s.obAt i,List.mem_map.2 ⟨i,mem_objs.2 hi1,rfl⟩,?_⟩
   have hid:=h.ids i hi1
   simp only[overB,Bool.and_eq_true,decide_eq_true_eq,bne_iff_ne,ne_eq]
   rw[e1,←hz]
   refine⟨⟨?_,?_⟩,?_⟩
   ·show¬s.W.getD (2*i) 0=0;omega
   ·show((2*i:Nat):Int)<_;omega
   ·show a<((2*i:Nat):Int)+_;omega
 by_cases c3:s.abs.O.any (overB a (wordsS sh) 0)=true
 ·rw[if_pos c3,if_pos (key.1 c3)]
 ·rw[if_neg c3,if_neg (fun h=>c3 (key.2 h))]
end
section
set_option maxRecDepth 8000
variable {s s':HL} {x:Int} {hi lo:Nat}
theorem objsB_split (l:List Nat) {m:Nat} (h1:lo≤m) (h2:m≤hi):objsB l lo hi=objsB l lo m++objsB l m hi:=by
 obtain⟨d,rfl⟩: ∃d,hi=m+d:=⟨hi-m,by omega⟩
 induction d with
 |zero=>rw[Nat.add_zero,objsB_self,List.append_nil]
 |succ d ih=>
  rw[show m+(d+1)=m+d+1 by omega,objsB_succ,objsB_succ,ih (by omega),List.append_assoc]
  congr 2
  by_cases h:l.getD (m+d) 0=1
  ·rw[if_pos ⟨by omega,h⟩,if_pos ⟨by omega,h⟩]
  ·rw[if_neg (fun e=>h e.2),if_neg (fun e=>h e.2)]
theorem objsB_congr {l l':List Nat} (h: ∀j,lo≤j→j<hi→l.getD j 0=l'.getD j 0):objsB l lo hi=objsB l' lo hi:=by
 unfold objsB
 apply List.filter_congr
 intro j hj
 have:=List.mem_range.1 hj
 by_cases h1:lo≤j
 ·rw[h j h1 this]
 ·simp[h1]
theorem objsB_one (l:List Nat) (k:Nat):objsB l k (k+1)=if l.getD k 0=1 then [k]else []:=by
 rw[objsB_succ,objsB_self,List.nil_append]
 by_cases h:l.getD k 0=1
 ·rw[if_pos ⟨Nat.le_refl _,h⟩,if_pos h]
 ·rw[if_neg (fun e=>h e.2),if_neg h]
theorem abs_placeR (h:s.Inv) (a:Int) (sh:Sh):s.abs.placeR a sh=placeR (some s) a sh:=by
 unfold RL.placeR placeR
 cases hv:validS sh with
 |false=>rfl
 |true=>
  simp only[Bool.true_eq_false,if_false]
  rw[abs_fits h a sh hv]
  rfl
theorem abs_place (h:s.Inv) (a:Int) (sh:Sh): ∃s',placeM (some s) a sh=some s'∧s'.abs=s.abs.placeM a sh∧s'.Inv∧s'.B=s.B∧s'.born≤s.born+1:=by
 have hR:=abs_placeR h a sh
 by_cases c:(placeR (some s) a sh).2=0
 rotate_left
 ·refine⟨s,by unfold placeM;simp only[if_neg c],?_,h,rfl,by omega⟩
  unfold RL.placeM
  rw[hR,if_neg c]
 -- it fits
 have hv:validS sh=true:=by
  cases hv:validS sh with
  |true=>rfl
  |false=>simp[placeR,hv]at c
 have hE:fitsE s a (wordsS sh) (-1)=0:=by
  by_cases e:fitsE s a (wordsS sh) (-1)=0
  ·exact e
  ·simp[placeR,hv,e]at c
 have hw:=words_le hv
 obtain⟨k,rfl,hk,hin,hfree⟩:=fits_spec h.ok hw.1 hw.2.2.1 hw.2.1 hE
 have hsl:=h.ok.sl
 have hwl:=h.ok.wl
 have hpl:=h.ok.pl
 have hPR:placeR (some s) ((2*k:Nat):Int) sh=(((s.born+1:Nat):Int),0):=by
  unfold placeR
  simp only[hv,Bool.true_eq_false,if_false]
  rw[if_neg (fun e=>e hE)]
 have hPM:placeM (some s) ((2*k:Nat):Int) sh=some {s with W:=(s.W.set (2*k) ((s.born+1:Nat):Int)).set (2*k+1) (numS sh),st:=s.st.set k 1,pl:=putM s.pl ((s.born+1:Nat):Int) (.int .i64 ((2*k:Nat):Int)),born:=s.born+1}:=by
  unfold placeM
  simp only[hPR,if_true,tnc,Nat.mul_div_cancel_left k (show 0<2 by omega)]
 -- no object has a word there
 have hno: ∀i,s.st.getD i 0=1→((2*i:Nat):Int)+s.size (2*i)≤((2*k:Nat):Int)∨((2*k:Nat):Int)+wordsS sh≤((2*i:Nat):Int):=by
  intro i hi
  obtain⟨g1,g2,g3,_⟩:=h.ok.sz hi
  by_cases c1:k≤i
  ·right
   refine Decidable.byContradiction fun c2=>?_
   have h1:=taken_none (hfree (i-k) (by omega))
   have e1:((2*k:Nat):Int)+2*((i-k:Nat):Int)=((2*i:Nat):Int):=by omega
   rw[e1,find_of h.ok hi (Nat.le_refl _) (by omega)]at h1
   exact h1 rfl
  ·left
   refine Decidable.byContradiction fun c2=>?_
   have h1:=taken_none (hfree 0 (by omega))
   have e1:((2*k:Nat):Int)+2*((0:Nat):Int)=((2*k:Nat):Int):=by omega
   rw[e1,find_of h.ok hi (by omega) (by omega)]at h1
   exact h1 rfl
 have hnk:s.st.getD k 0≠1:=fun e=>by
  have:=hno k e
  have:=(h.ok.sz e).1
  omega
 obtain⟨r,d,q,hsh⟩: ∃r d q:Nat,sh=((r:Int),(d:Int),(q:Int)):=by
  obtain⟨sa,sb,sc⟩:=sh
  have hv':=hv
  simp only[validS,Bool.and_eq_true,decide_eq_true_eq]at hv'
  exact⟨sa.toNat,sb.toNat,sc.toNat,by rw[Prod.mk.injEq,Prod.mk.injEq];omega⟩
 have hsn:shapeN (numS sh)=sh:=by rw[hsh];rw[hsh]at hv;exact shape_num hv
 have hzero: ∀j:Nat,2*k≤j→(j:Int)<((2*k:Nat):Int)+wordsS sh→s.W.getD j 0=0:=fun j j1 j2=>h.fz j fun i hi=>by
  have:=hno i hi
  have:=(h.ok.sz hi).1
  omega
 have hW: ∀j,j≠2*k→j≠2*k+1→((s.W.set (2*k) ((s.born+1:Nat):Int)).set (2*k+1) (numS sh)).getD j 0=s.W.getD j 0:=fun j j1 j2=>by
  rw[getD_set_ne' (Ne.symm j2),getD_set_ne' (Ne.symm j1)]
 have hW0:((s.W.set (2*k) ((s.born+1:Nat):Int)).set (2*k+1) (numS sh)).getD (2*k) 0=((s.born+1:Nat):Int):=by
  rw[getD_set_ne' (by omega),getD_set_eq (by omega)]
 have hW1:((s.W.set (2*k) ((s.born+1:Nat):Int)).set (2*k+1) (numS sh)).getD (2*k+1) 0=numS sh:=getD_set_eq (by simp;omega)
 have hout: ∀i,s.st.getD i 0=1→ ∀j:Nat,2*i≤j→(j:Int)<((2*i:Nat):Int)+s.size (2*i)→j≠2*k∧j≠2*k+1:=fun i hi j j1 j2=>by
  have:=hno i hi
  omega
 rw[hPM]
 refine⟨_,rfl,?_,?_,rfl,Nat.le_refl _⟩
 ·unfold RL.placeM
  rw[hR,hPR,if_pos rfl]
  generalize hs':(HL.mk s.B ((s.W.set (2*k) ((s.born+1:Nat):Int)).set (2*k+1) (numS sh)) (s.st.set k 1) s.pn (putM s.pl ((s.born+1:Nat):Int) (.int .i64 ((2*k:Nat):Int))) s.fw (s.born+1))=s'
  have sW:s'.W=(s.W.set (2*k) ((s.born+1:Nat):Int)).set (2*k+1) (numS sh):=by rw[←hs']
  have sS:s'.st=s.st.set k 1:=by rw[←hs']
  have sP:s'.pn=s.pn:=by rw[←hs']
  have sB:s'.B=s.B:=by rw[←hs']
  have sb:s'.born=s.born+1:=by rw[←hs']
  have hA:objsB s.st 0 s.st.length=objsB s.st 0 k++objsB s.st (k+1) s.st.length:=by
   rw[objsB_split s.st (show 0≤k by omega) (show k≤s.st.length by omega),objsB_split s.st (show k≤k+1 by omega) (show k+1≤s.st.length by omega),objsB_one,if_neg hnk,List.nil_append]
  have hA':s'.objs=objsB s.st 0 k++[k]++objsB s.st (k+1) s.st.length:=by
   unfold HL.objs
   rw[sS,List.length_set,objsB_split (s.st.set k 1) (show 0≤k by omega) (show k≤s.st.length by omega),objsB_split (s.st.set k 1) (show k≤k+1 by omega) (show k+1≤s.st.length by omega),objsB_one,if_pos (getD_set_eq hk),←List.append_assoc]
   congr 1
   ·congr 1
    exact objsB_congr fun j _ hj=>getD_set_ne' (by omega)
   ·exact objsB_congr fun j hj _=>getD_set_ne' (by omega)
  have hold: ∀i,s.st.getD i 0=1→s'.obAt i=s.obAt i:=fun i hi=>obAt_congr h.ok hi (fun j j1 j2=>by rw[sW];exact hW j (hout i hi j j1 j2).1 (hout i hi j j1 j2).2) (by rw[sP])
  have hnew:s'.obAt k=s.abs.newOb ((2*k:Nat):Int) sh:=by
   unfold HL.obAt RL.newOb
   rw[sW,sP,hW0,hW1,hsn,h.pz k hnk]
   have hw':=hw
   rw[hsh]at hw'⊢
   simp only[tnc]at hw'⊢
   rw[hsh]at hW hzero
   congr 1
   ·apply List.ext_getElem
    ·simp
    intro j j1 j2
    have j3:j<r:=by simpa using j1
    rw[List.getElem_map,List.getElem_range,List.getElem_replicate,hW _ (by omega) (by omega)]
    exact hzero _ (by omega) (by omega)
   ·apply List.ext_getElem
    ·simp
    intro j j1 j2
    have j3:j<d:=by simpa using j1
    rw[List.getElem_map,List.getElem_range,List.getElem_replicate,hW _ (by omega) (by omega)]
    exact hzero _ (by omega) (by omega)
  have mA: ∀i,i∈objsB s.st 0 k→i<k∧s.st.getD i 0=1:=fun i hi=>⟨(mem_objsB.1 hi).1.2,(mem_objsB.1 hi).2⟩
  have mC: ∀i,i∈objsB s.st (k+1) s.st.length→k<i∧s.st.getD i 0=1:=fun i hi=>⟨(mem_objsB.1 hi).1.1,(mem_objsB.1 hi).2⟩
  have hO:s.abs.O=(objsB s.st 0 k).map s.obAt++(objsB s.st (k+1) s.st.length).map s.obAt:=by
   show(objsB s.st 0 s.st.length).map s.obAt=_
   rw[hA,List.map_append]
  have hpos:posO s.abs.O ((2*k:Nat):Int)=(objsB s.st 0 k).length:=by
   refine posO_at (by rw[hO];simp) (fun j hj=>?_) fun hl=>?_
   ·have e:s.abs.O.getD j default=s.obAt ((objsB s.st 0 k)[j]):=by
     rw[hO,List.getD_eq_getElem?_getD,List.getElem?_append_left (by simpa using hj)];simp[hj]
    rw[e]
    have:=(mA _ (List.getElem_mem hj)).1
    show((2*(objsB s.st 0 k)[j]:Nat):Int)<_
    omega
   ·have hl':0<(objsB s.st (k+1) s.st.length).length:=by rw[hO]at hl;simpa using hl
    have e:s.abs.O.getD (objsB s.st 0 k).length default=s.obAt ((objsB s.st (k+1) s.st.length)[0]):=by
     rw[hO,List.getD_eq_getElem?_getD,List.getElem?_append_right (by simp)];simp[hl']
    rw[e]
    have:=(mC _ (List.getElem_mem hl')).1
    show¬((2*(objsB s.st (k+1) s.st.length)[0]:Nat):Int)<_
    omega
  show RL.mk s'.B (s'.objs.map s'.obAt) [] s'.born=RL.mk s.B (s.abs.O.take (posO s.abs.O ((2*k:Nat):Int))++[s.abs.newOb ((2*k:Nat):Int) sh]++s.abs.O.drop (posO s.abs.O ((2*k:Nat):Int))) [] (s.born+1)
  rw[sB,sb,hpos,hA',hO,List.map_append,List.map_append,List.map_cons,List.map_nil,hnew,List.take_append_of_le_length (by simp),List.drop_append_of_le_length (by simp)]
  congr 1
  rw[List.take_of_length_le (by simp),List.drop_of_length_le (by simp),List.nil_append]
  congr 1
  ·congr 1
   exact List.map_congr_left fun i hi=>hold i (mA i hi).2
  ·exact List.map_congr_left fun i hi=>hold i (mC i hi).2
 ·have hst: ∀i,(s.st.set k 1).getD i 0=1→i=k∨(i≠k∧s.st.getD i 0=1):=fun i hi=>by
   by_cases e:i=k
   ·exact .inl e
   ·exact .inr ⟨e,by rw[getD_set_ne' (Ne.symm e)]at hi;exact hi⟩
  have hsz: ∀i,i≠k→HL.size {s with W:=(s.W.set (2*k) ((s.born+1:Nat):Int)).set (2*k+1) (numS sh),st:=s.st.set k 1,pl:=putM s.pl ((s.born+1:Nat):Int) (.int .i64 ((2*k:Nat):Int)),born:=s.born+1} (2*i)=s.size (2*i):=fun i hi=>by
   unfold HL.size
   simp only
   rw[hW _ (by omega) (by omega)]
  have hszk:HL.size {s with W:=(s.W.set (2*k) ((s.born+1:Nat):Int)).set (2*k+1) (numS sh),st:=s.st.set k 1,pl:=putM s.pl ((s.born+1:Nat):Int) (.int .i64 ((2*k:Nat):Int)),born:=s.born+1} (2*k)=wordsS sh:=by
   unfold HL.size
   simp only
   rw[hW1,hsn]
  have hk0:k≠0:=fun e=>by
   subst e
   have hb:=h.b0
   by_cases ha:argB s ((2*0:Nat):Int)=true
   ·unfold fitsE at hE;rw[if_pos ha]at hE;cases hE
   by_cases hwr:wrongB s ((2*0:Nat):Int) (wordsS sh)=true
   ·unfold fitsE at hE;rw[if_neg ha,if_pos hwr]at hE;cases hE
   refine hwr ?_
   unfold wrongB HL.b
   split
   ·simp only[Bool.or_eq_true,decide_eq_true_eq];left;show(s.B.getD 0 (0,0)).1≠1;omega
   ·simp only[Bool.or_eq_true,decide_eq_true_eq];left;left;show(s.B.getD 0 (0,0)).1≠2;omega
  refine⟨h.ok.place hv hk hin hfree,h.bf,fun i hi=>?_,fun i hi=>h.pz i fun e=>hi ?_,fun j hj=>?_,h.b0,fun e=>h.z0 (by simp only at e;rw[getD_set_ne' hk0]at e;exact e),h.pm.place hnk rfl rfl (fun j=>⟨fun e=>(hst j e).imp id And.right,fun e=>?_⟩) hW0 fun j hj hj1=>hW _ (by omega) (by omega)⟩
  ·rcases hst i hi with rfl|⟨hne,hi'⟩
   ·simp only;rw[hW0];omega
   ·simp only;rw[hW _ (by omega) (by omega)];exact h.ids i hi'
  ·by_cases e2:i=k
   ·subst e2;exact getD_set_eq hk
   ·simp only;rw[getD_set_ne' (Ne.symm e2)];exact e
  ·have hk1:=hj k (getD_set_eq hk)
   rw[hszk]at hk1
   simp only
   rw[hW j (by omega) (by omega)]
   refine h.fz j fun i hi=>?_
   have hik:i≠k:=fun e=>hnk (e▸hi)
   have:=hj i (by simp only;rw[getD_set_ne' (Ne.symm hik)];exact hi)
   rw[hsz i hik]at this
   exact this
  ·by_cases c:j=k
   ·rw[c];exact getD_set_eq hk
   ·simp only;rw[getD_set_ne' (Ne.symm c)];exact e.resolve_left c
theorem HL.Inv.setRef (h:s.Inv) {i to:Int} (e:setRefM (some s) x i to=some s') (hok:s'.Ok):s'.Inv:=by
 unfold setRefM at e
 by_cases c:setRefE (some s) x i to=0
 rotate_left
 ·simp only[if_neg c,Option.some.injEq]at e;subst e;exact h
 simp only[if_pos c,Option.some.injEq]at e
 subst e
 have hf:(fieldO (some s) x i false).2=0:=by
  unfold setRefE at c
  by_cases c2:(fieldO (some s) x i false).2=0
  ·exact c2
  ·simp only[ne_eq,c2,not_false_eq_true,if_true]at c
 obtain⟨o,k,rfl,ho,hk,k1,k2,k3⟩:=field_spec h.ok hf
 have hhd:=h.ok.inside ho k1 k2
 rw[hk,tnc]
 have hsz: ∀j,s.st.getD j 0=1→HL.size {s with W:=s.W.set k to} (2*j)=s.size (2*j):=fun j hj=>HL.size_set (hhd j hj)
 have hne: ∀j,s.st.getD j 0=1→2*j≠k:=fun j hj=>by
  intro e2
  rcases Nat.lt_trichotomy o j with hij|hij|hij
  ·have:=h.ok.dj o j ho hj hij;omega
  ·subst hij;omega
  ·have:=h.ok.dj j o hj ho hij;have:=(h.ok.sz hj).1;omega
 refine⟨by rw[hk,tnc]at hok;exact hok,h.bf,fun j hj=>?_,h.pz,fun j hj=>?_,h.b0,h.z0,h.pm.congr rfl rfl (fun _=>Iff.rfl) fun j hj=>?_⟩
 ·simp only;rw[getD_set_ne' (Ne.symm (hne j hj))];exact h.ids j hj
 ·have hjk:j≠k:=by
   intro e2
   have:=hj o ho
   rw[hsz o ho]at this
   omega
  simp only;rw[getD_set_ne' (Ne.symm hjk)]
  exact h.fz j fun i hi=>by have:=hj i hi;rw[hsz i hi]at this;exact this
 ·simp only;rw[getD_set_ne' (Ne.symm (hne j hj))]
theorem HL.Inv.pin (h:s.Inv) {v:Nat} (e:pinM (some s) x v=some s') (hok:s'.Ok) (hp: ∀i,s.st.getD i 0≠1→s'.pn.getD i 0=s.pn.getD i 0):s'.Inv:=by
 unfold pinM at e
 by_cases c:objE (some s) x=0
 rotate_left
 ·simp only[if_neg c,Option.some.injEq]at e;subst e;exact h
 simp only[if_pos c,Option.some.injEq]at e
 subst e
 exact⟨hok,h.bf,h.ids,fun i hi=>(hp i hi).trans (h.pz i hi),h.fz,h.b0,h.z0,h.pm.congr rfl rfl (fun _=>Iff.rfl) fun _ _=>rfl⟩
theorem HL.Inv.kill (h:s.Inv) (e:killM (some s) x=some s') (hok:s'.Ok):s'.Inv:=by
 obtain⟨t,e1,_,hB,hbo,hc⟩:=abs_kill h.ok x
 rw[e1]at e
 cases e
 rcases hc with rfl|⟨i,hi,hpl,hS,hP,hW⟩
 ·exact h
 obtain⟨g1,g2,g3,_⟩:=h.ok.sz hi
 have hin:2*i+(s.size (2*i)).toNat≤s.W.length:=by omega
 have hst: ∀j,s'.st.getD j 0=1→j≠i∧s.st.getD j 0=1:=by
  intro j hj
  rw[hS]at hj
  by_cases e:j=i
  ·subst e
   have:=(h.ok.start hi).1
   rw[getD_set_eq this]at hj;cases hj
  ·exact⟨e,by rw[getD_set_ne' (Ne.symm e)]at hj;exact hj⟩
 have hout: ∀j,j≠i→s.st.getD j 0=1→ ∀t:Nat,2*j≤t→(t:Int)<((2*j:Nat):Int)+s.size (2*j)→s'.W.getD t 0=s.W.getD t 0:=fun j hj hj1 t t1 t2=>by
  rw[hW,wipeW_get hin,if_neg]
  rcases Nat.lt_or_ge i j with hij|hij
  ·have:=h.ok.dj i j hi hj1 hij;omega
  ·have:=h.ok.dj j i hj1 hi (by omega);omega
 have hsz: ∀j,j≠i→s.st.getD j 0=1→s'.size (2*j)=s.size (2*j):=fun j hj hj1=>by
  unfold HL.size
  have:=(h.ok.sz hj1).1
  rw[hout j hj hj1 (2*j+1) (by omega) (by omega)]
 refine⟨hok,fun j hj=>by rw[hB]at hj⊢;exact h.bf j hj,fun j hj=>?_,fun j hj=>?_,fun t ht=>?_,by rw[hB];exact h.b0,fun e=>h.z0 (hst 0 e).2,h.pm.kill hi hpl hbo (fun j=>⟨hst j,fun e=>by rw[hS,getD_set_ne' (Ne.symm e.1)];exact e.2⟩) fun j hj hj1=>hout j hj hj1 (2*j) (by omega) (by have:=(h.ok.sz hj1).1;omega)⟩
 ·obtain⟨hne,hj1⟩:=hst j hj
  have:=(h.ok.sz hj1).1
  rw[hout j hne hj1 (2*j) (by omega) (by omega)]
  exact h.ids j hj1
 ·rw[hP]
  by_cases e:j=i
  ·subst e
   by_cases hl:j<s.pn.length
   ·rw[getD_set_eq hl]
   ·simp[List.getD_eq_getElem?_getD,List.getElem?_eq_none (Nat.not_lt.1 hl),hl]
  ·rw[getD_set_ne' (Ne.symm e)]
   refine h.pz j fun e2=>hj ?_
   rw[hS,getD_set_ne' (Ne.symm e)];exact e2
 ·rw[hW,wipeW_get hin]
  by_cases c:2*i≤t∧t<2*i+(s.size (2*i)).toNat
  ·rw[if_pos c]
  ·rw[if_neg c]
   refine h.fz t fun j hj=>?_
   by_cases e:j=i
   ·subst e;omega
   ·have:=ht j (by rw[hS,getD_set_ne' (Ne.symm e)];exact hj)
    rw[hsz j e hj]at this
    exact this
theorem HL.Inv.setB (h:s.Inv) {B':List (Int×Int)} (hl:B'.length=s.B.length) (hb: ∀i,i<s.B.length→(B'.getD i (0,0)).1=0→B'.getD i (0,0)=(0,0)) (hb0:B'.getD 0 (0,0)=s.B.getD 0 (0,0)):HL.Inv {s with B:=B'}:=
 ⟨h.ok.setB hl,fun i hi=>hb i (by rw[←hl];exact hi),h.ids,h.pz,h.fz,by simp only[hb0];exact h.b0,h.z0,h.pm.congr rfl rfl (fun _=>Iff.rfl) fun _ _=>rfl⟩
theorem abs_claim (h:s.Inv) (k:Nat) (sp:Int):s.abs.claimE (k:Int) sp=claimE (some s) (k:Int) 1 (1,sp)∧ ∃s',claimM (some s) (k:Int) 1 (1,sp) (0,0)=some s'∧s'.abs=s.abs.claimM (k:Int) sp∧s'.Inv∧s'.born=s.born∧s'.B.length=s.B.length:=by
 have hE:s.abs.claimE (k:Int) sp=claimE (some s) (k:Int) 1 (1,sp):=by
  unfold RL.claimE claimE thereO
  have hB:s.abs.B=s.B:=rfl
  rw[hB]
  simp only
  by_cases c1: ¬(1≤(k:Int)∧(k:Int)<(s.B.length:Int))∨spaceB sp=false
  ·rw[if_pos c1,if_pos]
   rcases c1 with c1|c1
   ·left;simp only[Bool.and_eq_false_iff,decide_eq_false_iff_not];omega
   ·exact .inr (.inr (.inr c1))
  ·have c1a:1≤(k:Int)∧(k:Int)<(s.B.length:Int):=Decidable.byContradiction fun e=>c1 (.inl e)
   have c1b: ¬spaceB sp=false:=fun e=>c1 (.inr e)
   have hc: ¬((decide (1≤(k:Int))&&decide ((k:Int)<(s.B.length:Int)))=false∨(1:Int)<1∨(s.B.length:Int)-(k:Int)<1∨spaceB sp=false):=by
    rintro(h1|h1|h1|h1)
    ·simp only[Bool.and_eq_false_iff,decide_eq_false_iff_not]at h1;omega
    ·omega
    ·omega
    ·exact c1b h1
   have hk:k<s.B.length:=by omega
   have e1:(s.B.drop k).take 1=[s.B.getD k (0,0)]:=by
    rw[List.drop_eq_getElem_cons hk,List.take_succ_cons,List.take_zero,List.getD_eq_getElem?_getD,List.getElem?_eq_getElem hk];rfl
   rw[if_neg c1,if_neg hc,tnc,show(1:Int).toNat=1 from rfl,e1]
   simp only[List.any_cons,List.any_nil,Bool.or_false]
   by_cases c2:(s.B.getD k (0,0)).1=0
   ·rw[h.bf k hk c2];rfl
   ·rw[if_pos c2,if_pos]
    simp only[bne_iff_ne,ne_eq]
    intro e;exact c2 (by rw[e])
 refine⟨hE,?_⟩
 unfold claimM RL.claimM
 simp only
 rw[←hE]
 by_cases c:s.abs.claimE (k:Int) sp=0
 rotate_left
 ·rw[if_neg c,if_neg c];exact⟨s,rfl,rfl,h,rfl,rfl⟩
 rw[if_pos c,if_pos c]
 obtain⟨hk1,hk⟩:1≤k∧k<s.B.length:=by
  unfold RL.claimE at c
  by_cases c1: ¬(1≤(k:Int)∧(k:Int)<(s.abs.B.length:Int))∨spaceB sp=false
  ·rw[if_pos c1]at c;cases c
  ·have:1≤(k:Int)∧(k:Int)<(s.abs.B.length:Int):=Decidable.byContradiction fun e=>c1 (.inl e)
   exact⟨by omega,Int.ofNat_lt.1 this.2⟩
 have e2:(fillB s.B (k:Int).toNat (0,0) (1:Int).toNat).set (k:Int).toNat (1,sp)=s.B.set k (1,sp):=by
  rw[tnc,show(1:Int).toNat=1 from rfl]
  simp only[fillB,Nat.add_zero,List.set_set]
 rw[e2,tnc]
 refine⟨_,rfl,rfl,h.setB (by simp) (fun i hi h0=>?_) (getD_set_ne' (by omega)),rfl,by simp⟩
 by_cases e:k=i
 ·subst e;rw[getD_set_eq hk]at h0;cases h0
 ·rw[getD_set_ne' e]at h0⊢;exact h.bf i hi h0
theorem fillB_get (B:List (Int×Int)) (k:Nat) (x:Int×Int): ∀n,k+n≤B.length→ ∀i,(fillB B k x n).getD i (0,0)=if k≤i∧i<k+n then x else B.getD i (0,0)
 |0,_,i=>by rw[if_neg (by omega)];rfl
 |n+1,h,i=>by
  unfold fillB
  by_cases e:k+n=i
  ·subst e
   rw[getD_set_eq (by rw[fillB_len];omega),if_pos (by omega)]
  ·rw[getD_set_ne' e,fillB_get B k x n (by omega) i]
   by_cases c:k≤i∧i<k+n
   ·rw[if_pos c,if_pos (by omega)]
   ·rw[if_neg c,if_neg (by omega)]
theorem abs_claimL (h:s.Inv) (k n:Nat) (sp:Int):s.abs.claimLE (k:Int) (n:Int) sp=claimE (some s) (k:Int) (n:Int) (2,sp)∧ ∃s',claimM (some s) (k:Int) (n:Int) (2,sp) (3,sp)=some s'∧s'.abs=s.abs.claimLM (k:Int) (n:Int) sp∧s'.Inv∧s'.born=s.born∧s'.B.length=s.B.length:=by
 have hE:s.abs.claimLE (k:Int) (n:Int) sp=claimE (some s) (k:Int) (n:Int) (2,sp):=by
  unfold RL.claimLE claimE thereO
  have hB:s.abs.B=s.B:=rfl
  rw[hB]
  simp only
  by_cases c1: ¬(1≤(k:Int)∧(k:Int)<(s.B.length:Int))∨(n:Int)<1∨(s.B.length:Int)-(k:Int)<(n:Int)∨spaceB sp=false
  ·rw[if_pos c1,if_pos]
   rcases c1 with c1|c1|c1|c1
   ·left;simp only[Bool.and_eq_false_iff,decide_eq_false_iff_not];omega
   ·exact .inr (.inl c1)
   ·exact .inr (.inr (.inl c1))
   ·exact .inr (.inr (.inr c1))
  ·have c1a:1≤(k:Int)∧(k:Int)<(s.B.length:Int):=Decidable.byContradiction fun e=>c1 (.inl e)
   have c1b: ¬(n:Int)<1:=fun e=>c1 (.inr (.inl e))
   have c1c: ¬(s.B.length:Int)-(k:Int)<(n:Int):=fun e=>c1 (.inr (.inr (.inl e)))
   have c1d: ¬spaceB sp=false:=fun e=>c1 (.inr (.inr (.inr e)))
   have hc: ¬((decide (1≤(k:Int))&&decide ((k:Int)<(s.B.length:Int)))=false∨(n:Int)<1∨(s.B.length:Int)-(k:Int)<(n:Int)∨spaceB sp=false):=by
    rintro(h1|h1|h1|h1)
    ·simp only[Bool.and_eq_false_iff,decide_eq_false_iff_not]at h1;omega
    ·exact c1b h1
    ·exact c1c h1
    ·exact c1d h1
   rw[if_neg c1,if_neg hc,tnc,tnc]
   have key:(List.range n).any (fun j=>(s.B.getD (k+j) (0,0)).1 !=0)=true↔((s.B.drop k).take n).any (fun x=>x !=(0,0))=true:=by
    simp only[List.any_eq_true]
    constructor
    ·rintro⟨j,hj,hx⟩
     have hj':=List.mem_range.1 hj
     have hkj:k+j<s.B.length:=by omega
     refine⟨s.B.getD (k+j) (0,0),List.mem_iff_getElem?.2 ⟨j,?_⟩,?_⟩
     ·rw[List.getElem?_take,if_pos hj',List.getElem?_drop];simp[hkj]
     ·simp only[bne_iff_ne,ne_eq]at hx⊢
      intro e;exact hx (by rw[e])
    ·rintro⟨x,hx,hne⟩
     obtain⟨j,hj⟩:=List.mem_iff_getElem?.1 hx
     rw[List.getElem?_take]at hj
     split at hj
     ·rename_i hjn
      rw[List.getElem?_drop]at hj
      have hkj:k+j<s.B.length:=(List.getElem?_eq_some_iff.1 hj).1
      have e:s.B.getD (k+j) (0,0)=x:=by rw[List.getD_eq_getElem?_getD,hj];rfl
      refine⟨j,List.mem_range.2 hjn,?_⟩
      rw[e]
      simp only[bne_iff_ne,ne_eq]at hne⊢
      intro e0
      have:=h.bf (k+j) hkj (by rw[e];exact e0)
      rw[e]at this
      exact hne this
     ·cases hj
   by_cases c:(List.range n).any (fun j=>(s.B.getD (k+j) (0,0)).1 !=0)=true
   ·rw[if_pos c,if_pos (key.1 c)]
   ·rw[if_neg c,if_neg (fun e=>c (key.2 e))]
 refine⟨hE,?_⟩
 unfold claimM RL.claimLM
 simp only
 rw[←hE]
 by_cases c:s.abs.claimLE (k:Int) (n:Int) sp=0
 rotate_left
 ·rw[if_neg c,if_neg c];exact⟨s,rfl,rfl,h,rfl,rfl⟩
 rw[if_pos c,if_pos c]
 have hk:1≤k∧k+n≤s.B.length∧1≤n:=by
  unfold RL.claimLE at c
  by_cases c1: ¬(1≤(k:Int)∧(k:Int)<(s.abs.B.length:Int))∨(n:Int)<1∨(s.abs.B.length:Int)-(k:Int)<(n:Int)∨spaceB sp=false
  ·rw[if_pos c1]at c;cases c
  ·have e1:s.abs.B.length=s.B.length:=rfl
   rw[e1]at c1
   have c1a:1≤(k:Int)∧(k:Int)<(s.B.length:Int):=Decidable.byContradiction fun e=>c1 (.inl e)
   have c1b: ¬(n:Int)<1:=fun e=>c1 (.inr (.inl e))
   have c1c: ¬(s.B.length:Int)-(k:Int)<(n:Int):=fun e=>c1 (.inr (.inr (.inl e)))
   omega
 rw[tnc,tnc]
 refine⟨_,rfl,rfl,h.setB (by simp[fillB_len]) (fun i hi h0=>?_) (by rw[getD_set_ne' (by omega),fillB_get _ _ _ _ hk.2.1,if_neg (by omega)]),rfl,by simp[fillB_len]⟩
 by_cases e:k=i
 ·subst e;rw[getD_set_eq (by rw[fillB_len];exact hi)]at h0;cases h0
 ·rw[getD_set_ne' e,fillB_get _ _ _ _ hk.2.1]at h0⊢
  by_cases c2:k≤i∧i<k+n
  ·rw[if_pos c2]at h0;cases h0
  ·rw[if_neg c2]at h0⊢;exact h.bf i hi h0
theorem new_inv {n:Nat} (h1:2≤n) (h2:n≤64): ∃s,newH (n:Int)=some s∧s.Inv∧s.abs=⟨List.replicate n (0,0),[],[],0⟩∧s.born=0∧s.B.length=n:=by
 have e:newH (n:Int)=some ⟨List.replicate n (0,0),List.replicate (64*n) 0,List.replicate (32*n) 0,List.replicate (32*n) 0,[],[],0⟩:=by
  unfold newH;rw[if_pos ⟨by omega,by omega⟩];simp only[tnc]
 have z: ∀(m i:Nat),(List.replicate m (0:Nat)).getD i 0=0:=fun m i=>by
  simp only[List.getD_eq_getElem?_getD,List.getElem?_replicate];split<;>rfl
 have zi: ∀(m i:Nat),(List.replicate m (0:Int)).getD i 0=0:=fun m i=>by
  simp only[List.getD_eq_getElem?_getD,List.getElem?_replicate];split<;>rfl
 refine⟨_,e,⟨newH_ok e,fun i hi _=>?_,fun i hi=>?_,fun i _=>z _ i,fun k _=>zi _ k,by simp[show 0<n by omega],by simp only;rw[z];omega,⟨List.nodup_nil,fun i hi=>?_,fun k v e=>?_,fun i hi=>?_⟩⟩,?_,rfl,by simp⟩
 ·simp only[List.length_replicate]at hi
  simp[hi]
 ·simp only at hi;rw[z]at hi;cases hi
 ·simp only at hi;rw[z]at hi;cases hi
 ·cases e
 ·simp only at hi;rw[z]at hi;cases hi
 ·show RL.mk _ _ [] 0=_
  congr 1
  have:(HL.mk (List.replicate n (0,0)) (List.replicate (64*n) 0) (List.replicate (32*n) 0) (List.replicate (32*n) 0) [] [] 0).objs=[]:=by
   unfold HL.objs objsB
   rw[List.filter_eq_nil_iff]
   intro i _
   simp only[z];simp
  rw[this];rfl
end
set_option maxRecDepth 8000
theorem hClaimLarge {w:World} {a:Option Addr} {fp:List Nat} {m:HO} (h:HR w a fp m) (x n sp:Int) (hx:x≤4611686018427387904) (hn:n≤4611686018427387904):Cs Tryz.prog 159 [.pointer a,.int .i64 x,.int .i64 n,.int .i64 sp] w fun v w'=>v=.int .i64 (claimE m x n (2,sp))∧HR w' a fp (claimM m x n (2,sp) (3,sp))∧Only fp w w':=by
 refine enter_heap_Heap_ClaimLarge rfl ?_
 unfold x_heap_Heap_ClaimLarge
 refine gO ?_
 rw[fillL_one rfl rfl,fillL_one rfl rfl]
 refine gO ?_
 rw[fillL_one rfl rfl,fillL_one rfl rfl]
 refine gO ?_
 refine callT (hClaims h x n (2,sp) (3,sp) hx hn) ?_
 rintro v w' ⟨rfl,h1,ho⟩
 refine gO ?_
 exact⟨h1,ho⟩
section
structure SCs (w:World) (b hb rb qb kb:Nat) (s:HL) (R:Rt.MS) (fh fr ff fk:List Nat):Prop where
 at_:At w b [.pointer (some ⟨hb,0,none⟩),.pointer (some ⟨rb,0,none⟩),.pointer (some ⟨qb,0,none⟩),.pointer (some ⟨kb,0,none⟩)]
 inv:s.Inv
 h:HR w (some ⟨hb,0,none⟩) fh (some s)
 r:Rt.PR w (some ⟨rb,0,none⟩) fr (some R)
 f:FM w qb s.abs ff
 k:Rt.RR w (some ⟨kb,0,none⟩) fk (some R)
 d1:b∉fh∧b∉fr∧b∉ff∧b∉fk
 d2: ∀x,x∈fh→x∉fr∧x∉ff∧x∉fk
 d3: ∀x,x∈fr→x∉ff∧x∉fk
 d4: ∀x,x∈ff→x∉fk
def SC (w:World) (b:Nat) (s:HL) (R:Rt.MS) (fp:List Nat):Prop:= ∃hb rb qb kb fh fr ff fk,fp=b::(fh++(fr++(ff++fk)))∧SCs w b hb rb qb kb s R fh fr ff fk
section
variable {w w':World} {b hb rb qb kb:Nat} {s:HL} {R:Rt.MS} {fh fr ff fk:List Nat}
theorem SCs.keep {S:List Nat} (h:SCs w b hb rb qb kb s R fh fr ff fk) (o:Only S w w') (hd: ∀x,x∈b::(fh++(fr++(ff++fk)))→x∉S):SCs w' b hb rb qb kb s R fh fr ff fk:=
 ⟨h.at_.keep o (hd b (by simp)),h.inv,h.h.keep o fun x hx=>hd x (by simp[hx]),h.r.keep o fun x hx=>hd x (by simp[hx]),h.f.keep o fun x hx=>hd x (by simp[hx]),h.k.keep o fun x hx=>hd x (by simp[hx]),h.d1,h.d2,h.d3,h.d4⟩
theorem SCs.keep0 (h:SCs w b hb rb qb kb s R fh fr ff fk) (o:Only [] w w'):SCs w' b hb rb qb kb s R fh fr ff fk:=h.keep o fun _ _=>by simp
theorem SCs.lt (h:SCs w b hb rb qb kb s R fh fr ff fk): ∀x,x∈b::(fh++(fr++(ff++fk)))→x<w.heap.size:=by
 intro x hx
 simp only[List.mem_cons,List.mem_append]at hx
 rcases hx with rfl|hx|hx|hx|hx
 ·exact h.at_.lt
 ·exact h.h.lt x hx
 ·exact h.r.lt x hx
 ·exact h.f.lt x hx
 ·exact h.k.lt x hx
theorem SCs.setF (h:SCs w b hb rb qb kb s R fh fr ff fk) (o:Only ff w w') {t:RL} {ff':List Nat} (hf:FM w' qb t ff') (hsub: ∀x,x∈ff'→x∈ff∨w.heap.size≤x):
  At w' b [.pointer (some ⟨hb,0,none⟩),.pointer (some ⟨rb,0,none⟩),.pointer (some ⟨qb,0,none⟩),.pointer (some ⟨kb,0,none⟩)]∧HR w' (some ⟨hb,0,none⟩) fh (some s)∧Rt.PR w' (some ⟨rb,0,none⟩) fr (some R)∧Rt.RR w' (some ⟨kb,0,none⟩) fk (some R)∧
   (b∉fh∧b∉fr∧b∉ff'∧b∉fk)∧(∀x,x∈fh→x∉fr∧x∉ff'∧x∉fk)∧(∀x,x∈fr→x∉ff'∧x∉fk)∧(∀x,x∈ff'→x∉fk):=by
 have lt:=h.lt
 have hn: ∀x,x∉ff→x<w.heap.size→x∉ff':=fun x h1 h2 h3=>by rcases hsub x h3 with h4|h4;exact h1 h4;omega
 refine⟨h.at_.keep o h.d1.2.2.1,h.h.keep o fun x hx=>(h.d2 x hx).2.1,h.r.keep o fun x hx=>(h.d3 x hx).1,h.k.keep o fun x hx hx2=>h.d4 x hx2 hx,⟨h.d1.1,h.d1.2.1,hn b h.d1.2.2.1 (lt b (by simp)),h.d1.2.2.2⟩,fun x hx=>⟨(h.d2 x hx).1,hn x (h.d2 x hx).2.1 (lt x (by simp[hx])),(h.d2 x hx).2.2⟩,fun x hx=>⟨hn x (h.d3 x hx).1 (lt x (by simp[hx])),(h.d3 x hx).2⟩,fun x hx hx2=>?_⟩
 rcases hsub x hx with h4|h4
 ·exact h.d4 x h4 hx2
 ·have:=lt x (by simp[hx2]);omega
theorem SCs.both {w1 w2:World} (h:SCs w b hb rb qb kb s R fh fr ff fk) {s':HL} {ff':List Nat} (hi:s'.Inv) (o1:Only ff w w1) (hf:FM w1 qb s'.abs ff') (hsub: ∀x,x∈ff'→x∈ff∨w.heap.size≤x) (o2:Only fh w1 w2) (hh:HR w2 (some ⟨hb,0,none⟩) fh (some s')):
  SCs w2 b hb rb qb kb s' R fh fr ff' fk∧Only (b::(fh++(fr++(ff++fk)))) w w2:=by
 obtain⟨g1,g2,g3,g4,e1,e2,e3,e4⟩:=h.setF o1 hf hsub
 refine⟨⟨g1.keep o2 e1.1,hi,hh,g3.keep o2 fun x hx hx2=>(e2 x hx2).1 hx,hf.keep o2 fun x hx hx2=>(e2 x hx2).2.1 hx,g4.keep o2 fun x hx hx2=>(e2 x hx2).2.2 hx,e1,e2,e3,e4⟩,?_⟩
 exact(o1.mono fun x hx=>.inl (by simp[hx])).same (o2.mono fun x hx=>.inl (by simp[hx]))
end
def atS (s:HL) (n:Nat):Int:=if s.objs.length=0 then 0 else((2*s.objs.getD (n%s.objs.length) 0:Nat):Int)
theorem atS_le {s:HL} (h:s.Ok) (n:Nat):0≤atS s n∧atS s n≤4096:=by
 unfold atS
 split
 ·omega
 ·rename_i h0
  have hlt:n%s.objs.length<s.objs.length:=Nat.mod_lt _ (by omega)
  have:=mem_objs.1 (show s.objs.getD (n%s.objs.length) 0∈s.objs by simp[hlt])
  have:=(h.start this).1
  have:=h.sl
  have:=h.b64
  omega
theorem cAtF {w:World} {b qb:Nat} {s:HL} {ff:List Nat} {p0 p1 p3:Value} (hat:At w b [p0,p1,.pointer (some ⟨qb,0,none⟩),p3]) (hf:FM w qb s.abs ff) (n:Nat) (hn:n<100):Cs Tryz.prog 45 [.pointer (some ⟨b,0,none⟩),.int .i64 (n:Int)] w fun v w'=>v=.int .i64 (atS s n)∧Only [] w w':=by
 obtain⟨vB,vO,vF,fB,fO,fF,L,hfp,hm⟩:=hf
 have hlen:=hm.len
 have hl2:s.abs.O.length=s.objs.length:=by simp[HL.abs]
 have hol:=hm.ok.ol
 obtain⟨ao,co,hvO⟩:=hm.valO
 refine enter_law12_Scene_At rfl ?_
 unfold x_law12_Scene_At
 by_cases c0:L.length=0
 ·(repeat(first|with_reducible(first|refine nx ?_|refine r_6 rfl ?_)|simp only[go_sem,bqf (show¬(n:Int)= -77 by omega),dfl (show¬(1000:Int)≤(n:Int) by omega),dfl (show¬(n:Int)<0 by omega),dfl (show¬(100:Int)≤(n:Int) by omega),hat.cell,hm.hb.cell,hvO,bqt (show((L.length:Nat):Int)=0 by omega)]))
  refine⟨?_,Only.refl _ _⟩
  unfold atS;rw[if_pos (by omega)]
 have hmd:=hm.keep0 (Only.drew [] w)
 obtain⟨g8,cap,ys,e8,hrow,_,_⟩:=hmd.row (by omega)
 have hvO':=hvO
 rw[e8]at hvO'
 cases hvO'
 have hmod:n%L.length<L.length:=Nat.mod_lt _ (by omega)
 have e1:(n:Int).tmod (L.length:Int)=((n%L.length:Nat):Int):=by rw[Int.tmod_eq_emod_of_nonneg (by omega)];omega
 have e2:(0:Int)≤((n%L.length:Nat):Int)∧((n%L.length:Nat):Int)<(L.length:Int):=⟨by omega,by omega⟩
 have hd0:divO (L.length:Int) (.int .i64 ((n%L.length:Nat):Int))=some (.int .i64 ((n%L.length:Nat):Int)):=divO_of (by omega) _
 have hc:w.drew.cell? ⟨g8,n%L.length*8,none⟩=some (.int .i64 (atS s n)):=by
  have:=omV_cell (j:=0) ys hmod (by omega)
  rw[hrow.cell,←Nat.add_zero (n%L.length*8),this]
  have e3:=hmd.getO hmod
  rw[show(L.getD (n%L.length) default).V[0]? =some (.int .i64 (L.getD (n%L.length) default).o.a)from rfl,←e3,abs_get (s:=s) (i:=s.objs.getD (n%L.length) 0) (by omega) rfl]
  unfold atS
  rw[if_neg (by omega),←hl2,←hlen];rfl
 (repeat(first|with_reducible(first|refine nx ?_|refine r_6 rfl ?_)|simp only[go_sem,bqf (show¬(n:Int)= -77 by omega),dfl (show¬(1000:Int)≤(n:Int) by omega),dfl (show¬(n:Int)<0 by omega),dfl (show¬(100:Int)≤(n:Int) by omega),hat.cell,hat.drew.cell,hm.hb.cell,hmd.hb.cell,hvO,bqf (show¬((L.length:Nat):Int)=0 by omega),e1,hd0,if_pos e2,tnc,hc]))
 exact Only.drew [] w
theorem cAt {w:World} {b hb rb qb kb:Nat} {s:HL} {R:Rt.MS} {fh fr ff fk:List Nat} (h:SCs w b hb rb qb kb s R fh fr ff fk) (n:Nat) (hn:n<100):Cs Tryz.prog 45 [.pointer (some ⟨b,0,none⟩),.int .i64 (n:Int)] w fun v w'=>v=.int .i64 (atS s n)∧Only [] w w':=cAtF h.at_ h.f n hn
theorem cLink {w:World} {b hb rb qb kb:Nat} {s:HL} {R:Rt.MS} {fh fr ff fk:List Nat} (h:SCs w b hb rb qb kb s R fh fr ff fk) (x i to:Int) (hx:x≤4611686018427387904) (hto:to≤4611686018427387904):
  Cs Tryz.prog 88 [.pointer (some ⟨b,0,none⟩),.int .i64 x,.int .i64 i,.int .i64 to] w fun v w'=>v=.bool true∧ ∃s',setRefM (some s) x i to=some s'∧SCs w' b hb rb qb kb s' R fh fr ff fk∧Only (b::(fh++(fr++(ff++fk)))) w w':=by
 have hd:=h.keep0 (Only.drew [] w)
 have lt:=h.lt
 obtain⟨s',e1,e2,e3,e4,e5,e6⟩:=abs_setRef h.inv.ok x i to
 refine enter_law12_Scene_Link rfl ?_
 unfold x_law12_Scene_Link
 refine gO ?_
 refine run_drt [b] ?_
 refine gO1 hd.at_.cell ?_
 refine callS (fSetRef hd.f x i to) ?_
 rintro v w1 ⟨rfl,hf1,ho1⟩
 refine⟨.inr ((SB.refl _ _).only ho1 fun z hz=>by simp only[lms]at hz;subst hz;exact⟨lt _ (by simp),h.d1.2.2.1⟩),?_⟩
 refine gO ?_
 refine callS (hSetRef (hd.h.keep ho1 fun z hz=>(h.d2 z hz).2.1) x i to hx hto) ?_
 rintro v w2 ⟨rfl,hh2,ho2⟩
 refine⟨.inl rfl,?_⟩
 rw[e1]at hh2
 rw[←e2]at hf1
 have heq:s.abs.setRefR x i to=setRefE (some s) x i to:=abs_setRefE h.inv.ok x i to
 refine gO2 heq (bqt (rfl:setRefE (some s) x i to=setRefE (some s) x i to)) ?_
 obtain⟨g1,g2⟩:=hd.both (h.inv.setRef e1 (hh2.ok s' rfl)) ho1 hf1 (fun y hy=>.inl hy) ho2 hh2
 exact⟨s',e1,g1,(Only.drew _ w).same g2⟩
end
section
set_option maxRecDepth 8000
variable {s:HL} {q:RL}
theorem tmodN (n m:Nat):((n:Int).tmod (m:Int))=((n%m:Nat):Int):=by rw[Int.tmod_eq_emod_of_nonneg (by omega)];omega
def u8V (a:Nat):Value:=.int .u8 (a:Int)
theorem conv_u8 (a:Nat) (h:a<256):IntKind.i64.wrap (a:Int)=(a:Int):=IntWalk.i64_in _ (by omega)
theorem dv5 (v:Value):divO 5 v=some v:=Eq.trans rfl rfl
theorem dv6 (v:Value):divO 6 v=some v:=Eq.trans rfl rfl
theorem dv3 (v:Value):divO 3 v=some v:=Eq.trans rfl rfl
theorem dv100 (v:Value):divO 100 v=some v:=Eq.trans rfl rfl
theorem dv23 (v:Value):divO 23 v=some v:=Eq.trans rfl rfl
theorem dv4 (v:Value):divO 4 v=some v:=Eq.trans rfl rfl
theorem dv40 (v:Value):divO 40 v=some v:=Eq.trans rfl rfl
attribute [go_sem] dv5 dv6 dv3 dv100 dv23 dv4 dv40
def shapeB (x0 x1 x2:Nat):Sh:=
 if x0%8=4 then(((1+x1%5%3:Nat):Int),((x2%6:Nat):Int),1)else if x0%8=5 then(((2+x1%5%3:Nat):Int),((x2%6:Nat):Int),2)else if x0%8=6 then(((x1%5:Nat):Int),((x2%6:Nat):Int),3)
 else if x0%8=7 then(((x1%5:Nat):Int),((32+x2%100:Nat):Int),0)else(((x1%5:Nat):Int),((x2%6:Nat):Int),0)
theorem shapeB_valid (x0 x1 x2:Nat):validS (shapeB x0 x1 x2)=true:=by
 unfold shapeB
 split
 ·simp[validS];omega
 split
 ·simp[validS];omega
 split
 ·simp[validS];omega
 split
 ·simp[validS];omega
 ·simp[validS];omega
theorem cShape (w:World) (x0 x1 x2 x3:Nat) (h0:x0<256) (h1:x1<256) (h2:x2<256):Cs Tryz.prog 84 [.agg ⟨[u8V x0,u8V x1,u8V x2,u8V x3]⟩] w fun v w'=>v=.agg ⟨shV (shapeB x0 x1 x2)⟩∧Only [] w w':=by
 have m5:((x1:Int).tmod 5)=((x1%5:Nat):Int):=tmodN x1 5
 have m6:((x2:Int).tmod 6)=((x2%6:Nat):Int):=tmodN x2 6
 have m100:((x2:Int).tmod 100)=((x2%100:Nat):Int):=tmodN x2 100
 have m8:((x0:Int).tmod 8)=((x0%8:Nat):Int):=tmodN x0 8
 have m3:(((x1%5:Nat):Int).tmod 3)=((x1%5%3:Nat):Int):=tmodN (x1%5) 3
 have i0:(0:Int)≤0∧(0:Int)<((4:Nat):Int):=by decide
 have i1:(0:Int)≤1∧(1:Int)<((4:Nat):Int):=by decide
 have i2:(0:Int)≤2∧(2:Int)<((4:Nat):Int):=by decide
 have n0:Int.toNat 0=0:=rfl
 have n1:Int.toNat 1=1:=rfl
 have n2:Int.toNat 2=2:=rfl
 refine enter_law12_Shape rfl ?_
 unfold x_law12_Shape
 refine gO ?_
 refine boxT fun q w1 hq hs1 hat1 ho1=>?_
 refine gO ?_
 refine boxT fun p w2 hp hs2 hat2 ho2=>?_
 have hq2:At w2 q [u8V x0,u8V x1,u8V x2,u8V x3]:=hat1.keep0 ho2
 (repeat(first|with_reducible(first|refine nx ?_|refine r_6 rfl ?_)|simp only[go_sem,show((4:Nat):Int)=4 from rfl,n1,n2,Nat.mul_one,hq2.cell,u8V,conv_u8 x1 h1,conv_u8 x2 h2,m5,m6]))
 rw[fillL_one rfl rfl,fillL_one rfl rfl]
 refine gO ?_
 refine boxT fun t w3 ht hs3 hat3 ho3=>?_
 refine gO ?_
 refine stNT hat3 rfl (by simp) (by simp[oneC]) fun w4 hs4 hat4 ho4=>?_
 have hat4':At w4 t [.int .i64 ((x1%5:Nat):Int),.int .i64 ((x2%6:Nat):Int),.int .i64 0]:=hat4
 have o34:Only [] w2 w4:=ho3.trans ho4 fun y hy=>by simp only[lms]at hy;subst hy;exact .inr (by omega)
 have hq4:At w4 q [u8V x0,u8V x1,u8V x2,u8V x3]:=hq2.keep0 o34
 have hp4:=hat2.keep0 o34
 have o4:Only [] w w4:=(ho1.nil ho2).nil o34
 have end_: ∀(w5:World) (sh:Sh),At w5 t (shV sh)→Only [t] w4 w5→sh=shapeB x0 x1 x2→ ∀(kx:List XI) (ρ:Env),True:=fun _ _ _ _ _ _ _=>trivial
 clear end_
 simp only[go_sem]
 refine run_seq ?_
 refine run_cut (13::14::15::16::17::18::19::20::21::22::23::24::25::26::27::28::29::30::31::32::33::34::35::36::37::38::39::40::41::42::[]) (fun _ w5=>At w5 t (shV (shapeB x0 x1 x2))∧Only [t] w4 w5) (fun kk hkk=>?_) (fun g w5 hJ=>?_)
 ·(repeat(first|with_reducible(first|refine nx ?_|refine r_6 rfl ?_)|simp only[go_sem,show((4:Nat):Int)=4 from rfl,n0,Nat.mul_one,Nat.zero_mul,hq4.cell,u8V,m8]))
  by_cases c4:x0%8=4
  ·have e1:IntKind.i64.wrap (1+((x1%5%3:Nat):Int))=((1+x1%5%3:Nat):Int):=by rw[IntWalk.i64_in _ (by omega)];omega
   refine gO4 (bqt (show((x0%8:Nat):Int)=4 by omega)) hat4'.cell m3 e1 ?_
   refine stT hat4' (by simp) rfl fun w5 hs5 hat5 ho5=>?_
   refine gO ?_
   refine stT hat5 (by simp) rfl fun w6 hs6 hat6 ho6=>?_
   refine gO ?_
   refine hkk _ w6 ⟨?_,ho5.same ho6⟩
   ·have:shapeB x0 x1 x2=(((1+x1%5%3:Nat):Int),((x2%6:Nat):Int),1):=by unfold shapeB;rw[if_pos c4]
    rw[this];exact hat6
  by_cases c5:x0%8=5
  ·have e1:IntKind.i64.wrap (2+((x1%5%3:Nat):Int))=((2+x1%5%3:Nat):Int):=by rw[IntWalk.i64_in _ (by omega)];omega
   refine gO5 (bqf (show¬((x0%8:Nat):Int)=4 by omega)) (bqt (show((x0%8:Nat):Int)=5 by omega)) hat4'.cell m3 e1 ?_
   refine stT hat4' (by simp) rfl fun w5 hs5 hat5 ho5=>?_
   refine gO ?_
   refine stT hat5 (by simp) rfl fun w6 hs6 hat6 ho6=>?_
   refine gO ?_
   refine hkk _ w6 ⟨?_,ho5.same ho6⟩
   ·have:shapeB x0 x1 x2=(((2+x1%5%3:Nat):Int),((x2%6:Nat):Int),2):=by unfold shapeB;rw[if_neg c4,if_pos c5]
    rw[this];exact hat6
  by_cases c6:x0%8=6
  ·refine gO3 (bqf (show¬((x0%8:Nat):Int)=4 by omega)) (bqf (show¬((x0%8:Nat):Int)=5 by omega)) (bqt (show((x0%8:Nat):Int)=6 by omega)) ?_
   refine stT hat4' (by simp) rfl fun w5 hs5 hat5 ho5=>?_
   refine gO ?_
   refine hkk _ w5 ⟨?_,ho5⟩
   ·have:shapeB x0 x1 x2=(((x1%5:Nat):Int),((x2%6:Nat):Int),3):=by unfold shapeB;rw[if_neg c4,if_neg c5,if_pos c6]
    rw[this];exact hat5
  by_cases c7:x0%8=7
  ·have e1:IntKind.i64.wrap (32+((x2%100:Nat):Int))=((32+x2%100:Nat):Int):=by rw[IntWalk.i64_in _ (by omega)];omega
   (repeat(first|with_reducible(first|refine nx ?_|refine r_6 rfl ?_)|simp only[go_sem,bqf (show¬((x0%8:Nat):Int)=4 by omega),bqf (show¬((x0%8:Nat):Int)=5 by omega),bqf (show¬((x0%8:Nat):Int)=6 by omega),bqt (show((x0%8:Nat):Int)=7 by omega),show((4:Nat):Int)=4 from rfl,n2,Nat.mul_one,hq4.cell,u8V,conv_u8 x2 h2,m100,e1]))
   refine stT hat4' (by simp) rfl fun w5 hs5 hat5 ho5=>?_
   refine gO ?_
   refine hkk _ w5 ⟨?_,ho5⟩
   ·have:shapeB x0 x1 x2=(((x1%5:Nat):Int),((32+x2%100:Nat):Int),0):=by unfold shapeB;rw[if_neg c4,if_neg c5,if_neg c6,if_pos c7]
    rw[this];exact hat5
  refine gO4 (bqf (show¬((x0%8:Nat):Int)=4 by omega)) (bqf (show¬((x0%8:Nat):Int)=5 by omega)) (bqf (show¬((x0%8:Nat):Int)=6 by omega)) (bqf (show¬((x0%8:Nat):Int)=7 by omega)) ?_
  refine hkk _ w4 ⟨?_,Only.refl _ _⟩
  ·have:shapeB x0 x1 x2=(((x1%5:Nat):Int),((x2%6:Nat):Int),0):=by unfold shapeB;rw[if_neg c4,if_neg c5,if_neg c6,if_neg c7]
   rw[this];exact hat4'
 obtain⟨hat5,ho5⟩:=hJ
 have hc5:cellsAt w5 ⟨t,0,none⟩ 3=some (shV (shapeB x0 x1 x2)):=cellsAt_at hat5 0 3 (by simp[shV])
 have hpt:p≠t:=by omega
 have hp5:=hp4.keep ho5 (off1 hpt)
 refine gO1 hc5 ?_
 refine stNT (cs:=shV (shapeB x0 x1 x2)) hp5 rfl (by simp) (shV_one _) fun w6 hs6 hat6 ho6=>?_
 rw[setL_sh]at hat6
 have hc6:cellsAt w6 ⟨p,0,none⟩ 3=some (shV (shapeB x0 x1 x2)):=cellsAt_at hat6 0 3 (by simp[shV])
 refine gO1 hc6 ?_
 exact(o4.trans ho5 fun y hy=>by simp only[lms]at hy;subst hy;exact .inr (by omega)).trans ho6 fun y hy=>by simp only[lms]at hy;subst hy;exact .inr (by omega)
theorem abs_state (k:Int):s.abs.stateR k=stateO (some s) k:=rfl
theorem Only.weak {S T:List Nat} {a b:World} (h:Only S a b) (hs: ∀x,x∈S→x∈T):Only T a b:=h.mono fun x hx=>.inl (hs x hx)
def RfP (P:Int→Prop) (q:RL):Prop:= ∀o,o∈q.O→ ∀r,r∈o.rf→P r
abbrev RfOk (q:RL):Prop:=RfP (fun r=>0≤r∧r≤4096) q
theorem RfP.mono {P Q:Int→Prop} (h:RfP P q) (hp: ∀x,P x→Q x):RfP Q q:=fun o ho r hr=>hp r (h o ho r hr)
theorem RfP.claimM {P:Int→Prop} (h:RfP P q) (k sp:Int):RfP P (q.claimM k sp):=by
 unfold RL.claimM;split
 ·exact h
 ·exact h
theorem RfP.claimLM {P:Int→Prop} (h:RfP P q) (k n sp:Int):RfP P (q.claimLM k n sp):=by
 unfold RL.claimLM;split
 ·exact h
 ·exact h
theorem RfP.placeM {P:Int→Prop} (h:RfP P q) (h0:P 0) (a:Int) (sh:Sh):RfP P (q.placeM a sh):=by
 unfold RL.placeM
 split
 ·intro o ho
  simp only[RL.putM,List.mem_append,lms]at ho
  rcases ho with(ho|rfl)|ho
  ·exact h o (List.mem_of_mem_take ho)
  ·intro r hr
   simp only[RL.newOb,List.mem_replicate]at hr
   rw[hr.2];exact h0
  ·exact h o (List.mem_of_mem_drop ho)
 ·exact h
theorem mem_upd {x:Int} {f:Ob→Ob} {o:Ob} (h:o∈(q.upd x f).O):o∈q.O∨ ∃p,p∈q.O∧o=f p:=by
 unfold RL.upd at h
 split at h
 ·exact .inl h
 ·rename_i k hk
  have hl:=(ixO_spec hk).1
  rcases List.mem_or_eq_of_mem_set h with h|h
  ·exact .inl h
  ·exact .inr ⟨_,by simp[hl],h⟩
theorem RfP.pinM {P:Int→Prop} (h:RfP P q) (x:Int) (p:Bool):RfP P (q.pinM x p):=by
 intro o ho
 rcases mem_upd ho with ho|⟨p',hp,rfl⟩
 ·exact h o ho
 ·exact h p' hp
theorem RfP.killM {P:Int→Prop} (h:RfP P q) (x:Int):RfP P (q.killM x):=by
 unfold RL.killM;split
 ·exact h
 ·exact fun o ho=>h o (List.mem_of_mem_eraseIdx ho)
theorem RfP.setRefM {P:Int→Prop} (h:RfP P q) (x i to:Int) (ht:P to):RfP P (q.setRefM x i to):=by
 unfold RL.setRefM;split
 ·intro o ho
  rcases mem_upd ho with ho|⟨p',hp,rfl⟩
  ·exact h o ho
  ·intro r hr
   rcases List.mem_or_eq_of_mem_set hr with hr|hr
   ·exact h p' hp r hr
   ·rw[hr];exact ht
 ·exact h
def Step (s s':HL):Prop:=s'.Inv∧s'.born≤s.born+1∧s'.objs.length≤s.objs.length+1∧s'.B.length=s.B.length∧ ∀P:Int→Prop,P 0→RfP P s.abs→RfP P s'.abs
theorem placeM_len (s:RL) (a:Int) (sh:Sh):(s.placeM a sh).O.length≤s.O.length+1:=by
 unfold RL.placeM
 split
 ·simp only[RL.putM,lla,List.length_take,List.length_drop,List.length_singleton];omega
 ·omega
theorem abs_len (s:HL):s.abs.O.length=s.objs.length:=by simp[HL.abs]
theorem objs_of_abs {t:HL} (h:s.abs.O.length=t.abs.O.length):s.objs.length=t.objs.length:=by rw[←abs_len,←abs_len];exact h
def ClaimU (s:HL) (sh:Sh) (sp a:Int) (c:Nat) (s3:HL):Prop:=(c=1∧s3=s)∨(c=2∧claimM (some s) (a/64) ((wordsS sh+63)/64) (2,sp) (3,sp)=some s3)∨(c=3∧claimM (some s) (a/64) 1 (1,sp) (0,0)=some s3)
def PlaceU (s:HL) (sh:Sh) (sp:Int) (s':HL):Prop:= ∃a c,s.abs.FirstU sh sp a c∧((c=0∧s'=s)∨ ∃s3,ClaimU s sh sp a c s3∧placeM (some s3) a sh=some s')
theorem cPlace {w:World} {b hb rb qb kb:Nat} {R:Rt.MS} {fh fr ff fk:List Nat} (h:SCs w b hb rb qb kb s R fh fr ff fk) (sh:Sh) (hv:validS sh=true) (sp:Int) (hb1:s.born≤1000) (hb2:s.objs.length≤1000):
  Cs Tryz.prog 83 [.pointer (some ⟨b,0,none⟩),.agg ⟨shV sh⟩,.int .i64 sp] w fun v w'=>v=.bool true∧ ∃s' ff',(Step s s'∧PlaceU s sh sp s')∧SCs w' b hb rb qb kb s' R fh fr ff' fk∧Only (b::(fh++(fr++(ff++fk)))) w w'∧ ∀x,x∈ff'→x∈ff∨w.heap.size≤x:=by
 refine enter_law12_Scene_Place rfl ?_
 unfold x_law12_Scene_Place
 refine gO ?_
 refine boxT fun q w1 hq hs1 hat1 ho1=>?_
 have h1:=h.keep0 ho1
 have hlt1:=h.lt
 have hqn: ∀x,x∈b::(fh++(fr++(ff++fk)))→x≠q:=fun x hx=>by have:=hlt1 x hx;omega
 have hc1:cellsAt w1.drew ⟨q,0,none⟩ 3=some (shV sh):=cellsAt_at hat1.drew 0 3 (by simp[shV])
 have hd:=h1.keep0 (Only.drew [] w1)
 have o1:=ho1.nil (Only.drew [] w1)
 refine gO ?_
 refine run_drt [b,q] ?_
 refine gO2 hd.at_.cell hc1 ?_
 refine callS (fFirst hd.f sh sp) ?_
 rintro v w2 ⟨a,ok,t,c,rfl,hf2,ho2,hok,hfu⟩
 refine⟨.inl rfl,?_⟩
 have hq2:At w2 q (shV sh):=hat1.drew.keep ho2 fun e=>(hqn q (by simp[e])) rfl
 have hcq: ∀w' S,Only S w2 w'→q∉S→cellsAt w' ⟨q,0,none⟩ 3=some (shV sh):=fun w' S o hS=>cellsAt_at (hq2.keep o hS) 0 3 (by simp[shV])
 obtain⟨g1,g2,g3,g4,d1,d2,d3,d4⟩:=hd.setF ho2 hf2 (fun x hx=>.inl hx)
 have ot: ∀ {u v:World},Only ff u v→Only (b::(fh++(fr++(ff++fk)))) u v:=fun o=>o.weak fun x hx=>by simp[hx]
 have oh: ∀ {u v:World},Only fh u v→Only (b::(fh++(fr++(ff++fk)))) u v:=fun o=>o.weak fun x hx=>by simp[hx]
 have o2:Only (b::(fh++(fr++(ff++fk)))) w w2:=o1.of_nil.same (ot ho2)
 have hpu0:c=0→PlaceU s sh sp s:=fun e=>⟨a,c,hfu,.inl ⟨e,rfl⟩⟩
 have hpu: ∀s3 s',ClaimU s sh sp a c s3→placeM (some s3) a sh=some s'→PlaceU s sh sp s':=fun s3 s' h1 h2=>⟨a,c,hfu,.inr ⟨s3,h1,h2⟩⟩
 rcases hok with⟨rfl,rfl,hc0⟩|⟨rfl,k,hk,hcase⟩
 ·refine gO ?_
  exact⟨s,ff,⟨⟨h.inv,by omega,by omega,rfl,fun _ _ h=>h⟩,hpu0 hc0⟩,⟨g1,h.inv,g2,g3,hf2,g4,d1,d2,d3,d4⟩,o2,fun x hx=>.inl hx⟩
 -- both places
 have fin: ∀(w3:World) (s3:HL) (a3:Int),0≤a3→a3≤5000→s3.Inv→s3.born=s.born→s3.objs.length=s.objs.length→s3.B.length=s.B.length→FM w3 qb s3.abs ff→HR w3 (some ⟨hb,0,none⟩) fh (some s3)→Only fh w2 w3→
   ∀(ρ:Env),ρ 0=.pointer (some ⟨b,0,none⟩)→ρ 4=.pointer (some ⟨q,0,none⟩)→ρ 7=.int .i64 a3→True:=fun _ _ _ _ _ _ _ _ _ _ _ _ _ _ _ _=>trivial
 clear fin
 have hinv:=h.inv
 have hB64:=h.inv.ok.b64
 (repeat(first|with_reducible(first|refine r_1 ?_|refine r_2 ?_|refine r_3 ?_|refine r_4 ?_|refine r_5 ?_|refine r_6 rfl ?_)|simp only[go_sem]))
 refine run_condT ?_
 simp only[go_sem]
 refine run_skip (run_seq ?_)
 refine run_cut (9::10::27::28::29::30::31::32::33::34::35::36::37::38::39::40::41::42::43::44::45::46::47::48::49::50::51::52::53::54::55::[]) (fun _ w3=> ∃s3,(ClaimU s sh sp a c s3∧ ∀P:Int→Prop,P 0→RfP P s.abs→RfP P s3.abs)∧s3.Inv∧s3.born=s.born∧s3.objs.length=s.objs.length∧s3.B.length=s.B.length∧FM w3 qb s3.abs ff∧HR w3 (some ⟨hb,0,none⟩) fh (some s3)∧Only fh w2 w3∧0≤a∧a≤5000) (fun kk hkk=>?_) (fun g w3 hJ=>?_)
 ·rcases hcase with⟨c32,k1,k2,k3,k4,k5,rfl,hc1⟩|⟨c32,rfl,ce,rfl,hc1⟩|⟨c32,rfl,ce,rfl,hc1⟩
  ·obtain⟨na,rfl⟩: ∃n:Nat,a=n:=⟨a.toNat,by omega⟩
   have e1:((na/64:Nat):Int)=(k:Int):=by omega
   have hst:stateO (some s) (k:Int)=1:=k3
   (repeat(first|with_reducible(first|refine nx ?_|refine r_6 rfl ?_)|simp only[go_sem,tdiv64 na (by omega),e1,g1.cell]))
   refine callT0 (hState g2 (k:Int)) ?_
   refine gO2 hst (bqf (show¬(1:Int)=0 by omega)) ?_
   refine hkk _ w2 ⟨s,⟨.inl ⟨hc1,rfl⟩,fun _ _ h=>h⟩,hinv,rfl,rfl,rfl,hf2,g2,Only.refl _ _,by omega,by omega⟩
  ·obtain⟨n,hn⟩: ∃n:Nat,(wordsS sh+63)/64=n:=⟨((wordsS sh+63)/64).toNat,by omega⟩
   rw[hn]at ce hf2
   obtain⟨hE,s3,e1,e2,e3,e4,e5⟩:=abs_claimL hinv k n sp
   rw[←e2]at hf2
   have hn64:(n:Int)≤64:=by
    have hc:=ce
    unfold RL.claimLE at hc
    by_cases c1: ¬(1≤(k:Int)∧(k:Int)<(s.abs.B.length:Int))∨(n:Int)<1∨(s.abs.B.length:Int)-(k:Int)<(n:Int)∨spaceB sp=false
    ·rw[if_pos c1]at hc;cases hc
    have c1b: ¬(s.abs.B.length:Int)-(k:Int)<(n:Int):=fun e=>c1 (.inr (.inr (.inl e)))
    have:s.abs.B.length=s.B.length:=rfl
    omega
   have hfree:stateO (some s) (k:Int)=0:=by
    have hc:=ce
    unfold RL.claimLE at hc
    by_cases c1: ¬(1≤(k:Int)∧(k:Int)<(s.abs.B.length:Int))∨(n:Int)<1∨(s.abs.B.length:Int)-(k:Int)<(n:Int)∨spaceB sp=false
    ·rw[if_pos c1]at hc;cases hc
    rw[if_neg c1]at hc
    have c1a:1≤(k:Int)∧(k:Int)<(s.abs.B.length:Int):=Decidable.byContradiction fun e=>c1 (.inl e)
    have c1b: ¬(n:Int)<1:=fun e=>c1 (.inr (.inl e))
    by_cases c2:(List.range (n:Int).toNat).any (fun j=>(s.abs.B.getD ((k:Int).toNat+j) (0,0)).1 !=0)=true
    ·rw[if_pos c2]at hc;cases hc
    ·have hz:(s.abs.B.getD k (0,0)).1=0:=by
      refine Decidable.byContradiction fun e=>c2 (List.any_eq_true.2 ⟨0,List.mem_range.2 (by omega),?_⟩)
      simpa using e
     rw[←abs_state]
     unfold RL.stateR
     rw[if_pos ⟨by omega,c1a.2⟩,tnc];exact hz
   have e6:IntKind.i64.wrap (((64*k:Nat):Int).tdiv 64)=(k:Int):=by rw[tdiv64 (64*k) (by omega)];omega
   refine gO2 e6 g1.cell ?_
   refine callT0 (hState g2 (k:Int)) ?_
   (repeat(first|with_reducible(first|refine nx ?_|refine r_6 rfl ?_)|simp only[go_sem,hfree,bqt (rfl:(0:Int)=0),hcq w2 [] (Only.refl _ _) (by simp)]))
   refine callT1 (fLarge w2 sh) fun w4 ho4=>?_
   have hq4:=hcq w4.drew [] (ho4.nil (Only.drew [] w4)) (by simp)
   have hl4:=((hq2.keep0 ho4).drew).lt
   have hb4:=((g1.keep0 ho4).drew).lt
   have hsb: ∀z,z∈[b,q]→z<w4.drew.heap.size∧z∉([]:List Nat):=fun z hz=>⟨by simp only[List.mem_cons,List.not_mem_nil,or_false]at hz;rcases hz with rfl|rfl;exact hb4;exact hl4,by simp⟩
   refine gO1 (dtr c32) ?_
   refine run_drt [b,q] ?_
   (repeat(first|with_reducible(first|refine nx ?_|refine r_6 rfl ?_)|simp only[go_sem,((g1.keep0 ho4).drew).cell,hq4]))
   refine callS1 (fNeed w4.drew sh) (.inr ⟨SB.refl _ _,hsb⟩) fun w5 ho5=>?_
   have o5:=(ho4.nil (Only.drew [] w4)).nil ho5
   rw[hn]
   refine gO ?_
   refine callS (hClaimLarge (g2.keep0 o5) (k:Int) (n:Int) sp (by omega) (by omega)) ?_
   rintro v w6 ⟨rfl,hh6,ho6⟩
   refine⟨.inl rfl,?_⟩
   rw[e1]at hh6
   have ce':claimE (some s) (k:Int) (n:Int) (2,sp)=0:=by rw[←hE];exact ce
   refine gO2 ce' (bnf (rfl:(0:Int)=0)) ?_
   refine hkk _ w6 ⟨s3,⟨.inr (.inl ⟨hc1,by rw[show((64*k:Nat):Int)/64=(k:Int) by omega,hn];exact e1⟩),fun _ _ hr=>by rw[e2];exact hr.claimLM _ _ _⟩,e3,e4,?_,e5,(hf2.keep0 o5).keep ho6 fun x hx hx2=>(d2 x hx2).2.1 hx,hh6,o5.of_nil.same ho6,by omega,by omega⟩
   ·refine objs_of_abs ?_
    rw[e2];unfold RL.claimLM;rw[if_pos ce]
  ·obtain⟨hE,s3,e1,e2,e3,e4,e5⟩:=abs_claim hinv k sp
   rw[←e2]at hf2
   have hfree:stateO (some s) (k:Int)=0:=by
    have hc:=ce
    unfold RL.claimE at hc
    by_cases c1: ¬(1≤(k:Int)∧(k:Int)<(s.abs.B.length:Int))∨spaceB sp=false
    ·rw[if_pos c1]at hc;cases hc
    rw[if_neg c1]at hc
    have c1a:1≤(k:Int)∧(k:Int)<(s.abs.B.length:Int):=Decidable.byContradiction fun e=>c1 (.inl e)
    by_cases c2:(s.abs.B.getD (k:Int).toNat (0,0)).1≠0
    ·rw[if_pos c2]at hc;cases hc
    ·rw[←abs_state]
     unfold RL.stateR
     rw[if_pos ⟨by omega,c1a.2⟩]
     exact Decidable.byContradiction fun e=>c2 e
   have e6:IntKind.i64.wrap (((64*k:Nat):Int).tdiv 64)=(k:Int):=by rw[tdiv64 (64*k) (by omega)];omega
   refine gO2 e6 g1.cell ?_
   refine callT0 (hState g2 (k:Int)) ?_
   (repeat(first|with_reducible(first|refine nx ?_|refine r_6 rfl ?_)|simp only[go_sem,hfree,bqt (rfl:(0:Int)=0),hcq w2 [] (Only.refl _ _) (by simp)]))
   refine callT1 (fLarge w2 sh) fun w4 ho4=>?_
   (repeat(first|with_reducible(first|refine nx ?_|refine r_6 rfl ?_)|simp only[go_sem,dfl (show¬32<wordsS sh by omega),(g1.keep0 ho4).cell]))
   refine callT (hClaim (g2.keep0 ho4) (k:Int) sp (by omega)) ?_
   rintro v w6 ⟨rfl,hh6,ho6⟩
   rw[e1]at hh6
   have ce':claimE (some s) (k:Int) 1 (1,sp)=0:=by rw[←hE];exact ce
   refine gO2 ce' (bnf (rfl:(0:Int)=0)) ?_
   refine hkk _ w6 ⟨s3,⟨.inr (.inr ⟨hc1,by rw[show((64*k:Nat):Int)/64=(k:Int) by omega];exact e1⟩),fun _ _ hr=>by rw[e2];exact hr.claimM _ _⟩,e3,e4,?_,e5,(hf2.keep0 ho4).keep ho6 fun x hx hx2=>(d2 x hx2).2.1 hx,hh6,ho4.of_nil.same ho6,by omega,by omega⟩
   ·refine objs_of_abs ?_
    rw[e2];unfold RL.claimM;rw[if_pos ce]
 obtain⟨s3,⟨hcu,r3⟩,i3,b3,l3,B3,hf3,hh3,ho3,a0,a1⟩:=hJ
 have hat3:=g1.keep ho3 d1.1
 have hq3n:q∉fh:=fun e=>hqn q (by simp[e]) rfl
 have hq3f:q∉ff:=fun e=>hqn q (by simp[e]) rfl
 have hr3:=g3.keep ho3 fun x hx hx2=>(d2 x hx2).1 hx
 have hk3:=g4.keep ho3 fun x hx hx2=>(d2 x hx2).2.2 hx
 obtain⟨s4,e1,e2,e3,e4,e5⟩:=abs_place i3 a sh
 have hPR:=abs_placeR i3 a sh
 refine gO ?_
 refine run_drt [b,q] ?_
 (repeat(first|with_reducible(first|refine nx ?_|refine r_6 rfl ?_)|simp only[go_sem,hat3.drew.cell,hcq w3.drew fh (ho3.nil (Only.drew [] w3)) hq3n]))
 refine callS (fPlace (hf3.keep0 (Only.drew [] w3)) a sh (by omega) (by show s3.born≤_;omega) (by rw[abs_len];omega)) ?_
 rintro v w4 ⟨rfl,ho4,ff',hf4,hsub4⟩
 refine⟨.inl rfl,?_⟩
 rw[←e2]at hf4
 have hat4:=hat3.drew.keep ho4 d1.2.2.1
 have hh4:=(hh3.keep0 (Only.drew [] w3)).keep ho4 fun x hx=>(d2 x hx).2.1
 have hq4:At w4 q (shV sh):=((hq2.keep ho3 hq3n).drew).keep ho4 hq3f
 have hc4:cellsAt w4.drew ⟨q,0,none⟩ 3=some (shV sh):=cellsAt_at hq4.drew 0 3 (by simp[shV])
 refine gO ?_
 refine run_drt [b,q] ?_
 refine gO2 hat4.drew.cell hc4 ?_
 refine callS (hPlaceG (hh4.keep0 (Only.drew [] w4)) a sh (by omega) fun t ht=>by cases ht;omega) ?_
 rintro v w5 ⟨rfl,hh5,ho5⟩
 refine⟨.inl rfl,?_⟩
 rw[e1]at hh5
 refine gO3 hPR (bqt (rfl:(placeR (some s3) a sh).1=(placeR (some s3) a sh).1)) (bqt (rfl:(placeR (some s3) a sh).2=(placeR (some s3) a sh).2)) ?_
 have hs12:w.heap.size≤w2.heap.size:=o2.size
 have hs13:w2.heap.size≤w3.heap.size:=ho3.size
 have hnew: ∀x,x∈ff'→x∈ff∨w.heap.size≤x:=fun x hx=>by
  rcases hsub4 x hx with h|h
  ·exact .inl h
  ·exact .inr (by have:w3.heap.size≤x:=h;omega)
 have hn: ∀x,x∉ff→x<w.heap.size→x∉ff':=fun x q1 q2 q3=>by rcases hnew x q3 with h4|h4;exact q1 h4;omega
 have o5:=(Only.drew [] w4).of_nil.same ho5
 have o4:=(Only.drew [] w3).of_nil.same ho4
 refine⟨s4,ff',⟨⟨e3,by omega,?_,by rw[e4,B3],fun P h0 hr=>by rw[e2];exact(r3 P h0 hr).placeM h0 _ _⟩,hpu s3 s4 hcu e1⟩,⟨hat4.keep o5 d1.1,e3,hh5,(hr3.keep o4 fun x hx=>(d3 x hx).1).keep o5 fun x hx hx2=>(d2 x hx2).1 hx,hf4.keep o5 fun x hx hx2=>?_,(hk3.keep o4 fun x hx hx2=>d4 x hx2 hx).keep o5 fun x hx hx2=>(d2 x hx2).2.2 hx,
  ⟨d1.1,d1.2.1,hn b d1.2.2.1 (hlt1 b (by simp)),d1.2.2.2⟩,fun x hx=>⟨(d2 x hx).1,hn x (d2 x hx).2.1 (hlt1 x (by simp[hx])),(d2 x hx).2.2⟩,fun x hx=>⟨hn x (d3 x hx).1 (hlt1 x (by simp[hx])),(d3 x hx).2⟩,fun x hx hx2=>?_⟩,((o2.same (oh ho3)).same (ot o4)).same (oh o5),hnew⟩
 ·rw[←abs_len,e2,←l3,←abs_len];exact placeM_len _ _ _
 ·exact hn x (d2 x hx2).2.1 (hlt1 x (by simp[hx2])) hx
 ·rcases hnew x hx with h4|h4
  ·exact d4 x h4 hx2
  ·have:=hlt1 x (by simp[hx2]);omega
end
section
set_option maxRecDepth 8000
variable {s:HL} {ff fh fk fr:List Nat} {b hb kb qb rb:Nat} {R:Rt.MS} {w:World}
theorem SCs.bothR {w1 w2:World} {R':Rt.MS} {fr' fk':List Nat} (h:SCs w b hb rb qb kb s R fh fr ff fk) (o1:Only fk w w1) (hk:Rt.RR w1 (some ⟨kb,0,none⟩) fk' (some R')) (sk: ∀x,x∈fk'→x∈fk∨w.heap.size≤x)
  (o2:Only fr w1 w2) (hr:Rt.PR w2 (some ⟨rb,0,none⟩) fr' (some R')) (sr: ∀x,x∈fr'→x∈fr∨w1.heap.size≤x):
  SCs w2 b hb rb qb kb s R' fh fr' ff fk'∧Only (b::(fh++(fr++(ff++fk)))) w w2∧ ∀x,x∈b::(fh++(fr'++(ff++fk')))→x∈b::(fh++(fr++(ff++fk)))∨w.heap.size≤x:=by
 have lt:=h.lt
 have hz:=o1.size
 have nk: ∀x,x∉fk→x<w.heap.size→x∉fk':=fun x q1 q2 q3=>by rcases sk x q3 with h4|h4;exact q1 h4;omega
 have nr: ∀x,x∉fr→x<w.heap.size→x∉fr':=fun x q1 q2 q3=>by rcases sr x q3 with h4|h4;exact q1 h4;omega
 have hkl:=hk.lt
 have krd: ∀x,x∈fk'→x∉fr:=fun x q1 q2=>by
  rcases sk x q1 with h4|h4
  ·exact(h.d3 x q2).2 h4
  ·have:=lt x (by simp[q2]);omega
 refine⟨⟨(h.at_.keep o1 h.d1.2.2.2).keep o2 h.d1.2.1,h.inv,(h.h.keep o1 fun x hx=>(h.d2 x hx).2.2).keep o2 fun x hx=>(h.d2 x hx).1,hr,(h.f.keep o1 fun x hx=>h.d4 x hx).keep o2 fun x hx hx2=>(h.d3 x hx2).1 hx,hk.keep o2 krd,
  ⟨h.d1.1,nr b h.d1.2.1 (lt b (by simp)),h.d1.2.2.1,nk b h.d1.2.2.2 (lt b (by simp))⟩,fun x hx=>⟨nr x (h.d2 x hx).1 (lt x (by simp[hx])),(h.d2 x hx).2.1,nk x (h.d2 x hx).2.2 (lt x (by simp[hx]))⟩,fun x hx=>⟨fun hx2=>?_,fun hx2=>?_⟩,fun x hx=>nk x (h.d4 x hx) (lt x (by simp[hx]))⟩,?_,?_⟩
 ·rcases sr x hx with h4|h4
  ·exact(h.d3 x h4).1 hx2
  ·have:=lt x (by simp[hx2]);omega
 ·rcases sr x hx with h4|h4
  ·exact krd x hx2 h4
  ·have:=hkl x hx2;omega
 ·exact(o1.weak fun x hx=>by simp[hx]).same (o2.weak fun x hx=>by simp[hx])
 ·intro x hx
  simp only[List.mem_cons,List.mem_append]at hx⊢
  rcases hx with rfl|hx|hx|hx|hx
  ·simp
  ·simp[hx]
  ·rcases sr x hx with h4|h4
   ·simp[h4]
   ·exact .inr (by omega)
  ·simp[hx]
  ·rcases sk x hx with h4|h4
   ·simp[h4]
   ·exact .inr h4
def whereP (R:Rt.MS) (n:Nat):Rt.PT:=
 if n%40<24 then(0,((n%40%R.M:Nat):Int),((n%40/4:Nat):Int))else if n%40<36 then(1,0,((n%40-24:Nat):Int))else(2,0,((n%40-36:Nat):Int))
theorem SCs.Rok (h:SCs w b hb rb qb kb s R fh fr ff fk):R.Ok:=by
 obtain⟨_,_,_,_,_,_,_,_,_,_,hm⟩:=h.k
 exact hm.ok
theorem cWhere (h:SCs w b hb rb qb kb s R fh fr ff fk) (n:Nat) (hn:n<100000):Cs Tryz.prog 167 [.pointer (some ⟨b,0,none⟩),.int .i64 (n:Int)] w fun v w'=>v=.agg ⟨Rt.plV (whereP R n)⟩∧Only [] w w':=by
 have hM:=h.Rok.m1
 have e0:max (n:Int) 0=(n:Int):=by omega
 have e1:((n:Int).tmod 40)=((n%40:Nat):Int):=tmodN n 40
 refine enter_law12_Scene_Where rfl ?_
 unfold x_law12_Scene_Where
 refine gO ?_
 refine boxT fun q w1 hq hs1 hat1 ho1=>?_
 have h1:=h.keep0 ho1
 have fin: ∀(w2:World),Only [q] w1 w2→Only [] w w2:=fun w2 o=>ho1.trans o fun x hx=>by simp only[lms]at hx;subst hx;exact .inr (by omega)
 refine gO2 e0 e1 ?_
 by_cases c1:n%40<24
 ·have e2:((n%40:Nat):Int).tmod (R.M:Int)=((n%40%R.M:Nat):Int):=tmodN _ _
  have e3:IntKind.i64.wrap (((n%40:Nat):Int).tdiv 4)=((n%40/4:Nat):Int):=by
   rw[Int.tdiv_eq_ediv_of_nonneg (by omega),IntWalk.i64_in _ (by omega)];omega
  have hM0:(Rt.mutO (some R))=(R.M:Int):=rfl
  have hw:whereP R n=(0,((n%40%R.M:Nat):Int),((n%40/4:Nat):Int)):=by unfold whereP;rw[if_pos c1]
  refine gO2 (dtr (show((n%40:Nat):Int)<24 by omega)) h1.at_.cell ?_
  refine callT0 (Rt.rMutators h1.k) ?_
  rw[hM0]
  (repeat(first|with_reducible(first|refine nx ?_|refine r_6 rfl ?_)|simp only[go_sem,divO_of (show(R.M:Int)≠0 by omega) (.int .i64 ((n%40%R.M:Nat):Int)),e2,e3]))
  rw[fillL_one rfl rfl,fillL_one rfl rfl,fillL_one rfl rfl]
  refine gO ?_
  refine stNT hat1 rfl (by simp) (by simp[oneC]) fun w2 hs2 hat2 ho2=>?_
  have hat2':At w2 q (Rt.plV (whereP R n)):=by rw[hw];simpa[Rt.plV,setL]using hat2
  have hc:cellsAt w2 ⟨q,0,none⟩ 3=some (Rt.plV (whereP R n)):=cellsAt_at hat2' 0 3 (by simp[Rt.plV])
  refine gO1 hc ?_
  exact fin w2 ho2
 by_cases c2:n%40<36
 ·have e3:IntKind.i64.wrap (((n%40:Nat):Int)-24)=((n%40-24:Nat):Int):=by rw[IntWalk.i64_in _ (by omega)];omega
  have hw:whereP R n=(1,0,((n%40-24:Nat):Int)):=by unfold whereP;rw[if_neg c1,if_pos c2]
  refine gO3 (dfl (show¬((n%40:Nat):Int)<24 by omega)) (dtr (show((n%40:Nat):Int)<36 by omega)) e3 ?_
  rw[fillL_one rfl rfl,fillL_one rfl rfl]
  refine gO ?_
  refine stNT hat1 rfl (by simp) (by simp[oneC]) fun w2 hs2 hat2 ho2=>?_
  have hat2':At w2 q (Rt.plV (whereP R n)):=by rw[hw];simpa[Rt.plV,setL]using hat2
  have hc:cellsAt w2 ⟨q,0,none⟩ 3=some (Rt.plV (whereP R n)):=cellsAt_at hat2' 0 3 (by simp[Rt.plV])
  refine gO1 hc ?_
  exact fin w2 ho2
 ·have e3:IntKind.i64.wrap (((n%40:Nat):Int)-36)=((n%40-36:Nat):Int):=by rw[IntWalk.i64_in _ (by omega)];omega
  have hw:whereP R n=(2,0,((n%40-36:Nat):Int)):=by unfold whereP;rw[if_neg c1,if_neg c2]
  refine gO3 (dfl (show¬((n%40:Nat):Int)<24 by omega)) (dfl (show¬((n%40:Nat):Int)<36 by omega)) e3 ?_
  rw[fillL_one rfl rfl,fillL_one rfl rfl]
  refine gO ?_
  refine stNT hat1 rfl (by simp) (by simp[oneC]) fun w2 hs2 hat2 ho2=>?_
  have hat2':At w2 q (Rt.plV (whereP R n)):=by rw[hw];simpa[Rt.plV,setL]using hat2
  have hc:cellsAt w2 ⟨q,0,none⟩ 3=some (Rt.plV (whereP R n)):=cellsAt_at hat2' 0 3 (by simp[Rt.plV])
  refine gO1 hc ?_
  exact fin w2 ho2
def rootsSet (R:Rt.MS) (p:Rt.PT) (y:Int):Rt.MO:=if p.1=2∧(R.Q.length:Int)≤p.2.2 then(Rt.pushO (some R) y).2 else(Rt.setO (some R) p y).2
theorem setO_some (R:Rt.MS) (p:Rt.PT) (y:Int): ∃R',(Rt.setO (some R) p y).2=some R':=by
 unfold Rt.setO
 dsimp only
 split
 ·exact⟨_,rfl⟩
 ·split
  ·exact⟨_,rfl⟩
  ·exact⟨_,rfl⟩
theorem pushO_some (R:Rt.MS) (y:Int): ∃R',(Rt.pushO (some R) y).2=some R':=by
 unfold Rt.pushO
 dsimp only
 split
 ·exact⟨_,rfl⟩
 ·split
  ·exact⟨_,rfl⟩
  ·exact⟨_,rfl⟩
theorem cSet (h:SCs w b hb rb qb kb s R fh fr ff fk) (n:Nat) (hn:n<100000) (y:Int):Cs Tryz.prog 89 [.pointer (some ⟨b,0,none⟩),.int .i64 (n:Int),.int .i64 y] w fun v w'=>v=.bool true∧ ∃R' fr' fk',rootsSet R (whereP R n) y=some R'∧SCs w' b hb rb qb kb s R' fh fr' ff fk'∧Only (b::(fh++(fr++(ff++fk)))) w w'∧ ∀x,x∈b::(fh++(fr'++(ff++fk')))→x∈b::(fh++(fr++(ff++fk)))∨w.heap.size≤x:=by
 refine enter_law12_Scene_Set rfl ?_
 unfold x_law12_Scene_Set
 refine gO ?_
 refine callT1 (cWhere h n hn) fun w1 ho1=>?_
 generalize hp:whereP R n=p
 refine gO ?_
 refine boxT fun q w2 hq hs2 hat2 ho2=>?_
 refine gO ?_
 refine stNT (cs:=Rt.plV p) hat2 rfl (by simp[Rt.plV]) Rt.plV_one fun w3 hs3 hat3 ho3=>?_
 have hat3:At w3 q (Rt.plV p):=by
  have e:setL [Value.int IntKind.i64 0,Value.int IntKind.i64 0,Value.int IntKind.i64 0] 0 (Rt.plV p)=Rt.plV p:=by simp[setL,Rt.plV]
  rw[e]at hat3;exact hat3
 have o13:Only [] w1 w3:=ho2.trans ho3 fun x hx=>by simp only[lms]at hx;subst hx;exact .inr (by omega)
 have o3:Only [] w w3:=ho1.nil o13
 have hz1:=ho1.size
 have hz3:=o3.size
 have h3:=h.keep0 o3
 have hqn: ∀x,x∈b::(fh++(fr++(ff++fk)))→x≠q:=fun x hx=>by have:=h.lt x hx;omega
 have hc3: ∀w',Only [] w3 w'→cellsAt w' ⟨q,0,none⟩ 3=some (Rt.plV p):=fun w' o=>cellsAt_at (hat3.keep0 o) 0 3 (by simp[Rt.plV])
 have fin: ∀ {w1 w2:World} {R':Rt.MS} {fr' fk':List Nat},Only [] w w1→SCs w2 b hb rb qb kb s R' fh fr' ff fk'∧Only (b::(fh++(fr++(ff++fk)))) w1 w2∧(∀x,x∈b::(fh++(fr'++(ff++fk')))→x∈b::(fh++(fr++(ff++fk)))∨w1.heap.size≤x)→rootsSet R p y=some R'→
   ∃R' fr' fk',rootsSet R p y=some R'∧SCs w2 b hb rb qb kb s R' fh fr' ff fk'∧Only (b::(fh++(fr++(ff++fk)))) w w2∧ ∀x,x∈b::(fh++(fr'++(ff++fk')))→x∈b::(fh++(fr++(ff++fk)))∨w.heap.size≤x:=fun o g e=>
  ⟨_,_,_,e,g.1,o.of_nil.same g.2.1,fun x hx=>(g.2.2 x hx).imp id fun hx=>by have:=o.size;omega⟩
 have hcell0: ∀w',Only [] w3 w'→w'.cell? ⟨q,0,none⟩=some (.int .i64 p.1):=fun w' o=>by rw[(hat3.keep0 o).cell];rfl
 have hcell2: ∀w',Only [] w3 w'→w'.cell? ⟨q,2,none⟩=some (.int .i64 p.2.2):=fun w' o=>by rw[(hat3.keep0 o).cell];rfl
 -- the way of Set
 have setcase:(h4:World)→True:=fun _=>trivial
 clear setcase
 refine gO ?_
 refine run_drt [b,q] ?_
 have od:=Only.drew [] w3
 have hd:=h3.keep0 od
 have hzd:w3.drew.heap.size=w3.heap.size:=rfl
 have hbq: ∀z,z∈[b,q]→z<w3.drew.heap.size:=fun z hz=>by
  simp only[List.mem_cons,List.not_mem_nil,or_false]at hz
  rcases hz with rfl|rfl
  ·exact hd.at_.lt
  ·exact hat3.lt
 by_cases c1:p.1=2
 ·(repeat(first|with_reducible(first|refine nx ?_|refine r_6 rfl ?_)|simp only[go_sem,hcell0 w3.drew od,hcell2 w3.drew od,c1,bqt (rfl:(2:Int)=2),hd.at_.cell]))
  refine callS (Rt.rQueue hd.k) ?_
  rintro v w4 ⟨ho4,fq,hs4,_⟩
  refine⟨.inr ((SB.refl _ _).only ho4 fun z hz=>⟨hbq z hz,by simp⟩),?_⟩
  obtain⟨a4,c4,rfl⟩:=hs4.val
  have o4:=od.nil ho4
  have h4:=h3.keep0 o4
  have hQ:(Rt.queueO (some R)).length=R.Q.length:=rfl
  rw[hQ]
  by_cases c2:(R.Q.length:Int)≤p.2.2
  ·refine gO1 (dtr c2) ?_
   refine run_drt [b] ?_
   have o4d:=o4.nil (Only.drew [] w4)
   have h4d:=h3.keep0 o4d
   refine gO1 h4d.at_.cell ?_
   refine callS (Rt.rPush h4d.k y) ?_
   rintro v w5 ⟨rfl,ho5,fk',hk5,sk⟩
   obtain⟨R',e5⟩:=pushO_some R y
   rw[e5]at hk5
   refine⟨.inr ((SB.refl _ _).only ho5 fun z hz=>by simp only[lms]at hz;subst hz;exact⟨h4d.at_.lt,h.d1.2.2.2⟩),?_⟩
   refine gO ?_
   refine callS (Rt.Push_m (h4d.r.keep ho5 fun z hz=>(h.d3 z hz).2) y) ?_
   rintro v w6 ⟨rfl,ho6,_,fr',hr6,sr⟩
   rw[e5]at hr6
   refine⟨.inl rfl,?_⟩
   refine gO1 (bqt (rfl:(Rt.pushO (some R) y).1=(Rt.pushO (some R) y).1)) ?_
   simpa only[List.mem_cons]using fin (o3.nil o4d) (h4d.bothR ho5 hk5 sk ho6 hr6 sr) (by unfold rootsSet;rw[if_pos ⟨c1,c2⟩];exact e5)
  ·refine gO1 (dfl c2) ?_
   have o4d:=o4.nil (Only.drew [] w4)
   refine run_drt [b,q] ?_
   have h4d:=h3.keep0 o4d
   (repeat(first|with_reducible(first|refine nx ?_|refine r_6 rfl ?_)|simp only[go_sem,h4d.at_.cell,hc3 _ o4d]))
   refine callS (Rt.rSet h4d.k p y) ?_
   rintro v w5 ⟨rfl,hk5,ho5⟩
   obtain⟨R',e5⟩:=setO_some R p y
   rw[e5]at hk5
   have hq5:q∉fk:=fun e=>hqn q (by simp[e]) rfl
   refine⟨.inr ((SB.refl _ _).only ho5 fun z hz=>by
    simp only[List.mem_cons,List.not_mem_nil,or_false]at hz
    rcases hz with rfl|rfl
    ·exact⟨h4d.at_.lt,h.d1.2.2.2⟩
    ·exact⟨(hat3.keep0 o4d).lt,hq5⟩),?_⟩
   refine gO ?_
   refine callS (Rt.Set_m (h4d.r.keep ho5 fun z hz=>(h.d3 z hz).2) p y) ?_
   rintro v w6 ⟨rfl,hr6,ho6,_⟩
   rw[e5]at hr6
   refine⟨.inl rfl,?_⟩
   refine gO1 (bqt (rfl:(Rt.setO (some R) p y).1=(Rt.setO (some R) p y).1)) ?_
   simpa only[List.mem_cons]using fin (o3.nil o4d) (h4d.bothR ho5 hk5 (fun x hx=>.inl hx) ho6 hr6 fun x hx=>.inl hx) (by unfold rootsSet;rw[if_neg (fun h=>c2 h.2)];exact e5)
 ·(repeat(first|with_reducible(first|refine nx ?_|refine r_6 rfl ?_)|simp only[go_sem,hcell0 w3.drew od,bqf c1]))
  have o4d:=od.nil (Only.drew [] w3.drew)
  refine run_drt [b,q] ?_
  have h4d:=h3.keep0 o4d
  (repeat(first|with_reducible(first|refine nx ?_|refine r_6 rfl ?_)|simp only[go_sem,h4d.at_.cell,hc3 _ o4d]))
  refine callS (Rt.rSet h4d.k p y) ?_
  rintro v w5 ⟨rfl,hk5,ho5⟩
  obtain⟨R',e5⟩:=setO_some R p y
  rw[e5]at hk5
  have hq5:q∉fk:=fun e=>hqn q (by simp[e]) rfl
  refine⟨.inr ((SB.refl _ _).only ho5 fun z hz=>by
   simp only[List.mem_cons,List.not_mem_nil,or_false]at hz
   rcases hz with rfl|rfl
   ·exact⟨h4d.at_.lt,h.d1.2.2.2⟩
   ·exact⟨(hat3.keep0 o4d).lt,hq5⟩),?_⟩
  refine gO ?_
  refine callS (Rt.Set_m (h4d.r.keep ho5 fun z hz=>(h.d3 z hz).2) p y) ?_
  rintro v w6 ⟨rfl,hr6,ho6,_⟩
  rw[e5]at hr6
  refine⟨.inl rfl,?_⟩
  refine gO1 (bqt (rfl:(Rt.setO (some R) p y).1=(Rt.setO (some R) p y).1)) ?_
  simpa only[List.mem_cons]using fin (o3.nil o4d) (h4d.bothR ho5 hk5 (fun x hx=>.inl hx) ho6 hr6 fun x hx=>.inl hx) (by unfold rootsSet;rw[if_neg (fun h=>c1 h.1)];exact e5)
end
section
variable {ph:Bool} {s s':HL} {x:Int} {fp:List Nat} {b m nb:Nat} {R R':Rt.MS} {w w' w1:World}
def U8At (h0:Nat) (w:World) (v:Value) (n sz:Nat) (f:Nat→Nat→Nat):Prop:= ∃(a:Option Addr) (cap:Nat),v=.slice a n cap∧(∀i j,f i j<256)∧ ∀i,i<n→ ∃p,a=some p∧p.block<h0∧ ∀j,j<sz→w.cell? ((p.add (i*sz)).add j)=some (u8V (f i j))
theorem U8At.keep {h0:Nat} {v:Value} {n sz:Nat} {f:Nat→Nat→Nat} {S:List Nat} (h:U8At h0 w v n sz f) (hz:h0≤w.heap.size) (o:Only S w w') (hs: ∀x,x∈S→h0≤x):U8At h0 w' v n sz f:=by
 obtain⟨a,c,e,hf,hc⟩:=h
 refine⟨a,c,e,hf,fun i hi=>?_⟩
 obtain⟨p,e1,e2,e3⟩:=hc i hi
 refine⟨p,e1,e2,fun j hj=>?_⟩
 rw[cell_of_heap (w:=w) (w':=w') (by rw[add_block,add_block];exact o.block _ (by omega) fun hx=>by have:=hs _ hx;omega)]
 exact e3 j hj
theorem cellsAt_fn {a:Addr} {n:Nat} (f:Nat→Value) (h: ∀j,j<n→w.cell? (a.add j)=some (f j)):cellsAt w a n=some ((List.range n).map f):=by
 unfold cellsAt
 exact Go.ChangeShapes.mapM_range_of n h
structure BG where
 bl:Nat
 mu:Nat
 nO:Nat
 nD:Nat
 nL:Nat
 nP:Nat
 nN:Nat
 fO:Nat→Nat→Nat
 fD:Nat→Nat→Nat
 fL:Nat→Nat→Nat
 fP:Nat→Nat→Nat
 fN:Nat→Nat→Nat
structure BegAt (h0:Nat) (w:World) (cs:List Value) (g:BG) (vO vD vL vP vN:Value):Prop where
 e:cs=[u8V g.bl,u8V g.mu,vO,vD,vL,vP,vN]
 l0:g.bl<256
 l1:g.mu<256
 o:U8At h0 w vO g.nO 4 g.fO
 d:U8At h0 w vD g.nD 1 g.fD
 l:U8At h0 w vL g.nL 3 g.fL
 p:U8At h0 w vP g.nP 2 g.fP
 n:U8At h0 w vN g.nN 1 g.fN
def Sz (s:HL) (n nb:Nat):Prop:=s.born≤n∧s.objs.length≤n∧s.B.length=nb∧RfOk s.abs
theorem Sz.mono {n:Nat} (h:Sz s n nb) (hm:n≤m):Sz s m nb:=⟨by have:=h.1;omega,by have:=h.2.1;omega,h.2.2⟩
theorem Sz.step {n:Nat} (h:Sz s n nb) (e:Step s s'):Sz s' (n+1) nb:=⟨by have:=h.1;have:=e.2.1;omega,by have:=h.2.1;have:=e.2.2.1;omega,by rw[e.2.2.2.1];exact h.2.2.1,e.2.2.2.2 _ ⟨by omega,by omega⟩ h.2.2.2⟩
theorem killM_len (s:RL) (x:Int):(s.killM x).O.length≤s.O.length:=by
 unfold RL.killM
 split
 ·exact Nat.le_refl _
 ·show(s.O.eraseIdx _).length≤_
  rw[List.length_eraseIdx];split<;>omega
def Liv (s:HL) (x:Int):Prop:= ∃k:Nat,x=((2*k:Nat):Int)∧s.st.getD k 0=1
def PhP (ph:Bool) (s:HL) (x:Int):Prop:=x=0∨ph=true∧Liv s x
def RtP (P:Int→Prop) (R:Rt.MS):Prop:=(∀x,x∈R.S→P x)∧(∀x,x∈R.G→P x)∧ ∀x,x∈R.Q→P x
def Snd (ph:Bool) (s:HL) (R:Rt.MS):Prop:=RfP (PhP ph s) s.abs∧RtP (PhP ph s) R
theorem RtP.mono {P Q:Int→Prop} (h:RtP P R) (hp: ∀x,P x→Q x):RtP Q R:=⟨fun x hx=>hp x (h.1 x hx),fun x hx=>hp x (h.2.1 x hx),fun x hx=>hp x (h.2.2 x hx)⟩
theorem PhP.st (h:PhP ph s x) (e:s'.st=s.st):PhP ph s' x:=h.imp id fun⟨h1,k,h2,h3⟩=>⟨h1,k,h2,by rw[e];exact h3⟩
theorem PhP.f (h:PhP false s x):PhP false s' x:=h.imp id fun h=>by cases h.1
theorem Snd.st (h:Snd ph s R) (e:s'.st=s.st) (hr:RfP (PhP ph s) s'.abs):Snd ph s' R:=⟨hr.mono fun _ h=>h.st e,h.2.mono fun _ h=>h.st e⟩
theorem Snd.f (h:Snd false s R) (hr:RfP (PhP false s) s'.abs):Snd false s' R:=⟨hr.mono fun _ h=>h.f,h.2.mono fun _ h=>h.f⟩
theorem Snd.up (h:Snd false s R):Snd ph s R:=⟨h.1.mono fun _ h=>.inl (h.elim id fun h=>by cases h.1),h.2.mono fun _ h=>.inl (h.elim id fun h=>by cases h.1)⟩
theorem atS_ph (s:HL) (n:Nat):PhP true s (atS s n):=by
 unfold atS
 split
 ·exact .inl rfl
 ·rename_i h0
  have hlt:n%s.objs.length<s.objs.length:=Nat.mod_lt _ (by omega)
  exact .inr ⟨rfl,_,rfl,mem_objs.1 (show s.objs.getD (n%s.objs.length) 0∈s.objs by simp[hlt])⟩
theorem rootsSet_P {P:Int→Prop} {p:Rt.PT} {y:Int} (e:rootsSet R p y=some R') (hR:RtP P R) (hy:P y):RtP P R':=by
 unfold rootsSet at e
 split at e
 ·unfold Rt.pushO at e
  simp only at e
  split at e
  ·cases e;exact hR
  ·split at e
   ·cases e;exact hR
   ·cases e
    exact⟨hR.1,hR.2.1,fun x hx=>(List.mem_append.1 hx).elim (hR.2.2 x) fun h=>by simp only[lms]at h;rw[h];exact hy⟩
 ·unfold Rt.setO at e
  simp only at e
  split at e
  ·cases e;exact hR
  ·rename_i q _
   split at e
   ·cases e;exact hR
   ·cases e
    have key: ∀ {l:List Int} {i:Nat},(∀x,x∈l→P x)→ ∀x,x∈l.set i y→P x:=fun h x hx=>(List.mem_or_eq_of_mem_set hx).elim (h x) fun e=>e▸hy
    unfold Rt.MS.wr
    split
    ·exact⟨key hR.1,hR.2⟩
    ·exact⟨hR.1,key hR.2.1,hR.2.2⟩
    ·exact⟨hR.1,hR.2.1,key hR.2.2⟩
def ItR {α:Type} (P:α→Prop) (T:Nat→α→α→Prop):Nat→α→Prop
 |0=>P
 |i+1=>fun y=> ∃x,ItR P T i x∧T i x y
abbrev HS:=HL×Rt.MS
def NewR (g:BG) (x:HS):Prop:=newH ((2+g.bl%23:Nat):Int)=some x.1∧Rt.newO ((1+g.mu%4:Nat):Int)=some x.2
def TO (g:BG) (i:Nat) (x y:HS):Prop:=PlaceU x.1 (shapeB (g.fO i 0) (g.fO i 1) (g.fO i 2)) ((g.fO i 3%3:Nat):Int) y.1∧y.2=x.2
def TD (g:BG) (i:Nat) (x y:HS):Prop:=killM (some x.1) (atS x.1 (g.fD i 0%100))=some y.1∧y.2=x.2
def TL (g:BG) (i:Nat) (x y:HS):Prop:=(if(x.1.abs.shapeR (atS x.1 (g.fL i 0%100))).2=0∧0<(x.1.abs.shapeR (atS x.1 (g.fL i 0%100))).1.1 then setRefM (some x.1) (atS x.1 (g.fL i 0%100)) (((g.fL i 1:Nat):Int).tmod (x.1.abs.shapeR (atS x.1 (g.fL i 0%100))).1.1) (atS x.1 (g.fL i 2%100))=some y.1 else y.1=x.1)∧y.2=x.2
def TP (g:BG) (i:Nat) (x y:HS):Prop:=rootsSet x.2 (whereP x.2 (g.fP i 0)) (atS x.1 (g.fP i 1%100))=some y.2∧y.1=x.1
def TN (g:BG) (i:Nat) (x y:HS):Prop:=pinM (some x.1) (atS x.1 (g.fN i 0%100)) 1=some y.1∧y.2=x.2
def Op1 (g:BG):Nat→HS→Prop:=ItR (NewR g) (TO g)
def Op2 (g:BG):Nat→HS→Prop:=ItR (Op1 g (min g.nO 40)) (TD g)
def Op3 (g:BG):Nat→HS→Prop:=ItR (Op2 g (min g.nD 20)) (TL g)
def Op4 (g:BG):Nat→HS→Prop:=ItR (Op3 g (min g.nL 120)) (TP g)
def Op5 (g:BG):Nat→HS→Prop:=ItR (Op4 g (min g.nP 20)) (TN g)
def OpenR (g:BG):HS→Prop:=Op5 g (min g.nN 8)
def OpI (w1 w:World) (b n nb:Nat) (ph:Bool) (Q:HS→Prop):Prop:= ∃s R fp,SC w b s R fp∧(∀x,x∈fp→w1.heap.size≤x)∧Only [] w1 w∧Sz s n nb∧Snd ph s R∧Q (s,R)
theorem OpI.mono {n:Nat} {Q:HS→Prop} (h:OpI w1 w b n nb ph Q) (hm:n≤m):OpI w1 w b m nb ph Q:=by
 obtain⟨s,R,fp,h1,h2,h3,h4,h5⟩:=h
 exact⟨s,R,fp,h1,h2,h3,h4.mono hm,h5⟩
theorem OpI.up {n:Nat} {Q:HS→Prop} (h:OpI w1 w b n nb false Q):OpI w1 w b n nb ph Q:=by
 obtain⟨s,R,fp,h1,h2,h3,h4,h5⟩:=h
 exact⟨s,R,fp,h1,h2,h3,h4,h5.1.up,h5.2⟩
theorem OpI.keep0 {n:Nat} {Q:HS→Prop} (h:OpI w1 w b n nb ph Q) (o:Only [] w w'):OpI w1 w' b n nb ph Q:=by
 obtain⟨s,R,fp,⟨hb,rb,qb,kb,fh,fr,ff,fk,e,h1⟩,h2,h3,h4⟩:=h
 exact⟨s,R,fp,⟨hb,rb,qb,kb,fh,fr,ff,fk,e,h1.keep0 o⟩,h2,h3.nil o,h4⟩
theorem OpI.next {n:Nat} {Q:HS→Prop} {hb rb qb kb:Nat} {fh fr ff fk fh' fr' ff' fk':List Nat} (h2: ∀x,x∈b::(fh++(fr++(ff++fk)))→w1.heap.size≤x) (h3:Only [] w1 w) (h:SCs w' b hb rb qb kb s' R' fh' fr' ff' fk')
  (o:Only (b::(fh++(fr++(ff++fk)))) w w') (hn: ∀x,x∈b::(fh'++(fr'++(ff'++fk')))→x∈b::(fh++(fr++(ff++fk)))∨w.heap.size≤x) (hz:Sz s' n nb) (hd:Snd ph s' R') (hQ:Q (s',R')):OpI w1 w' b n nb ph Q:=
 ⟨s',R',_,⟨hb,rb,qb,kb,fh',fr',ff',fk',rfl,h⟩,fun x hx=>(hn x hx).elim (h2 x) fun h=>by have:=h3.size;omega,h3.trans o fun x hx=>.inr (h2 x hx),hz,hd,hQ⟩
theorem oPlace {Q:HS→Prop} (h:OpI w1 w b m nb false Q) (sh:Sh) (hv:validS sh=true) (sp:Int) (hm:m≤1000):Cs Tryz.prog 83 [.pointer (some ⟨b,0,none⟩),.agg ⟨shV sh⟩,.int .i64 sp] w fun v w'=>v=.bool true∧OpI w1 w' b (m+1) nb false (fun y=> ∃x,Q x∧PlaceU x.1 sh sp y.1∧y.2=x.2)∧ ∃S,(∀x,x∈S→w1.heap.size≤x)∧Only S w w':=by
 obtain⟨s,R,fp,⟨hb,rb,qb,kb,fh,fr,ff,fk,rfl,h1⟩,h2,h3,h4,h5⟩:=h
 refine(cPlace h1 sh hv sp (by have:=h4.1;omega) (by have:=h4.2.1;omega)).mono ?_
 rintro v w' ⟨rfl,s',ff',⟨e1,eu⟩,e2,e3,e4⟩
 refine⟨rfl,OpI.next h2 h3 e2 e3 (fun x hx=>?_) (h4.step e1) (h5.1.f (e1.2.2.2.2 _ (.inl rfl) h5.1.1)) ⟨_,h5.2,eu,rfl⟩,_,h2,e3⟩
 simp only[List.mem_cons,List.mem_append]at hx⊢
 rcases hx with hx|hx|hx|hx|hx
 ·simp[hx]
 ·simp[hx]
 ·simp[hx]
 ·rcases e4 x hx with h|h
  ·simp[h]
  ·exact .inr h
 ·simp[hx]
theorem oSet {Q:HS→Prop} (h:SC w b s R fp∧(∀x,x∈fp→w1.heap.size≤x)∧Only [] w1 w∧Sz s m nb∧Snd true s R) (n:Nat) (hn:n<100000) (y:Int) (hy:PhP true s y) (hQ: ∀R',rootsSet R (whereP R n) y=some R'→Q (s,R')):Cs Tryz.prog 89 [.pointer (some ⟨b,0,none⟩),.int .i64 (n:Int),.int .i64 y] w fun v w'=>v=.bool true∧OpI w1 w' b m nb true Q∧ ∃S,(∀x,x∈S→w1.heap.size≤x)∧Only S w w':=by
 obtain⟨⟨hb,rb,qb,kb,fh,fr,ff,fk,rfl,h1⟩,h2,h3,h4,h5⟩:=h
 refine(cSet h1 n hn y).mono ?_
 rintro v w' ⟨rfl,R',fr',fk',e1,e2,e3,e4⟩
 exact⟨rfl,OpI.next h2 h3 e2 e3 e4 h4 ⟨h5.1,rootsSet_P e1 h5.2 hy⟩ (hQ _ e1),_,h2,e3⟩
theorem oLink {Q:HS→Prop} (h:SC w b s R fp∧(∀x,x∈fp→w1.heap.size≤x)∧Only [] w1 w∧Sz s m nb∧Snd true s R) (x i to:Int) (hx:x≤4611686018427387904) (hto:0≤to∧to≤4096) (hy:PhP true s to) (hQ: ∀s',setRefM (some s) x i to=some s'→Q (s',R)):Cs Tryz.prog 88 [.pointer (some ⟨b,0,none⟩),.int .i64 x,.int .i64 i,.int .i64 to] w fun v w'=>v=.bool true∧OpI w1 w' b m nb true Q∧ ∃S,(∀x,x∈S→w1.heap.size≤x)∧Only S w w':=by
 obtain⟨⟨hb,rb,qb,kb,fh,fr,ff,fk,rfl,h1⟩,h2,h3,h4,h5⟩:=h
 refine(cLink h1 x i to hx (by omega)).mono ?_
 rintro v w' ⟨rfl,s',e1,e2,e3⟩
 obtain⟨t,g1,g2,g3,g4,g5,g6⟩:=abs_setRef h1.inv.ok x i to
 have hts:s'=t:=Option.some.inj (e1.symm.trans g1)
 subst hts
 refine⟨rfl,OpI.next h2 h3 e2 e3 (fun x hx=>.inl hx) ⟨by rw[g5];exact h4.1,?_,by rw[g3];exact h4.2.2.1,by rw[g2];exact h4.2.2.2.setRefM _ _ _ hto⟩ (h5.st g4 (by rw[g2];exact h5.1.setRefM _ _ _ hy)) (hQ _ e1),_,h2,e3⟩
 have:HL.objs s'=s.objs:=by unfold HL.objs;rw[g4]
 rw[this];exact h4.2.1
set_option maxHeartbeats 1000000 in
theorem cOpen1 {cs:List Value} {g:BG} {vO vD vL vP vN:Value} (h:BegAt w.heap.size w cs g vO vD vL vP vN):Cs Tryz.prog 23 [.agg ⟨cs⟩] w fun v w'=> ∃b,v=.pointer (some ⟨b,0,none⟩)∧OpI w w' b 40 (2+g.bl%23) true (OpenR g):=by
 obtain⟨rfl,l0,l1,hO,hD,hL,hP,hN⟩:=h
 have m23:((g.bl:Int).tmod 23)=((g.bl%23:Nat):Int):=tmodN g.bl 23
 have m4:((g.mu:Int).tmod 4)=((g.mu%4:Nat):Int):=tmodN g.mu 4
 have e1:IntKind.i64.wrap (2+((g.bl%23:Nat):Int))=((2+g.bl%23:Nat):Int):=by rw[IntWalk.i64_in _ (by omega)];omega
 have e2:IntKind.i64.wrap (1+((g.mu%4:Nat):Int))=((1+g.mu%4:Nat):Int):=by rw[IntWalk.i64_in _ (by omega)];omega
 refine enter_law12_Begin_Open rfl ?_
 unfold x_law12_Begin_Open
 refine gO ?_
 refine boxT fun q w1 hq hs1 hat1 ho1=>?_
 (repeat(first|with_reducible(first|refine nx ?_|refine r_6 rfl ?_)|simp only[go_sem,hat1.cell,hat1.drew.cell,u8V,conv_u8 g.bl l0,conv_u8 g.mu l1,m23,m4,e1,e2]))
 obtain⟨s0,n1,n2,n3,n4,n5⟩:=new_inv (n:=2+g.bl%23) (by omega) (by omega)
 have r1:Rt.newO ((1+g.mu%4:Nat):Int)=some ⟨1+g.mu%4,List.replicate (16*(1+g.mu%4)) 0,List.replicate 16 0,[]⟩:=by
  unfold Rt.newO;rw[if_pos (by omega),tnc]
 generalize hR0:(⟨1+g.mu%4,List.replicate (16*(1+g.mu%4)) 0,List.replicate 16 0,[]⟩:Rt.MS)=R0 at r1
 have i1:(some s0).isSome=true:=rfl
 have i2:(some R0).isSome=true:=rfl
 refine callT (hNew _ _) ?_
 rintro v w2 ⟨ah,fh,rfl,hh2,_,gh,ho2⟩
 replace ho2:Only [] w1 w2:=(Only.drew [] w1).nil ho2
 replace gh: ∀y,y∈fh→w1.heap.size≤y:=gh
 rw[n1]at hh2⊢
 obtain⟨hb,rfl,hrest⟩:=hh2
 have hh2:HR w2 (some ⟨hb,0,none⟩) fh (some s0):=⟨hb,rfl,hrest⟩
 clear hrest
 refine gO1 i1 ?_
 refine callT (Rt.New_m w2 _) ?_
 rintro v w3 ⟨ho3,ar,fr,rfl,hr3,_,gr⟩
 rw[r1]at hr3⊢
 obtain⟨rb,rfl,hrest⟩:=hr3
 have hr3:Rt.PR w3 (some ⟨rb,0,none⟩) fr (some R0):=⟨rb,rfl,hrest⟩
 clear hrest
 refine gO2 i2 (bnf (rfl:(0:Int)=0)) ?_
 rw[fillL_one rfl rfl,fillL_one rfl rfl]
 refine gO ?_
 refine boxT fun b w4 hb4 hs4 hat4 ho4=>?_
 refine gO ?_
 refine callT (fNew w4 _ (by omega) (by omega)) ?_
 rintro v w5 ⟨ho5,qb,ff,rfl,hf5,gf⟩
 rw[tnc,←n3]at hf5
 have hat5:=hat4.keep0 ho5
 refine gO ?_
 refine stT hat5 (by simp) rfl fun w6 hs6 hat6 ho6=>?_
 refine gO ?_
 refine callT (Rt.rNew w6 _) ?_
 rintro v w7 ⟨ho7,ak,fk,rfl,hk7,_,gk⟩
 rw[r1]at hk7⊢
 obtain⟨kb,rfl,hrest⟩:=hk7
 have hk7:Rt.RR w7 (some ⟨kb,0,none⟩) fk (some R0):=⟨kb,rfl,hrest⟩
 clear hrest
 refine gO ?_
 refine stT (hat6.keep0 ho7) (by simp) rfl fun w8 hs8 hat8 ho8=>?_
 simp only[List.set_cons_zero,List.set_cons_succ]at hat8
 have z1:=ho1.size;have z2:=ho2.size;have z3:=ho3.size;have z4:=ho4.size;have z5:=ho5.size;have z6:=ho6.size;have z7:=ho7.size;have z8:=ho8.size
 have lh:=hh2.lt;have lr:=hr3.lt;have lf:=hf5.lt;have lk:=hk7.lt
 have oh:Only [b] w2 w8:=((((((ho3.nil ho4).nil ho5).of_nil (T:=[b])).same ho6).nil ho7).same ho8)
 have or:Only [b] w3 w8:=(((((ho4.nil ho5).of_nil (T:=[b])).same ho6).nil ho7).same ho8)
 have of:Only [b] w5 w8:=(ho6.nil ho7).same ho8
 have nh:b∉fh:=fun hx=>by have:=lh b hx;omega
 have nr:b∉fr:=fun hx=>by have:=lr b hx;omega
 have nf:b∉ff:=fun hx=>by have:=gf b hx;omega
 have nk:b∉fk:=fun hx=>by have:=gk b hx;omega
 have hsc:SCs w8 b hb rb qb kb s0 R0 fh fr ff fk:=⟨hat8,n2,hh2.keep oh (fun x hx=>off1 (fun e=>nh (e▸hx))),hr3.keep or (fun x hx=>off1 (fun e=>nr (e▸hx))),hf5.keep of (fun x hx=>off1 (fun e=>nf (e▸hx))),hk7.keep ho8 (fun x hx=>off1 (fun e=>nk (e▸hx))),
  ⟨nh,nr,nf,nk⟩,fun x hx=>⟨fun hy=>by have:=lh x hx;have:=gr x hy;omega,fun hy=>by have:=lh x hx;have:=gf x hy;omega,fun hy=>by have:=lh x hx;have:=gk x hy;omega⟩,fun x hx=>⟨fun hy=>by have:=lr x hx;have:=gf x hy;omega,fun hy=>by have:=lr x hx;have:=gk x hy;omega⟩,fun x hx hy=>by have:=lf x hx;have:=gk x hy;omega⟩
 have o18:Only [] w1 w8:=(ho2.nil ho3).trans ((((ho4.nil ho5).of_nil (T:=[b])).same ho6).nil ho7|>.same ho8) fun x hx=>by simp only[lms]at hx;subst hx;exact .inr (by omega)
 have hI0:OpI w1 w8 b 0 (2+g.bl%23) false (Op1 g 0):=⟨s0,R0,_,⟨hb,rb,qb,kb,fh,fr,ff,fk,rfl,hsc⟩,fun x hx=>by
  simp only[List.mem_cons,List.mem_append]at hx
  rcases hx with rfl|hx|hx|hx|hx
  ·omega
  ·exact gh x hx
  ·have:=gr x hx;omega
  ·have:=gf x hx;omega
  ·have:=gk x hx;omega,o18,⟨by omega,by have:s0.objs.length=s0.abs.O.length:=(abs_len s0).symm;rw[this,n3];exact Nat.le_refl 0,n5,by rw[n3];intro o ho;cases ho⟩,⟨(by rw[n3];intro o ho;cases ho),by rw[←hR0];exact⟨fun x hx=>.inl (List.eq_of_mem_replicate hx),fun x hx=>.inl (List.eq_of_mem_replicate hx),fun x hx=>by cases hx⟩⟩,⟨n1,r1⟩⟩
 generalize hnb:2+g.bl%23=nb at*
 have hq1: ∀w',Only [] w1 w'→At w' q [u8V g.bl,u8V g.mu,vO,vD,vL,vP,vN]:=fun w' o=>hat1.keep0 o
 have kU: ∀ {v:Value} {n sz:Nat} {f:Nat→Nat→Nat},U8At w.heap.size w v n sz f→ ∀w',Only [] w1 w'→U8At w.heap.size w' v n sz f:=fun h w' o=>h.keep (Nat.le_refl _) (ho1.nil o) (by simp)
 have hOp: ∀ {w':World} {n:Nat} {ph:Bool} {Q:HS→Prop},OpI w1 w' b n nb ph Q→Only [] w1 w':=fun h=>by obtain⟨_,_,_,_,_,h,_⟩:=h;exact h
 obtain⟨aO,cO,rfl,bO,_⟩:=id hO
 obtain⟨aD,cD,rfl,bD,_⟩:=id hD
 obtain⟨aL,cL,rfl,bL,_⟩:=id hL
 obtain⟨aP,cP,rfl,bP,_⟩:=id hP
 obtain⟨aN,cN,rfl,bN,_⟩:=id hN
 have hqs:q<w1.heap.size:=by omega
 clear hh2 hr3 hf5 hk7 hsc hat4 hat5 hat6 hat8 oh or of o18 nh nr nf nk lh lr lf lk gh gr gf gk ho2 ho3 ho4 ho5 ho6 ho7 ho8
 simp only[go_sem]
 refine run_seq ?_
 refine run_cut (10::75::76::77::78::79::80::81::82::83::84::85::86::87::88::89::90::91::92::93::94::95::96::97::98::99::100::101::102::[]) (fun _ w'=>OpI w1 w' b 40 nb false (Op1 g (min g.nO 40))) (fun kk hkk=>?_) (fun g1 w9 hI1=>?_)
 ·refine gO ?_
  refine run_loop (10::75::76::77::78::79::80::81::82::83::84::85::86::87::88::89::90::91::92::93::94::95::96::97::98::99::100::101::102::[]) (fun g' w'=> ∃i:Nat,g' 10=.int .i64 i∧i≤min g.nO 40∧OpI w1 w' b i nb false (Op1 g i)) (fun g' _=>upTo 40 10 g') ⟨0,by simp only[go_sem];rfl,by omega,hI0⟩ fun g' w' hI hnext=>?_
  obtain⟨i,h10,hi40,hI⟩:=hI
  have o':=hOp hI
  have hq':=hq1 w' o'
  have hmin:min g.nO 40≤i→i=min g.nO 40:=fun h=>by omega
  by_cases c1:i<g.nO
  rotate_left
  ·refine gO3 h10 hq'.cell (dfl (show¬(i:Int)<(g.nO:Int) by omega)) ?_
   refine hkk _ w' (hmin (by omega)▸hI.mono (by omega))
  by_cases c2:i<40
  rotate_left
  ·refine gO4 h10 hq'.cell (dtr (show(i:Int)<(g.nO:Int) by omega)) (dfl (show¬(i:Int)<40 by omega)) ?_
   refine hkk _ w' (hmin (by omega)▸hI.mono (by omega))
  refine gO4 h10 hq'.cell (dtr (show(i:Int)<(g.nO:Int) by omega)) (dtr (show(i:Int)<40 by omega)) ?_
  obtain⟨a',c',e',_,hc'⟩:=kU hO w'.drew (o'.nil (Only.drew [] w'))
  cases e'
  obtain⟨p,rfl,hp1,hp2⟩:=hc' i c1
  refine run_drt [q,p.block] ?_
  have hcs:cellsAt w'.drew (p.add (i*4)) 4=some [u8V (g.fO i 0),u8V (g.fO i 1),u8V (g.fO i 2),u8V (g.fO i 3)]:=cellsAt_fn (fun j=>u8V (g.fO i j)) hp2
  have hc3:w'.drew.cell? ⟨p.block,(p.add (i*4)).off+3,none⟩=some (u8V (g.fO i 3)):=by
   have:=hp2 3 (by omega)
   rw[←add_block p (i*4)];exact this
  have q4:((4:Nat):Int)=4:=rfl
  have t3:Int.toNat 3*1=3:=rfl
  have n1': ∀n,inL [q,p.block] (.pointer (some (p.add n)))=True:=fun n=>by simp[inL,add_block]
  have m3:((g.fO i 3:Nat):Int).tmod 3=((g.fO i 3%3:Nat):Int):=tmodN _ 3
  (repeat(first|with_reducible(first|refine nx ?_|refine r_6 rfl ?_)|simp only[go_sem,h10,hq'.drew.cell,if_pos (show(0:Int)≤(i:Int)∧(i:Int)<(g.nO:Int) by omega),tnc,hcs,q4,t3,add_block,hc3,n1',u8V,conv_u8 (g.fO i 3) (bO i 3),m3]))
  have h1d:OpI w1 w'.drew b i nb false (Op1 g i):=hI.keep0 (Only.drew [] w')
  have hzd:w1.heap.size≤w'.drew.heap.size:=(hOp h1d).size
  have hbl: ∀z,z∈[q,p.block]→z<w1.heap.size:=fun z hz=>by
   simp only[List.mem_cons,List.not_mem_nil,or_false]at hz
   rcases hz with rfl|rfl<;>omega
  refine callS1 (cShape w'.drew _ _ _ (g.fO i 3) (bO i 0) (bO i 1) (bO i 2)) (.inr ⟨SB.refl _ _,fun z hz=>⟨by have:=hbl z hz;omega,by simp⟩⟩) fun w5 ho5=>?_
  refine gO ?_
  refine callS (oPlace (h1d.keep0 ho5) (shapeB _ _ _) (shapeB_valid _ _ _) _ (by omega)) ?_
  rintro v w6 ⟨rfl,hI6,S,hS,hoS⟩
  refine⟨.inl rfl,?_⟩
  have z1:IntKind.i64.wrap ((i:Int)+1)=((i+1:Nat):Int):=by rw[IntWalk.i64_in _ (by omega)];omega
  refine gO2 h10 z1 ?_
  refine hnext _ w6 ⟨i+1,?_,by omega,hI6⟩ ?_
  ·simp only[go_sem]
  ·exact up_lt h10
 refine run_seq ?_
 refine run_cut (11::12::103::104::105::106::107::108::109::110::111::112::113::114::115::116::117::118::119::120::121::122::123::124::125::126::127::128::129::130::131::132::133::134::135::[]) (fun _ w'=>OpI w1 w' b 40 nb false (Op2 g (min g.nD 20))) (fun kk hkk=>?_) (fun g2 w10 hI2=>?_)
 ·refine gO ?_
  refine run_loop (11::12::103::104::105::106::107::108::109::110::111::112::113::114::115::116::117::118::119::120::121::122::123::124::125::126::127::128::129::130::131::132::133::134::135::[]) (fun g' w'=> ∃i:Nat,g' 11=.int .i64 i∧i≤min g.nD 20∧OpI w1 w' b 40 nb false (Op2 g i)) (fun g' _=>upTo 20 11 g') ⟨0,by simp only[go_sem];rfl,by omega,hI1⟩ fun g' w' hI hnext=>?_
  obtain⟨i,h10,hi40,hI⟩:=hI
  have o':=hOp hI
  have hq':=hq1 w' o'
  have hmin:min g.nD 20≤i→i=min g.nD 20:=fun h=>by omega
  by_cases c1:i<g.nD
  rotate_left
  ·refine gO3 h10 hq'.cell (dfl (show¬(i:Int)<(g.nD:Int) by omega)) ?_
   refine hkk _ w' (hmin (by omega)▸hI)
  by_cases c2:i<20
  rotate_left
  ·refine gO4 h10 hq'.cell (dtr (show(i:Int)<(g.nD:Int) by omega)) (dfl (show¬(i:Int)<20 by omega)) ?_
   refine hkk _ w' (hmin (by omega)▸hI)
  have ci:(0:Int)≤(i:Int)∧(i:Int)<(g.nD:Int):=by omega
  have z1:IntKind.i64.wrap ((i:Int)+1)=((i+1:Nat):Int):=by rw[IntWalk.i64_in _ (by omega)];omega
  obtain⟨a',c',e',_,hc'⟩:=kU hD w' o'
  cases e'
  obtain⟨p,rfl,hp1,hp2⟩:=hc' i c1
  have m100:((g.fD i 0:Nat):Int).tmod 100=((g.fD i 0%100:Nat):Int):=tmodN _ 100
  have hc0:w'.cell? (p.add i)=some (u8V (g.fD i 0)):=by
   have:=hp2 0 (by omega)
   rw[Nat.mul_one]at this
   exact this
  (repeat(first|with_reducible(first|refine nx ?_|refine r_6 rfl ?_)|simp only[go_sem,h10,hq'.cell,dtr (show(i:Int)<(g.nD:Int) by omega),dtr (show(i:Int)<20 by omega),if_pos ci,tnc,Nat.mul_one,hc0,u8V,conv_u8 (g.fD i 0) (bD i 0),m100]))
  obtain⟨s,R,fp,⟨hb',rb',qb',kb',fh',fr',ff',fk',rfl,h1⟩,h2,h3,h4,h4s,hQ⟩:=hI
  refine callT (cAt h1 (g.fD i 0%100) (by omega)) ?_
  rintro v w5 ⟨rfl,ho5⟩
  obtain⟨y0,y1⟩:=atS_le h1.inv.ok (g.fD i 0%100)
  obtain⟨y,hy⟩: ∃y,y=atS s (g.fD i 0%100):=⟨_,rfl⟩
  rw[←hy]at y0 y1⊢
  replace h1:=h1.keep0 ho5
  replace h3:=h3.nil ho5
  have h1d:=h1.keep0 (Only.drew [] w5)
  refine gO ?_
  refine run_drt [b] ?_
  refine gO1 h1d.at_.cell ?_
  obtain⟨s',e1,e2,e3,e4,_⟩:=abs_kill h1.inv.ok y
  refine callS (fKill h1d.f y) ?_
  rintro v w6 ⟨rfl,ho6,ff6,hf6,hsub⟩
  refine⟨.inr ((SB.refl _ _).only ho6 fun z hz=>by simp only[lms]at hz;subst hz;exact⟨h1d.at_.lt,h1.d1.2.2.1⟩),?_⟩
  refine gO ?_
  refine callS (hKill (h1d.h.keep ho6 fun z hz=>(h1.d2 z hz).2.1) y (by omega)) ?_
  rintro v w7 ⟨rfl,hh7,ho7⟩
  refine⟨.inl rfl,?_⟩
  rw[e1]at hh7
  rw[←e2]at hf6
  have g5:=h1d.both (h1.inv.kill e1 (hh7.ok s' rfl)) ho6 hf6 hsub ho7 hh7
  have hz5:Sz s' 40 nb:=⟨by rw[e4];exact h4.1,by have:=h4.2.1;have:=killM_len s.abs y;rw[←e2,abs_len,abs_len]at this;omega,by rw[e3];exact h4.2.2.1,by rw[e2];exact h4.2.2.2.killM _⟩
  have hI7:OpI w1 w7 b 40 nb false (Op2 g (i+1)):=OpI.next h2 h3 g5.1 ((Only.drew _ w5).same g5.2) (fun x hx=>by
   simp only[List.mem_cons,List.mem_append]at hx⊢
   rcases hx with hx|hx|hx|hx|hx
   ·simp[hx]
   ·simp[hx]
   ·simp[hx]
   ·rcases hsub x hx with h|h
    ·simp[h]
    ·exact .inr h
   ·simp[hx]) hz5 (h4s.f (by rw[e2];exact h4s.1.killM _)) ⟨(s,R),hQ,by rw[←hy];exact e1,rfl⟩
  (repeat(first|with_reducible(first|refine nx ?_|refine r_6 rfl ?_)|simp only[go_sem,h10,z1,abs_lacks h1.inv.ok y,bnf (rfl:objE (some s) y=objE (some s) y)]))
  refine hnext _ w7 ⟨i+1,?_,by omega,hI7⟩ ?_
  ·simp only[go_sem]
  ·exact up_lt h10
 refine run_seq ?_
 refine run_cut (13::14::15::16::17::136::137::138::139::140::141::142::143::144::145::146::147::148::149::150::151::152::153::154::155::156::157::158::159::160::161::162::163::164::165::166::167::168::169::170::171::172::173::174::175::176::177::178::179::180::181::182::183::184::185::186::187::188::189::190::191::[]) (fun _ w'=>OpI w1 w' b 40 nb true (Op3 g (min g.nL 120))) (fun kk hkk=>?_) (fun g3 w11 hI3=>?_)
 ·refine gO ?_
  refine run_loop (13::14::15::16::17::136::137::138::139::140::141::142::143::144::145::146::147::148::149::150::151::152::153::154::155::156::157::158::159::160::161::162::163::164::165::166::167::168::169::170::171::172::173::174::175::176::177::178::179::180::181::182::183::184::185::186::187::188::189::190::191::[]) (fun g' w'=> ∃i:Nat,g' 13=.int .i64 i∧i≤min g.nL 120∧OpI w1 w' b 40 nb true (Op3 g i)) (fun g' _=>upTo 120 13 g') ⟨0,by simp only[go_sem];rfl,by omega,hI2.up⟩ fun g' w' hI hnext=>?_
  obtain⟨i,h10,hi40,hI⟩:=hI
  have o':=hOp hI
  have hq':=hq1 w' o'
  have hmin:min g.nL 120≤i→i=min g.nL 120:=fun h=>by omega
  by_cases c1:i<g.nL
  rotate_left
  ·refine gO3 h10 hq'.cell (dfl (show¬(i:Int)<(g.nL:Int) by omega)) ?_
   refine hkk _ w' (hmin (by omega)▸hI)
  by_cases c2:i<120
  rotate_left
  ·refine gO4 h10 hq'.cell (dtr (show(i:Int)<(g.nL:Int) by omega)) (dfl (show¬(i:Int)<120 by omega)) ?_
   refine hkk _ w' (hmin (by omega)▸hI)
  have ci:(0:Int)≤(i:Int)∧(i:Int)<(g.nL:Int):=by omega
  have z1:IntKind.i64.wrap ((i:Int)+1)=((i+1:Nat):Int):=by rw[IntWalk.i64_in _ (by omega)];omega
  obtain⟨a',c',e',_,hc'⟩:=kU hL w' o'
  cases e'
  obtain⟨p,rfl,hp1,hp2⟩:=hc' i c1
  have m100:((g.fL i 0:Nat):Int).tmod 100=((g.fL i 0%100:Nat):Int):=tmodN _ 100
  have m100b:((g.fL i 2:Nat):Int).tmod 100=((g.fL i 2%100:Nat):Int):=tmodN _ 100
  have q4:((3:Nat):Int)=3:=rfl
  have t0:Int.toNat 0*1=0:=rfl
  have t1:Int.toNat 1*1=1:=rfl
  have t2:Int.toNat 2*1=2:=rfl
  have hcs:cellsAt w' (p.add (i*3)) 3=some [u8V (g.fL i 0),u8V (g.fL i 1),u8V (g.fL i 2)]:=cellsAt_fn (fun j=>u8V (g.fL i j)) hp2
  refine gJ6 h10 hq'.cell (dtr (show(i:Int)<(g.nL:Int) by omega)) (dtr (show(i:Int)<120 by omega)) (eq_true ci) hcs ?_
  refine boxT fun x w2' hx hsx hatx hox=>?_
  refine gO ?_
  refine stNT hatx rfl (by simp) (by simp[oneC,u8V]) fun w3' hsx3 hatx3 hox3=>?_
  have hatx3:At w3' x [u8V (g.fL i 0),u8V (g.fL i 1),u8V (g.fL i 2)]:=hatx3
  have o3:Only [] w' w3':=hox.trans hox3 fun y hy=>by simp only[lms]at hy;subst hy;exact .inr (by omega)
  obtain⟨s,R,fp,⟨hb',rb',qb',kb',fh',fr',ff',fk',rfl,h1⟩,h2,h3,h4,h4s,hQ⟩:=hI.keep0 o3
  (repeat(first|with_reducible(first|refine nx ?_|refine r_6 rfl ?_)|simp only[go_sem,q4,t0,hatx3.cell,u8V,conv_u8 (g.fL i 0) (bL i 0),m100]))
  refine callT (cAt h1 (g.fL i 0%100) (by omega)) ?_
  rintro v w5 ⟨rfl,ho5⟩
  obtain⟨y0,y1⟩:=atS_le h1.inv.ok (g.fL i 0%100)
  obtain⟨y,hy⟩: ∃y,y=atS s (g.fL i 0%100):=⟨_,rfl⟩
  rw[←hy]at y0 y1⊢
  replace h1:=h1.keep0 ho5
  replace h3:=h3.nil ho5
  refine gO1 h1.at_.cell ?_
  refine callT (fShape h1.f y) ?_
  rintro v w6 ⟨rfl,ho6⟩
  obtain⟨⟨sh,er⟩,e⟩: ∃x,x=s.abs.shapeR y:=⟨_,rfl⟩
  rw[←e]
  refine gO ?_
  refine boxT fun u w7' hu hsu hatu hou=>?_
  refine gO ?_
  refine stNT (cs:=shV sh) hatu rfl (by simp[shV]) (shV_one _) fun w8' hsu8 hatu8 hou8=>?_
  rw[setL_sh]at hatu8
  have o8:Only [] w5 w8':=ho6.nil (hou.trans hou8 fun y hy=>by simp only[lms]at hy;subst hy;exact .inr (by omega))
  have hx8:At w8' x [u8V (g.fL i 0),u8V (g.fL i 1),u8V (g.fL i 2)]:=(hatx3.keep0 ho5).keep0 o8
  have hu0:w8'.drew.cell? ⟨u,0,none⟩=some (.int .i64 sh.1):=by rw[hatu8.drew.cell];rfl
  have od8:Only [] w5 w8'.drew:=o8.nil (Only.drew [] w8')
  have hscL:=h1.keep0 od8
  have skip: ¬(er=0∧0<sh.1)→OpI w1 w8'.drew b 40 nb true (Op3 g (i+1)):=fun c=>⟨s,R,_,⟨hb',rb',qb',kb',fh',fr',ff',fk',rfl,hscL⟩,h2,h3.nil od8,h4,h4s,(s,R),hQ,by
   show TL g i (s,R) (s,R)
   unfold TL
   simp only
   rw[←hy,←e,if_neg c]
   exact⟨trivial,trivial⟩⟩
  have hlx:=hx8.lt
  have hlu:=hatu8.lt
  refine gO ?_
  refine run_drt [x,u] ?_
  by_cases ce:er=0
  rotate_left
  ·refine gO1 (bqf ce) ?_
   refine gO2 h10 z1 ?_
   refine hnext _ _ ⟨i+1,?_,by omega,skip fun h=>ce h.1⟩ ?_
   ·simp only[go_sem]
   ·exact up_lt h10
  by_cases cr:0<sh.1
  rotate_left
  ·refine gO3 (bqt ce) hu0 (dfl cr) ?_
   refine gO2 h10 z1 ?_
   refine hnext _ _ ⟨i+1,?_,by omega,skip fun h=>cr h.2⟩ ?_
   ·simp only[go_sem]
   ·exact up_lt h10
  (repeat(first|with_reducible(first|refine nx ?_|refine r_6 rfl ?_)|simp only[go_sem,bqt ce,hu0,dtr cr,q4,t0,t1,t2,hx8.drew.cell,u8V,conv_u8 (g.fL i 1) (bL i 1),conv_u8 (g.fL i 2) (bL i 2),m100b,divO_of (show sh.1≠0 by omega) (.int .i64 (((g.fL i 1:Nat):Int).tmod sh.1))]))
  refine callS (cAt hscL (g.fL i 2%100) (by omega)) ?_
  rintro v w9' ⟨rfl,ho9⟩
  obtain⟨t0',t1'⟩:=atS_le hscL.inv.ok (g.fL i 2%100)
  refine⟨.inr ((SB.refl _ _).only ho9 fun z hz=>⟨by
   simp only[List.mem_cons,List.not_mem_nil,or_false]at hz
   rcases hz with rfl|rfl
   ·exact hlx
   ·exact hlu,by simp⟩),?_⟩
  refine gO ?_
  refine callS (oLink (Q:=Op3 g (i+1)) ⟨⟨hb',rb',qb',kb',fh',fr',ff',fk',rfl,hscL.keep0 ho9⟩,h2,(h3.nil od8).nil ho9,h4,h4s⟩ y _ (atS s (g.fL i 2%100)) (by omega) ⟨t0',t1'⟩ (atS_ph _ _) fun s' es=>⟨(s,R),hQ,by
   show TL g i (s,R) (s',R)
   unfold TL
   simp only
   rw[←hy,←e,if_pos ⟨ce,cr⟩]
   exact⟨es,trivial⟩⟩) ?_
  rintro v wA ⟨rfl,hIA,S,hS,hoS⟩
  refine⟨.inl rfl,?_⟩
  refine gO ?_
  refine gO2 h10 z1 ?_
  refine hnext _ _ ⟨i+1,?_,by omega,hIA⟩ ?_
  ·simp only[go_sem]
  ·exact up_lt h10
 refine run_seq ?_
 refine run_cut (18::192::193::194::195::196::197::198::199::200::201::202::203::204::205::206::207::208::209::210::211::212::213::214::215::216::217::218::219::220::221::222::[]) (fun _ w'=>OpI w1 w' b 40 nb true (Op4 g (min g.nP 20))) (fun kk hkk=>?_) (fun g4 w12 hI4=>?_)
 ·refine gO ?_
  refine run_loop (18::192::193::194::195::196::197::198::199::200::201::202::203::204::205::206::207::208::209::210::211::212::213::214::215::216::217::218::219::220::221::222::[]) (fun g' w'=> ∃i:Nat,g' 18=.int .i64 i∧i≤min g.nP 20∧OpI w1 w' b 40 nb true (Op4 g i)) (fun g' _=>upTo 20 18 g') ⟨0,by simp only[go_sem];rfl,by omega,hI3⟩ fun g' w' hI hnext=>?_
  obtain⟨i,h10,hi40,hI⟩:=hI
  have o':=hOp hI
  have hq':=hq1 w' o'
  have hmin:min g.nP 20≤i→i=min g.nP 20:=fun h=>by omega
  by_cases c1:i<g.nP
  rotate_left
  ·refine gO3 h10 hq'.cell (dfl (show¬(i:Int)<(g.nP:Int) by omega)) ?_
   refine hkk _ w' (hmin (by omega)▸hI)
  by_cases c2:i<20
  rotate_left
  ·refine gO4 h10 hq'.cell (dtr (show(i:Int)<(g.nP:Int) by omega)) (dfl (show¬(i:Int)<20 by omega)) ?_
   refine hkk _ w' (hmin (by omega)▸hI)
  have ci:(0:Int)≤(i:Int)∧(i:Int)<(g.nP:Int):=by omega
  have z1:IntKind.i64.wrap ((i:Int)+1)=((i+1:Nat):Int):=by rw[IntWalk.i64_in _ (by omega)];omega
  obtain⟨a',c',e',_,hc'⟩:=kU hP w' o'
  cases e'
  obtain⟨p,rfl,hp1,hp2⟩:=hc' i c1
  refine gO4 h10 hq'.cell (dtr (show(i:Int)<(g.nP:Int) by omega)) (dtr (show(i:Int)<20 by omega)) ?_
  have q4:((2:Nat):Int)=2:=rfl
  have t0:Int.toNat 0*1=0:=rfl
  have t1:Int.toNat 1*1=1:=rfl
  have ta:(p.add (i*2)).add 0=p.add (i*2):=rfl
  have m100:((g.fP i 1:Nat):Int).tmod 100=((g.fP i 1%100:Nat):Int):=tmodN _ 100
  have hc0:w'.drew.cell? (p.add (i*2))=some (u8V (g.fP i 0)):=hp2 0 (by omega)
  have hc1:w'.drew.cell? ⟨p.block,(p.add (i*2)).off+1,none⟩=some (u8V (g.fP i 1)):=by
   have:w'.drew.cell? _=_:=hp2 1 (by omega)
   rw[←add_block p (i*2)];exact this
  have n1': ∀n,inL [q,p.block] (.pointer (some (p.add n)))=True:=fun n=>by simp[inL,add_block]
  have hId:=hI.keep0 (Only.drew [] w')
  have hzd:w1.heap.size≤w'.drew.heap.size:=(hOp hId).size
  have hbl: ∀z,z∈[q,p.block]→z<w1.heap.size:=fun z hz=>by
   simp only[List.mem_cons,List.not_mem_nil,or_false]at hz
   rcases hz with rfl|rfl<;>omega
  refine run_drt [q,p.block] ?_
  (repeat(first|with_reducible(first|refine nx ?_|refine r_6 rfl ?_)|simp only[go_sem,h10,hq'.drew.cell,if_pos ci,tnc,q4,t0,t1,ta,add_block,n1',hc0,hc1,u8V,conv_u8 (g.fP i 0) (bP i 0),conv_u8 (g.fP i 1) (bP i 1),m100]))
  obtain⟨sL,RL',fpL,⟨hbL,rbL,qbL,kbL,fhL,frL,ffL,fkL,eL,hscL⟩,hgeL,hoL,hszL,hsnL,hQ⟩:=hId
  refine callS (cAt hscL (g.fP i 1%100) (by omega)) ?_
  rintro v w5 ⟨rfl,ho5⟩
  refine⟨.inr ((SB.refl _ _).only ho5 fun z hz=>⟨by have:=hbl z hz;omega,by simp⟩),?_⟩
  refine gO ?_
  refine callS (oSet (Q:=Op4 g (i+1)) ⟨⟨hbL,rbL,qbL,kbL,fhL,frL,ffL,fkL,eL,hscL.keep0 ho5⟩,hgeL,hoL.nil ho5,hszL,hsnL⟩ (g.fP i 0) (by have:=bP i 0;omega) (atS sL (g.fP i 1%100)) (atS_ph _ _) fun R' er=>⟨(sL,RL'),hQ,er,rfl⟩) ?_
  rintro v w7 ⟨rfl,hI7,S,hS,hoS⟩
  refine⟨.inl rfl,?_⟩
  refine gO2 h10 z1 ?_
  refine hnext _ w7 ⟨i+1,?_,by omega,hI7⟩ ?_
  ·simp only[go_sem]
  ·exact up_lt h10
 refine run_seq ?_
 refine run_cut (19::20::223::224::225::226::227::228::229::230::231::232::233::234::235::236::237::238::239::240::241::242::243::244::245::246::247::248::249::250::251::252::253::254::255::[]) (fun _ w'=>OpI w1 w' b 40 nb true (Op5 g (min g.nN 8))) (fun kk hkk=>?_) (fun g5 w13 hI5=>?_)
 ·refine gO ?_
  refine run_loop (19::20::223::224::225::226::227::228::229::230::231::232::233::234::235::236::237::238::239::240::241::242::243::244::245::246::247::248::249::250::251::252::253::254::255::[]) (fun g' w'=> ∃i:Nat,g' 19=.int .i64 i∧i≤min g.nN 8∧OpI w1 w' b 40 nb true (Op5 g i)) (fun g' _=>upTo 8 19 g') ⟨0,by simp only[go_sem];rfl,by omega,hI4⟩ fun g' w' hI hnext=>?_
  obtain⟨i,h10,hi40,hI⟩:=hI
  have o':=hOp hI
  have hq':=hq1 w' o'
  have hmin:min g.nN 8≤i→i=min g.nN 8:=fun h=>by omega
  by_cases c1:i<g.nN
  rotate_left
  ·refine gO3 h10 hq'.cell (dfl (show¬(i:Int)<(g.nN:Int) by omega)) ?_
   refine hkk _ w' (hmin (by omega)▸hI)
  by_cases c2:i<8
  rotate_left
  ·refine gO4 h10 hq'.cell (dtr (show(i:Int)<(g.nN:Int) by omega)) (dfl (show¬(i:Int)<8 by omega)) ?_
   refine hkk _ w' (hmin (by omega)▸hI)
  have ci:(0:Int)≤(i:Int)∧(i:Int)<(g.nN:Int):=by omega
  have z1:IntKind.i64.wrap ((i:Int)+1)=((i+1:Nat):Int):=by rw[IntWalk.i64_in _ (by omega)];omega
  obtain⟨a',c',e',_,hc'⟩:=kU hN w' o'
  cases e'
  obtain⟨p,rfl,hp1,hp2⟩:=hc' i c1
  have m100:((g.fN i 0:Nat):Int).tmod 100=((g.fN i 0%100:Nat):Int):=tmodN _ 100
  have hc0:w'.cell? (p.add i)=some (u8V (g.fN i 0)):=by
   have:=hp2 0 (by omega)
   rw[Nat.mul_one]at this
   exact this
  (repeat(first|with_reducible(first|refine nx ?_|refine r_6 rfl ?_)|simp only[go_sem,h10,hq'.cell,dtr (show(i:Int)<(g.nN:Int) by omega),dtr (show(i:Int)<8 by omega),if_pos ci,tnc,Nat.mul_one,hc0,u8V,conv_u8 (g.fN i 0) (bN i 0),m100]))
  obtain⟨s,R,fp,⟨hb',rb',qb',kb',fh',fr',ff',fk',rfl,h1⟩,h2,h3,h4,h4s,hQ⟩:=hI
  refine callT (cAt h1 (g.fN i 0%100) (by omega)) ?_
  rintro v w5 ⟨rfl,ho5⟩
  obtain⟨y0,y1⟩:=atS_le h1.inv.ok (g.fN i 0%100)
  obtain⟨y,hy⟩: ∃y,y=atS s (g.fN i 0%100):=⟨_,rfl⟩
  rw[←hy]at y0 y1⊢
  replace h1:=h1.keep0 ho5
  replace h3:=h3.nil ho5
  have h1d:=h1.keep0 (Only.drew [] w5)
  refine gO ?_
  refine run_drt [b] ?_
  refine gO1 h1d.at_.cell ?_
  obtain⟨s',e1,e2,e3,_,e5,e6,e7⟩:=abs_pin h1.inv.ok y 1 (by omega)
  have hst:HL.objs s'=s.objs:=by unfold HL.objs;rw[e5]
  refine callS (fPin h1d.f y) ?_
  rintro v w6 ⟨rfl,hf6,ho6⟩
  refine⟨.inr ((SB.refl _ _).only ho6 fun z hz=>by simp only[lms]at hz;subst hz;exact⟨h1d.at_.lt,h1.d1.2.2.1⟩),?_⟩
  refine gO ?_
  refine callS (hPin (h1d.h.keep ho6 fun z hz=>(h1.d2 z hz).2.1) y (by omega)) ?_
  rintro v w7 ⟨rfl,hh7,ho7⟩
  refine⟨.inl rfl,?_⟩
  rw[e1]at hh7
  rw[show s.abs.pinM y true=s'.abs from e2.symm]at hf6
  have g5:=h1d.both (h1.inv.pin e1 (hh7.ok s' rfl) e7) ho6 hf6 (fun x hx=>.inl hx) ho7 hh7
  have hI7:OpI w1 w7 b 40 nb true (Op5 g (i+1)):=OpI.next h2 h3 g5.1 ((Only.drew _ w5).same g5.2) (fun x hx=>.inl hx) ⟨by rw[e6];exact h4.1,by rw[hst];exact h4.2.1,by rw[e3];exact h4.2.2.1,by rw[e2];exact h4.2.2.2.pinM _ _⟩ (h4s.st e5 (by rw[e2];exact h4s.1.pinM _ _)) ⟨(s,R),hQ,by rw[←hy];exact e1,rfl⟩
  (repeat(first|with_reducible(first|refine nx ?_|refine r_6 rfl ?_)|simp only[go_sem,h10,z1,abs_lacks h1.inv.ok y,bnf (rfl:objE (some s) y=objE (some s) y)]))
  refine hnext _ w7 ⟨i+1,?_,by omega,hI7⟩ ?_
  ·simp only[go_sem]
  ·exact up_lt h10
 refine gO ?_
 obtain⟨s,R,fp,h1,h2,h3,h4,h5⟩:=hI5
 exact⟨b,rfl,s,R,fp,h1,fun x hx=>by have:=h2 x hx;omega,ho1.nil h3,h4,h5⟩
end
def posI:List Int→Int→Nat
 | [],_=>0
 |y::l,x=>if y<x then posI l x+1 else 0
def putI (l:List Int) (x:Int):List Int:=if posI l x<l.length∧l.getD (posI l x) 0=x then l else l.take (posI l x)++[x]++l.drop (posI l x)
theorem posI_le: ∀(l:List Int) (x:Int),posI l x≤l.length
 | [],_=>Nat.le_refl _
 |y::l,x=>by
  unfold posI
  split
  ·have:=posI_le l x;simp only[List.length_cons];omega
  ·omega
theorem posI_at: ∀ {l:List Int} {x:Int} {k:Nat},k≤l.length→(∀j,j<k→l.getD j 0<x)→(k<l.length→ ¬l.getD k 0<x)→posI l x=k
 | [],x,k,h,_,_=>by simp at h;subst h;rfl
 |y::l,x,0,_,_,h=>by
  have:=h (by simp)
  simp only[List.getD_cons_zero]at this
  unfold posI;rw[if_neg this]
 |y::l,x,k+1,hl,h1,h2=>by
  have:=h1 0 (by omega)
  simp only[List.getD_cons_zero]at this
  unfold posI
  rw[if_pos this,posI_at (k:=k) (by simpa using hl) (fun j hj=>by have:=h1 (j+1) (by omega);simpa using this) fun hk=>by have:=h2 (by simpa using hk);simpa using this]
theorem mem_putI {l:List Int} {x y:Int}:y∈putI l x↔y=x∨y∈l:=by
 unfold putI
 by_cases c:posI l x<l.length∧l.getD (posI l x) 0=x
 ·rw[if_pos c]
  refine⟨.inr,fun h=>h.elim (fun e=>?_) id⟩
  rw[e,←c.2];simp[c.1]
 ·rw[if_neg c]
  have e:l=l.take (posI l x)++l.drop (posI l x):=(List.take_append_drop _ _).symm
  constructor
  ·intro h
   simp only[List.mem_append,lms]at h
   rcases h with(h|h)|h
   ·exact .inr (List.mem_of_mem_take h)
   ·exact .inl h
   ·exact .inr (List.mem_of_mem_drop h)
  ·intro h
   simp only[List.mem_append,lms]
   rcases h with h|h
   ·exact .inl (.inr h)
   ·rw[e,List.mem_append]at h
    exact h.elim (fun h=>.inl (.inl h)) .inr
section
set_option maxRecDepth 8000
variable {l:List Int} {fp:List Nat} {k n:Nat} {v:Value} {w:World}
theorem slc_headI (h:Sl w 1 v n (ints l) fp) (hk:k≤n): ∃v1,slcO 1 v none (some (.int .i64 (k:Int)))=some v1∧SrcIs w 1 v1 k (ints (l.take k)):=by
 have hl:(ints l).length=n*1:=h.1
 rcases h.2 with⟨rfl,rfl,_⟩|⟨g,cap,ys,T,rfl,_,h3,h5,h6⟩
 ·obtain rfl:k=0:=by omega
  exact⟨.slice none 0 0,rfl,rfl,.inl ⟨0,rfl,rfl⟩⟩
 ·obtain⟨v1,e1,s1⟩:=slc_head (k:=.i64) (sz:=1) (⟨T,h3⟩:At w g (ints l++ys)) hl hk h6
  refine⟨v1,e1,?_⟩
  have:(ints l).take (k*1)=ints (l.take k):=by unfold ints;rw[Nat.mul_one,List.map_take]
  rw[this]at s1
  exact s1
theorem slc_tailI (h:Sl w 1 v n (ints l) fp) (hk:k≤n): ∃v1,slcO 1 v (some (.int .i64 (k:Int))) none=some v1∧SrcIs w 1 v1 (n-k) (ints (l.drop k)):=by
 have hl:(ints l).length=n*1:=h.1
 rcases h.2 with⟨rfl,rfl,_⟩|⟨g,cap,ys,T,rfl,_,h3,h5,h6⟩
 ·obtain rfl:k=0:=by omega
  exact⟨.slice none 0 0,rfl,by simpa[ints]using hl,.inl ⟨0,rfl,rfl⟩⟩
 ·obtain⟨v1,e1,s1⟩:=slc_tail (k:=.i64) (sz:=1) (⟨T,h3⟩:At w g (ints l++ys)) hl hk h6
  refine⟨v1,e1,?_⟩
  have:(ints l).drop (k*1)=ints (l.drop k):=by unfold ints;rw[Nat.mul_one,List.map_drop]
  rw[this]at s1
  exact s1
theorem hPut12 (h:Sl w 1 v n (ints l) fp) (hn:n≤100000) (x:Int):Cs Tryz.prog 195 [v,.int .i64 x] w fun r w'=>Only [] w w'∧ ∃fp',Sl w' 1 r (putI l x).length (ints (putI l x)) fp'∧ ∀y,y∈fp'→y∈fp∨w.heap.size≤y:=by
 have hl:l.length=n:=by have:=h.1;rw[ints_length]at this;omega
 have hp:=posI_le l x
 obtain⟨a0,c0,rfl⟩:=h.val
 have hget: ∀i:Nat,i<n→ ∃g,a0=some ⟨g,0,none⟩∧w.cell? ⟨g,i,none⟩=some (.int .i64 (l.getD i 0)):=fun i hi=>by
  obtain⟨g,cap,ys,e,hat,_,_⟩:=h.pos (by omega)
  cases e
  exact⟨g,rfl,by rw[hat.cell];exact ints_append_get ys (by omega)⟩
 refine enter_ref12_Put rfl ?_
 unfold x_ref12_Put
 (repeat(first|with_reducible(first|refine r_1 ?_|refine r_2 ?_|refine r_4 ?_|refine r_5 ?_|refine r_6 rfl ?_|refine r_7 ?_|refine r_8 ?_|refine r_9 ?_|refine r_0 ?_)|simp only[go_sem]))
 refine run_cut (5::6::7::8::9::10::11::12::13::14::15::16::17::18::19::[]) (fun ρ' w'=>ρ' 5=.int .i64 ((posI l x:Nat):Int)∧w'=w) (fun kk hkk=>?_) (fun g w1 hJ=>?_)
 ·refine gO ?_
  refine run_loop (5::6::7::8::9::10::11::12::13::14::15::16::17::18::19::[]) (fun g w'=> ∃i:Nat,g 5=.int .i64 (i:Int)∧i≤n∧(∀j,j<i→l.getD j 0<x)∧w'=w) (fun g _=>upTo n 5 g) ⟨0,by simp only[go_sem];rfl,by omega,fun j hj=>absurd hj (by omega),rfl⟩ fun g1 w2 hI hnext=>?_
  obtain⟨i,h5,hi,hlt,rfl⟩:=hI
  by_cases c1:i<n
  rotate_left
  ·refine gO2 h5 (dfl (show¬(i:Int)<(n:Int) by omega)) ?_
   refine hkk _ _ ⟨?_,rfl⟩
   ·rw[posI_at (k:=i) (by omega) hlt (fun h=>absurd h (by omega))];simp only[go_sem,h5]
  obtain⟨g,rfl,hcell⟩:=hget i c1
  have ci:(0:Int)≤(i:Int)∧(i:Int)<(n:Int):=by omega
  have z1:=i64_succ i (by omega)
  by_cases c2:l.getD i 0<x
  ·refine gJ6 h5 (dtr ci.2) (eq_true ci) hcell (dtr c2) z1 ?_
   refine hnext _ _ ⟨i+1,?_,by omega,fun j hj=>?_,rfl⟩ ?_
   ·simp only[go_sem]
   ·by_cases e:j=i
    ·rw[e];exact c2
    ·exact hlt j (by omega)
   ·exact up_lt h5
  ·refine gJ5 h5 (dtr ci.2) (eq_true ci) hcell (dfl c2) ?_
   refine hkk _ _ ⟨?_,rfl⟩
   ·rw[posI_at (k:=i) (by omega) hlt (fun _=>c2)];simp only[go_sem,h5]
 obtain⟨h5,rfl⟩:=hJ
 obtain⟨k,hk⟩: ∃k,k=posI l x:=⟨_,rfl⟩
 rw[←hk]at h5 hp
 have hput:putI l x=if k<l.length∧l.getD k 0=x then l else l.take k++[x]++l.drop k:=by rw[hk];rfl
 have hin: ∀(c:k<l.length∧l.getD k 0=x),Sl w1 1 (.slice a0 n c0) (putI l x).length (ints (putI l x)) fp:=fun c=>by rw[hput,if_pos c,hl];exact h
 obtain⟨v36,e36,s36⟩:=slc_headI h (show k≤n by omega)
 obtain⟨v43,e43,s43⟩:=slc_tailI h (show k≤n by omega)
 have hout: ∀(c: ¬(k<l.length∧l.getD k 0=x)) {w1':World} {v:Value} {m:Nat} {fp':List Nat},m=(putI l x).length→Sl w1' 1 v m (ints (l.take k)++[.int .i64 x]++ints (l.drop k)) fp'→Sl w1' 1 v (putI l x).length (ints (putI l x)) fp':=fun c w1' v m fp' e hs=>by
  rw[e]at hs
  have:ints (putI l x)=ints (l.take k)++[.int .i64 x]++ints (l.drop k):=by rw[hput,if_neg c];simp[ints]
  rw[this];exact hs
 have hlen: ∀(c: ¬(k<l.length∧l.getD k 0=x)),k+1+(n-k)=(putI l x).length:=fun c=>by
  rw[hput,if_neg c];simp only[lla,List.length_take,List.length_drop,List.length_singleton];omega
 refine run_seq ?_
 refine run_cut (4::20::21::22::23::24::25::26::27::28::29::30::31::32::[]) (fun _ w1'=> ¬(k<l.length∧l.getD k 0=x)∧w1'=w1) (fun kk hkk=>?_) (fun g2 w2 hJ2=>?_)
 ·by_cases c3:k<n
  rotate_left
  ·refine gO2 h5 (dfl (show¬(k:Int)<(n:Int) by omega)) ?_
   refine hkk _ _ ⟨fun h=>c3 (by omega),rfl⟩
  obtain⟨g,rfl,hcell⟩:=hget k c3
  have ci:(0:Int)≤(k:Int)∧(k:Int)<(n:Int):=by omega
  by_cases c4:l.getD k 0=x
  ·refine gJ5 h5 (dtr ci.2) (eq_true ci) hcell (bqt c4) ?_
   exact⟨Only.refl _ _,fp,hin ⟨by omega,c4⟩,fun y hy=>.inl hy⟩
  ·refine gJ5 h5 (dtr ci.2) (eq_true ci) hcell (bqf c4) ?_
   refine hkk _ _ ⟨fun h=>c4 h.2,rfl⟩
 obtain⟨hc,rfl⟩:=hJ2
 have hd:w2.drew.heap.size=w2.heap.size:=rfl
 refine gO ?_
 refine run_drt [] ?_
 refine gO3 h5 e36 e43 ?_
 refine⟨?_,?_⟩
 ·skip
  refine bslS fun q33 w33 hq33 hs33 hat33 ho33=>⟨.inl rfl,?_⟩
  have o33:Only [] w2 w33:=(Only.drew [] w2).nil ho33
  have z33:=o33.size
  refine gO ?_
  refine⟨?_,?_⟩
  ·skip
   refine appS (Sl.empty1 hat33) (s36.keep0 o33) ints_one (by omega) (by omega) ?_
   intro v37 w37 f37 hs37 hf37 ho37 _
   refine⟨.inl rfl,?_⟩
   have o37:Only [] w2 w37:=(o33).trans ho37 fun y hy=>.inr (by simp only[lms]at hy;omega)
   have z37:=o37.size
   have ge37: ∀y,y∈f37→w2.heap.size≤y:=fun y hy=>by
    rcases hf37 with e|e<;>rw[e]at hy<;>simp only[lms]at hy<;>omega
   refine gO ?_
   refine bslS fun q39 w39 hq39 hs39 hat39 ho39=>⟨.inl rfl,?_⟩
   have o39:Only [] w2 w39:=(o37).nil ho39
   have z39:=o39.size
   refine gO ?_
   have hs37k:=hs37.keep0 ho39
   have hat39k:=hat39
   refine appS hs37k (SrcIs.at (us:=[.int .i64 x]) hat39k rfl) (by simp[oneC]) (by omega) (by omega) ?_
   intro v40 w40 f40 hs40 hf40 ho40 _
   refine⟨.inl rfl,?_⟩
   have hz40:=ho40.size
   have o40:Only [] w2 w40:=o39.trans ho40 fun y hy=>.inr (ge37 y hy)
   have ge40: ∀y,y∈f40→w2.heap.size≤y:=fun y hy=>by
    have:=o39.size
    rcases hf40 with e|e<;>rw[e]at hy
    ·exact ge37 y hy
    ·simp only[lms]at hy;omega
   refine gO ?_
   refine appS hs40 (s43.keep0 o40) ints_one (by omega) (by omega) ?_
   intro v44 w44 f44 hs44 hf44 ho44 _
   refine⟨.inl rfl,?_⟩
   have o44:Only [] w2 w44:=o40.trans ho44 fun y hy=>.inr (ge40 y hy)
   refine gO ?_
   refine⟨o44,f44,hout hc ((by omega:0+k+1+(n-k)=k+1+(n-k)).trans (hlen hc)) hs44,fun y hy=>.inr ?_⟩
   have:=o40.size
   rcases hf44 with e|e<;>rw[e]at hy
   ·exact ge40 y hy
   ·simp only[lms]at hy;omega
  ·skip
   refine bslS fun q39 w39 hq39 hs39 hat39 ho39=>⟨.inl rfl,?_⟩
   have o39:Only [] w2 w39:=(o33).nil ho39
   have z39:=o39.size
   refine gO ?_
   refine appS (Sl.empty1 (hat33.keep0 ho39)) (s36.keep0 o39) ints_one (by omega) (by omega) ?_
   intro v37 w37 f37 hs37 hf37 ho37 _
   refine⟨.inl rfl,?_⟩
   have o37:Only [] w2 w37:=(o39).trans ho37 fun y hy=>.inr (by simp only[lms]at hy;omega)
   have z37:=o37.size
   have ge37: ∀y,y∈f37→w2.heap.size≤y:=fun y hy=>by
    rcases hf37 with e|e<;>rw[e]at hy<;>simp only[lms]at hy<;>omega
   refine gO ?_
   have hs37k:=hs37
   have hat39k:=hat39.keep ho37 (by simp only[lms];omega)
   refine appS hs37k (SrcIs.at (us:=[.int .i64 x]) hat39k rfl) (by simp[oneC]) (by omega) (by omega) ?_
   intro v40 w40 f40 hs40 hf40 ho40 _
   refine⟨.inl rfl,?_⟩
   have hz40:=ho40.size
   have o40:Only [] w2 w40:=o37.trans ho40 fun y hy=>.inr (ge37 y hy)
   have ge40: ∀y,y∈f40→w2.heap.size≤y:=fun y hy=>by
    have:=o37.size
    rcases hf40 with e|e<;>rw[e]at hy
    ·exact ge37 y hy
    ·simp only[lms]at hy;omega
   refine gO ?_
   refine appS hs40 (s43.keep0 o40) ints_one (by omega) (by omega) ?_
   intro v44 w44 f44 hs44 hf44 ho44 _
   refine⟨.inl rfl,?_⟩
   have o44:Only [] w2 w44:=o40.trans ho44 fun y hy=>.inr (ge40 y hy)
   refine gO ?_
   refine⟨o44,f44,hout hc ((by omega:0+k+1+(n-k)=k+1+(n-k)).trans (hlen hc)) hs44,fun y hy=>.inr ?_⟩
   have:=o40.size
   rcases hf44 with e|e<;>rw[e]at hy
   ·exact ge40 y hy
   ·simp only[lms]at hy;omega
 ·skip
  refine bslS fun q39 w39 hq39 hs39 hat39 ho39=>⟨.inl rfl,?_⟩
  have o39:Only [] w2 w39:=(Only.drew [] w2).nil ho39
  have z39:=o39.size
  refine gO ?_
  refine bslS fun q33 w33 hq33 hs33 hat33 ho33=>⟨.inl rfl,?_⟩
  have o33:Only [] w2 w33:=(o39).nil ho33
  have z33:=o33.size
  refine gO ?_
  refine appS (Sl.empty1 hat33) (s36.keep0 o33) ints_one (by omega) (by omega) ?_
  intro v37 w37 f37 hs37 hf37 ho37 _
  refine⟨.inl rfl,?_⟩
  have o37:Only [] w2 w37:=(o33).trans ho37 fun y hy=>.inr (by simp only[lms]at hy;omega)
  have z37:=o37.size
  have ge37: ∀y,y∈f37→w2.heap.size≤y:=fun y hy=>by
   rcases hf37 with e|e<;>rw[e]at hy<;>simp only[lms]at hy<;>omega
  refine gO ?_
  have hs37k:=hs37
  have hat39k:=(hat39.keep0 ho33).keep ho37 (by simp only[lms];omega)
  refine appS hs37k (SrcIs.at (us:=[.int .i64 x]) hat39k rfl) (by simp[oneC]) (by omega) (by omega) ?_
  intro v40 w40 f40 hs40 hf40 ho40 _
  refine⟨.inl rfl,?_⟩
  have hz40:=ho40.size
  have o40:Only [] w2 w40:=o37.trans ho40 fun y hy=>.inr (ge37 y hy)
  have ge40: ∀y,y∈f40→w2.heap.size≤y:=fun y hy=>by
   have:=o37.size
   rcases hf40 with e|e<;>rw[e]at hy
   ·exact ge37 y hy
   ·simp only[lms]at hy;omega
  refine gO ?_
  refine appS hs40 (s43.keep0 o40) ints_one (by omega) (by omega) ?_
  intro v44 w44 f44 hs44 hf44 ho44 _
  refine⟨.inl rfl,?_⟩
  have o44:Only [] w2 w44:=o40.trans ho44 fun y hy=>.inr (ge40 y hy)
  refine gO ?_
  refine⟨o44,f44,hout hc ((by omega:0+k+1+(n-k)=k+1+(n-k)).trans (hlen hc)) hs44,fun y hy=>.inr ?_⟩
  have:=o40.size
  rcases hf44 with e|e<;>rw[e]at hy
  ·exact ge40 y hy
  ·simp only[lms]at hy;omega
end
section
variable {l:List Int}
def Rise (l:List Int):Prop:=l.Pairwise (· < ·)
def insI:List Int→Int→List Int
 | [],x=>[x]
 |y::l,x=>if y<x then y::insI l x else if y=x then y::l else x::y::l
theorem putI_ins: ∀(l:List Int) (x:Int),putI l x=insI l x
 | [],x=>by simp[putI,insI,posI]
 |y::l,x=>by
  unfold insI
  by_cases c:y<x
  ·rw[if_pos c,←putI_ins l x]
   have e:posI (y::l) x=posI l x+1:=if_pos c
   unfold putI
   rw[e]
   by_cases c2:posI l x<l.length∧l.getD (posI l x) 0=x
   ·rw[if_pos c2,if_pos (by simp only[List.length_cons,List.getD_cons_succ];exact⟨by omega,c2.2⟩)]
   ·rw[if_neg c2,if_neg (by simp only[List.length_cons,List.getD_cons_succ];exact fun h=>c2 ⟨by omega,h.2⟩)]
    simp
  ·have e:posI (y::l) x=0:=if_neg c
   rw[if_neg c]
   unfold putI
   rw[e]
   by_cases c2:y=x
   ·rw[if_pos c2,if_pos (by simp[c2])]
   ·rw[if_neg c2,if_neg (by simp[c2])]
    simp
theorem mem_insI {x y:Int}:y∈insI l x↔y=x∨y∈l:=by rw[←putI_ins];exact mem_putI
theorem insI_rise: ∀ {l:List Int} (x:Int),Rise l→Rise (insI l x)
 | [],x,_=>by simp[insI,Rise]
 |y::l,x,h=>by
  obtain⟨h1,h2⟩:=List.pairwise_cons.1 h
  unfold insI
  by_cases c:y<x
  ·rw[if_pos c]
   refine List.pairwise_cons.2 ⟨fun z hz=>?_,insI_rise x h2⟩
   rcases mem_insI.1 hz with rfl|hz
   ·exact c
   ·exact h1 z hz
  ·rw[if_neg c]
   by_cases c2:y=x
   ·rw[if_pos c2];exact h
   ·rw[if_neg c2]
    refine List.pairwise_cons.2 ⟨fun z hz=>?_,h⟩
    rcases List.mem_cons.1 hz with rfl|hz
    ·omega
    ·have:=h1 z hz;omega
theorem putI_rise (x:Int) (h:Rise l):Rise (putI l x):=by rw[putI_ins];exact insI_rise x h
theorem rise_le: ∀ {l m:List Int},Rise l→(∀x,x∈l→x∈m)→l.length≤m.length
 | [],_,_,_=>Nat.zero_le _
 |y::l,m,h,hm=>by
  obtain⟨h1,h2⟩:=List.pairwise_cons.1 h
  have hy:y∈m:=hm y (by simp)
  have:=rise_le (m:=m.erase y) h2 fun x hx=>by
   have:x≠y:=fun e=>by have:=h1 x hx;omega
   exact(List.mem_erase_of_ne this).2 (hm x (by simp[hx]))
  rw[List.length_erase_of_mem hy]at this
  have:=List.length_pos_of_mem hy
  simp only[List.length_cons]
  omega
theorem Rise.le_objs {s:HL} {R:List Int} (h:Rise R) (hr: ∀x,x∈R→ ∃k:Nat,x=((2*k:Nat):Int)∧s.st.getD k 0=1):R.length≤s.objs.length:=by
 have:=rise_le (m:=s.objs.map fun k=>((2*k:Nat):Int)) h fun x hx=>by
  obtain⟨k,rfl,hk⟩:=hr x hx
  exact List.mem_map.2 ⟨k,mem_objs.2 hk,rfl⟩
 simpa using this
end
section
section
variable {s:HL} {i:Nat}
theorem at_objE (h:s.Ok) (hi:s.st.getD i 0=1):objE (some s) ((2*i:Nat):Int)=0:=by
 unfold objE;rw[(has_iff h).2 ⟨i,rfl,hi⟩];rfl
theorem at_ident (h:s.Ok) (hi:s.st.getD i 0=1):identO (some s) ((2*i:Nat):Int)=((s.obAt i).id,0):=by
 unfold identO
 simp only[at_objE h hi,if_true,tnc]
 rfl
theorem at_shape (h:s.Ok) (hi:s.st.getD i 0=1):shapeO (some s) ((2*i:Nat):Int)=((s.obAt i).sh,0):=by
 unfold shapeO
 simp only[at_objE h hi,if_true]
 rfl
theorem at_ref (h:s.Ok) (hi:s.st.getD i 0=1) {j:Nat} (hj:j<(s.obAt i).rf.length):refO (some s) ((2*i:Nat):Int) (j:Int)=((s.obAt i).rf.getD j 0,0):=by
 obtain⟨r,d,k,hv,hs,hz,e1,e2,e3⟩:=obAt_rf h hi
 have hsa:s.shapeAt ((2*i:Nat):Int)=((r:Int),(d:Int),(k:Int)):=hs
 rw[e2]at hj⊢
 simp only[List.length_map,List.length_range]at hj
 unfold refO fieldO
 simp only[at_objE h hi,ne_eq,not_true_eq_false,if_false,cond_false,hsa]
 rw[if_neg (show¬((j:Int)<0∨(r:Int)≤(j:Int)) by omega)]
 simp only[if_true]
 rw[show(((2*i:Nat):Int)+2+(j:Int)).toNat=2*i+2+j by omega]
 simp[hj]
theorem at_data (h:s.Ok) (hi:s.st.getD i 0=1) {j:Nat} (hj:j<(s.obAt i).dt.length):dataO (some s) ((2*i:Nat):Int) (j:Int)=((s.obAt i).dt.getD j 0,0):=by
 obtain⟨r,d,k,hv,hs,hz,e1,e2,e3⟩:=obAt_rf h hi
 have hsa:s.shapeAt ((2*i:Nat):Int)=((r:Int),(d:Int),(k:Int)):=hs
 rw[e3]at hj⊢
 simp only[List.length_map,List.length_range]at hj
 unfold dataO fieldO
 simp only[at_objE h hi,ne_eq,not_true_eq_false,if_false,cond_true,hsa]
 rw[if_neg (show¬((j:Int)<0∨(d:Int)≤(j:Int)) by omega)]
 simp only[if_true]
 rw[show(((2*i:Nat):Int)+2+(r:Int)+(j:Int)).toNat=2*i+2+r+j by omega]
 simp[hj]
theorem at_pinned (h:s.Ok) (hi:s.st.getD i 0=1):pinnedO (some s) ((2*i:Nat):Int)=(s.obAt i).pin:=by
 have hh:=(has_iff h).2 ⟨i,rfl,hi⟩
 have hlt:=(h.start hi).1
 unfold pinnedO
 simp only[hh,Bool.true_and]
 show((if hasB s.pn.length (((2*i:Nat):Int)/2)=true then((s.pn.getD (((2*i:Nat):Int)/2).toNat 0:Nat):Int)else-1)==1)=decide (s.pn.getD i 0=1)
 rw[show((2*i:Nat):Int)/2=(i:Int) by omega,if_pos (hasB_of (by have:=h.sl;have:=h.pl;omega)),tnc]
 by_cases c:s.pn.getD i 0=1
 ·rw[c];rfl
 ·rw[dfl c]
  exact bqf (by omega)
theorem obAt_len (h:s.Ok) (hi:s.st.getD i 0=1):(((s.obAt i).rf.length:Nat):Int)=(s.obAt i).sh.1∧(((s.obAt i).dt.length:Nat):Int)=(s.obAt i).sh.2.1∧validS (s.obAt i).sh=true:=by
 obtain⟨r,d,k,hv,hs,hz,e1,e2,e3⟩:=obAt_rf h hi
 rw[e1,e2,e3]
 exact⟨by simp,by simp,hv⟩
theorem abs_Ok (h:s.Ok) (o:Ob) (ho:o∈s.abs.O):o.Ok s.B.length:=by
 simp only[HL.abs,List.mem_map]at ho
 obtain⟨i,hi,rfl⟩:=ho
 have hi:=mem_objs.1 hi
 obtain⟨h1,h2,h3⟩:=obAt_len h hi
 obtain⟨r,d,k,hv,hn,hw⟩:=h.fit i hi
 have hsh:(s.obAt i).sh=((r:Int),(d:Int),(k:Int)):=by
  show shapeN (s.W.getD (2*i+1) 0)=_
  rw[hn,shape_num hv]
 refine⟨h3,h1,h2,?_,?_⟩
 ·show(0:Int)≤((2*i:Nat):Int);omega
 ·rw[hsh]
  show((2*i:Nat):Int)+_≤_
  have:=h.wl
  omega
end
end
section
set_option maxRecDepth 8000
variable {s s':HL} {to x:Int} {j k:Nat}
theorem refsO_at (h:s.Ok) (hk:s.st.getD k 0=1):refsO (some s) ((2*k:Nat):Int)=(s.obAt k).rf:=by
 obtain⟨h1,_,_⟩:=obAt_len h hk
 unfold refsO
 rw[at_shape h hk]
 have e:(s.obAt k).sh.1.toNat=(s.obAt k).rf.length:=by omega
 simp only[e]
 refine List.ext_getElem (by simp) fun i h1 h2=>?_
 simp only[List.getElem_map,List.getElem_range]
 rw[at_ref h hk h2]
 simp[h2]
def okTo (s:HL) (to:Int):Prop:=to=0∨ ∃k:Nat,to=((2*k:Nat):Int)∧s.st.getD k 0=1
theorem live_le (hok:s.Ok) (hk:s.st.getD k 0=1):2*k≤4096:=by
 have:=(hok.start hk).1;have:=hok.sl;have:=hok.b64;omega
theorem field_at (h:s.Ok) (hk:s.st.getD k 0=1) (hj:j<(s.obAt k).rf.length):fieldO (some s) ((2*k:Nat):Int) (j:Int) false=(((2*k+2+j:Nat):Int),0):=by
 obtain⟨r,d,kk,hv,hs,hz,e1,e2,e3⟩:=obAt_rf h hk
 have hsa:s.shapeAt ((2*k:Nat):Int)=((r:Int),(d:Int),(kk:Int)):=hs
 rw[e2]at hj
 simp only[List.length_map,List.length_range]at hj
 unfold fieldO
 simp only[at_objE h hk,ne_eq,not_true_eq_false,if_false,cond_false,hsa]
 rw[if_neg (show¬((j:Int)<0∨(r:Int)≤(j:Int)) by omega)]
 refine Prod.ext ?_ rfl
 simp only;omega
theorem setRef_ok (h:s.Ok) (hk:s.st.getD k 0=1) (hj:j<(s.obAt k).rf.length) (ht:okTo s to):setRefE (some s) ((2*k:Nat):Int) (j:Int) to=0:=by
 unfold setRefE
 simp only[field_at h hk hj,ne_eq,not_true_eq_false,if_false]
 rw[if_neg]
 rintro⟨h1,h2⟩
 rcases ht with rfl|⟨k',rfl,hk'⟩
 ·exact h1 rfl
 ·rw[(has_iff h).2 ⟨k',rfl,hk'⟩]at h2;cases h2
theorem rf_le (h:s.Ok) (hk:s.st.getD k 0=1):(s.obAt k).rf.length≤15:=by
 obtain⟨h1,_,hv⟩:=obAt_len h hk
 simp only[validS,Bool.and_eq_true,decide_eq_true_eq]at hv
 omega
theorem shape_live (h:s.Ok) (e:(shapeO (some s) x).2=0): ∃k:Nat,x=((2*k:Nat):Int)∧s.st.getD k 0=1:=by
 unfold shapeO at e
 cases hh:hasO (some s) x with
 |true=>exact(has_iff h).1 hh
 |false=>simp[objE,hh]at e
def HL.RF (s:HL) (i j:Nat):Int:=(s.obAt i).rf.getD j 0
theorem setRef_Ok (h:s.Ok) {i:Int} (e:setRefM (some s) x i to=some s'):s'.Ok:=by
 unfold setRefM at e
 by_cases c:setRefE (some s) x i to=0
 rotate_left
 ·simp only[if_neg c,Option.some.injEq]at e;subst e;exact h
 simp only[if_pos c,Option.some.injEq]at e
 subst e
 have hf:(fieldO (some s) x i false).2=0:=by
  unfold setRefE at c
  by_cases c2:(fieldO (some s) x i false).2=0
  ·exact c2
  ·simp only[ne_eq,c2,not_false_eq_true,if_true]at c
 obtain⟨o,k,rfl,ho,hk,k1,k2,k3⟩:=field_spec h hf
 rw[hk,tnc]
 exact h.setW (h.inside ho k1 k2)
theorem obAt_setRef (h:s.Ok) (hok:s'.Ok) (hk:s.st.getD k 0=1) (hj:j<(s.obAt k).rf.length) (ht:okTo s to) (e:setRefM (some s) ((2*k:Nat):Int) (j:Int) to=some s') (i:Nat) (hi:s.st.getD i 0=1):
  s'.obAt i=if i=k then {s.obAt k with rf:=(s.obAt k).rf.set j to}else s.obAt i:=by
 obtain⟨t,e1,e2,e3,e4,e5,e6⟩:=abs_setRef h ((2*k:Nat):Int) (j:Int) to
 have hts:s'=t:=Option.some.inj (e.symm.trans e1)
 subst hts
 have ho:s'.objs=s.objs:=by unfold HL.objs;rw[e4]
 obtain⟨a,ha,hae⟩:=objs_index hk
 obtain⟨c,hc,hce⟩:=objs_index hi
 have hE:s.abs.setRefR ((2*k:Nat):Int) (j:Int) to=0:=by rw[abs_setRefE h];exact setRef_ok h hk hj ht
 have g1:s'.abs.O.getD c default=s'.obAt i:=abs_get (by rw[ho];exact hc) (by rw[ho];exact hce)
 have g2:s.abs.O.getD c default=s.obAt i:=abs_get hc hce
 have g3:s.abs.O.getD a default=s.obAt k:=abs_get ha hae
 rw[←g1,e2]
 unfold RL.setRefM
 rw[if_pos hE]
 unfold RL.upd
 rw[abs_ix ha hae]
 show(s.abs.O.set a {s.abs.O.getD a default with rf:=(s.abs.O.getD a default).rf.set (j:Int).toNat to}).getD c default=_
 have hl:s.abs.O.length=s.objs.length:=by simp[HL.abs]
 rw[g3,tnc]
 by_cases hik:i=k
 ·subst hik
  rw[if_pos rfl]
  have hac:a=c:=by
   have:=(abs_ix ha hae).symm.trans (abs_ix hc hce)
   exact Option.some.inj this
  subst hac
  rw[List.getD_eq_getElem?_getD,List.getElem?_set_self (by omega)];rfl
 ·rw[if_neg hik]
  have hac:a≠c:=fun e=>hik (by rw[←hce,←hae,e])
  rw[List.getD_eq_getElem?_getD,List.getElem?_set_ne hac,←List.getD_eq_getElem?_getD,g2]
end
section
variable {s:HL} {F K K':List Int}
def softI (kd:Int) (i:Nat):Bool:=(i==0&&(kd==1||kd==2))||(i==1&&kd==2)
def strongR (kd:Int):Nat→List Int→List Int
 |_,[]=>[]
 |i,x::l=>(if x≠0∧softI kd i=false then [x]else [])++strongR kd (i+1) l
theorem mem_strongR {kd:Int}: ∀ {l:List Int} {i:Nat} {y:Int},y∈strongR kd i l↔ ∃j,j<l.length∧y=l.getD j 0∧y≠0∧softI kd (i+j)=false
 | [],i,y=>by simp[strongR]
 |x::l,i,y=>by
  unfold strongR
  rw[List.mem_append,mem_strongR]
  constructor
  ·rintro(h|⟨j,h1,h2,h3,h4⟩)
   ·split at h
    ·rename_i c
     simp only[lms]at h
     subst h
     exact⟨0,by simp,by simp,c.1,by simpa using c.2⟩
    ·cases h
   ·exact⟨j+1,by simpa using h1,by simpa using h2,h3,by rw[←Nat.add_assoc,Nat.add_right_comm];exact h4⟩
  ·rintro⟨j,h1,h2,h3,h4⟩
   cases j with
   |zero=>
    left
    simp only[List.getD_cons_zero]at h2
    subst h2
    rw[if_pos ⟨h3,by simpa using h4⟩];simp
   |succ j=>exact .inr ⟨j,by simpa using h1,by simpa using h2,h3,by rw[Nat.add_right_comm,Nat.add_assoc];exact h4⟩
theorem strongR_len {kd:Int}: ∀ {l:List Int} {i:Nat},(strongR kd i l).length≤l.length
 | [],_=>Nat.le_refl _
 |x::l,i=>by
  unfold strongR
  have:=strongR_len (kd:=kd) (l:=l) (i:=i+1)
  rw[lla,List.length_cons]
  split<;>simp<;>omega
theorem strongR_snoc {kd:Int}: ∀(l:List Int) (i:Nat) (x:Int),strongR kd i (l++[x])=strongR kd i l++(if x≠0∧softI kd (i+l.length)=false then [x]else [])
 | [],i,x=>by simp[strongR]
 |y::l,i,x=>by
  simp only[List.cons_append,strongR]
  rw[strongR_snoc l (i+1) x,List.append_assoc,List.length_cons,Nat.add_right_comm,Nat.add_assoc]
def strongO (m:HO) (x:Int):List Int:=strongR (shapeO m x).1.2.2 0 (refsO m x)
structure Vis (s:HL) (F K K':List Int):Prop where
 nd:K'.Nodup
 sub: ∀x,x∈K→x∈K'
 liv: ∀x,x∈K'→x∈K∨Liv s x
 clo: ∀x,x∈K'→x∉K→ ∀y,y∈strongO (some s) x→Liv s y→y∈K'
 ind: ∀P:Int→Prop,(∀x,x∈F→Liv s x→P x)→(∀x y,Liv s x→P x→y∈strongO (some s) x→Liv s y→P y)→ ∀x,x∈K'→x∈K∨P x
theorem Vis.refl (h:K.Nodup):Vis s F K K:=⟨h,fun _ h=>h,fun _ h=>.inl h,fun x h1 h2=>absurd h1 h2,fun _ _ _ _ h=>.inl h⟩
theorem Vis.mono {G:List Int} (h:Vis s F K K') (hf: ∀x,x∈F→x∈G):Vis s G K K':=⟨h.nd,h.sub,h.liv,h.clo,fun P h1 h2=>h.ind P (fun x hx=>h1 x (hf x hx)) h2⟩
theorem Vis.trans {K1 K2:List Int} (h:Vis s F K K1) (h':Vis s F K1 K2):Vis s F K K2 where
 nd:=h'.nd
 sub:=fun x hx=>h'.sub x (h.sub x hx)
 liv:=fun x hx=>(h'.liv x hx).elim (h.liv x) .inr
 clo:=fun x hx hn y hy hv=>by
  by_cases c:x∈K1
  ·exact h'.sub y (h.clo x c hn y hy hv)
  ·exact h'.clo x hx c y hy hv
 ind:=fun P h1 h2 x hx=>(h'.ind P h1 h2 x hx).elim (h.ind P h1 h2 x) .inr
theorem Vis.enter {a:Int} (hv:Liv s a) (hn:a∉K) (h:Vis s (strongO (some s) a) (K++[a]) K') (hc: ∀y,y∈strongO (some s) a→Liv s y→y∈K'):Vis s [a] K K' where
 nd:=h.nd
 sub:=fun x hx=>h.sub x (by simp[hx])
 liv:=fun x hx=>(h.liv x hx).elim (fun hx=>(List.mem_append.1 hx).elim .inl fun e=>.inr (by simp only[lms]at e;rw[e];exact hv)) .inr
 clo:=fun x hx hxn y hy hyv=>by
  by_cases c:x=a
  ·rw[c]at hy;exact hc y hy hyv
  ·exact h.clo x hx (by simp[hxn,c]) y hy hyv
 ind:=fun P h1 h2 x hx=>by
  have ha:P a:=h1 a (by simp) hv
  rcases h.ind P (fun y hy hyv=>h2 a y hv ha hy hyv) h2 x hx with h|h
  ·rcases List.mem_append.1 h with h|h
   ·exact .inl h
   ·simp only[lms]at h;rw[h];exact .inr ha
  ·exact .inr h
theorem nodup_sub: ∀ {l m:List Int},l.Nodup→(∀x,x∈l→x∈m)→l.length≤m.length:=by
 intro l
 induction l with
 |nil=>intro m _ _;exact Nat.zero_le _
 |cons y l ih=>
  intro m h hm
  obtain⟨h1,h2⟩:=List.nodup_cons.1 h
  have hy:y∈m:=hm y (by simp)
  have:=ih (m:=m.erase y) h2 fun x hx=>(List.mem_erase_of_ne (fun e=>h1 (by rw[←e];exact hx))).2 (hm x (by simp[hx]))
  rw[List.length_erase_of_mem hy]at this
  have:=List.length_pos_of_mem hy
  simp only[List.length_cons];omega
theorem rise_len (hs: ∀x,x∈K→x∈K') (_:K'.Nodup) (h:K.Nodup):K.length≤K'.length:=nodup_sub h hs
theorem nodup_le (hn:K.Nodup) (hl: ∀x,x∈K→Liv s x):K.length≤s.objs.length:=by
 have:=nodup_sub (m:=s.objs.map fun k=>((2*k:Nat):Int)) hn fun x hx=>by
  obtain⟨k,rfl,hk⟩:=hl x hx
  exact List.mem_map.2 ⟨k,mem_objs.2 hk,rfl⟩
 simpa using this
end
section
open Go.MapKept Go.ChangeMaps
theorem filter_erase {α:Type} {p:α→Bool}: ∀ {l:List α} {j:Nat} {e:α},l[j]? =some e→p e=false→(l.eraseIdx j).filter p=l.filter p
 | [],j,e,h,_=>by simp at h
 |x::l,0,e,h,hp=>by
  simp only[List.getElem?_cons_zero,Option.some.injEq]at h
  subst h
  simp[hp]
 |x::l,j+1,e,h,hp=>by
  have ih:=filter_erase (l:=l) (j:=j) (by simpa using h) hp
  simp only[List.eraseIdx_cons_succ,List.filter_cons,ih]
section
variable {P:Program} {t kt et:TypeId} {w:World} {b:Nat} {m:IM} {k:Int}
theorem run_delI {ty ku:TypeId} {r:Nat} {left:IM} (ht:P.underlying t=some (.map kt et)) (hd:P.underlying kt=some (.int .i64)) (h:ItAt w r b m left) (hk: ∀q,q∈left→q.1≠k):
  ∃w',(Builtin.delete_ #[t,ku] ty #[.map (some b),.int .i64 k]).run P w=.ok (.tuple #[]) w'∧w'.heap.size=w.heap.size∧ItAt w' r b (delM m k) left∧Only [b] w w':=by
 have hn:=h.map.nodup
 obtain⟨es,clock,since,c0,seen,hb,h2,h3,h4,hsc,hm,hs,h7⟩:=h
 have hlt:b<w.heap.size:=(Array.getElem?_eq_some_iff.1 hb).1
 have hbr:b≠r:=by rintro rfl;rw[hb]at h2;cases h2
 have hset: ∀o:Obj,(setBlock w b o).heap[b]? =some o:=fun o=>by simp[setBlock,hlt]
 have hsr: ∀o:Obj,(setBlock w b o).heap[r]? =some (.mapIter (some b) since seen c0):=fun o=>by simp[setBlock,hbr,h2]
 rcases findM hm hn k undef with⟨h1,_,_,_,h6⟩|⟨j,e,h1,he,hek,_,_,h5⟩
 ·refine⟨setBlock w b (.map es clock),?_,size_setBlock,⟨es,clock,since,c0,seen,hset _,hsr _,h3,h4,hsc,by rw[h6];exact hm,hs,h7⟩,only_setBlock⟩
  simp[Builtin.delete_,run_underlying ht,MapKept.run_getObj_map hb,run_checkKey hd (k:=.int .i64 k) rfl,run_findKey hd h1,MapKept.run_setObj_map _ hb,Result.andThen,setBlock]
 ·have hj:j<es.size:=by
   have:=(List.getElem?_eq_some_iff.1 he).1
   simpa using this
  have hel:(es.eraseIdxIfInBounds j).toList=es.toList.eraseIdx j:=by simp[Array.eraseIdxIfInBounds,hj]
  have hp:(!seen.contains e.born)=false:=by
   cases hc:seen.contains e.born with
   |true=>rfl
   |false=>
    exfalso
    have hmem:e∈(leftOf es seen).toList:=by
     unfold leftOf
     rw[Array.toList_filter,List.mem_filter]
     exact⟨List.mem_of_getElem? he,by rw[hc];rfl⟩
    obtain⟨i,hi,hie⟩:=List.mem_iff_getElem.1 hmem
    obtain⟨q,hq1,hq2,_⟩:=h7.at (by rw[List.getElem?_eq_getElem hi,hie])
    refine hk q (List.mem_of_getElem? hq1) ?_
    rw[hek]at hq2
    injection hq2 with _ h
    exact h.symm
  have hle:(leftOf (es.eraseIdxIfInBounds j) seen).toList=(leftOf es seen).toList:=by
   unfold leftOf
   rw[Array.toList_filter,Array.toList_filter,hel]
   exact filter_erase he hp
  refine⟨setBlock w b (.map (es.eraseIdxIfInBounds j) clock),?_,size_setBlock,⟨es.eraseIdxIfInBounds j,clock,since,c0,seen,hset _,hsr _,fun x hx=>h3 x ?_,h4,hsc,?_,stamped_erase hs j,by rw[hle];exact h7⟩,only_setBlock⟩
  ·simp[Builtin.delete_,run_underlying ht,MapKept.run_getObj_map hb,run_checkKey hd (k:=.int .i64 k) rfl,run_findKey hd h1,MapKept.run_setObj_map _ hb,Result.andThen,setBlock]
  ·rw[hel]at hx;exact List.mem_of_mem_eraseIdx hx
  ·rw[h5]
   unfold MEs
   rw[hel,map_eraseIdx,map_eraseIdx,show es.toList.map (fun e=>(e.key,e.val))=_ from hm]
end
section
variable {P:Program} {t kt et:TypeId} {w:World} {b:Nat} {m:IM} {k:Int} {d:Option Nat} {rest:List XO} {ρ:Env} {C:Env→World→Prop}
theorem mdelI {ku:TypeId} {r:Nat} {left:IM} (ht:P.underlying t=some (.map kt et)) (hd:P.underlying kt=some (.int .i64)) (h:ItAt w r b m left) (hk: ∀q,q∈left→q.1≠k) (h2: ∀w',w'.heap.size=w.heap.size→ItAt w' r b (delM m k) left→Only [b] w w'→VO P rest (putO ρ d (.tuple #[])) w' C):
  RunT P (Builtin.delete_ #[t,ku] 0 #[.map (some b),.int .i64 k]) d rest ρ w C:=by
 obtain⟨w',h3,h4,h5,h6⟩:=run_delI (k:=k) ht hd h hk
 exact runT h3 (h2 w' h4 h5 h6)
end
end
section
variable {x:Int} {K:List Int} {b:Nat} {w w':World}
def setM (K:List Int):IM:=K.map fun x=>(x,Value.bool true)
def MB (w:World) (b:Nat) (K:List Int):Prop:=MpAt w b (setM K)
theorem setM_keys (K:List Int):(setM K).map (·.1)=K:=by
 induction K with
 |nil=>rfl
 |cons y K ih=>exact congrArg (y:: ·) ih
theorem setM_len (K:List Int):(setM K).length=K.length:=by simp[setM]
theorem getM_set (K:List Int) (x:Int):getM (setM K) x=if x∈K then some (.bool true)else none:=by
 induction K with
 |nil=>rfl
 |cons y K ih=>
  have e:setM (y::K)=(y,Value.bool true)::setM K:=rfl
  rw[e]
  unfold getM
  by_cases c:y=x
  ·rw[if_pos c,if_pos (by simp[c])]
  ·rw[if_neg c,ih]
   by_cases c2:x∈K
   ·rw[if_pos c2,if_pos (by simp[c2])]
   ·rw[if_neg c2,if_neg (by simp[c2];exact fun e=>c e.symm)]
theorem getM_setD (K:List Int) (x:Int):(getM (setM K) x).getD (.bool false)=.bool (decide (x∈K)):=by
 rw[getM_set]
 by_cases c:x∈K
 ·rw[if_pos c,dtr c];rfl
 ·rw[if_neg c,dfl c];rfl
theorem putM_set (h:x∉K):putM (setM K) x (.bool true)=setM (K++[x]):=by
 rw[(M_no (m:=setM K) (k:=x) (.bool true) fun p hp e=>h ?_).2.1]
 ·simp[setM]
 ·simp only[setM,List.mem_map]at hp
  obtain⟨y,hy,rfl⟩:=hp
  simp only at e
  rw[←e];exact hy
theorem delM_set:delM (setM K) x=setM (K.erase x):=by
 induction K with
 |nil=>rfl
 |cons y K ih=>
  have e:setM (y::K)=(y,Value.bool true)::setM K:=rfl
  rw[e]
  unfold delM
  by_cases c:y=x
  ·rw[if_pos c,c,List.erase_cons_head]
  ·rw[if_neg c,ih,List.erase_cons_tail (by simpa using c)]
   rfl
theorem MB.keep {S:List Nat} (h:MB w b K) (k:Only S w w') (hd:b∉S):MB w' b K:=MpAt.keep h k hd
theorem MB.keep0 (h:MB w b K) (k:Only [] w w'):MB w' b K:=MpAt.keep0 h k
theorem MB.nodup (h:MB w b K):K.Nodup:=by
 have:=MpAt.nodup h;rwa[setM_keys]at this
end
section
set_option maxRecDepth 8000
variable {s:HL}
theorem cSoft (w:World) (kd:Int) (i:Nat):Cs Tryz.prog 216 [.int .i64 kd,.int .i64 (i:Int)] w fun v w'=>v=.bool (softI kd i)∧w'=w:=by
 refine enter_place_Soft rfl ?_
 unfold x_place_Soft
 unfold softI
 by_cases i0:i=0
 ·have e0:((i:Int)==0)=true:=bqt (by omega)
  have e1:((i:Int)==1)=false:=bqf (by omega)
  have n0:(i==0)=true:=by simp[i0]
  have n1:(i==1)=false:=by simp[i0]
  by_cases k1:kd=1
  ·refine gO5 e0 e1 n0 n1 (bqt k1) ?_
   simp
  ·by_cases k2:kd=2
   ·refine gO6 e0 e1 n0 n1 (bqf k1) (bqt k2) ?_
    simp
   ·refine gO6 e0 e1 n0 n1 (bqf k1) (bqf k2) ?_
    simp
 ·have e0:((i:Int)==0)=false:=bqf (by omega)
  have n0:(i==0)=false:=by simp[i0]
  by_cases i1:i=1
  ·have e1:((i:Int)==1)=true:=bqt (by omega)
   have n1:(i==1)=true:=by simp[i1]
   by_cases k2:kd=2
   ·refine gO5 e0 e1 n0 n1 (bqt k2) ?_
    simp
   ·refine gO5 e0 e1 n0 n1 (bqf k2) ?_
    simp
  ·have e1:((i:Int)==1)=false:=bqf (by omega)
   have n1:(i==1)=false:=by simp[i1]
   refine gO4 e0 e1 n0 n1 ?_
   simp
theorem refs_le (h:s.Ok) (x:Int):(refsO (some s) x).length≤15:=by
 unfold refsO
 rw[List.length_map,List.length_range]
 by_cases c:(shapeO (some s) x).2=0
 ·obtain⟨k,rfl,hk⟩:=shape_live h c
  rw[at_shape h hk]
  have:=rf_le h hk
  have:=(obAt_len h hk).1
  simp only
  omega
 ·unfold shapeO at c⊢
  cases hh:hasO (some s) x with
  |true=>simp[objE,hh]at c
  |false=>simp[objE,hh]
theorem cStrong {w:World} {a:Option Addr} {fp:List Nat} (h:HR w a fp (some s)) (hs:s.Ok) (x:Int) (hx:x≤4611686018427387904):Cs Tryz.prog 214 [.pointer a,.int .i64 x] w fun v w'=>Only [] w w'∧ ∃fq,Sl w' 1 v (strongO (some s) x).length (ints (strongO (some s) x)) fq∧ ∀y,y∈fq→w.heap.size≤y:=by
 have hl15:=refs_le hs x
 refine enter_place_Strong rfl ?_
 unfold x_place_Strong
 refine gO ?_
 refine callT (hShape h x hx) ?_
 rintro _ w1 ⟨rfl,ho1⟩
 refine gO ?_
 refine boxT fun q w2 hq hs2 hat2 ho2=>?_
 refine gO ?_
 refine stNT (cs:=shV (shapeO (some s) x).1) hat2 rfl (by simp[shV]) (shV_one _) fun w3 hs3 hat3 ho3=>?_
 rw[setL_sh]at hat3
 have o3:Only [] w w3:=ho1.nil (ho2.trans ho3 fun y hy=>by simp only[lms]at hy;subst hy;exact .inr (by omega))
 refine gO ?_
 refine callT (hRefs (h.keep0 o3) x hx) ?_
 rintro v w4 ⟨ho4,fr,hr4,_⟩
 obtain⟨l,hl⟩: ∃l,l=refsO (some s) x:=⟨_,rfl⟩
 obtain⟨kd,hkd⟩: ∃kd,kd=(shapeO (some s) x).1.2.2:=⟨_,rfl⟩
 unfold strongO
 rw[←hl]at hr4 hl15
 rw[←hl,←hkd]
 obtain⟨ar,cr,rfl⟩:=hr4.val
 have o4:=o3.nil ho4
 have hat4:=hat3.keep0 ho4
 refine gO ?_
 refine run_loop (7::8::9::20::21::22::23::24::25::26::27::28::29::30::31::32::33::34::35::36::37::38::[]) (fun g w'=> ∃(i:Nat) (fq:List Nat),g 20=.int .i64 (i:Int)∧i≤l.length∧Only [] w4 w'∧Sl w' 1 (g 7) (strongR kd 0 (l.take i)).length (ints (strongR kd 0 (l.take i))) fq∧ ∀y,y∈fq→w4.heap.size≤y) (fun g _=>upTo l.length 20 g)
  ⟨0,[],by simp only[go_sem];rfl,by omega,Only.refl _ _,by simp only[go_sem];exact Sl.nil1 _,fun y hy=>absurd hy (by simp)⟩ fun g w5 hI hnext=>?_
 obtain⟨i,fq,h20,hi,ho5,hq5,ge5⟩:=hI
 by_cases c1:i<l.length
 rotate_left
 ·refine gO2 h20 (dfl (show¬(i:Int)<(l.length:Int) by omega)) ?_
  rw[List.take_of_length_le (by omega)]at hq5
  exact⟨o4.nil ho5,fq,hq5,fun y hy=>by have:=ge5 y hy;have:=o4.size;omega⟩
 obtain⟨gr,_,yr,er,hatr,_,_⟩:=(hr4.keep0 ho5).pos (by omega)
 cases er
 have ci:(0:Int)≤(i:Int)∧(i:Int)<(l.length:Int):=by omega
 have vr:w5.cell? ⟨gr,i,none⟩=some (.int .i64 (l.getD i 0)):=by rw[hatr.cell];exact ints_append_get yr (by omega)
 have hk5:w5.cell? ⟨q,2,none⟩=some (.int .i64 kd):=by rw[(hat4.keep0 ho5).cell,hkd];rfl
 have hsn:strongR kd 0 (l.take (i+1))=strongR kd 0 (l.take i)++(if l.getD i 0≠0∧softI kd i=false then [l.getD i 0]else []):=by
  rw[List.take_succ_eq_append_getElem c1,strongR_snoc]
  simp[c1,Nat.min_eq_left (Nat.le_of_lt c1)]
 have hsl:=strongR_len (kd:=kd) (l:=l.take i) (i:=0)
 rw[List.length_take]at hsl
 have zz:=i64_succ i (by omega)
 have skip: ¬(l.getD i 0≠0∧softI kd i=false)→strongR kd 0 (l.take (i+1))=strongR kd 0 (l.take i):=fun c=>by rw[hsn,if_neg c,List.append_nil]
 by_cases c2:l.getD i 0=0
 ·refine gJ6 h20 (dtr ci.2) (eq_true ci) vr (bnf c2) zz ?_
  refine hnext _ w5 ⟨i+1,fq,?_,by omega,ho5,?_,ge5⟩ ?_
  ·simp only[go_sem]
  ·simp only[go_sem];rw[skip fun h=>h.1 c2];exact hq5
  ·exact up_lt h20
 refine gJ6 h20 (dtr ci.2) (eq_true ci) vr (bnt c2) hk5 ?_
 refine callT0 (cSoft w5 kd i) ?_
 cases hsf:softI kd i with
 |true=>
  refine gO2 h20 zz ?_
  refine hnext _ w5 ⟨i+1,fq,?_,by omega,ho5,?_,ge5⟩ ?_
  ·simp only[go_sem]
  ·simp only[go_sem];rw[skip fun h=>by rw[hsf]at h;cases h.2];exact hq5
  ·exact up_lt h20
 |false=>
  refine gO1 h20 ?_
  rw[fillL_one rfl rfl]
  refine gO ?_
  refine bslT fun q6 w6 hq6 hs6 hat6 ho6=>?_
  refine gO ?_
  refine appT (hq5.keep0 ho6) (SrcIs.at (us:=[.int .i64 (l.getD i 0)]) hat6 rfl) (by simp[oneC]) (by omega) (by omega) ?_
  intro v7 w7 f7 hs7 hf7 ho7 _
  have z4:=o4.size
  have z5:=ho5.size
  have o57:Only [] w4 w7:=(ho5.nil ho6).trans ho7 fun y hy=>.inr (ge5 y hy)
  refine gO2 h20 zz ?_
  refine hnext _ w7 ⟨i+1,f7,?_,by omega,o57,?_,?_⟩ ?_
  ·simp only[go_sem]
  ·simp only[go_sem];rw[hsn,if_pos ⟨c2,hsf⟩,lla,ints_append];exact hs7
  ·intro y hy
   have:=ho6.size
   rcases hf7 with e|e<;>rw[e]at hy
   ·exact ge5 y hy
   ·simp only[lms]at hy;omega
  ·exact up_lt h20
end
section
set_option maxRecDepth 8000
variable {s:HL} {x:Int} {R:List Int} {fB fF fO:List Nat} {L:List OM} {b:Nat} {v vB vF:Value} {w:World}
theorem FMs.ob {s0:HL} {vO:Value} (h:FMs w b s.abs vB vO vF fB fO fF L) (he:s.objs=s0.objs):L.length=s0.objs.length∧ ∀i,i<s0.objs.length→(L.getD i default).o=s.obAt (s0.objs.getD i 0)∧L.getD i default∈L:=by
 have h1:s.objs.map s.obAt=L.map OM.o:=h.eq
 have hl:L.length=s0.objs.length:=by have:=congrArg List.length h1;simp only[List.length_map]at this;rw[←he];exact this.symm
 refine⟨hl,fun i hi=>⟨?_,by simp[hl,hi]⟩⟩
 have h2:(s.objs.map s.obAt)[i]? =(L.map OM.o)[i]? :=by rw[h1]
 rw[List.getElem?_map,List.getElem?_map,he,List.getElem?_eq_getElem hi,List.getElem?_eq_getElem (by omega)]at h2
 simp only[Option.map_some,Option.some.injEq]at h2
 simp only[List.getD_eq_getElem?_getD,List.getElem?_eq_getElem hi,List.getElem?_eq_getElem (show i<L.length by omega),Option.getD_some]
 exact h2.symm
theorem hCopy12 {m:Nat} {l:List Int} (h:SrcIs w 1 v m (ints l)) (hm:m≤100000):Cs Tryz.prog 105 [v] w fun r w'=>Only [] w w'∧ ∃fp',Sl w' 1 r m (ints l) fp'∧ ∀y,y∈fp'→w.heap.size≤y:=by
 refine enter_ref12_Copy rfl ?_
 unfold x_ref12_Copy
 refine gO ?_
 refine bslT fun q w1 hq hs1 hat1 ho1=>?_
 refine gO ?_
 refine appT (Sl.empty1 hat1) (h.keep0 ho1) ints_one (by omega) (by omega) ?_
 intro v2 w2 f2 hs2 hf2 ho2 _
 refine gO ?_
 refine⟨(ho1.trans ho2 fun y hy=>.inr (by simp only[lms]at hy;omega)),f2,by simpa using hs2,fun y hy=>?_⟩
 have:=ho1.size
 rcases hf2 with e|e<;>rw[e]at hy<;>simp only[lms]at hy<;>omega
theorem has_liv (h:s.Ok):hasO (some s) x=true↔Liv s x:=has_iff h
def vlen:Value→Nat
 |.slice _ n _=>n
 |_=>0
theorem FMs.see8 {i n0 cv:Nat} {av:Option Addr} (h:FMs w b s.abs vB (.slice av n0 cv) vF fB fO fF L) (hi:i<s.objs.length):
  ∃g r cp gr vd,av=some ⟨g,0,none⟩∧(0<(s.obAt (s.objs.getD i 0)).rf.length→r=some ⟨gr,0,none⟩)∧oneC vd=true∧ ∀w',Only [] w w'→cellsAt w' ⟨g,i*8,none⟩ 8=some (obV (s.obAt (s.objs.getD i 0)) (.slice r (s.obAt (s.objs.getD i 0)).rf.length cp) vd)∧
   ∀j,j<(s.obAt (s.objs.getD i 0)).rf.length→w'.cell? ⟨gr,j,none⟩=some (.int .i64 (s.RF (s.objs.getD i 0) j)):=by
 obtain⟨lc,rc⟩:=h.ob (s0:=s) rfl
 obtain⟨oc,mc⟩:=rc i hi
 obtain⟨gc,cc',yc,ec,rowc,_,_⟩:=h.row (by omega)
 cases ec
 have okc:=h.om _ mc
 have okcr:=okc.r
 have hd1:=okc.one.2
 rw[oc]at okcr
 have hcl: ∀w',Only [] w w'→cellsAt w' ⟨gc,i*8,none⟩ 8=some (obV (s.obAt (s.objs.getD i 0)) (L.getD i default).vr (L.getD i default).vd):=fun w' ho=>by
  rw[cellsAt_at (rowc.keep0 ho) (i*8) 8 (by rw[lla,omV_len];omega),omV_at yc (by omega)]
  unfold OM.V
  rw[oc]
 generalize (L.getD i default).vr=vc at*
 obtain⟨cr,ccp,rfl⟩:=okcr.val
 by_cases hz:0<(s.obAt (s.objs.getD i 0)).rf.length
 ·obtain⟨gr,cap1,y1,er1,atr1,_,_⟩:=okcr.pos hz
  obtain rfl:cr=some ⟨gr,0,none⟩:=by cases er1;rfl
  exact⟨gc,_,ccp,gr,_,rfl,fun _=>rfl,hd1,fun w' ho=>⟨hcl w' ho,fun j hj=>by rw[(atr1.keep0 ho).cell];exact ints_append_get y1 hj⟩⟩
 ·exact⟨gc,cr,ccp,0,_,rfl,fun h=>absurd h hz,hd1,fun w' ho=>⟨hcl w' ho,fun j hj=>absurd hj (by omega)⟩⟩
theorem fStrong (w:World) (sh:Sh) (i:Nat):Cs Tryz.prog 117 [.agg ⟨shV sh⟩,.int .i64 (i:Int)] w fun v w'=>v=.bool (!softI sh.2.2 i)∧Only [] w w':=by
 refine enter_ref04_Strong rfl ?_
 unfold x_ref04_Strong
 refine gO ?_
 refine boxT fun q w1 hq hs1 hat1 ho1=>?_
 have hc:w1.cell? ⟨q,2,none⟩=some (.int .i64 sh.2.2):=by rw[hat1.cell];rfl
 by_cases k1:sh.2.2=1
 ·rw[k1]at hc⊢
  by_cases i0:i=0
  ·subst i0
   (repeat(first|with_reducible(first|refine nx ?_|refine r_6 rfl ?_)|simp only[go_sem,hc,bnf (rfl:(1:Int)=1),show decide ((0:Int)<((0:Nat):Int))=false from rfl]))
   exact⟨rfl,ho1⟩
  ·have e:softI 1 i=false:=by unfold softI;simp[i0]
   refine gO5 hc (bnf (rfl:(1:Int)=1)) (bqt (rfl:(1:Int)=1)) (dtr (show(0:Int)<(i:Int) by omega)) e ?_
   exact ho1
 by_cases k2:sh.2.2=2
 ·rw[k2]at hc⊢
  have n21:(2:Int)≠1:=by omega
  by_cases i0:i=0
  ·subst i0
   (repeat(first|with_reducible(first|refine nx ?_|refine r_6 rfl ?_)|simp only[go_sem,hc,bnt n21,bnf (rfl:(2:Int)=2),show decide ((0:Int)<((0:Nat):Int))=false from rfl]))
   exact⟨rfl,ho1⟩
  by_cases i1:i=1
  ·subst i1
   (repeat(first|with_reducible(first|refine nx ?_|refine r_6 rfl ?_)|simp only[go_sem,hc,bnt n21,bnf (rfl:(2:Int)=2),bqf n21,show decide ((0:Int)<((1:Nat):Int))=true from rfl,show decide ((1:Int)<((1:Nat):Int))=false from rfl]))
   exact⟨rfl,ho1⟩
  ·have e:softI 2 i=false:=by unfold softI;simp[i0,i1]
   refine gO7 hc (bnt n21) (bnf (rfl:(2:Int)=2)) (bqf n21) (dtr (show(0:Int)<(i:Int) by omega)) (dtr (show(1:Int)<(i:Int) by omega)) e ?_
   exact ho1
 ·have e:softI sh.2.2 i=false:=by unfold softI;simp[k1,k2]
  refine gO4 hc (bnt k1) (bnt k2) e ?_
  exact ho1
def incl (s:HL) (R:List Int) (x:Int):List Int:=if hasO (some s) x=true then putI R x else R
theorem mem_incl (h:s.Ok) {y:Int}:y∈incl s R x↔(y=x∧Liv s x)∨y∈R:=by
 unfold incl
 by_cases c:hasO (some s) x=true
 ·rw[if_pos c,mem_putI]
  exact⟨fun e=>e.imp (fun e=>⟨e,(has_liv h).1 c⟩) id,fun e=>e.imp (fun e=>e.1) id⟩
 ·rw[if_neg c]
  exact⟨fun e=>.inr e,fun e=>e.resolve_left fun e=>c ((has_liv h).2 e.2)⟩
theorem incl_rise (x:Int) (h:Rise R):Rise (incl s R x):=by
 unfold incl;split
 ·exact putI_rise x h
 ·exact h
theorem cInclude {fp fR:List Nat} (h:FM w b s.abs fp) (hok:s.Ok) (hR:Sl w 1 v R.length (ints R) fR) (hl:R.length≤100000) (x:Int):
  Cs Tryz.prog 116 [.pointer (some ⟨b,0,none⟩),v,.int .i64 x] w fun r w'=>Only [] w w'∧ ∃fR',Sl w' 1 r (incl s R x).length (ints (incl s R x)) fR'∧ ∀y,y∈fR'→y∈fR∨w.heap.size≤y:=by
 refine enter_ref12_Include rfl ?_
 unfold x_ref12_Include
 refine gO ?_
 refine callT0 (fHas h x) ?_
 rw[abs_has hok]
 unfold incl
 cases hh:hasO (some s) x with
 |false=>
  refine gO ?_
  exact⟨Only.refl _ _,fR,hR,fun y hy=>.inl hy⟩
 |true=>
  refine gO ?_
  refine callT (hPut12 hR hl x) ?_
  rintro vR w1 ⟨ho1,f1,h1,g1⟩
  refine gO ?_
  exact⟨ho1,f1,h1,g1⟩
end
section
set_option maxRecDepth 8000
variable {hp:Addr} {s:HL} {x:Int} {fp:List Nat} {bm qh qk qv:Nat}
theorem Liv.le (h:s.Ok) (hx:Liv s x):0≤x∧x≤4096:=by
 obtain⟨k,rfl,hk⟩:=hx
 have:=live_le h hk
 omega
theorem strong_le (h:s.Ok) (hr:RfOk s.abs) {y:Int} (hy:y∈strongO (some s) x):0≤y∧y≤4096:=by
 obtain⟨j,h1,h2,h3,_⟩:=mem_strongR.1 hy
 by_cases c:(shapeO (some s) x).2=0
 ·obtain⟨k,rfl,hk⟩:=shape_live h c
  rw[refsO_at h hk]at h1 h2
  rw[h2]
  refine hr (s.obAt k) ?_ _ (by simp[h1])
  simp only[HL.abs,List.mem_map];exact⟨k,mem_objs.2 hk,rfl⟩
 ·exfalso
  have:(refsO (some s) x).length=0:=by
   unfold refsO
   rw[List.length_map,List.length_range]
   unfold shapeO at c⊢
   cases hh:hasO (some s) x with
   |true=>simp[objE,hh]at c
   |false=>simp[objE,hh]
  omega
structure VsAt (w:World) (qh qk qv bm:Nat) (hp:Addr) (fp:List Nat) (s:HL):Prop where
 h:At w qh [.pointer (some hp)]
 k:At w qk [.map (some bm)]
 v:At w qv [.func (.func 213) #[] #[.pointer (some ⟨qh,0,none⟩),.pointer (some ⟨qk,0,none⟩),.pointer (some ⟨qv,0,none⟩)]]
 hr:HR w (some hp) fp (some s)
 d:bm∉ [qh,qk,qv]∧bm∉fp
theorem VsAt.keep {w w':World} (h:VsAt w qh qk qv bm hp fp s) (o:Only [bm] w w'):VsAt w' qh qk qv bm hp fp s:=by
 obtain⟨h1,h2,h3,h4,h5,h6⟩:=h
 simp only[List.mem_cons,List.not_mem_nil,or_false,not_or]at h5
 refine⟨h1.keep o ?_,h2.keep o ?_,h3.keep o ?_,h4.keep o fun y hy hb=>?_,by simp[h5],h6⟩
 ·simp only[lms];exact fun e=>h5.1 e.symm
 ·simp only[lms];exact fun e=>h5.2.1 e.symm
 ·simp only[lms];exact fun e=>h5.2.2 e.symm
 ·simp only[lms]at hb;subst hb;exact h6 hy
theorem cVisit (hs:s.Ok) (hr:RfOk s.abs): ∀(n:Nat) (w:World) (K:List Int) (x:Int),s.objs.length≤K.length+n→VsAt w qh qk qv bm hp fp s→MB w bm K→(∀y,y∈K→Liv s y)→x≤4611686018427387904→
  Cs Tryz.prog 213 [.int .i64 x,.pointer (some ⟨qh,0,none⟩),.pointer (some ⟨qk,0,none⟩),.pointer (some ⟨qv,0,none⟩)] w fun _ w'=> ∃K',MB w' bm K'∧Only [bm] w w'∧Vis s [x] K K'∧(Liv s x→x∈K'):=by
 intro n
 induction n with
 |zero=>
  intro w K x hn hv hK hl hx
  refine enter_place_Rounds_1 rfl ?_
  unfold x_place_Rounds_1
  refine gO2 hv.h.cell hv.k.cell ?_
  refine callT (hHas hv.hr x hx) ?_
  rintro _ w1 ⟨rfl,ho1⟩
  cases hh:hasO (some s) x with
  |false=>
   refine gO ?_
   exact⟨K,hK.keep0 ho1,ho1.of_nil,.refl hK.nodup,fun h=>by rw[(has_iff hs).2 h]at hh;cases hh⟩
  |true=>
   have hlx:Liv s x:=(has_iff hs).1 hh
   have hin:x∈K:=Decidable.byContradiction fun c=>by
    have:=nodup_le (s:=s) (K:=K++[x]) (by rw[List.nodup_append];exact⟨hK.nodup,by simp,fun a ha b hb e=>c (by simp only[lms]at hb;rw[←hb,←e];exact ha)⟩) fun y hy=>(List.mem_append.1 hy).elim (hl y) fun e=>by simp only[lms]at e;rw[e];exact hlx
    simp only[lla,List.length_singleton]at this
    omega
   (repeat(first|with_reducible(first|refine nx ?_|refine r_6 rfl ?_)|simp only[go_sem,(hv.k.keep0 ho1).cell]))
   refine lkpT Tryz.underlying115 Tryz.underlying3 (Tryz.zeroValue4 _) (hK.keep0 ho1) ?_
   rw[getM_setD,dtr hin]
   refine gO ?_
   exact⟨K,hK.keep0 ho1,ho1.of_nil,.refl hK.nodup,fun _=>hin⟩
 |succ n ih=>
  intro w K x hn hv hK hl hx
  refine enter_place_Rounds_1 rfl ?_
  unfold x_place_Rounds_1
  refine gO2 hv.h.cell hv.k.cell ?_
  refine callT (hHas hv.hr x hx) ?_
  rintro _ w1 ⟨rfl,ho1⟩
  have hv1:=hv.keep ho1.of_nil
  cases hh:hasO (some s) x with
  |false=>
   refine gO ?_
   exact⟨K,hK.keep0 ho1,ho1.of_nil,.refl hK.nodup,fun h=>by rw[(has_iff hs).2 h]at hh;cases hh⟩
  |true=>
  have hlx:Liv s x:=(has_iff hs).1 hh
  refine gO1 hv1.k.cell ?_
  refine lkpT Tryz.underlying115 Tryz.underlying3 (Tryz.zeroValue4 _) (hK.keep0 ho1) ?_
  rw[getM_setD]
  by_cases hin:x∈K
  ·rw[dtr hin]
   refine gO ?_
   exact⟨K,hK.keep0 ho1,ho1.of_nil,.refl hK.nodup,fun _=>hin⟩
  rw[dfl hin]
  refine gO1 hv1.k.cell ?_
  refine mputT Tryz.underlying115 Tryz.underlying3 (hK.keep0 ho1) fun w2 hs2 hm2 ho2=>?_
  rw[putM_set hin]at hm2
  have hv2:=hv1.keep ho2
  have hK2:MB w2 bm (K++[x]):=hm2
  refine gO1 hv2.h.cell ?_
  refine callT (cStrong hv2.hr hs x hx) ?_
  rintro v w3 ⟨ho3,fq,hq3,gq3⟩
  obtain⟨l,hle⟩: ∃l,l=strongO (some s) x:=⟨_,rfl⟩
  have hll:l.length≤15:=by
   rw[hle];unfold strongO
   exact Nat.le_trans strongR_len (refs_le hs x)
  rw[←hle]at hq3
  obtain⟨al,cl,rfl⟩:=hq3.val
  have o3:Only [bm] w w3:=ho1.of_nil.same ((ho2.nil ho3))
  have hbm:bm<w.heap.size:=MpAt.lt hK
  have hl1: ∀y,y∈K++[x]→Liv s y:=fun y hy=>(List.mem_append.1 hy).elim (hl y) fun e=>by simp only[lms]at e;rw[e];exact hlx
  refine gO ?_
  refine run_loop (6::22::23::24::25::26::27::28::29::[]) (fun g w'=> ∃(i:Nat) (K':List Int),g 22=.int .i64 (i:Int)∧i≤l.length∧Only [bm] w3 w'∧MB w' bm K'∧Vis s l (K++[x]) K'∧ ∀j,j<i→Liv s (l.getD j 0)→l.getD j 0∈K') (fun g _=>upTo l.length 22 g)
   ⟨0,K++[x],by simp only[go_sem];rfl,by omega,Only.refl _ _,hK2.keep0 ho3,.refl hK2.nodup,fun j hj=>absurd hj (by omega)⟩ fun g w4 hI hnext=>?_
  obtain⟨i,K',h22,hi,ho4,hK4,vis,done⟩:=hI
  by_cases c1:i<l.length
  rotate_left
  ·refine gO2 h22 (dfl (show¬(i:Int)<(l.length:Int) by omega)) ?_
   refine⟨K',hK4,o3.same ho4,(hle▸vis).enter hlx hin fun y hy hyv=>?_,fun _=>vis.sub x (by simp)⟩
   rw[←hle]at hy
   obtain⟨j,hj,rfl⟩:=List.mem_iff_getElem.1 hy
   have:=done j (by omega)
   simp only[List.getD_eq_getElem?_getD,List.getElem?_eq_getElem hj,Option.getD_some]at this
   exact this hyv
  have hv4:=(hv2.keep ho3.of_nil).keep ho4
  obtain⟨gl,_,yl,el,hatl,efq,_⟩:=hq3.pos (by omega)
  cases el
  have hgl:gl≠bm:=fun e=>by have:=gq3 gl (by rw[efq];simp);have:=ho1.size;have:=ho2.size;omega
  have ci:(0:Int)≤(i:Int)∧(i:Int)<(l.length:Int):=by omega
  have vr:w4.cell? ⟨gl,i,none⟩=some (.int .i64 (l.getD i 0)):=by rw[(hatl.keep ho4 (by simpa using hgl)).cell];exact ints_append_get yl (by omega)
  have hyle:=strong_le hs hr (x:=x) (y:=l.getD i 0) (by rw[←hle];simp[c1])
  have hK4l: ∀y,y∈K'→Liv s y:=fun y hy=>(vis.liv y hy).elim (hl1 y) id
  refine gJ5 h22 (dtr ci.2) (eq_true ci) vr hv4.v.cell ?_
  refine callVT (callVals_f 213 #[] [.int .i64 (l.getD i 0)] #[.pointer (some ⟨qh,0,none⟩),.pointer (some ⟨qk,0,none⟩),.pointer (some ⟨qv,0,none⟩)]) (by kernel_rfl) (ih w4 K' (l.getD i 0) ?_ hv4 hK4 hK4l (by omega)) ?_
  ·have:=(rise_len vis.sub vis.nd (by exact hK2.nodup))
   simp only[lla,List.length_singleton]at this
   omega
  rintro _ w5 ⟨K5,hK5,ho5,vis5,in5⟩
  refine gO2 h22 (i64_succ i (by omega)) ?_
  refine hnext _ w5 ⟨i+1,K5,?_,by omega,ho4.same ho5,hK5,vis.trans (vis5.mono fun y hy=>by simp only[lms]at hy;rw[hy];simp[c1]),fun j hj hlv=>?_⟩ ?_
  ·simp only[go_sem]
  ·by_cases e:j=i
   ·rw[e]at hlv⊢;exact in5 hlv
   ·exact vis5.sub _ (done j (by omega) hlv)
  ·exact up_lt h22
end
section
variable {s:HL} {D F K K1:List Int} {w:World}
def kindO (s:HL) (x:Int):Int:=(shapeO (some s) x).1.2.2
def ephK (s:HL) (x:Int):Int:=(refO (some s) x 0).1
def ephV (s:HL) (x:Int):Int:=(refO (some s) x 1).1
structure Cls (s:HL) (F:List Int) (P:Int→Prop):Prop where
 f: ∀x,x∈F→Liv s x→P x
 g: ∀x y,Liv s x→P x→y∈strongO (some s) x→Liv s y→P y
 e: ∀x,Liv s x→P x→kindO s x=2→P (ephK s x)→Liv s (ephV s x)→P (ephV s x)
structure Kpt (s:HL) (F K:List Int):Prop where
 nd:K.Nodup
 liv: ∀x,x∈K→Liv s x
 cls:Cls s F (· ∈K)
 ind: ∀P,Cls s F P→ ∀x,x∈K→P x
structure Rd (s:HL) (F K D:List Int):Prop where
 nd:K.Nodup
 liv: ∀x,x∈K→Liv s x
 clo: ∀x,x∈K→ ∀y,y∈strongO (some s) x→Liv s y→y∈K
 ind: ∀P,Cls s F P→(∀x,x∈K→P x)∧ ∀x,x∈D→Liv s x→P x
 due:(K=[]∧D=F)∨((∀x,x∈F→Liv s x→x∈K)∧ ∀x,x∈K→kindO s x=2→ephK s x∈K→Liv s (ephV s x)→ephV s x∈D)
theorem Rd.first (s:HL) (F:List Int):Rd s F [] F:=⟨List.nodup_nil,fun x hx=>absurd hx (by simp),fun x hx=>absurd hx (by simp),fun P h=>⟨fun x hx=>absurd hx (by simp),h.f⟩,.inl ⟨rfl,rfl⟩⟩
theorem Rd.vis (h:Rd s F K D) (v:Vis s D K K1) (_: ∀x,x∈D→Liv s x→x∈K1):(∀x,x∈K1→Liv s x)∧(∀x,x∈K1→ ∀y,y∈strongO (some s) x→Liv s y→y∈K1)∧ ∀P,Cls s F P→ ∀x,x∈K1→P x:=by
 refine⟨fun x hx=>(v.liv x hx).elim (h.liv x) id,fun x hx y hy hv=>?_,fun P hP x hx=>?_⟩
 ·by_cases c:x∈K
  ·exact v.sub y (h.clo x c y hy hv)
  ·exact v.clo x hx c y hy hv
 ·exact(v.ind P (h.ind P hP).2 (fun x y h1 h2 h3 h4=>hP.g x y h1 h2 h3 h4) x hx).elim ((h.ind P hP).1 x) id
theorem same_set (hn:K.Nodup) (hs: ∀x,x∈K→x∈K1) (hl:K1.length≤K.length): ∀x,x∈K1→x∈K:=fun x hx=>Decidable.byContradiction fun c=>by
 have:=nodup_sub (l:=K++[x]) (m:=K1) (by rw[List.nodup_append];exact⟨hn,by simp,fun a ha b hb e=>c (by simp only[lms]at hb;rw[←hb,←e];exact ha)⟩) fun y hy=>(List.mem_append.1 hy).elim (hs y) fun e=>by simp only[lms]at e;rw[e];exact hx
 simp only[lla,List.length_singleton]at this
 omega
theorem Rd.last (h:Rd s F K D) (v:Vis s D K K1) (hd: ∀x,x∈D→Liv s x→x∈K1) (hl:K1.length≤K.length):Kpt s F K1:=by
 obtain⟨h1,h2,h3⟩:=h.vis v hd
 have back:=same_set h.nd v.sub hl
 refine⟨v.nd,h1,⟨fun x hx hv=>?_,fun x y _ hx hy hv=>h2 x hx y hy hv,fun x _ hx hk hkey hv=>?_⟩,h3⟩
 ·rcases h.due with⟨_,e⟩|⟨e,_⟩
  ·exact hd x (by rw[e];exact hx) hv
  ·exact v.sub x (e x hx hv)
 ·rcases h.due with⟨e,_⟩|⟨_,e⟩
  ·have:=back x hx;rw[e]at this;cases this
  ·exact hd _ (e x (back x hx) hk (back _ hkey) hv) hv
theorem Rd.next {D1:List Int} (h:Rd s F K D) (v:Vis s D K K1) (hd: ∀x,x∈D→Liv s x→x∈K1) (h4: ∀y,y∈D1↔ ∃x,x∈K1∧kindO s x=2∧ephK s x∈K1∧y=ephV s x):Rd s F K1 D1:=by
 obtain⟨h1,h2,h3⟩:=h.vis v hd
 refine⟨v.nd,h1,h2,fun P hP=>⟨h3 P hP,fun y hy hv=>?_⟩,.inr ⟨fun x hx hv=>?_,fun x hx hk hkey _=>(h4 _).2 ⟨x,hx,hk,hkey,rfl⟩⟩⟩
 ·obtain⟨x,e1,e2,e3,rfl⟩:=(h4 y).1 hy
  exact hP.e x (h1 x e1) (h3 P hP x e1) e2 (h3 P hP _ e3) hv
 ·rcases h.due with⟨_,e⟩|⟨e,_⟩
  ·exact hd x (by rw[e];exact hx) hv
  ·exact v.sub x (e x hx hv)
def mapLen (w:World) (b:Nat):Nat:=match w.heap[b]? with
 |some (.map es _)=>es.size
 |_=>0
theorem MB.len {b:Nat} (h:MB w b K):mapLen w b=K.length:=by
 obtain⟨es,c,h1,h2,_⟩:=h
 unfold mapLen
 rw[h1]
 have:es.size=(setM K).length:=by simpa[MEs]using congrArg List.length h2
 show es.size=K.length
 rw[this,setM_len]
theorem cKind {a:Option Addr} {fp:List Nat} {m:HO} (h:HR w a fp m) (x:Int) (hx:x≤4611686018427387904):Cs Tryz.prog 215 [.pointer a,.int .i64 x] w fun v w'=>v=.int .i64 (shapeO m x).1.2.2∧Only [] w w':=by
 refine enter_place_Kind rfl ?_
 unfold x_place_Kind
 refine gO ?_
 refine callT (hShape h x hx) ?_
 rintro _ w1 ⟨rfl,ho1⟩
 refine gO ?_
 refine boxT fun q w2 hq hs2 hat2 ho2=>?_
 refine gO ?_
 refine stNT (cs:=shV (shapeO m x).1) hat2 rfl (by simp[shV]) (shV_one _) fun w3 hs3 hat3 ho3=>?_
 rw[setL_sh]at hat3
 have o3:Only [] w w3:=ho1.nil (ho2.trans ho3 fun y hy=>by simp only[lms]at hy;subst hy;exact .inr (by omega))
 have hk:w3.cell? ⟨q,2,none⟩=some (.int .i64 (shapeO m x).1.2.2):=by rw[hat3.cell];rfl
 refine gO1 hk ?_
 exact o3
end
section
set_option maxRecDepth 8000
variable {s:HL}
theorem allH_mem {x:Int}:x∈allH (some s)↔Liv s x:=by
 show x∈adrs s.objs↔_
 unfold adrs
 rw[List.mem_map]
 exact⟨fun⟨k,h,e⟩=>⟨k,e.symm,mem_objs.1 h⟩,fun⟨k,e,h⟩=>⟨k,mem_objs.2 h,e.symm⟩⟩
theorem allH_len (s:HL):(allH (some s)).length=s.objs.length:=by show(adrs s.objs).length=_;unfold adrs;rw[List.length_map]
theorem ephV_le (hs:s.Ok) (hr:RfOk s.abs) (x:Int):ephV s x≤4096:=by
 unfold ephV
 by_cases c:(fieldO (some s) x 1 false).2=0
 ·obtain⟨o,k,rfl,ho,_⟩:=field_spec hs c
  by_cases hl:1<(s.obAt o).rf.length
  ·have:=at_ref hs ho hl
   rw[show((1:Nat):Int)=1 from rfl]at this
   rw[this]
   exact(hr (s.obAt o) (by simp only[HL.abs,List.mem_map];exact⟨o,mem_objs.2 ho,rfl⟩) _ (by simp[hl])).2
  ·exfalso
   obtain⟨r,d,kk,hv,hsz,hz,e1,e2,e3⟩:=obAt_rf hs ho
   have hsa:s.shapeAt ((2*o:Nat):Int)=((r:Int),(d:Int),(kk:Int)):=hsz
   rw[e2]at hl
   simp only[List.length_map,List.length_range]at hl
   unfold fieldO at c
   simp only[at_objE hs ho,ne_eq,not_true_eq_false,if_false,cond_false,hsa]at c
   rw[if_pos (by omega)]at c
   cases c
 ·unfold refO
  simp only[if_neg c]
  omega
set_option maxHeartbeats 1000000 in
theorem cRounds {w:World} {hp:Addr} {fp ff:List Nat} {vF:Value} {F:List Int} (hr:HR w (some hp) fp (some s)) (hs:s.Ok) (hrf:RfOk s.abs) (hF:Sl w 1 vF F.length (ints F) ff) (hFl:F.length≤1000) (hFb: ∀x,x∈F→x≤100000) (h40:s.objs.length≤2000):
  Cs Tryz.prog 134 [.pointer (some hp),vF] w fun v w'=>Only [] w w'∧ ∃bm K n,v=.tuple #[.map (some bm),.int .i64 n]∧MB w' bm K∧w.heap.size≤bm∧Kpt s F K:=by
 obtain⟨aF,cF,rfl⟩:=hF.val
 refine enter_place_Rounds rfl ?_
 unfold x_place_Rounds
 refine gO ?_
 refine boxT fun qh w1 hqh hs1 hat1 ho1=>?_
 refine gO ?_
 refine mkmapT fun bm w2 hbm hs2 hm2 ho2=>?_
 refine gO ?_
 refine boxT fun qk w3 hqk hs3 hat3 ho3=>?_
 refine gO ?_
 refine stT hat3 (by simp) rfl fun w4 hs4 hat4 ho4=>?_
 refine gO ?_
 refine boxT fun qv w5 hqv hs5 hat5 ho5=>?_
 refine gO ?_
 refine stT hat5 (by simp) rfl fun w6 hs6 hat6 ho6=>?_
 have z1:=ho1.size
 have o6:Only [] w w6:=((ho1.nil ho2).nil ho3).trans ((ho4.weak (T:=[qk,qv]) (by simp)).same ((ho5.of_nil).same (ho6.weak (by simp)))) fun y hy=>by
  simp only[List.mem_cons,List.not_mem_nil,or_false]at hy
  exact .inr (by omega)
 have hlt:=hr.lt
 have hkeep: ∀ {y:Nat},y<w3.heap.size→y≠qk→y∉ [qk,qv]:=fun h1 h2=>by simp only[List.mem_cons,List.not_mem_nil,or_false];omega
 have o36:Only [qk,qv] w3 w6:=(ho4.weak (by simp)).same ((ho5.of_nil).same (ho6.weak (by simp)))
 have vs6:VsAt w6 qh qk qv bm hp fp s:=by
  refine⟨((hat1.keep0 ho2).keep0 ho3).keep o36 (hkeep (by omega) (by omega)),(hat4.keep0 ho5).keep ho6 (by simp only[lms];omega),hat6,hr.keep0 o6,?_,fun h=>by have:=hlt bm h;omega⟩
  simp only[List.mem_cons,List.not_mem_nil,or_false];omega
 have mb6:MB w6 bm []:=(hm2.keep0 ho3).keep o36 (hkeep (by omega) (by omega))
 refine gO ?_
 refine run_loop (4::5::8::9::10::11::12::13::14::15::16::17::18::22::23::24::25::26::27::28::29::30::31::32::33::34::35::36::37::38::39::40::41::42::43::44::45::46::47::48::49::50::51::52::53::54::55::56::57::58::59::60::61::62::63::64::65::66::67::68::69::70::71::72::73::74::75::76::77::78::79::[]) (fun g w'=> ∃(K D:List Int) (n:Int) (fD:List Nat),g 8=.int .i64 n∧Sl w' 1 (g 9) D.length (ints D) fD∧bm∉fD∧MB w' bm K∧VsAt w' qh qk qv bm hp fp s∧Only [] w w'∧w6.heap.size≤w'.heap.size∧Rd s F K D∧D.length≤2000∧ ∀x,x∈D→x≤100000) (fun _ w'=>s.objs.length+1-mapLen w' bm)
  ⟨[],F,0,ff,by simp only[go_sem],by simp only[go_sem];exact hF.keep0 o6,fun h=>by have:=hF.lt bm h;omega,mb6,vs6,o6,Nat.le_refl _,Rd.first s F,by omega,hFb⟩ fun g w7 hI hnext=>?_
 obtain⟨K,D,n,fD,h8,hD,hDb,mb,vs,o7,z67,rd,hDl,hDx⟩:=hI
 have hKl:=nodup_le rd.nd rd.liv
 obtain⟨aD,cD,h9⟩:=hD.val
 have hbmlt:bm<w7.heap.size:=by omega
 refine gO1 vs.k.cell ?_
 refine mlenT Tryz.underlying115 mb ?_
 rw[setM_len]
 (repeat(first|with_reducible(first|refine r_1 ?_|refine r_2 ?_|refine r_4 ?_|refine r_5 ?_|refine r_6 rfl ?_|refine r_7 ?_|refine r_8 ?_|refine r_9 ?_|refine r_0 ?_)|simp only[go_sem,h9]))
 refine run_cut (12::26::27::28::29::30::31::32::33::34::35::[]) (fun _ w'=> ∃K1,Only [bm] w7 w'∧MB w' bm K1∧Vis s D K K1∧ ∀x,x∈D→Liv s x→x∈K1) (fun kk hkk=>?_) (fun g1 w8 hJ=>?_)
 ·refine gO1 h9 ?_
  refine run_loop (12::26::27::28::29::30::31::32::33::34::35::[]) (fun g w'=> ∃(i:Nat) (K':List Int),g 28=.int .i64 (i:Int)∧i≤D.length∧g 26=.slice aD D.length cD∧g 27=.int .i64 (D.length:Int)∧Only [bm] w7 w'∧MB w' bm K'∧Vis s D K K'∧ ∀j,j<i→Liv s (D.getD j 0)→D.getD j 0∈K') (fun g _=>upTo D.length 28 g)
   ⟨0,K,by simp only[go_sem];rfl,by omega,by simp only[go_sem,h9],by simp only[go_sem,h9],Only.refl _ _,mb,.refl rd.nd,fun j hj=>absurd hj (by omega)⟩ fun g2 w8 hI hnext2=>?_
  obtain⟨i,K',h28,hi,h26,h27,ho8,mb8,vis,done⟩:=hI
  by_cases c1:i<D.length
  rotate_left
  ·refine gO3 h28 h27 (dfl (show¬(i:Int)<(D.length:Int) by omega)) ?_
   refine hkk _ w8 ⟨K',ho8,mb8,vis,fun x hx hv=>?_⟩
   ·obtain⟨j,hj,rfl⟩:=List.mem_iff_getElem.1 hx
    have:=done j (by omega)
    simp only[List.getD_eq_getElem?_getD,List.getElem?_eq_getElem hj,Option.getD_some]at this
    exact this hv
  obtain⟨gl,_,yl,el,hatl,efq,_⟩:=hD.pos (by omega)
  rw[h9]at el
  cases el
  have hgl:gl∉ [bm]:=fun e=>hDb (by rw[efq];simp only[lms]at e⊢;exact e.symm)
  have ci:(0:Int)≤(i:Int)∧(i:Int)<(D.length:Int):=by omega
  have vr:w8.cell? ⟨gl,i,none⟩=some (.int .i64 (D.getD i 0)):=by rw[(hatl.keep ho8 hgl).cell];exact ints_append_get yl (by omega)
  have vs8:=vs.keep ho8
  have hx9:=hDx (D.getD i 0) (by simp[c1])
  refine gJ7 h28 h27 h26 (dtr ci.2) (eq_true ci) vr vs8.v.cell ?_
  refine callVT (callVals_f 213 #[] [.int .i64 (D.getD i 0)] #[.pointer (some ⟨qh,0,none⟩),.pointer (some ⟨qk,0,none⟩),.pointer (some ⟨qv,0,none⟩)]) (by kernel_rfl) (cVisit hs hrf s.objs.length w8 K' (D.getD i 0) (by omega) vs8 mb8 (fun y hy=>(vis.liv y hy).elim (rd.liv y) id) (by omega)) ?_
  rintro _ w9 ⟨K9,mb9,ho9,vis9,in9⟩
  refine gO4 h28 h27 h26 (i64_succ i (by omega)) ?_
  refine hnext2 _ w9 ⟨i+1,K9,?_,by omega,?_,?_,ho8.same ho9,mb9,vis.trans (vis9.mono fun y hy=>by simp only[lms]at hy;rw[hy];simp[c1]),fun j hj hlv=>?_⟩ ?_
  ·simp only[go_sem]
  ·simp only[go_sem,h26]
  ·simp only[go_sem,h27]
  ·by_cases e:j=i
   ·rw[e]at hlv⊢;exact in9 hlv
   ·exact vis9.sub _ (done j (by omega) hlv)
  ·exact up_lt h28
 obtain⟨K1,ho8,mb8,vis,hd⟩:=hJ
 have vs8:=vs.keep ho8
 have z8:=ho8.size
 have o8:Only [] w w8:=o7.trans ho8 fun y hy=>.inr (by simp only[lms]at hy;omega)
 have hK1n:=vis.nd
 have hK1l:=(rd.vis vis hd).1
 have hK1len:=nodup_le hK1n hK1l
 have hKK1:=nodup_sub rd.nd vis.sub
 refine gO1 vs8.k.cell ?_
 refine mlenT Tryz.underlying115 mb8 ?_
 rw[setM_len]
 by_cases ce:(K1.length:Int)=(K.length:Int)
 ·refine gO3 h8 (bqt ce) vs8.k.cell ?_
  exact⟨o8,bm,K1,n,rfl,mb8,by omega,rd.last vis hd (by omega)⟩
 refine gO2 (bqf ce) vs8.h.cell ?_
 refine callT (hAll vs8.hr) ?_
 rintro v w9 ⟨ho9,fA,hA,gA⟩
 obtain⟨aA,cA,rfl⟩:=hA.val
 refine gO ?_
 obtain⟨A,hAe⟩: ∃A,A=allH (some s):=⟨_,rfl⟩
 rw[←hAe]at hA⊢
 have hAl:A.length≤2000:=by rw[hAe,allH_len];exact h40
 have mb9:=mb8.keep0 ho9
 have vs9:=vs8.keep ho9.of_nil
 have z9:=ho9.size
 have o9:=o8.nil ho9
 have ext: ∀(i:Nat) (hi:i<A.length) (D1:List Int),(∀y,y∈D1↔ ∃x,x∈A.take i∧x∈K1∧kindO s x=2∧ephK s x∈K1∧y=ephV s x)→
   (¬(A.getD i 0∈K1∧kindO s (A.getD i 0)=2∧ephK s (A.getD i 0)∈K1)→ ∀y,y∈D1↔ ∃x,x∈A.take (i+1)∧x∈K1∧kindO s x=2∧ephK s x∈K1∧y=ephV s x)∧
   ((A.getD i 0∈K1∧kindO s (A.getD i 0)=2∧ephK s (A.getD i 0)∈K1)→ ∀y,y∈D1++[ephV s (A.getD i 0)]↔ ∃x,x∈A.take (i+1)∧x∈K1∧kindO s x=2∧ephK s x∈K1∧y=ephV s x):=fun i hi D1 h=>by
  have hg:A[i]=A.getD i 0:=by simp[hi]
  have ht: ∀x,x∈A.take (i+1)↔x∈A.take i∨x=A.getD i 0:=fun x=>by rw[List.take_succ_eq_append_getElem hi,List.mem_append,lms,hg]
  refine⟨fun c y=>(h y).trans ⟨fun⟨x,a1,a2⟩=>⟨x,(ht x).2 (.inl a1),a2⟩,fun⟨x,a1,a2,a3,a4,a5⟩=>?_⟩,fun c y=>?_⟩
  ·rcases(ht x).1 a1 with a1|rfl
   ·exact⟨x,a1,a2,a3,a4,a5⟩
   ·exact absurd ⟨a2,a3,a4⟩ c
  ·rw[List.mem_append,lms,h y]
   constructor
   ·rintro(⟨x,a1,a2⟩|rfl)
    ·exact⟨x,(ht x).2 (.inl a1),a2⟩
    ·exact⟨_,(ht _).2 (.inr rfl),c.1,c.2.1,c.2.2,rfl⟩
   ·rintro⟨x,a1,a2,a3,a4,a5⟩
    rcases(ht x).1 a1 with a1|rfl
    ·exact .inl ⟨x,a1,a2,a3,a4,a5⟩
    ·exact .inr a5
 refine run_loop (9::14::15::16::17::18::45::46::47::48::49::50::51::52::53::54::55::56::57::58::59::60::61::62::63::64::65::66::67::68::69::70::71::72::73::74::75::76::77::78::[]) (fun g w'=> ∃(i:Nat) (D1:List Int) (f1:List Nat),g 45=.int .i64 (i:Int)∧i≤A.length∧Only [] w9 w'∧Sl w' 1 (g 9) D1.length (ints D1) f1∧(∀y,y∈f1→w9.heap.size≤y)∧D1.length≤i∧ ∀y,y∈D1↔ ∃x,x∈A.take i∧x∈K1∧kindO s x=2∧ephK s x∈K1∧y=ephV s x) (fun g _=>upTo A.length 45 g)
  ⟨0,[],[],by simp only[go_sem];rfl,by omega,Only.refl _ _,by simp only[go_sem];exact Sl.nil1 _,fun y hy=>absurd hy (by simp),by simp,fun y=>⟨fun h=>absurd h (by simp),fun⟨x,h,_⟩=>absurd h (by simp)⟩⟩ fun g2 w10 hI hnext2=>?_
 obtain⟨i,D1,f1,h45,hi,ho10,hD1,gD1,lD1,mD1⟩:=hI
 have vs10:=vs9.keep ho10.of_nil
 have mb10:=mb9.keep0 ho10
 have z10:=ho10.size
 by_cases c1:i<A.length
 rotate_left
 ·refine gO3 h45 h8 (dfl (show¬(i:Int)<(A.length:Int) by omega)) ?_
  rw[List.take_of_length_le (by omega)]at mD1
  have mD1': ∀y,y∈D1↔ ∃x,x∈K1∧kindO s x=2∧ephK s x∈K1∧y=ephV s x:=fun y=>(mD1 y).trans ⟨fun⟨x,_,h⟩=>⟨x,h⟩,fun⟨x,h⟩=>⟨x,by rw[hAe];exact allH_mem.2 (hK1l x h.1),h⟩⟩
  refine hnext _ w10 ⟨K1,D1,IntKind.i64.wrap (n+1),f1,?_,?_,fun h=>?_,mb10,vs10,o9.nil ho10,by omega,rd.next vis hd mD1',by omega,fun x hx=>?_⟩ ?_
  ·simp only[go_sem,h8]
  ·simp only[go_sem];exact hD1
  ·have:=gD1 bm h;omega
  ·obtain⟨x',_,_,_,rfl⟩:=(mD1' x).1 hx
   have:=ephV_le hs hrf x';omega
  ·show s.objs.length+1-mapLen w10 bm<s.objs.length+1-mapLen w7 bm
   rw[mb10.len,mb.len];omega
 obtain⟨gl,_,yl,el,hatl,_,_⟩:=(hA.keep0 ho10).pos (by omega)
 cases el
 have ci:(0:Int)≤(i:Int)∧(i:Int)<(A.length:Int):=by omega
 have vr:w10.cell? ⟨gl,i,none⟩=some (.int .i64 (A.getD i 0)):=by rw[hatl.cell];exact ints_append_get yl (by omega)
 obtain⟨x,hxe⟩: ∃x,x=A.getD i 0:=⟨_,rfl⟩
 have hxl:Liv s x:=allH_mem.1 (by rw[←hAe,hxe];simp[c1])
 have hxle:=hxl.le hs
 obtain⟨no,yes⟩:=ext i c1 D1 mD1
 rw[←hxe]at vr no yes
 have zz:=i64_succ i (by omega)
 refine gJ5 h45 (dtr ci.2) (eq_true ci) vr vs10.k.cell ?_
 refine lkpT Tryz.underlying115 Tryz.underlying3 (Tryz.zeroValue4 _) mb10 ?_
 rw[getM_setD]
 by_cases b1:x∈K1
 rotate_left
 ·rw[dfl b1]
  refine gO2 h45 zz ?_
  refine hnext2 _ w10 ⟨i+1,D1,f1,?_,by omega,ho10,?_,gD1,by omega,no fun h=>b1 h.1⟩ ?_
  ·simp only[go_sem]
  ·simp only[go_sem];exact hD1
  ·exact up_lt h45
 rw[dtr b1]
 refine gO1 vs10.h.cell ?_
 refine callT (cKind vs10.hr x (by omega)) ?_
 rintro _ w11 ⟨rfl,ho11⟩
 have o11:=ho10.nil ho11
 have vs11:=vs10.keep ho11.of_nil
 have hD11:=hD1.keep0 ho11
 by_cases b2:kindO s x=2
 rotate_left
 ·have b2': ¬(shapeO (some s) x).1.2.2=2:=b2
  refine gO3 h45 zz (bnt b2') ?_
  refine hnext2 _ w11 ⟨i+1,D1,f1,?_,by omega,o11,?_,gD1,by omega,no fun h=>b2 h.2.1⟩ ?_
  ·simp only[go_sem]
  ·simp only[go_sem];exact hD11
  ·exact up_lt h45
 have b2':(shapeO (some s) x).1.2.2=2:=b2
 refine gO3 h45 (bnf b2') vs11.h.cell ?_
 refine callT (hRef vs11.hr x 0 (by omega)) ?_
 rintro _ w12 ⟨rfl,ho12⟩
 have o12:=o11.nil ho12
 have vs12:=vs11.keep ho12.of_nil
 refine gO1 vs12.k.cell ?_
 refine lkpT Tryz.underlying115 Tryz.underlying3 (Tryz.zeroValue4 _) ((mb10.keep0 ho11).keep0 ho12) ?_
 rw[getM_setD]
 by_cases b3:ephK s x∈K1
 rotate_left
 ·rw[dfl (show¬(refO (some s) x 0).1∈K1 from b3)]
  refine gO2 h45 zz ?_
  refine hnext2 _ w12 ⟨i+1,D1,f1,?_,by omega,o12,?_,gD1,by omega,no fun h=>b3 h.2.2⟩ ?_
  ·simp only[go_sem]
  ·simp only[go_sem];exact hD11.keep0 ho12
  ·exact up_lt h45
 rw[dtr (show(refO (some s) x 0).1∈K1 from b3)]
 refine gO1 vs12.h.cell ?_
 refine callT (hRef vs12.hr x 1 (by omega)) ?_
 rintro _ w13 ⟨rfl,ho13⟩
 have o13:=o12.nil ho13
 refine gO ?_
 rw[fillL_one rfl rfl]
 refine gO ?_
 refine bslT fun q14 w14 hq14 hs14 hat14 ho14=>?_
 refine gO ?_
 refine appT (((hD11.keep0 ho12).keep0 ho13).keep0 ho14) (SrcIs.at (us:=[.int .i64 (ephV s x)]) hat14 rfl) (by simp[oneC]) (by omega) (by omega) ?_
 intro v15 w15 f15 hs15 hf15 ho15 _
 have o14:=o13.nil ho14
 have z14:=o14.size
 have o15:Only [] w9 w15:=o14.trans ho15 fun y hy=>.inr (gD1 y hy)
 refine gO2 h45 zz ?_
 refine hnext2 _ w15 ⟨i+1,D1++[ephV s x],f15,?_,by omega,o15,?_,?_,by simp;omega,yes ⟨b1,b2,b3⟩⟩ ?_
 ·simp only[go_sem]
 ·simp only[go_sem];rw[lla,ints_append];exact hs15
 ·intro y hy
  rcases hf15 with e|e<;>rw[e]at hy
  ·exact gD1 y hy
  ·simp only[lms]at hy;omega
 ·exact up_lt h45
end
section
set_option maxRecDepth 8000
variable {hp:Addr} {s:HL} {x y:Int} {fh:List Nat} {R:Rt.MS} {w:World}
theorem mem_addNew {acc:List Int}:y∈Rt.addNew acc x↔y∈acc∨y=x:=by
 unfold Rt.addNew
 by_cases c:acc.contains x=true
 ·rw[if_pos c]
  exact⟨.inl,fun h=>h.elim id fun e=>e▸List.contains_iff_mem.1 c⟩
 ·rw[if_neg c,List.mem_append,lms]
theorem mem_foldAdd: ∀(l acc:List Int) (y:Int),y∈l.foldl Rt.addNew acc↔y∈acc∨y∈l
 | [],acc,y=>by simp
 |x::l,acc,y=>by rw[List.foldl_cons,mem_foldAdd l,mem_addNew,List.mem_cons,or_assoc]
theorem filled_val {p:Rt.PT×Int} (h:p∈Rt.filled R):p.2∈R.S∨p.2∈R.G∨p.2∈R.Q:=by
 have h1:=(List.mem_filter.1 h).1
 have h2:=(List.of_mem_zip (a:=p.1) (b:=p.2) h1).2
 unfold Rt.MS.V at h2
 simp only[List.mem_append]at h2
 exact h2.elim (fun h=>h.elim .inl fun h=>.inr (.inl h)) fun h=>.inr (.inr h)
theorem leads_val (h:y∈Rt.leadsO (some R)):y∈R.S∨y∈R.G∨y∈R.Q:=by
 unfold Rt.leadsO at h
 rw[mem_foldAdd]at h
 rcases h with h|h
 ·cases h
 ·obtain⟨p,hp,rfl⟩:=List.mem_map.1 h
  exact filled_val hp
theorem leads_ph {P:Int→Prop} (h:RtP P R) (hy:y∈Rt.leadsO (some R)):P y:=by
 rcases leads_val hy with h1|h1|h1
 ·exact h.1 y h1
 ·exact h.2.1 y h1
 ·exact h.2.2 y h1
theorem cWrong {q:Nat} {m:HO} (hq:At w q [.pointer (some hp)]) (h:HR w (some hp) fh m) (x:Int) (hx:x≤4611686018427387904):
  Cs Tryz.prog 177 [.int .i64 x,.pointer (some ⟨q,0,none⟩)] w fun v w'=>v=.bool (x !=0&&!hasO m x)∧Only [] w w':=by
 refine enter_sound_Is_1 rfl ?_
 unfold x_sound_Is_1
 by_cases c:x=0
 ·refine gO1 (bnf c) ?_
  exact⟨by rw[Bool.false_and],Only.refl _ _⟩
 ·refine gO2 (bnt c) hq.cell ?_
  refine callT (hHas h x hx) ?_
  rintro _ w2 ⟨rfl,ho⟩
  refine gO ?_
  exact⟨by rw[Bool.true_and],ho⟩
theorem wrong_no (hs:s.Ok) (h:PhP true s x):(x !=0&&!hasO (some s) x)=false:=by
 rcases h with rfl|⟨_,h⟩
 ·rfl
 ·rw[(has_iff hs).2 h];simp
theorem PhP.le {ph:Bool} (hs:s.Ok) (h:PhP ph s x):0≤x∧x≤4096:=by
 rcases h with rfl|⟨_,h⟩
 ·omega
 ·exact h.le hs
theorem Snd.ref (h:Snd true s R) {k j:Nat} (hk:s.st.getD k 0=1) (hj:j<(s.obAt k).rf.length):PhP true s (s.RF k j):=by
 refine h.1 (s.obAt k) (by simp only[HL.abs,List.mem_map];exact⟨k,mem_objs.2 hk,rfl⟩) _ ?_
 unfold HL.RF;simp[hj]
theorem cSoundIs {ar:Option Addr} {fr:List Nat} (hr:HR w (some hp) fh (some s)) (hs:s.Ok) (hR:Rt.PR w ar fr (some R)) (hsn:Snd true s R) (h40:s.objs.length≤2000) (hll:(Rt.leadsO (some R)).length≤1000):
  Cs Tryz.prog 93 [.pointer (some hp),.pointer ar] w fun v w'=>v=.bool true∧Only [] w w':=by
 refine enter_sound_Is rfl ?_
 unfold x_sound_Is
 refine gO ?_
 refine boxT fun q w1 hq hs1 hat1 ho1=>?_
 refine gO ?_
 refine callT (Rt.Leads_m (hR.keep0 ho1)) ?_
 rintro v w2 ⟨ho2,fl,hl2,_⟩
 obtain⟨l,hle⟩: ∃l,l=Rt.leadsO (some R):=⟨_,rfl⟩
 rw[←hle]at hl2 hll
 obtain⟨al,cl,rfl⟩:=hl2.val
 have o2:=ho1.nil ho2
 have hq2:=hat1.keep0 ho2
 have hlp: ∀x,x∈l→PhP true s x:=fun x hx=>leads_ph hsn.2 (by rw[←hle];exact hx)
 refine gO ?_
 refine callT (containsFunc (p:=fun x=>x !=0&&!hasO (some s) x) (F:=177) (caps:=#[.pointer (some ⟨q,0,none⟩)]) (fun hne=>?_) (by kernel_rfl) hll fun w' x ho hx=>?_) ?_
 ·obtain⟨g,cap',ys,e,hat,_⟩:=hl2.pos (by have:=List.length_pos_iff.2 hne;omega)
  cases e
  exact⟨g,ys,rfl,hat⟩
 ·exact cWrong (hq2.keep0 ho) (hr.keep0 (o2.nil ho)) x (by have:=(hlp x hx).le hs;omega)
 rintro _ w3 ⟨rfl,ho3⟩
 have hany:(l.any fun x=>x !=0&&!hasO (some s) x)=false:=List.any_eq_false.2 fun x hx=>by rw[wrong_no hs (hlp x hx)];simp
 rw[hany]
 have o3:=o2.nil ho3
 have hq3:=hq2.keep0 ho3
 refine gO1 hq3.cell ?_
 refine callT (hAll (hr.keep0 o3)) ?_
 rintro v w4 ⟨ho4,fA,hA,_⟩
 obtain⟨A,hAe⟩: ∃A,A=allH (some s):=⟨_,rfl⟩
 rw[←hAe]at hA
 have hAl:A.length≤2000:=by rw[hAe,allH_len];exact h40
 obtain⟨aA,cA,rfl⟩:=hA.val
 have o4:=o3.nil ho4
 have hq4:=hq3.keep0 ho4
 refine gO ?_
 refine run_loop (7::8::9::10::11::12::21::22::23::24::25::26::27::28::29::30::31::32::33::34::35::36::37::38::39::40::41::42::43::44::45::46::47::[]) (fun g w'=> ∃i:Nat,g 21=.int .i64 (i:Int)∧i≤A.length∧Only [] w4 w') (fun g _=>upTo A.length 21 g) ⟨0,by simp only[go_sem];rfl,by omega,Only.refl _ _⟩ fun g w5 hI hnext=>?_
 obtain⟨i,h21,hi,ho5⟩:=hI
 by_cases c1:i<A.length
 rotate_left
 ·refine gO2 h21 (dfl (show¬(i:Int)<(A.length:Int) by omega)) ?_
  exact o4.nil ho5
 obtain⟨gl,_,yl,el,hatl,_,_⟩:=(hA.keep0 ho5).pos (by omega)
 cases el
 have ci:(0:Int)≤(i:Int)∧(i:Int)<(A.length:Int):=by omega
 have vr:w5.cell? ⟨gl,i,none⟩=some (.int .i64 (A.getD i 0)):=by rw[hatl.cell];exact ints_append_get yl (by omega)
 obtain⟨k,hke,hk⟩:Liv s (A.getD i 0):=allH_mem.1 (by rw[←hAe];simp[c1])
 rw[hke]at vr
 have h2k:=live_le hs hk
 have hq5:=hq4.keep0 ho5
 have o5:=o4.nil ho5
 refine gJ5 h21 (dtr ci.2) (eq_true ci) vr hq5.cell ?_
 refine callT (hShape (hr.keep0 o5) ((2*k:Nat):Int) (by omega)) ?_
 rintro _ w6 ⟨rfl,ho6⟩
 rw[at_shape hs hk]
 refine gO ?_
 refine boxT fun q8 w7 hq8 hs7 hat7 ho7=>?_
 refine gO ?_
 refine stNT (cs:=shV (s.obAt k).sh) hat7 rfl (by simp[shV]) (shV_one _) fun w8 hs8 hat8 ho8=>?_
 rw[setL_sh]at hat8
 have o58:Only [] w5 w8:=ho6.nil (ho7.trans ho8 fun y hy=>by simp only[lms]at hy;subst hy;exact .inr (by omega))
 have hl1:=(obAt_len hs hk).1
 have h80:w8.cell? ⟨q8,0,none⟩=some (.int .i64 ((s.obAt k).rf.length:Int)):=by rw[hat8.cell,hl1];rfl
 have rl:=rf_le hs hk
 have hq8':=hq5.keep0 o58
 refine gO1 h80 ?_
 refine run_loop (10::11::12::33::34::35::36::37::38::39::40::41::42::43::44::45::46::[]) (fun g w'=> ∃j:Nat,g 33=.int .i64 (j:Int)∧j≤(s.obAt k).rf.length∧Only [] w8 w') (fun g _=>upTo (s.obAt k).rf.length 33 g) ⟨0,by simp only[go_sem];rfl,by omega,Only.refl _ _⟩ fun g2 w9 hJ hnext2=>?_
 obtain⟨j,h33,hj,ho9⟩:=hJ
 have o9:=o5.nil (o58.nil ho9)
 by_cases c2:j<(s.obAt k).rf.length
 rotate_left
 ·refine gO4 h21 h33 (dfl (show¬(j:Int)<((s.obAt k).rf.length:Int) by omega)) (i64_succ i (by omega)) ?_
  refine hnext _ w9 ⟨i+1,?_,by omega,ho5.nil (o58.nil ho9)⟩ ?_
  ·simp only[go_sem]
  ·exact up_lt h21
 have hq9:=hq8'.keep0 ho9
 refine gO3 h33 (dtr (show(j:Int)<((s.obAt k).rf.length:Int) by omega)) hq9.cell ?_
 refine callT (hRef (hr.keep0 o9) ((2*k:Nat):Int) (j:Int) (by omega)) ?_
 rintro _ w10 ⟨rfl,ho10⟩
 rw[at_ref hs hk c2]
 have hph:=hsn.ref hk c2
 refine gO ?_
 refine callVT (callVals_f 177 #[] [.int .i64 ((s.obAt k).rf.getD j 0)] #[.pointer (some ⟨q,0,none⟩)]) (by kernel_rfl) (cWrong (hq9.keep0 ho10) (hr.keep0 (o9.nil ho10)) ((s.obAt k).rf.getD j 0) (by have:=hph.le hs;unfold HL.RF at this;omega)) ?_
 rintro _ w11 ⟨rfl,ho11⟩
 have hwn:=wrong_no hs hph
 unfold HL.RF at hwn
 rw[hwn]
 refine gO2 h33 (i64_succ j (by omega)) ?_
 refine hnext2 _ w11 ⟨j+1,?_,by omega,(ho9.nil ho10).nil ho11⟩ ?_
 ·simp only[go_sem]
 ·exact up_lt h33
end
end Go.Proofs.YteiildhelefodaaGreat
