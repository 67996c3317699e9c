/- The law FinalSaved: whatever comes in, it returns true, and what came in reads as it did. -/
import Derived.Test.YteiildhelefodaaGreatZPk4
import Derived.Test.YteiildhelefodaaGreatZCode
import Derived.Test.YteiildhelefodaaGreatZCodeD
import Derived.ProofKit
import Derived.Deep.Slices
import Derived.Lib.SmallJoins
import Derived.Test.YteiildhelefodaaGreatRows
import Derived.OpenShut
import Derived.Deep.Strs
set_option linter.unusedSimpArgs false
set_option linter.unusedVariables false
namespace Go.Proofs.YteiildhelefodaaGreat
set_option maxRecDepth 100000
section
set_option maxRecDepth 8000
variable {s:HL} {j x:Int} {fp fr:List Nat} {b cp gr n:Nat} {o o':Ob} {ar:Option Addr} {R:Rt.MS} {d d' p1 vK:Value} {w:World}
theorem idA_none (h:hasO (some s) x=false):idA s x=0:=by
 have e:objE (some s) x=4:=by unfold objE;rw[h];rfl
 unfold idA identO
 simp only[e]
 rfl
theorem idA_zero (hi:s.Inv):idA s 0=0:=by
 refine idA_none ?_
 cases h:hasO (some s) 0 with
 |false=>rfl
 |true=>exact absurd rfl (liv_ne0 hi ((has_liv hi.ok).1 h))
theorem FMs.see9 {i n0 cv:Nat} {av:Option Addr} {vB vF:Value} {fB fO fF:List Nat} {L:List OM} (h:FMs w b s.abs vB (.slice av n0 cv) vF fB fO fF L) (hi:i<s.objs.length):
  ∃g r cp gr d cd gd,av=some ⟨g,0,none⟩∧g<w.heap.size∧(0<(s.obAt (s.objs.getD i 0)).rf.length→r=some ⟨gr,0,none⟩)∧(0<(s.obAt (s.objs.getD i 0)).dt.length→d=some ⟨gd,0,none⟩)∧ ∀w',Only [] w w'→
   cellsAt w' ⟨g,i*8,none⟩ 8=some (obV (s.obAt (s.objs.getD i 0)) (.slice r (s.obAt (s.objs.getD i 0)).rf.length cp) (.slice d (s.obAt (s.objs.getD i 0)).dt.length cd))∧
   (∀j,j<8→w'.cell? ⟨g,i*8+j,none⟩=(obV (s.obAt (s.objs.getD i 0)) (.slice r (s.obAt (s.objs.getD i 0)).rf.length cp) (.slice d (s.obAt (s.objs.getD i 0)).dt.length cd))[j]?)∧
   (∀j,j<(s.obAt (s.objs.getD i 0)).rf.length→w'.cell? ⟨gr,j,none⟩=some (.int .i64 (s.RF (s.objs.getD i 0) j)))∧
   ∀j,j<(s.obAt (s.objs.getD i 0)).dt.length→w'.cell? ⟨gd,j,none⟩=some (.int .i64 ((s.obAt (s.objs.getD i 0)).dt.getD j 0)):=by
 obtain⟨lc,rc⟩:=h.ob (s0:=s) rfl
 obtain⟨oc,mc⟩:=rc i hi
 obtain⟨gc,cc',yc,ec,rowc,_,_⟩:=h.row (by omega)
 cases ec
 have okc:=h.om _ mc
 have okr:=okc.r
 have okd:=okc.d
 rw[oc]at okr okd
 have hcl: ∀w',Only [] w w'→cellsAt w' ⟨gc,i*8,none⟩ 8=some (obV (s.obAt (s.objs.getD i 0)) (L.getD i default).vr (L.getD i default).vd):=fun w' ho=>by
  rw[cellsAt_at (rowc.keep0 ho) (i*8) 8 (by rw[lla,omV_len];omega),omV_at yc (by omega)]
  unfold OM.V
  rw[oc]
 have hcj: ∀w',Only [] w w'→ ∀j,j<8→w'.cell? ⟨gc,i*8+j,none⟩=(obV (s.obAt (s.objs.getD i 0)) (L.getD i default).vr (L.getD i default).vd)[j]? :=fun w' ho j hj=>by
  rw[(rowc.keep0 ho).cell,omV_cell yc (by omega) hj]
  unfold OM.V
  rw[oc]
 generalize (L.getD i default).vr=vr at*
 generalize (L.getD i default).vd=vd at*
 obtain⟨cr,ccp,rfl⟩:=okr.val
 obtain⟨cd,cdp,rfl⟩:=okd.val
 have hr: ∃gr,(0<(s.obAt (s.objs.getD i 0)).rf.length→cr=some ⟨gr,0,none⟩)∧ ∀w',Only [] w w'→ ∀j,j<(s.obAt (s.objs.getD i 0)).rf.length→w'.cell? ⟨gr,j,none⟩=some (.int .i64 (s.RF (s.objs.getD i 0) j)):=by
  by_cases hz:0<(s.obAt (s.objs.getD i 0)).rf.length
  ·obtain⟨gr,cap1,y1,er1,atr1,_,_⟩:=okr.pos hz
   obtain rfl:cr=some ⟨gr,0,none⟩:=by cases er1;rfl
   exact⟨gr,fun _=>rfl,fun w' ho j hj=>by rw[(atr1.keep0 ho).cell];exact ints_append_get y1 hj⟩
  ·exact⟨0,fun h=>absurd h hz,fun w' ho j hj=>absurd hj (by omega)⟩
 have hd: ∃gd,(0<(s.obAt (s.objs.getD i 0)).dt.length→cd=some ⟨gd,0,none⟩)∧ ∀w',Only [] w w'→ ∀j,j<(s.obAt (s.objs.getD i 0)).dt.length→w'.cell? ⟨gd,j,none⟩=some (.int .i64 ((s.obAt (s.objs.getD i 0)).dt.getD j 0)):=by
  by_cases hz:0<(s.obAt (s.objs.getD i 0)).dt.length
  ·obtain⟨gd,cap1,y1,er1,atr1,_,_⟩:=okd.pos hz
   obtain rfl:cd=some ⟨gd,0,none⟩:=by cases er1;rfl
   exact⟨gd,fun _=>rfl,fun w' ho j hj=>by rw[(atr1.keep0 ho).cell];exact ints_append_get y1 hj⟩
  ·exact⟨0,fun h=>absurd h hz,fun w' ho j hj=>absurd hj (by omega)⟩
 obtain⟨gr,r1,r2⟩:=hr
 obtain⟨gd,d1,d2⟩:=hd
 exact⟨gc,cr,ccp,gr,cd,cdp,gd,rfl,rowc.lt,r1,d1,fun w' ho=>⟨hcl w' ho,hcj w' ho,r2 w' ho,d2 w' ho⟩⟩
theorem fIdentR (hi:s.Inv) (h:FM w b s.abs fp) (x:Int):Cs Tryz.prog 193 [.pointer (some ⟨b,0,none⟩),.int .i64 x] w fun v w'=>v=.tuple #[.int .i64 (idA s x),.int .i64 (objE (some s) x)]∧Only [] w w':=by
 obtain⟨_,vO,_,_,_,_,L,hfpe,hm⟩:=id h
 obtain⟨lL,_⟩:=hm.ob (s0:=s) rfl
 obtain⟨av,cv,rfl⟩:=hm.valO
 refine enter_ref02_Heap_Ident rfl ?_
 unfold x_ref02_Heap_Ident
 refine gO ?_
 refine callT0 (fLacks h x) ?_
 rw[abs_lacks hi.ok]
 cases hh:hasO (some s) x with
 |false=>
  have e:objE (some s) x=4:=by unfold objE;rw[hh];rfl
  rw[e,idA_none hh]
  refine gO1 (bnt (show¬(4:Int)=0 by omega)) ?_
  exact Only.refl _ _
 |true=>
  have e:objE (some s) x=0:=by unfold objE;rw[hh];rfl
  obtain⟨k,rfl,hk⟩:=(has_liv hi.ok).1 hh
  have e2:idA s ((2*k:Nat):Int)=(s.obAt k).id:=by unfold idA;rw[at_ident hi.ok hk]
  obtain⟨q',hq',hqe⟩:=objs_index hk
  obtain⟨gc,cr,cp,gr,d,cd,gd,e1,glt,_,_,see⟩:=hm.see9 hq'
  cases e1
  rw[hqe]at see
  have od:=Only.drew [] w
  obtain⟨_,sj,_,_⟩:=see _ od
  have c1:w.drew.cell? ⟨gc,q'*8+1,none⟩=some (.int .i64 (s.obAt k).id):=sj 1 (by omega)
  have cq:(0:Int)≤(q':Int)∧(q':Int)<(L.length:Int):=by omega
  have hbc:=(hm.keep0 od).hb.cell
  rw[e,e2]
  refine gO1 (bnf (rfl:(0:Int)=0)) ?_
  refine run_drt [b,gc] ?_
  have sb0:SB [b,gc] w.drew w.drew:=SB.refl _ _
  refine gO1 hbc ?_
  refine callS0 (fIndex (h.keep0 od) ((2*k:Nat):Int)) (.inr sb0) ?_
  rw[abs_ix hq' hqe]
  (repeat(first|with_reducible(first|refine nx ?_|refine r_6 rfl ?_)|simp only[go_sem,show ixI (some q')=(q':Int)from rfl,if_pos cq,tnc,c1]))
  exact od
theorem cIdent (hi:s.Inv) (h:FM w b s.abs fp) (x:Int):Cs Tryz.prog 111 [.pointer (some ⟨b,0,none⟩),.int .i64 x] w fun v w'=>v=.int .i64 (idA s x)∧Only [] w w':=by
 refine enter_ref12_ident rfl ?_
 unfold x_ref12_ident
 refine gO ?_
 refine callT1 (fIdentR hi h x) fun w1 ho1=>?_
 refine gO ?_
 exact ho1
theorem cMay0 {p2:Value} {r':Value} {K:List Int} {fK:List Nat} (hj:j=0) (hk:o.sh.2.2=1∨o.sh.2.2=2) (hn:0<n) (hc: ∀w',Only [] w w'→w'.cell? ⟨gr,0,none⟩=some (.int .i64 x)) (hK:RdB w fK vK K) (hl:K.length≤100000) (hx:x∉K):
  Cs Tryz.prog 112 [p1,p2,.agg ⟨obV o (.slice (some ⟨gr,0,none⟩) n cp) d⟩,.agg ⟨obV o' r' d'⟩,.int .i64 j,vK] w fun v w'=>v=.bool true∧Only [] w w':=by
 refine enter_ref12_may rfl ?_
 unfold x_ref12_may
 refine gO ?_
 refine boxT fun q1 w1 hq1 hs1 hat1 ho1=>?_
 refine gO ?_
 refine boxT fun q2 w2 hq2 hs2 hat2 ho2=>?_
 have o2:=ho1.nil ho2
 have c4:w2.cell? ⟨q1,4,none⟩=some (.int .i64 o.sh.2.2):=by rw[(hat1.keep0 ho2).cell];rfl
 have c5:w2.cell? ⟨q1,5,none⟩=some (.slice (some ⟨gr,0,none⟩) n cp):=by rw[(hat1.keep0 ho2).cell];rfl
 have cr:=hc w2 o2
 have i1:(0:Int)≤0∧(0:Int)<(n:Int):=by omega
 have hno:K.contains x=false:=by rw[←Bool.not_eq_true,List.contains_iff_mem];exact hx
 have hh:=hHas12 (hK.keep o2 fun z _=>by simp) hl x
 rw[hno]at hh
 rcases hk with hk|hk
 ·rw[hk]at c4
  (repeat(first|with_reducible(first|refine nx ?_|refine r_6 rfl ?_)|simp only[go_sem,bqt hj,c4,bqt (rfl:(1:Int)=1),c5,if_pos i1,if_pos i1.2,show Int.toNat 0*1=0 from rfl,cr]))
  refine callT0 hh ?_
  refine gO ?_
  exact o2
 ·rw[hk]at c4
  (repeat(first|with_reducible(first|refine nx ?_|refine r_6 rfl ?_)|simp only[go_sem,bqt hj,c4,bqf (show¬(2:Int)=1 by omega),bqt (rfl:(2:Int)=2),c5,if_pos i1,if_pos i1.2,show Int.toNat 0*1=0 from rfl,cr]))
  refine callT0 hh ?_
  refine gO ?_
  exact o2
theorem cMay1 {r:Value} (hj:j=1) (hi:s.Inv) (h:FM w b s.abs fp) (hk:o.sh.2.2=2) (hn:0<n) (hc: ∀w',Only [] w w'→w'.cell? ⟨gr,0,none⟩=some (.int .i64 0)):
  Cs Tryz.prog 112 [p1,.pointer (some ⟨b,0,none⟩),.agg ⟨obV o r d⟩,.agg ⟨obV o' (.slice (some ⟨gr,0,none⟩) n cp) d'⟩,.int .i64 j,vK] w fun v w'=>v=.bool true∧Only [] w w':=by
 refine enter_ref12_may rfl ?_
 unfold x_ref12_may
 refine gO ?_
 refine boxT fun q1 w1 hq1 hs1 hat1 ho1=>?_
 refine gO ?_
 refine boxT fun q2 w2 hq2 hs2 hat2 ho2=>?_
 have o2:=ho1.nil ho2
 have c4:w2.cell? ⟨q1,4,none⟩=some (.int .i64 2):=by rw[(hat1.keep0 ho2).cell,←hk];rfl
 have c5:w2.cell? ⟨q2,5,none⟩=some (.slice (some ⟨gr,0,none⟩) n cp):=by rw[hat2.cell];rfl
 have cr:=hc w2 o2
 have i1:(0:Int)≤0∧(0:Int)<(n:Int):=by omega
 (repeat(first|with_reducible(first|refine nx ?_|refine r_6 rfl ?_)|simp only[go_sem,bqf (show¬j=0 by omega),bqt hj,c4,bqt (rfl:(2:Int)=2),c5,if_pos i1,if_pos i1.2,show Int.toNat 0*1=0 from rfl,cr]))
 refine callT1 (cIdent hi (h.keep0 o2) 0) fun w3 ho3=>?_
 rw[idA_zero hi]
 refine gO1 (bqt (rfl:(0:Int)=0)) ?_
 exact o2.nil ho3
theorem leads_has (hi:s.Inv) (hsn:Snd true s R) (hx:x∈Rt.leadsO (some R)) (h0:x≠0):s.abs.has x=true:=by
 rw[abs_has hi.ok]
 exact(has_liv hi.ok).2 ((leads_ph hsn.2 hx).resolve_left h0).2
theorem leads_ne0 (hx:x∈Rt.leadsO (some R)):x≠0:=by
 have h:x∈((Rt.filled R).map (·.2)).foldl Rt.addNew []:=hx
 rw[mem_foldAdd]at h
 rcases h with h|h
 ·cases h
 ·obtain⟨p,hp,rfl⟩:=List.mem_map.1 h
  have:=(List.mem_filter.1 hp).2
  simpa using this
set_option maxHeartbeats 1000000 in
theorem cSound7 (hi:s.Inv) (hsn:Snd true s R) (hn:s.objs.length≤5000) (hll:(Rt.leadsO (some R)).length≤5000) (h:FM w b s.abs fp) (hr:Rt.RR w ar fr (some R)):
  Cs Tryz.prog 115 [.pointer (some ⟨b,0,none⟩),.pointer ar] w fun v w'=>v=.bool true∧Only [] w w':=by
 obtain⟨_,vO,_,_,_,_,L,hfpe,hm⟩:=id h
 obtain⟨lL,_⟩:=hm.ob (s0:=s) rfl
 obtain⟨av,cv,rfl⟩:=hm.valO
 refine enter_ref07_Sound rfl ?_
 unfold x_ref07_Sound
 refine gO ?_
 refine callT (Rt.rLeads hr) ?_
 rintro vl w1 ⟨ho1,f1,hs1,g1⟩
 have hin: ∀x,x∈Rt.leadsO (some R)→s.abs.has x=true:=fun x hx=>leads_has hi hsn hx (leads_ne0 hx)
 generalize Rt.leadsO (some R)=l at hs1 hin hll
 obtain⟨al,cl,rfl⟩:=hs1.val
 have hget: ∀i:Nat,i<l.length→ ∃g,al=some ⟨g,0,none⟩∧ ∀w',Only [] w1 w'→w'.cell? ⟨g,i,none⟩=some (.int .i64 (l.getD i 0)):=fun i hi=>by
  obtain⟨g,cap,ys,e,hat,_,_⟩:=hs1.pos (by omega)
  cases e
  exact⟨g,rfl,fun w' ho=>by rw[(hat.keep0 ho).cell];exact ints_append_get ys (by omega)⟩
 refine gO ?_
 refine run_loop (6::12::13::14::15::16::17::18::19::20::21::22::23::24::[]) (fun g w'=> ∃i:Nat,g 6=.int .i64 (i:Int)∧i≤l.length∧w'=w1) (fun g _=>upTo l.length 6 g)
  ⟨0,by simp only[go_sem];rfl,by omega,rfl⟩ fun g1 w2 hI hnext=>?_
 obtain⟨i,h6,hil,rfl⟩:=hI
 by_cases c1:i<l.length
 ·obtain⟨g,rfl,hc⟩:=hget i c1
  have ci:(0:Int)≤(i:Int)∧(i:Int)<(l.length:Int):=by omega
  have hh:=fHas (h.keep0 ho1) (l.getD i 0)
  rw[hin _ (by simp[c1])]at hh
  (repeat(first|with_reducible(first|refine nx ?_|refine r_6 rfl ?_)|simp only[go_sem,h6,dtr ci.2,if_pos ci,tnc,Nat.mul_one,hc w2 (Only.refl _ _)]))
  refine callT0 hh ?_
  refine gO2 h6 (i64_succ i (by omega)) ?_
  refine hnext _ w2 ⟨i+1,?_,by omega,rfl⟩ ?_
  ·simp only[go_sem]
  ·exact up_lt h6
 clear hnext
 have hb2:=(hm.keep0 ho1).hb.cell
 refine gO2 h6 (dfl (show¬(i:Int)<(l.length:Int) by omega)) ?_
 refine run_loop (7::8::9::25::26::27::28::29::30::31::32::33::34::35::36::37::38::39::40::41::42::43::44::45::46::47::48::49::50::51::52::53::54::55::56::57::58::59::60::61::62::63::64::65::[]) (fun g w'=> ∃q:Nat,g 7=.int .i64 (q:Int)∧q≤L.length∧w'=w2) (fun g _=>upTo L.length 7 g)
  ⟨0,by simp only[go_sem];rfl,by omega,rfl⟩ fun g2 w3 hI hnext=>?_
 obtain⟨q,h7,hql,rfl⟩:=hI
 by_cases c2:q<L.length
 rotate_left
 ·refine gO3 h7 hb2 (dfl (show¬(q:Int)<(L.length:Int) by omega)) ?_
  exact ho1
 have cq:(0:Int)≤(q:Int)∧(q:Int)<(L.length:Int):=by omega
 have hk:=mem_objs.1 (show s.objs.getD q 0∈s.objs by simp[show q<s.objs.length by omega])
 obtain⟨gc,cr,cp,gr,d,cd,gd,e1,glt,e2,_,see⟩:=hm.see9 (show q<s.objs.length by omega)
 cases e1
 generalize s.objs.getD q 0=k at hk e2 see
 obtain⟨_,sj,srf,_⟩:=see _ ho1
 have c5:w3.cell? ⟨gc,q*8+5,none⟩=some (.slice cr (s.obAt k).rf.length cp):=sj 5 (by omega)
 have rk15:=rf_le hi.ok hk
 refine gO3 h7 hb2 (dtr cq.2) ?_
 refine run_loop (8::9::34::35::36::37::38::39::40::41::42::43::44::45::46::47::48::49::50::51::52::53::54::55::56::57::58::59::60::61::62::63::64::65::[]) (fun g w'=> ∃j:Nat,g 8=.int .i64 (j:Int)∧j≤(s.obAt k).rf.length∧w'=w3) (fun g _=>upTo (s.obAt k).rf.length 8 g)
  ⟨0,by simp only[go_sem];rfl,by omega,rfl⟩ fun g3 w4 hI hnext2=>?_
 obtain⟨j,h8,hjl,rfl⟩:=hI
 by_cases c3:j<(s.obAt k).rf.length
 rotate_left
 ·refine gJ7 h8 h7 hb2 (eq_true cq) c5 (dfl (show¬(j:Int)<((s.obAt k).rf.length:Int) by omega)) (i64_succ q (by omega)) ?_
  refine hnext _ w4 ⟨q+1,?_,by omega,rfl⟩ ?_
  ·simp only[go_sem]
  ·exact up_lt h7
 have cj:(0:Int)≤(j:Int)∧(j:Int)<((s.obAt k).rf.length:Int):=by omega
 obtain rfl:=e2 (by omega)
 have tj:=srf j c3
 have z1:=i64_succ j (by omega)
 by_cases c0:s.RF k j=0
 ·(repeat(first|with_reducible(first|refine nx ?_|refine r_6 rfl ?_)|simp only[go_sem,h8,h7,hb2,if_pos cq,if_pos cj,tnc,Nat.mul_one,c5,dtr cj.2,tj,bnf c0,z1]))
  refine hnext2 _ w4 ⟨j+1,?_,by omega,rfl⟩ ?_
  ·simp only[go_sem]
  ·exact up_lt h8
 ·have hh:=fHas (h.keep0 ho1) (s.RF k j)
  rw[abs_has hi.ok,(has_liv hi.ok).2 ((hsn.ref hk c3).resolve_left c0).2]at hh
  (repeat(first|with_reducible(first|refine nx ?_|refine r_6 rfl ?_)|simp only[go_sem,h8,h7,hb2,if_pos cq,if_pos cj,tnc,Nat.mul_one,c5,dtr cj.2,tj,bnt c0]))
  refine callT0 hh ?_
  refine gO2 h8 z1 ?_
  refine hnext2 _ w4 ⟨j+1,?_,by omega,rfl⟩ ?_
  ·simp only[go_sem]
  ·exact up_lt h8
theorem cSound (hi:s.Inv) (hsn:Snd true s R) (hn:s.objs.length≤5000) (hll:(Rt.leadsO (some R)).length≤5000) (h:FM w b s.abs fp) (hr:Rt.RR w ar fr (some R)):
  Cs Tryz.prog 37 [.pointer (some ⟨b,0,none⟩),.pointer ar] w fun v w'=>v=.bool true∧Only [] w w':=by
 refine enter_ref12_Sound rfl ?_
 unfold x_ref12_Sound
 refine gO ?_
 refine callT1 (cSound7 hi hsn hn hll h hr) fun w1 ho1=>?_
 refine gO ?_
 exact ho1
end
section
variable {s:HL} {k:Nat}
structure Kpr (s s':HL) (K:List Int):Prop where
 liv: ∀x,x∈K→Liv s' x
 id: ∀x,x∈K→idA s' x=idA s x
 ob: ∀i,((2*i:Nat):Int)∈K→(s'.obAt i).sh=(s.obAt i).sh∧(s'.obAt i).dt=(s.obAt i).dt∧(s'.obAt i).rf.length=(s.obAt i).rf.length
 rf: ∀i j,((2*i:Nat):Int)∈K→j<(s.obAt i).rf.length→idA s (s.RF i j)=idA s' (s'.RF i j)∨(s'.RF i j=0∧((j=0∧((s.obAt i).sh.2.2=1∨(s.obAt i).sh.2.2=2)∧s.RF i 0∉K)∨(j=1∧(s.obAt i).sh.2.2=2∧s'.RF i 0=0)))
theorem adE_at (hi:s.Inv) (hk:s.st.getD k 0=1):adE s (s.obAt k).id=(((2*k:Nat):Int),0):=by
 have:=hi.pm.a _ hk
 unfold adE adO
 rw[show(s.obAt k).id=s.W.getD (2*k) 0 from rfl,this]
theorem ob_id (hi:s.Inv) (hk:s.st.getD k 0=1):idA s ((2*k:Nat):Int)=(s.obAt k).id:=by
 unfold idA;rw[at_ident hi.ok hk]
theorem obV_one {o:Ob} {r d:Value} (hr:oneC r=true) (hd:oneC d=true): ∀u,u∈obV o r d→oneC u=true:=by
 intro u hu
 simp only[obV,List.mem_cons,List.not_mem_nil,or_false]at hu
 rcases hu with rfl|rfl|rfl|rfl|rfl|rfl|rfl|rfl<;>first|rfl|exact hr|exact hd
theorem sh_same (sh:Sh):eqAO true 3 (.agg ⟨shV sh⟩) (.agg ⟨shV sh⟩)=some (.bool false):=by
 unfold shV
 rw[eqAO_a true 3 _ _ rfl rfl]
 simp[eqCells_cons,eqCells_nil,notO_some]
set_option maxHeartbeats 4000000 in
theorem cLost {w:World} {b b':Nat} {ar ar':Option Addr} {s':HL} {R R':Rt.MS} {fp fp' fr fr':List Nat} (hi:s.Inv) (hi':s'.Inv) (hn:s.objs.length≤2000) (hll:(Rt.leadsO (some R)).length≤5000) (hRok:R.Ok)
  (h1:FM w b s.abs fp) (hr1:Rt.RR w ar fr (some R)) (h2:FM w b' s'.abs fp') (hr2:Rt.RR w ar' fr' (some R')) (hkp: ∀K,KptT s true (Rt.leadsO (some R)) K→Kpr s s' K)
  (hpl: ∀p,(Rt.getO (some R) p).1=0∨(Rt.getO (some R') p=((Rt.getO (some R) p).1,0)∧idA s' (Rt.getO (some R) p).1=idA s (Rt.getO (some R) p).1)):
  Cs Tryz.prog 36 [.pointer (some ⟨b,0,none⟩),.pointer ar,.pointer (some ⟨b',0,none⟩),.pointer ar'] w fun v w'=>Only [] w w'∧ ∃a c,v=.tuple #[.slice a 0 c,.int .i64 0]:=by
 obtain⟨_,vO,_,_,_,_,L,hfpe,hm⟩:=id h1
 obtain⟨_,vO',_,_,_,_,L',hfpe',hm'⟩:=id h2
 obtain⟨lL,_⟩:=hm.ob (s0:=s) rfl
 obtain⟨lL',_⟩:=hm'.ob (s0:=s') rfl
 obtain⟨av,cv,rfl⟩:=hm.valO
 obtain⟨av',cv',rfl⟩:=hm'.valO
 refine enter_ref12_Lost rfl ?_
 unfold x_ref12_Lost
 refine gO ?_
 refine callT0 (fMade h1) ?_
 refine gO ?_
 refine callT0 (Rt.rmade hr1) ?_
 (repeat(first|with_reducible(first|refine nx ?_|refine r_6 rfl ?_)|simp only[go_sem,Option.isSome_some]))
 refine callT0 (fMade h2) ?_
 refine gO ?_
 refine callT0 (Rt.rmade hr2) ?_
 (repeat(first|with_reducible(first|refine nx ?_|refine r_6 rfl ?_)|simp only[go_sem,Option.isSome_some]))
 refine bslT fun qo w1 hqo hs1 hat1 ho1=>?_
 refine gO ?_
 refine callT (Rt.rLeads (hr1.keep0 ho1)) ?_
 rintro vl w2 ⟨ho2,f2,hs2,g2⟩
 refine gO ?_
 refine callT (cReach (tb:=true) hi hn ((h1.keep0 ho1).keep0 ho2) hs2 hll) ?_
 rintro vK w3 ⟨ho3,K,fK,hK,gK,kpt⟩
 have kp:=hkp K kpt
 have hKl:K.length≤2000:=Nat.le_trans (kpt.up.le_objs kpt.liv) hn
 have o3:=(ho1.nil ho2).nil ho3
 have hKlt:=hK.lt
 obtain⟨aK,cK,rfl⟩:=hK.val
 have hgetK: ∀i:Nat,i<K.length→ ∃g,aK=some ⟨g,0,none⟩∧g<w3.heap.size∧ ∀w',Only [] w3 w'→w'.cell? ⟨g,i,none⟩=some (.int .i64 (K.getD i 0)):=fun i hi=>by
  obtain⟨g,cap,ys,e,hat,_,_⟩:=hK.pos (by omega)
  cases e
  exact⟨g,rfl,hat.lt,fun w' ho=>by rw[(hat.keep0 ho).cell];exact ints_append_get ys (by omega)⟩
 refine gO ?_
 refine run_loop (12::13::14::15::16::17::18::19::20::51::52::53::54::55::56::57::58::59::60::61::62::63::64::65::66::67::68::69::70::71::72::73::74::75::76::77::78::79::80::81::82::83::84::85::86::87::88::89::90::91::92::93::94::95::96::97::98::99::100::101::102::103::104::105::106::107::108::109::110::111::112::113::114::115::116::117::118::119::120::121::122::123::124::125::126::127::128::129::130::131::132::133::134::135::136::137::138::139::140::141::142::143::144::145::146::147::148::149::150::151::152::153::154::155::156::157::158::159::160::161::162::163::164::165::166::167::168::169::170::171::172::173::174::[]) (fun g w'=> ∃i:Nat,g 12=.int .i64 (i:Int)∧i≤K.length∧Only [] w3 w') (fun g _=>upTo K.length 12 g)
  ⟨0,by simp only[go_sem];rfl,by omega,Only.refl _ _⟩ fun g1 w4 hI hnext=>?_
 obtain⟨i,h12,hil,ho4⟩:=hI
 have o4:=o3.nil ho4
 by_cases c1:i<K.length
 rotate_left
 ·clear hnext
  refine gO2 h12 (dfl (show¬(i:Int)<(K.length:Int) by omega)) ?_
  refine callT (Rt.rPlaces (hr1.keep0 o4)) ?_
  rintro vp w5 ⟨ho5,f5,hs5,g5⟩
  obtain⟨ap,cp,rfl⟩:=hs5.val
  have o5:=o4.nil ho5
  have hpl2:(Rt.placesO (some R)).length≤1000:=by
   have h1:=Rt.placesO_length hRok
   have h2:=Rt.idx_length (s:=R)
   have h3:=Rt.V_le hRok
   rw[Rt.V_length hRok]at h3
   omega
  generalize Rt.placesO (some R)=PL at hs5 hpl2
  refine gO ?_
  refine run_loop (22::23::24::25::26::27::177::178::179::180::181::182::183::184::185::186::187::188::189::190::191::192::193::194::195::196::197::198::199::200::201::202::203::204::205::206::207::208::209::210::211::212::213::214::215::216::217::218::219::[]) (fun g w'=> ∃i:Nat,g 22=.int .i64 (i:Int)∧i≤PL.length∧Only [] w5 w') (fun g _=>upTo PL.length 22 g)
   ⟨0,by simp only[go_sem];rfl,by omega,Only.refl _ _⟩ fun g2 w6 hI hnext=>?_
  obtain⟨t,h22,htl,ho6⟩:=hI
  have o6:=o5.nil ho6
  by_cases c2:t<PL.length
  rotate_left
  ·refine gO2 h22 (dfl (show¬(t:Int)<(PL.length:Int) by omega)) ?_
   exact⟨o6,_,_,rfl⟩
  have ct:(0:Int)≤(t:Int)∧(t:Int)<(PL.length:Int):=by omega
  have z1:=i64_succ t (by omega)
  obtain⟨gp,cpp,ep,hcp,_⟩:=hs5.place c2
  cases ep
  have hcp': ∀w',Only [] w5 w'→cellsAt w' ⟨gp,t*3,none⟩ 3=some (Rt.plV (PL.getD t (0,0,0))):=fun w' o=>by
   obtain⟨gp',cpp',ep',hcp',_⟩:=(hs5.keep0 o).place c2
   cases ep'
   exact hcp'
  generalize PL.getD t (0,0,0)=p at hcp hcp'
  (repeat(first|with_reducible(first|refine nx ?_|refine r_6 rfl ?_)|simp only[go_sem,h22,dtr ct.2,if_pos ct,tnc,hcp' w6 ho6]))
  refine callT1 (Rt.rGet (hr1.keep0 o6) p) fun w7 ho7=>?_
  have o7:=o6.nil ho7
  refine gO ?_
  refine callT1 (cIdent hi (h1.keep0 o7) (Rt.getO (some R) p).1) fun w8 ho8=>?_
  have o8:=o7.nil ho8
  have o58:=(ho6.nil ho7).nil ho8
  by_cases c3:idA s (Rt.getO (some R) p).1=0
  ·refine gO3 h22 (bqt c3) z1 ?_
   refine hnext _ w8 ⟨t+1,?_,by omega,o58⟩ ?_
   ·simp only[go_sem]
   ·exact up_lt h22
  ·obtain⟨e1,e2⟩:=(hpl p).resolve_left fun e=>c3 (by rw[e];exact idA_zero hi)
   have hg2:=Rt.rGet (hr2.keep0 o8) p
   rw[e1]at hg2
   (repeat(first|with_reducible(first|refine nx ?_|refine r_6 rfl ?_)|simp only[go_sem,h22,bqf c3,if_pos ct,tnc,hcp' w8 o58]))
   refine callT1 hg2 fun w9 ho9=>?_
   have o9:=o8.nil ho9
   refine gO1 (bnf (rfl:(0:Int)=0)) ?_
   refine callT1 (cIdent hi' (h2.keep0 o9) (Rt.getO (some R) p).1) fun w10 ho10=>?_
   refine gO3 h22 (bnf e2) z1 ?_
   refine hnext _ w10 ⟨t+1,?_,by omega,(o58.nil ho9).nil ho10⟩ ?_
   ·simp only[go_sem]
   ·exact up_lt h22
 obtain⟨gk,rfl,gklt,hcK⟩:=hgetK i c1
 have ci:(0:Int)≤(i:Int)∧(i:Int)<(K.length:Int):=by omega
 have hKi:K.getD i 0∈K:=by simp[c1]
 obtain⟨k,hke,hk0⟩:=kpt.liv _ hKi
 rw[hke]at hKi
 have hk0':=live_at (kp.liv _ hKi)
 have hid:=kp.id _ hKi
 rw[ob_id hi hk0,ob_id hi' hk0']at hid
 obtain⟨esh,edt,erl⟩:=kp.ob k hKi
 have krf:=kp.rf k
 obtain⟨q',hq',hqe⟩:=objs_index hk0
 obtain⟨q2,hq2,hqe2⟩:=objs_index hk0'
 obtain⟨gc,cr,cp,gr,d,cd,gd,ea,gclt,er,ed,see⟩:=hm.see9 hq'
 cases ea
 obtain⟨gc',cr',cp',gr',d',cd',gd',ea',gclt',er',ed',see'⟩:=hm'.see9 hq2
 cases ea'
 rw[hqe]at er ed see
 rw[hqe2]at er' ed' see'
 have cq:(0:Int)≤(q':Int)∧(q':Int)<(L.length:Int):=by omega
 have cq2:(0:Int)≤(q2:Int)∧(q2:Int)<(L'.length:Int):=by omega
 have rk15:=rf_le hi.ok hk0
 have zs:w.heap.size≤w4.heap.size:=o4.size
 have zs3:w3.heap.size≤w4.heap.size:=ho4.size
 have z4:w4.drew.heap.size=w4.heap.size:=rfl
 have o4d:=o4.nil (Only.drew [] w4)
 have hbl:=(hm.keep0 o4d).hb.lt
 have hb1:=(hm.keep0 o4d).hb.cell
 obtain⟨s8,_,_,_⟩:=see _ o4d
 have hck:=hcK _ (ho4.nil (Only.drew [] w4))
 have z1:=i64_succ i (by omega)
 refine gO2 h12 (dtr ci.2) ?_
 refine run_cut (13::57::58::59::60::61::62::63::64::65::66::67::68::[]) (fun g w'=> ∃q,g 13=.pointer (some ⟨q,0,none⟩)∧At w' q (obV (s.obAt k) (.slice cr (s.obAt k).rf.length cp) (.slice d (s.obAt k).dt.length cd))∧w4.heap.size≤q∧Only [] w4 w') (fun kk hkk=>?_) (fun g5 w5 hJ=>?_)
 ·refine run_drt [b,gk,gc] ?_
  have ltz: ∀z,z∈[b,gk,gc]→z<w4.drew.heap.size∧z∉([]:List Nat):=fun z hz=>by
   refine⟨?_,by simp⟩
   simp only[List.mem_cons,List.not_mem_nil,or_false]at hz
   rcases hz with rfl|rfl|rfl
   ·exact hbl
   ·omega
   ·omega
  have sb0:SB [b,gk,gc] w4.drew w4.drew:=SB.refl _ _
  refine gJ4 h12 hb1 (eq_true ci) hck ?_
  refine⟨?_,?_⟩
  ·refine callS0 (fIndex (h1.keep0 o4d) (K.getD i 0)) (.inr sb0) ?_
   rw[hke,abs_ix hq' hqe]
   (repeat(first|with_reducible(first|refine nx ?_|refine r_6 rfl ?_)|simp only[go_sem,show ixI (some q')=(q':Int)from rfl,if_pos cq,tnc,s8]))
   refine boxS fun q w7 hq hs7 hat7 ho7=>⟨.inr (sb0.only ho7 ltz),?_⟩
   refine gO ?_
   refine stNS hat7 rfl (by simp) (obV_one rfl rfl) fun w8 hs8 hat8 ho8=>⟨.inl rfl,?_⟩
   refine gO ?_
   refine hkk _ w8 ⟨q,?_,hat8,by omega,((Only.drew [] w4).nil ho7).trans ho8 fun y hy=>by simp only[lms]at hy;exact .inr (by omega)⟩
   ·simp only[go_sem]
  ·refine boxS fun q w7 hq hs7 hat7 ho7=>⟨.inr (sb0.only ho7 ltz),?_⟩
   refine gO ?_
   refine callS0 (fIndex (h1.keep0 (o4d.nil ho7)) (K.getD i 0)) (.inr (sb0.only ho7 ltz)) ?_
   rw[hke,abs_ix hq' hqe]
   obtain⟨s7c,_,_,_⟩:=see _ (o4d.nil ho7)
   (repeat(first|with_reducible(first|refine nx ?_|refine r_6 rfl ?_)|simp only[go_sem,show ixI (some q')=(q':Int)from rfl,if_pos cq,tnc,s8,s7c]))
   refine stNS hat7 rfl (by simp) (obV_one rfl rfl) fun w8 hs8 hat8 ho8=>⟨.inl rfl,?_⟩
   refine gO ?_
   refine hkk _ w8 ⟨q,?_,hat8,by omega,((Only.drew [] w4).nil ho7).trans ho8 fun y hy=>by simp only[lms]at hy;exact .inr (by omega)⟩
   ·simp only[go_sem]
 obtain⟨q,h13,hatq,gq,ho5⟩:=hJ
 have o5:=o4.nil ho5
 have c1o:w5.cell? ⟨q,1,none⟩=some (.int .i64 (s.obAt k).id):=by rw[hatq.cell];rfl
 have hat:=fAt hi' (h2.keep0 o5) (s.obAt k).id
 rw[←hid,adE_at hi' hk0']at hat
 rw[←hid]at c1o
 refine gO2 h13 c1o ?_
 refine callT0 hat ?_
 refine gO1 (bnf (rfl:(0:Int)=0)) ?_
 have o5d:=o5.nil (Only.drew [] w5)
 have hbl2:=(hm'.keep0 o5d).hb.lt
 have hb2:=(hm'.keep0 o5d).hb.cell
 obtain⟨s8',_,_,_⟩:=see' _ o5d
 have zs5:w4.heap.size≤w5.heap.size:=ho5.size
 have z5:w5.drew.heap.size=w5.heap.size:=rfl
 refine run_cut (16::83::84::85::86::87::88::89::90::91::[]) (fun g w'=> ∃q6,g 16=.pointer (some ⟨q6,0,none⟩)∧At w' q6 (obV (s'.obAt k) (.slice cr' (s'.obAt k).rf.length cp') (.slice d' (s'.obAt k).dt.length cd'))∧w5.heap.size≤q6∧Only [] w5 w') (fun kk hkk=>?_) (fun g6 w6 hJ=>?_)
 ·refine run_drt [b',gc'] ?_
  have ltz: ∀z,z∈[b',gc']→z<w5.drew.heap.size∧z∉([]:List Nat):=fun z hz=>by
   refine⟨?_,by simp⟩
   simp only[List.mem_cons,List.not_mem_nil,or_false]at hz
   rcases hz with rfl|rfl
   ·exact hbl2
   ·omega
  have sb0:SB [b',gc'] w5.drew w5.drew:=SB.refl _ _
  refine gO1 hb2 ?_
  refine⟨?_,?_⟩
  ·refine callS0 (fIndex (h2.keep0 o5d) ((2*k:Nat):Int)) (.inr sb0) ?_
   rw[abs_ix hq2 hqe2]
   (repeat(first|with_reducible(first|refine nx ?_|refine r_6 rfl ?_)|simp only[go_sem,show ixI (some q2)=(q2:Int)from rfl,if_pos cq2,tnc,s8']))
   refine boxS fun q6 w7 hq hs7 hat7 ho7=>⟨.inr (sb0.only ho7 ltz),?_⟩
   refine gO ?_
   refine stNS hat7 rfl (by simp) (obV_one rfl rfl) fun w8 hs8 hat8 ho8=>⟨.inl rfl,?_⟩
   refine gO ?_
   refine hkk _ w8 ⟨q6,?_,hat8,by omega,((Only.drew [] w5).nil ho7).trans ho8 fun y hy=>by simp only[lms]at hy;exact .inr (by omega)⟩
   ·simp only[go_sem]
  ·refine boxS fun q6 w7 hq hs7 hat7 ho7=>⟨.inr (sb0.only ho7 ltz),?_⟩
   refine gO ?_
   refine callS0 (fIndex (h2.keep0 (o5d.nil ho7)) ((2*k:Nat):Int)) (.inr (sb0.only ho7 ltz)) ?_
   rw[abs_ix hq2 hqe2]
   obtain⟨s7c,_,_,_⟩:=see' _ (o5d.nil ho7)
   (repeat(first|with_reducible(first|refine nx ?_|refine r_6 rfl ?_)|simp only[go_sem,show ixI (some q2)=(q2:Int)from rfl,if_pos cq2,tnc,s8',s7c]))
   refine stNS hat7 rfl (by simp) (obV_one rfl rfl) fun w8 hs8 hat8 ho8=>⟨.inl rfl,?_⟩
   refine gO ?_
   refine hkk _ w8 ⟨q6,?_,hat8,by omega,((Only.drew [] w5).nil ho7).trans ho8 fun y hy=>by simp only[lms]at hy;exact .inr (by omega)⟩
   ·simp only[go_sem]
 obtain⟨q6,h16,hatq6,gq6,ho6⟩:=hJ
 have o6:=o5.nil ho6
 have c2o:cellsAt w6 ⟨q,2,none⟩ 3=some (shV (s.obAt k).sh):=by rw[cellsAt_at (hatq.keep0 ho6) 2 3 (by simp[obV])];rfl
 have c2n:cellsAt w6 ⟨q6,2,none⟩ 3=some (shV (s.obAt k).sh):=by rw[cellsAt_at hatq6 2 3 (by simp[obV]),←esh];rfl
 have a5: ∀w',Only [] w6 w'→w'.cell? ⟨q,5,none⟩=some (.slice cr (s.obAt k).rf.length cp):=fun w' o=>by rw[((hatq.keep0 ho6).keep0 o).cell];rfl
 have b5: ∀w',Only [] w6 w'→w'.cell? ⟨q6,5,none⟩=some (.slice cr' (s.obAt k).rf.length cp'):=fun w' o=>by rw[(hatq6.keep0 o).cell,←erl];rfl
 have a6: ∀w',Only [] w6 w'→w'.cell? ⟨q,6,none⟩=some (.slice d (s.obAt k).dt.length cd):=fun w' o=>by rw[((hatq.keep0 ho6).keep0 o).cell];rfl
 have b6: ∀w',Only [] w6 w'→w'.cell? ⟨q6,6,none⟩=some (.slice d' (s.obAt k).dt.length cd'):=fun w' o=>by rw[(hatq6.keep0 o).cell,←edt];rfl
 have a0: ∀w',Only [] w6 w'→cellsAt w' ⟨q,0,none⟩ 8=some (obV (s.obAt k) (.slice cr (s.obAt k).rf.length cp) (.slice d (s.obAt k).dt.length cd)):=fun w' o=>by rw[cellsAt_at ((hatq.keep0 ho6).keep0 o) 0 8 (by simp[obV])];rfl
 have b0: ∀w',Only [] w6 w'→cellsAt w' ⟨q6,0,none⟩ 8=some (obV (s'.obAt k) (.slice cr' (s'.obAt k).rf.length cp') (.slice d' (s'.obAt k).dt.length cd')):=fun w' o=>by rw[cellsAt_at (hatq6.keep0 o) 0 8 (by simp[obV])];rfl
 have dt200:(s.obAt k).dt.length≤300:=by
  obtain⟨_,h2,hv⟩:=obAt_len hi.ok hk0
  simp only[validS,Bool.and_eq_true,decide_eq_true_eq]at hv
  omega
 (repeat(first|with_reducible(first|refine nx ?_|refine r_6 rfl ?_)|simp only[go_sem,h16,h13,c2n,c2o,sh_same]))
 refine run_loop (17::18::19::102::103::104::105::106::107::108::109::110::111::112::113::114::115::116::117::118::119::120::121::122::123::124::125::126::127::128::129::130::131::132::133::134::135::136::137::138::139::140::141::142::143::144::145::[]) (fun g w'=> ∃j:Nat,g 17=.int .i64 (j:Int)∧j≤(s.obAt k).rf.length∧Only [] w6 w') (fun g _=>upTo (s.obAt k).rf.length 17 g)
  ⟨0,by simp only[go_sem];rfl,by omega,Only.refl _ _⟩ fun g7 w7 hI hnext2=>?_
 obtain⟨j,h17,hjl,ho7⟩:=hI
 have o7:=o6.nil ho7
 by_cases c2:j<(s.obAt k).rf.length
 ·have cj:(0:Int)≤(j:Int)∧(j:Int)<((s.obAt k).rf.length:Int):=by omega
  have z2:=i64_succ j (by omega)
  obtain rfl:=er (by omega)
  obtain rfl:=er' (by omega)
  have o7d:=o7.nil (Only.drew [] w7)
  have o67:=ho7.nil (Only.drew [] w7)
  have tj:=(see _ o7d).2.2.1 j c2
  have tj':=(see' _ o7d).2.2.1 j (by omega)
  have aa:=a5 _ o67
  have bb:=b5 _ o67
  (repeat(first|with_reducible(first|refine nx ?_|refine r_6 rfl ?_)|simp only[go_sem,h17,h13,a5 w7 ho7,dtr cj.2]))
  refine run_drt [q,gr,q6,gr'] ?_
  have ltz: ∀z,z∈[q,gr,q6,gr']→z<w7.drew.heap.size∧z∉([]:List Nat):=fun z hz=>by
   refine⟨?_,by simp⟩
   simp only[List.mem_cons,List.not_mem_nil,or_false]at hz
   rcases hz with rfl|rfl|rfl|rfl
   ·exact cell_lt aa
   ·exact cell_lt tj
   ·exact cell_lt bb
   ·exact cell_lt tj'
  have sb0:SB [q,gr,q6,gr'] w7.drew w7.drew:=SB.refl _ _
  (repeat(first|with_reducible(first|refine nx ?_|refine r_6 rfl ?_)|simp only[go_sem,h17,h13,h16,aa,bb,if_pos cj,tnc,Nat.mul_one,tj,tj']))
  refine callS1 (cIdent hi (h1.keep0 o7d) (s.RF k j)) (.inr ⟨sb0,ltz⟩) fun w8 ho8=>?_
  refine gO ?_
  refine callS1 (cIdent hi' (h2.keep0 (o7d.nil ho8)) (s'.RF k j)) (.inl rfl) fun w9 ho9=>?_
  have o69:=(o67.nil ho8).nil ho9
  have o9:=(o7d.nil ho8).nil ho9
  by_cases e:idA s (s.RF k j)=idA s' (s'.RF k j)
  ·refine gO3 h17 (bqt e) z2 ?_
   refine hnext2 _ w9 ⟨j+1,?_,by omega,o69⟩ ?_
   ·simp only[go_sem]
   ·exact up_lt h17
  ·obtain⟨hz,hmy⟩:=(krf j hKi c2).resolve_left e
   have e2:idA s' (s'.RF k j)=0:=by rw[hz];exact idA_zero hi'
   (repeat(first|with_reducible(first|refine nx ?_|refine r_6 rfl ?_)|simp only[go_sem,h17,bqf e,bqt e2,h13,h16,a0 w9 o69,b0 w9 o69]))
   refine callT1 (a:=.bool true) (S:=[]) ?_ fun w10 ho10=>?_
   ·rcases hmy with⟨j0,kd,hx⟩|⟨j1,kd,hz0⟩
    ·exact cMay0 (by omega) kd (by omega) (fun w' o=>(see w' (o9.nil o)).2.2.1 0 (by omega)) (hK.rd.keep (((ho4.nil ho5).nil ho6).nil o69) fun z _=>by simp) (by omega) hx
    ·refine cMay1 (by omega) hi' (h2.keep0 o9) kd (by omega) fun w' o=>?_
     have:=(see' w' (o9.nil o)).2.2.1 0 (by omega)
     rwa[hz0]at this
   ·refine gO2 h17 z2 ?_
    refine hnext2 _ w10 ⟨j+1,?_,by omega,o69.nil ho10⟩ ?_
    ·simp only[go_sem]
    ·exact up_lt h17
 clear hnext2
 (repeat(first|with_reducible(first|refine nx ?_|refine r_6 rfl ?_)|simp only[go_sem,h17,h13,a5 w7 ho7,dfl (show¬(j:Int)<((s.obAt k).rf.length:Int) by omega)]))
 refine run_loop (20::146::147::148::149::150::151::152::153::154::155::156::157::158::159::160::161::162::163::164::165::166::167::168::169::170::171::172::173::174::[]) (fun g w'=> ∃j:Nat,g 20=.int .i64 (j:Int)∧j≤(s.obAt k).dt.length∧Only [] w7 w') (fun g _=>upTo (s.obAt k).dt.length 20 g)
  ⟨0,by simp only[go_sem];rfl,by omega,Only.refl _ _⟩ fun g8 w8 hI hnext3=>?_
 obtain⟨m,h20,hml,ho8⟩:=hI
 have o68:=ho7.nil ho8
 have o68d:=o68.nil (Only.drew [] w8)
 have o8d:=o6.nil o68d
 by_cases c3:m<(s.obAt k).dt.length
 ·have cm:(0:Int)≤(m:Int)∧(m:Int)<((s.obAt k).dt.length:Int):=by omega
  have z3:=i64_succ m (by omega)
  obtain rfl:=ed (by omega)
  obtain rfl:=ed' (by rw[edt];omega)
  have tm:=(see _ o8d).2.2.2 m c3
  have tm':=(see' _ o8d).2.2.2 m (by rw[edt];omega)
  rw[edt]at tm'
  have same: ∀x:Int,(x !=x)=false:=fun x=>by simp
  have aa:=a6 _ o68d
  have bb:=b6 _ o68d
  (repeat(first|with_reducible(first|refine nx ?_|refine r_6 rfl ?_)|simp only[go_sem,h20,h13,h16,a6 w8 o68,dtr cm.2,aa,bb,if_pos cm,tnc,Nat.mul_one,tm,tm',same,z3]))
  refine hnext3 _ w8.drew ⟨m+1,?_,by omega,ho8.nil (Only.drew [] w8)⟩ ?_
  ·simp only[go_sem]
  ·exact up_lt h20
 ·(repeat(first|with_reducible(first|refine nx ?_|refine r_6 rfl ?_)|simp only[go_sem,h20,h13,a6 w8 o68,dfl (show¬(m:Int)<((s.obAt k).dt.length:Int) by omega),h12,z1]))
  refine hnext _ w8 ⟨i+1,?_,by omega,((ho4.nil ho5).nil ho6).nil o68⟩ ?_
  ·simp only[go_sem]
  ·exact up_lt h12
end
section
section
variable {s:HL} {R:Rt.MS} {L A:List Int} {s4:HL} {R':Rt.MS} {L' ids rep K S o:List Int} {s1 s2 s3:HL} {n:Nat}
theorem ColX.dead (h:ColX s R L s4 R' L' ids rep K S o s1 s2 s3 n) (hi:s.Inv) (ra:RgA s L A):o.Perm (A.filter fun x=>!decide (x∈K)):=by
 have:=ordr_mem h.ord
 unfold deadL at this
 rwa[ra.list hi]at this
theorem ColX.mem (h:ColX s R L s4 R' L' ids rep K S o s1 s2 s3 n) (hi:s.Inv) (ra:RgA s L A) {x:Int}:x∈o↔x∈A∧x∉K:=by
 rw[(h.dead hi ra).mem_iff,List.mem_filter]
 simp
theorem ColX.idA4 (h:ColX s R L s4 R' L' ids rep K S o s1 s2 s3 n) (hi:s.Inv) {a:Int} (ha:a∈S):idA s4 a=idA s a:=by
 obtain⟨k,rfl,hk⟩:=h.kpt2.liv a ha
 have hk4:=(h.st k).2 ha
 unfold idA
 rw[at_ident h.four.2.ok hk4,at_ident hi.ok hk,h.ob ha]
 split<;>(unfold clrOb;split<;>rfl)
theorem ColX.oS (h:ColX s R L s4 R' L' ids rep K S o s1 s2 s3 n) (hi:s.Inv) {x:Int} (hx:x∈o):x∈S:=by
 have hD:=(ordr_mem h.ord).mem_iff.1 hx
 exact h.kpt2.cls.f x (List.mem_append.2 (.inr hD)) (listA_live hi (List.mem_filter.1 hD).1)
theorem ColX.nle (h:ColX s R L s4 R' L' ids rep K S o s1 s2 s3 n):n≤o.length:=by have:=h.nn;omega
theorem ColX.idl (h:ColX s R L s4 R' L' ids rep K S o s1 s2 s3 n):ids.length=n:=by
 have:=h.nle
 rw[h.ii,List.length_map,List.length_take];omega
end
end
section
set_option maxRecDepth 8000
theorem Kpt.same {s:HL} {F K K':List Int} (h:Kpt s F K) (h':Kpt s F K') (x:Int):x∈K↔x∈K':=⟨kpt_mono h h' (fun _ h=>h) x,kpt_mono h' h (fun _ h=>h) x⟩
theorem Kpt.len {s:HL} {F K K':List Int} (h:Kpt s F K) (h':Kpt s F K'):K.length=K'.length:=
 Nat.le_antisymm (nodup_sub h.nd fun x hx=>(h.same h' x).1 hx) (nodup_sub h'.nd fun x hx=>(h.same h' x).2 hx)
theorem savL_mem {K S:List Int} {x:Int}:x∈savL K S↔x∈S∧x∉K:=by
 unfold savL
 rw[List.mem_filter]
 simp
theorem savL_len {s:HL} {F G K K' S S':List Int} (h:Kpt s F K) (h':Kpt s F K') (g:Kpt s G S) (g':Kpt s G S'):(savL K S).length=(savL K' S').length:=by
 have key: ∀ {K K' S S':List Int},Kpt s F K→Kpt s F K'→Kpt s G S→Kpt s G S'→(savL K S).length≤(savL K' S').length:=fun h h' g g'=>
  nodup_sub (List.Nodup.sublist List.filter_sublist g.nd) fun x hx=>savL_mem.2 ⟨(g.same g' x).1 (savL_mem.1 hx).1,fun e=>(savL_mem.1 hx).2 ((h.same h' x).2 e)⟩
 exact Nat.le_antisymm (key h h' g g') (key h' h g' g)
theorem savL_sum {K S:List Int} (hK:K.Nodup) (hS:S.Nodup) (hs: ∀x,x∈K→x∈S):S.length=K.length+(savL K S).length:=by
 have h1:=nodup_sub (m:=K++savL K S) hS fun x hx=>by
  rw[List.mem_append,savL_mem]
  by_cases c:x∈K
  ·exact .inl c
  ·exact .inr ⟨hx,c⟩
 have h2:=nodup_sub (l:=K++savL K S) (m:=S) (List.nodup_append.2 ⟨hK,List.Nodup.sublist List.filter_sublist hS,fun a ha b hb e=>(savL_mem.1 hb).2 (e▸ha)⟩) fun x hx=>by
  rw[List.mem_append,savL_mem]at hx
  exact hx.elim (hs x) (·.1)
 rw[lla]at h1 h2
 omega
section
variable {s:HL} {R:Rt.MS} {L A:List Int} {s4:HL} {R':Rt.MS} {L' ids rep K S o:List Int} {s1 s2 s3:HL} {n:Nat}
theorem ColX.obK (h:ColX s R L s4 R' L' ids rep K S o s1 s2 s3 n) {i:Nat} (hx:((2*i:Nat):Int)∈K):s4.obAt i=clrOb (inB K) (s.obAt i):=by
 rw[h.ob (h.sub _ hx),if_pos hx]
theorem clrOb_same (keep:Int→Bool) (o:Ob):(clrOb keep o).sh=o.sh∧(clrOb keep o).dt=o.dt∧(clrOb keep o).rf.length=o.rf.length:=by
 unfold clrOb
 split
 ·exact⟨rfl,rfl,rfl⟩
 ·exact⟨rfl,rfl,clrRf_len _ _ _⟩
theorem ColX.kpr (h:ColX s R L s4 R' L' ids rep K S o s1 s2 s3 n) (hi:s.Inv) (hsn:Snd true s R) {K1:List Int} (k1:KptT s true (Rt.leadsO (some R)) K1):Kpr s s4 K1:=by
 have same:=k1.kpt.same h.kpt
 have hi4:=h.four.2
 have inK: ∀ {r:Int},r=0∨r∈K→idA s r=idA s4 r:=fun {r} hr=>by
  rcases hr with rfl|hr
  ·rw[idA_zero hi,idA_zero hi4]
  ·exact(h.idA4 hi (h.sub r hr)).symm
 refine⟨fun x hx=>(h.live x).2 (h.sub x ((same x).1 hx)),fun x hx=>h.idA4 hi (h.sub x ((same x).1 hx)),fun i hx=>?_,fun i j hx hj=>?_⟩
 ·rw[h.obK ((same _).1 hx)]
  exact clrOb_same _ _
 ·have hxK:=(same _).1 hx
  have eo:=h.obK hxK
  have cl: ∀r,r∈(clrOb (inB K) (s.obAt i)).rf→r=0∨r∈K:=fun r hr=>clr_closed hi hsn h.kpt (fun x=>by unfold inB;exact decide_eq_true_iff) hxK hr
  have mem: ∀(l:List Int) j,j<l.length→l.getD j 0∈l:=fun l j hj=>by simp[hj]
  have erf: ∀j,s4.RF i j=(clrOb (inB K) (s.obAt i)).rf.getD j 0:=fun j=>by
   show(s4.obAt i).rf.getD j 0=_
   rw[eo]
  have erf0: ∀j,s.RF i j=(s.obAt i).rf.getD j 0:=fun j=>rfl
  have hlen:=(clrOb_same (inB K) (s.obAt i)).2.2
  by_cases cs:stays (inB K) (s.obAt i)
  ·left
   have e1:s4.RF i j=s.RF i j:=by rw[erf,erf0];unfold clrOb;rw[if_pos cs]
   rw[e1]
   refine inK (cl _ ?_)
   rw[←e1,erf]
   exact mem _ _ (by rw[hlen];exact hj)
  ·have egt: ∀j,j<(s.obAt i).rf.length→s4.RF i j=if softI (s.obAt i).sh.2.2 j=true then 0 else s.RF i j:=fun j hj=>by
    rw[erf,erf0]
    unfold clrOb
    rw[if_neg cs]
    show(clrRf _ _ _).getD j 0=_
    rw[clrRf_get hj]
    by_cases c:softI (s.obAt i).sh.2.2 j=true
    ·rw[if_pos ⟨hj,c⟩,if_pos c]
    ·rw[if_neg (fun e=>c e.2),if_neg c]
   by_cases c:softI (s.obAt i).sh.2.2 j=true
   ·right
    refine⟨by rw[egt j hj,if_pos c],?_⟩
    rcases softI_cases c with⟨rfl,kd⟩|⟨rfl,kd⟩
    ·refine .inl ⟨rfl,kd,fun hr=>cs (.inr ⟨liv_ne0 hi (k1.liv _ hr),?_⟩)⟩
     show inB K _=true
     unfold inB
     exact dtr ((same _).1 hr)
    ·refine .inr ⟨rfl,kd,?_⟩
     rw[egt 0 (by omega),kd]
     rfl
   ·left
    have e1:s4.RF i j=s.RF i j:=by rw[egt j hj,if_neg c]
    rw[e1]
    refine inK (cl _ ?_)
    rw[←e1,erf]
    exact mem _ _ (by rw[hlen];exact hj)
theorem ColX.plc (h:ColX s R L s4 R' L' ids rep K S o s1 s2 s3 n) (hi:s.Inv) (hsn:Snd true s R) (hR:R.Ok) (p:Rt.PT):(Rt.getO (some R) p).1=0∨(Rt.getO (some R') p=((Rt.getO (some R) p).1,0)∧idA s4 (Rt.getO (some R) p).1=idA s (Rt.getO (some R) p).1):=by
 have getm: ∀(l:List Int) i,l.getD i 0∈l∨l.getD i 0=0:=fun l i=>by
  by_cases c:i<l.length
  ·left;simp[c]
  ·right;simp[show l.length≤i by omega]
 have fin: ∀x:Int,(x∈R.S∨x∈R.G∨x∈R.Q)∨x=0→x=0∨idA s4 x=idA s x:=fun x hx=>by
  by_cases c:x=0
  ·exact .inl c
  ·have hx:=hx.resolve_right c
   have hp:PhP true s x:=by
    rcases hx with hx|hx|hx
    ·exact hsn.2.1 x hx
    ·exact hsn.2.2.1 x hx
    ·exact hsn.2.2.2 x hx
   exact .inr (h.idA4 hi (h.sub x (h.kpt.cls.f x (leads_of hR hx c) (hp.resolve_left c).2)))
 have all: ∀y:Nat×Nat,Rt.seg R p=some y→Rt.getO (some R) p=(R.rd y,0):=fun y e=>by
  unfold Rt.getO
  simp only[e]
 have all': ∀y:Nat×Nat,Rt.seg R' p=some y→Rt.getO (some R') p=(R'.rd y,0):=fun y e=>by
  unfold Rt.getO
  simp only[e]
 cases e:Rt.seg R p with
 |none=>
  left
  unfold Rt.getO
  simp only[e]
 |some y=>
  rw[all y e]
  have key:Rt.seg R' p=some y∧R'.rd y=R.rd y∧((R.rd y∈R.S∨R.rd y∈R.G∨R.rd y∈R.Q)∨R.rd y=0):=by
   rw[h.RR]
   unfold Rt.seg at e⊢
   by_cases c0:p.1=0∧0≤p.2.1∧p.2.1<(R.M:Int)
   ·rw[if_pos c0]at e⊢
    split at e
    ·rename_i hq
     cases e
     refine⟨by rw[if_pos hq],rfl,?_⟩
     exact(getm R.S _).elim (fun h=>.inl (.inl h)) .inr
    ·cases e
   ·rw[if_neg c0]at e⊢
    by_cases c1:p.1=1∧p.2.1=0
    ·rw[if_pos c1]at e⊢
     split at e
     ·rename_i hq
      cases e
      refine⟨by rw[if_pos hq],rfl,?_⟩
      exact(getm R.G _).elim (fun h=>.inl (.inr (.inl h))) .inr
     ·cases e
    ·rw[if_neg c1]at e⊢
     by_cases c2:p.1=2∧p.2.1=0
     ·rw[if_pos c2]at e⊢
      split at e
      ·rename_i hq
       cases e
       refine⟨?_,?_,?_⟩
       ·rw[if_pos]
        rw[lla]
        omega
       ·show(R.Q++o.take n).getD p.2.2.toNat 0=R.Q.getD p.2.2.toNat 0
        rw[List.getD_eq_getElem?_getD,List.getD_eq_getElem?_getD,List.getElem?_append_left (by omega)]
       ·exact(getm R.Q _).elim (fun h=>.inl (.inr (.inr h))) .inr
      ·cases e
     ·rw[if_neg c2]at e
      cases e
  obtain⟨k1,k2,k3⟩:=key
  rw[all' y k1,k2]
  exact(fin _ k3).imp id fun e=>⟨rfl,e⟩
theorem ColX.freed (h:ColX s R L s4 R' L' ids rep K S o s1 s2 s3 n):(s2.objs.filter fun i=>!heldB K S ((2*i:Nat):Int)).length+s4.objs.length=s.objs.length:=by
 obtain⟨⟨B,e⟩,_⟩:=h.four
 have e1:s4.objs=s3.objs:=by rw[e];rfl
 have e2:s2.objs=s.objs:=by unfold HL.objs;rw[h.c2.sam.st,h.c1.sam.st]
 rw[e1,h.k3.objs,e2]
 have:=List.length_eq_countP_add_countP (l:=s.objs) (p:=fun i=>!heldB K S ((2*i:Nat):Int))
 rw[List.countP_eq_length_filter,List.countP_eq_length_filter]at this
 have e3:(s.objs.filter fun a=>decide (¬(!heldB K S ((2*a:Nat):Int))=true))=s.objs.filter fun i=>!!heldB K S ((2*i:Nat):Int):=by
  refine List.filter_congr fun a _=>?_
  cases heldB K S ((2*a:Nat):Int)<;>rfl
 rw[e3]at this
 exact this.symm
theorem ColX.reach (h:ColX s R L s4 R' L' ids rep K S o s1 s2 s3 n) (hi:s.Inv) {a x:Int} {T:List Int} (ha:a∈o) (hT:KptT s false [a] T) (hx:x∈T):Liv s4 x:=by
 refine(h.live x).2 (hT.ind (· ∈S) ⟨fun y hy _=>?_,h.kpt2.cls.g,fun e=>by cases e⟩ x hx)
 simp only[lms]at hy
 subst hy
 exact h.oS hi ha
theorem ColX.weak (h:ColX s R L s4 R' L' ids rep K S o s1 s2 s3 n) (hi:s.Inv) (hsn:Snd true s R) (ra:RgA s L A) {a:Int} (ha:a∈o) {i:Nat} (hx:((2*i:Nat):Int)∈K) (hl:0<(s.obAt i).rf.length):s4.RF i 0≠a:=by
 intro e
 have hr:s4.RF i 0∈(clrOb (inB K) (s.obAt i)).rf:=by
  show(s4.obAt i).rf.getD 0 0∈_
  rw[h.obK hx]
  have:=(clrOb_same (inB K) (s.obAt i)).2.2
  simp[show 0<(clrOb (inB K) (s.obAt i)).rf.length by omega]
 rw[e]at hr
 rcases clr_closed hi hsn h.kpt (fun x=>by unfold inB;exact decide_eq_true_iff) hx hr with h0|h0
 ·exact liv_ne0 hi (h.kpt2.liv a (h.oS hi ha)) h0
 ·exact((h.mem hi ra).1 ha).2 h0
end
end
section
set_option maxRecDepth 8000
theorem hAppendSeqB {w:World} {q b:Nat} {m:IM} (hq:At w q [.map (some b)]) (hm:MpAt w b m) (hlen:m.length≤100000):
  Cs Tryz.prog 243 [.slice none 0 0,.func (.func 187) #[] #[.pointer (some ⟨q,0,none⟩)]] w fun v w'=>Only [] w w'∧ ∃xs fp,Sl w' 1 v xs.length (ints xs) fp∧(∀x,x∈fp→w.heap.size≤x)∧xs.Perm m.keys:=by
 refine enter_slices_AppendSeq___int_int_ rfl ?_
 unfold x_slices_AppendSeq___int_int_
 have hqlt:=hq.lt
 have hblt:=hm.lt
 refine gO ?_
 refine boxT fun q3 w1 hq3 hs1 hat1 ho1=>?_
 refine gO ?_
 refine run_rngE (it:=187) (caps:=[.pointer (some ⟨q,0,none⟩)]) rfl rfl (by simp only[go_sem]) (by kernel_rfl) fun ρ' ps' xa' xb' q1 q2 q5 q6 D l w3 hD hl hs3 ho3 hdef hloop=>?_
 have hO3:Only [] w w3:=ho1.nil ho3
 refine Cs.mono (R:=fun _ w4=>LoopAt Tryz.prog fx_slices_AppendSeq___int_int_ l w4 ρ' ps' xa' xb' .ready D∧w4.heap[D]? =some (.deferred (some []))∧ ∃v xs F,At w4 q3 [v]∧Sl w4 1 v xs.length (ints xs) F∧(∀x,x∈F→w3.heap.size≤x)∧xs.Perm m.keys∧Only [q3,l] w3 w4) ?_ ?_
 · -- the iterator
  refine enter_maps_Keys_map_int_bool_int_bool__1 rfl ?_
  unfold x_maps_Keys_map_int_bool_int_bool__1
  (repeat(first|with_reducible(first|refine nx ?_|refine r_6 rfl ?_)|simp only[go_sem,(hq.keep0 hO3).cell]))
  refine rangeT Tryz.underlying115 (hm.keep0 hO3) fun r w5 hr hs5 hit5 ho5=>?_
  refine gO ?_
  refine run_loop (3::6::7::8::9::10::11::12::13::[]) (fun _ w'=> ∃(left:IM) (v:Value) (xs:List Int) (F:List Nat),ItAt w' r b m left∧(left.map (·.1)).Nodup∧LoopAt Tryz.prog fx_slices_AppendSeq___int_int_ l w' ρ' ps' xa' xb' .ready D∧w'.heap[D]? =some (.deferred (some []))∧At w' q3 [v]∧Sl w' 1 v xs.length (ints xs) F∧(∀x,x∈F→w5.heap.size≤x)∧(xs++left.map (·.1)).Perm m.keys∧Only [q3,l] w3 w') (fun _ w'=>itLeft w' r b)
   ⟨m,_,[],[],hit5,hm.nodup,hloop.keep ho5 (by simp),?_,(hat1.keep0 ho3).keep0 ho5,Sl.nil1 w5,by simp,by simp[IM.keys],ho5.of_nil⟩ fun g w' hI hnext=>?_
  ·rw[ho5.block D (Array.getElem?_eq_some_iff.1 hdef).1 (by simp)];exact hdef
  obtain⟨left,v,xs,F,hit,hnd,k1,k2,k4,k5,hFl,hperm,hO⟩:=hI
  have l1:=k1.lt
  have l2:=(Array.getElem?_eq_some_iff.1 k2).1
  have l4:=k4.lt
  have lr:=hit.ltr
  have hFo: ∀x,x∈F→x≠l∧x≠q3∧x≠D∧x≠r∧x≠b:=fun x hx=>by have:=hFl x hx;exact⟨by omega,by omega,by omega,by omega,by omega⟩
  have hlen2:xs.length+left.length=m.length:=by
   have:=hperm.length_eq
   simpa[IM.keys]using this
  refine gO ?_
  refine nextT hit (fun h0=>?_) (fun p w6 hp hs6 ho6 hit6 hen6=>?_)
  ·subst h0
   refine gO ?_
   exact⟨k1,k2,v,xs,F,k4,k5,fun x hx=>by have:=hFl x hx;omega,by simpa using hperm,hO⟩
  ·refine gO ?_
   refine entryT hen6 ?_
   have k16:=k1.keep ho6 (by simp;omega)
   have k46:=k4.keep ho6 (by simp;omega)
   have k56:=k5.keep ho6 (fun x hx=>by simpa using(hFo x hx).2.2.2.1)
   have k26:w6.heap[D]? =some (.deferred (some [])):=by rw[ho6.block D l2 (by simp;omega)];exact k2
   refine gO ?_
   refine yieldT (R:=fun u w9=>u=.bool true∧LoopAt Tryz.prog fx_slices_AppendSeq___int_int_ l w9 ρ' ps' xa' xb' .ready D∧ ∃v' F',At w9 q3 [v']∧Sl w9 1 v' (xs++[p.1]).length (ints (xs++[p.1])) F'∧(∀x,x∈F'→x∈F∨w6.heap.size≤x)∧Only ([q3,l]++F) w6 w9) ?_ ?_
   ·refine ys_runE q1 q2 q5 q6 ok_slices_AppendSeq___int_int_ k16 rfl ?_
    refine gO ?_
    refine run_bgn (l:=l) rfl k16 fun w7 hs7 ho7 hl7=>?_
    have hq3l:q3≠l:=by omega
    have k47:=k46.keep ho7 (by simpa using hq3l)
    have k57:=k56.keep ho7 (fun x hx=>by simpa using(hFo x hx).1)
    refine gO1 k47.cell ?_
    rw[fillL_one rfl rfl]
    refine gO ?_
    refine bslT fun q8 w8 hq8 hs8 hat8 ho8=>?_
    refine gO ?_
    refine appT (k57.keep0 ho8) (SrcIs.at hat8 rfl) (by simp[oneC]) (by omega) (by omega) ?_
    intro v' w9 F' hs9 hF' ho9 _
    have hq3F:q3∉F:=fun hx=>(hFo q3 hx).2.1 rfl
    have k49:=(k47.keep0 ho8).keep ho9 hq3F
    refine gO ?_
    refine stT k49 (by simp) hs9.oneC' fun w10 hs10 hat10 ho10=>?_
    refine gO ?_
    have hF'm: ∀x,x∈F'→x∈F∨w6.heap.size≤x:=by
     intro x hx
     rcases hF' with rfl|rfl
     ·exact .inl hx
     ·simp only[lms]at hx;right;omega
    have hF'o: ∀x,x∈F'→x≠l∧x≠q3:=fun x hx=>(hF'm x hx).elim (fun h=>⟨(hFo x h).1,(hFo x h).2.1⟩) (fun h=>⟨by omega,by omega⟩)
    have hlF:l∉F:=fun hx=>(hFo l hx).1 rfl
    have hl10:=(((hl7.keep ho8 (by simp)).keep ho9 hlF).keep ho10 (by simpa using fun e:l=q3=>hq3l e.symm))
    refine run_endR (l:=l) rfl hl10 fun w11 hs11 ho11 hl11=>?_
    have hO':Only ([q3,l]++F) w6 w11:=by
     refine((((ho7.mono ?_).same ho8.of_nil).same (ho9.mono ?_)).same (ho10.mono ?_)).same (ho11.mono ?_)
     ·intro x hx;simp only[lms]at hx;subst hx;exact .inl (by simp)
     ·intro x hx;exact .inl (by simp[hx])
     ·intro x hx;simp only[lms]at hx;subst hx;exact .inl (by simp)
     ·intro x hx;simp only[lms]at hx;subst hx;exact .inl (by simp)
    refine⟨rfl,hl11,v',F',hat10.keep ho11 (by simpa using hq3l),?_,hF'm,hO'⟩
    have:=(hs9.keep ho10 (fun x hx=>by simpa using(hF'o x hx).2)).keep ho11 (fun x hx=>by simpa using(hF'o x hx).1)
    rw[ints_append,lla]
    exact this
   ·rintro u w9 ⟨rfl,k19,v',F',k49,k59,hF',ho9⟩
    refine gO ?_
    have hz6:w6.heap.size=w'.heap.size:=hs6
    have off: ∀x,x≠q3→x≠l→x<w5.heap.size→x∉ [q3,l]++F:=fun x h1 h2 h3 hx=>by
     rcases List.mem_append.1 hx with h|h
     ·simp only[List.mem_cons,List.not_mem_nil,or_false]at h;omega
     ·have:=hFl x h;omega
    have hz5:=hO.size
    refine hnext _ w9 ⟨left.filter (fun q=>q.1 !=p.1),v',xs++[p.1],F',hit6.keep ho9 (off r (by omega) (by omega) (by omega)) (off b (by omega) (by omega) (by omega)),filter_nodup hnd _,k19,?_,k49,k59,?_,?_,?_⟩ ?_
    ·rw[ho9.block D (by omega) (off D (by omega) (by omega) (by omega))];exact k26
    ·intro x hx
     rcases hF' x hx with h|h
     ·exact hFl x h
     ·have:=hit.map.lt
      have h1:=(Array.getElem?_eq_some_iff.1 k2).1
      have h2:w5.heap.size≤w'.heap.size:=by omega
      omega
    ·have h1:=(filter_perm hnd hp).map (·.1)
     have h2:(xs++[p.1]++(left.filter fun q=>q.1 !=p.1).map (·.1)).Perm (xs++left.map (·.1)):=by
      rw[List.append_assoc]
      exact(List.Perm.append_left xs h1).symm
     exact h2.trans hperm
    ·refine(hO.trans ho6 fun x hx=>.inr ?_).trans ho9 fun x hx=>?_
     ·simp only[lms]at hx;omega
     ·rcases List.mem_append.1 hx with h|h
      ·exact .inl h
      ·exact .inr (by have:=hFl x h;omega)
    ·have e1:=(hit6.keep ho9 (off r (by omega) (by omega) (by omega)) (off b (by omega) (by omega) (by omega))).left
     rw[e1,hit.left]
     have:=(filter_perm hnd hp).length_eq
     simp only[List.length_cons]at this
     omega
 ·rintro _ w4 ⟨k1,k2,v,xs,F,k4,k5,hFl,hperm,hO4⟩
  refine⟨k1,fun w5 hs5 ho5=>?_⟩
  have hq3l:q3≠l:=by omega
  have hz3:=hO3.size
  have hFo: ∀x,x∈F→x≠l∧x≠q3∧x≠D:=fun x hx=>by have:=hFl x hx;exact⟨by omega,by omega,by omega⟩
  have k45:=k4.keep ho5 (by simpa using hq3l)
  have k55:=k5.keep ho5 (fun x hx=>by simpa using(hFo x hx).1)
  have hD5:w5.heap[D]? =some (.deferred (some [])):=by rw[ho5.block D (Array.getElem?_eq_some_iff.1 k2).1 (by simp;omega)];exact k2
  refine gO1 k45.cell ?_
  refine run_retM' hD5 fun w6 hs6 ho6=>?_
  refine gO ?_
  have hO6:Only [] w w6:=by
   refine((hO3.trans hO4 fun x hx=>.inr ?_).trans ho5 fun x hx=>.inr ?_).trans ho6 fun x hx=>.inr ?_
   ·simp only[List.mem_cons,List.not_mem_nil,or_false]at hx;omega
   ·simp only[lms]at hx;omega
   ·simp only[lms]at hx;omega
  exact⟨hO6,xs,F,k55.keep ho6 (fun x hx=>by simpa using(hFo x hx).2.2),fun x hx=>by have:=hFl x hx;omega,hperm⟩
theorem hCollectB {w:World} {q b:Nat} {m:IM} (hq:At w q [.map (some b)]) (hm:MpAt w b m) (hlen:m.length≤100000):
  Cs Tryz.prog 185 [.func (.func 187) #[] #[.pointer (some ⟨q,0,none⟩)]] w fun v w'=>Only [] w w'∧ ∃xs fp,Sl w' 1 v xs.length (ints xs) fp∧(∀x,x∈fp→w.heap.size≤x)∧xs.Perm m.keys:=by
 refine enter_slices_Collect_int_ rfl ?_
 unfold x_slices_Collect_int_
 refine gO ?_
 refine callT (hAppendSeqB hq hm hlen) ?_
 rintro v w' ⟨ho,h⟩
 refine gO ?_
 exact⟨ho,h⟩
theorem hSortedB {w:World} {q b:Nat} {m:IM} (hq:At w q [.map (some b)]) (hm:MpAt w b m) (hlen:m.length≤100000):
  Cs Tryz.prog 101 [.func (.func 187) #[] #[.pointer (some ⟨q,0,none⟩)]] w fun v w'=>Only [] w w'∧ ∃xs fp,Sl w' 1 v xs.length (ints (sortI xs)) fp∧(∀x,x∈fp→w.heap.size≤x)∧xs.Perm m.keys:=by
 refine enter_slices_Sorted_int_ rfl ?_
 unfold x_slices_Sorted_int_
 refine gO ?_
 refine callT (hCollectB hq hm hlen) ?_
 rintro v w1 ⟨ho1,xs,fp,hs,hfp,hp⟩
 have hxl:xs.length≤100000:=by have:=hp.length_eq;simp only[IM.keys,List.length_map]at this;omega
 refine gO ?_
 by_cases h0:xs.length=0
 ·have hx:xs=[]:=List.eq_nil_of_length_eq_zero h0
  subst hx
  obtain⟨a,c,rfl⟩:=hs.val
  refine callT0 (hSortN a c) ?_
  refine gO ?_
  have e:sortI []=[]:=by simp[sortI]
  exact⟨ho1,[],fp,by rw[e];exact hs,hfp,hp⟩
 ·obtain⟨g,cap,ys,rfl,hat,rfl,_⟩:=hs.pos (by omega)
  refine callT (hSort hat (by omega)) ?_
  rintro r w2 ⟨rfl,ho2,hat2⟩
  refine gO ?_
  have hg:=hfp g (by simp)
  refine⟨ho1.trans ho2 fun x hx=>by simp only[lms]at hx;subst hx;exact .inr hg,xs,[g],?_,hfp,hp⟩
  have hcl:(ints xs++ys).length=cap:=by
   have h2:=hs.2
   rcases h2 with⟨h3,_⟩|⟨g',cap',ys',T',h3,h4,h5,h6,h7⟩
   ·cases h3
   ·injection h3 with h8 _ h9
    cases h8
    obtain⟨T,hT⟩:=hat
    rw[h5]at hT
    injection hT with hT
    injection hT with hT
    have:(ints xs++ys').length=(ints xs++ys).length:=congrArg (fun a:Array Value=>a.size) hT
    omega
  exact Sl.mk1 hat2 (by rw[ints_length,sortI_len]) (by rw[lla,ints_length]at hcl;rw[lla,ints_length,sortI_len];exact hcl)
theorem hKeysB (w:World) (b:Nat):Cs Tryz.prog 102 [.map (some b)] w fun v w'=> ∃q,v=.func (.func 187) #[] #[.pointer (some ⟨q,0,none⟩)]∧At w' q [.map (some b)]∧Only [] w w':=by
 refine enter_maps_Keys_map_int_bool_int_bool_ rfl ?_
 unfold x_maps_Keys_map_int_bool_int_bool_
 refine gO ?_
 refine boxT fun q w1 hq hs1 hat ho=>?_
 refine gO ?_
 exact⟨q,by simp,hat,ho⟩
section
variable {w:World} {b:Nat} {hp:Addr} {ar:Option Addr} {L:List Int} {fl fp fr:List Nat} {s:HL} {R:Rt.MS}
theorem gSaved (h:RG w b hp ar L fl) (hl:L.length≤500) (hr:HR w (some hp) fp (some s)) (hi:s.Inv) (hR:Rt.PR w ar fr (some R)) (hsn:Snd true s R) (h40:s.objs.length≤2000) (hll:(Rt.leadsO (some R)).length≤500) (hrf:RfOk s.abs):
  Cs Tryz.prog 32 [.pointer (some ⟨b,0,none⟩)] w fun v w'=>Only [] w w'∧ ∃K S vs n xs fs,v=.tuple #[vs,.int .i64 0]∧Kpt s (Rt.leadsO (some R)) K∧Kpt s (Rt.leadsO (some R)++deadL s L K) S∧n=(savL K S).length∧Sl w' 1 vs n xs fs:=by
 refine enter_final_Registry_Saved rfl ?_
 unfold x_final_Registry_Saved
 refine gO ?_
 refine callT (gView h hl hr hi hR hsn h40 hll hrf) ?_
 rintro _ w1 ⟨ho1,vb,mk,ms,vd,fd,K,S,rfl,hv,hK,hS,hd,kpt,kpt2,gvb,gmk,gms,gfd,_⟩
 have hSl:(savL K S).length≤2000:=Nat.le_trans (List.length_filter_le _ _) (Nat.le_trans (nodup_le kpt2.nd kpt2.liv) h40)
 refine gO1 hv.cell ?_
 refine callT (hKeysB w1 ms) ?_
 rintro _ w2 ⟨q,rfl,hq,ho2⟩
 refine gO ?_
 refine callT (hSortedB hq (MpAt.keep0 hS ho2) (by rw[setM_len];exact Nat.le_trans hSl (by omega))) ?_
 rintro vs w3 ⟨ho3,xs,fs,hs3,g3,hpm⟩
 have hlen:xs.length=(savL K S).length:=by have:=hpm.length_eq;rw[show(setM (S.filter fun x=>!decide (x∈K))).keys=savL K S from setM_keys _]at this;exact this
 refine gO ?_
 exact⟨(ho1.nil ho2).nil ho3,K,S,vs,xs.length,_,fs,rfl,kpt,kpt2,hlen,hs3⟩
end
end
set_option maxHeartbeats 2000000 in
theorem fin_awake (w:World):Cs Tryz.prog 16 [] w fun v w'=>v=.bool true∧Only [] w w':=by
 obtain⟨f1,f2,f3,f4,f5,f6⟩:=eA_f1
 obtain⟨s,es,hx⟩:=exA
 have hi:=hx.inv
 refine enter_law20_awake rfl ?_
 unfold x_law20_awake
 refine gO ?_
 refine callT (hNew w 4) ?_
 rintro r w1 ⟨a,fp,rfl,h1,_,hfp1,ho1⟩
 have hs0:(newH 4).isSome=true:=rfl
 have h1':HR w1 a fp eA0:=h1
 obtain⟨hb,rfl,_⟩:=h1
 refine gO1 hs0 ?_
 refine callT (Rt.New_m w1 1) ?_
 rintro r w2 ⟨ho2,ar,fr,rfl,hR2,_,gfr⟩
 have er:Rt.newO 1=some rA:=rfl
 rw[er]at hR2
 have hro:(Rt.newO 1).isSome=true:=rfl
 obtain⟨rb,era,_⟩:=id hR2
 subst era
 have z1:=ho1.size
 have z2:=ho2.size
 refine gO1 hro ?_
 refine callT (hClaim (h1'.keep0 ho2) 1 0 (by omega)) ?_
 rintro r w3 ⟨rfl,h3,ho3⟩
 rw[f1]
 have hlt:=h1'.lt
 have hrl:=hR2.lt
 have hpr: ∀y,y∈fp→y∉fr:=fun y hy e=>by have:=hlt y hy;have:=gfr y e;omega
 have hrp: ∀y,y∈fr→y∉fp:=fun y hy e=>hpr y e hy
 refine gO1 (bnf (rfl:(0:Int)=0)) ?_
 have b1: ∀s,eA1=some s→s.born≤4611686018427387900:=fun s h=>by rw[h]at f5;simp only[Option.map_some,Option.some.injEq]at f5;omega
 have b2: ∀s,eA2=some s→s.born≤4611686018427387900:=fun s h=>by rw[h]at f6;simp only[Option.map_some,Option.some.injEq]at f6;omega
 refine callT (hPlace (m:=eA1) h3 64 (0,0,0) (by omega) (by decide) b1) ?_
 rintro r w4 ⟨rfl,h4,ho4⟩
 rw[f2]
 refine gO1 (bnf (rfl:(0:Int)=0)) ?_
 rw[fillL_one rfl rfl]
 refine gO ?_
 refine callT (hPlace (m:=eA2) h4 66 (1,0,0) (by omega) (by decide) b2) ?_
 rintro r w5 ⟨rfl,h5,ho5⟩
 rw[f3]
 refine gO1 (bnf (rfl:(0:Int)=0)) ?_
 refine callT (hSetRef (m:=eA3) h5 66 0 64 (by omega) (by omega)) ?_
 rintro r w6 ⟨rfl,h6,ho6⟩
 rw[f4]
 have h6':HR w6 (some ⟨hb,0,none⟩) fp (some s):=by rw[←es];exact h6
 have o26:Only fp w2 w6:=((ho3.same ho4).same ho5).same ho6
 have hR6:=hR2.keep o26 hrp
 have o06:Only [] w w6:=(ho1.nil ho2).trans o26 fun x hx=>.inr (hfp1 x hx)
 refine gO1 (bnf (rfl:(0:Int)=0)) ?_
 refine callT (gNew h6' hi.ok hR6 (by decide)) ?_
 rintro r w7 ⟨ho7,b,rfl,hg7,gb⟩
 have z26:=o26.size
 have z7:=ho7.size
 have hbp:b∉fp:=fun e=>by have:=hlt b e;omega
 have hbr:b∉fr:=fun e=>by have:=hrl b e;omega
 refine gO ?_
 refine callT (gRegister hg7 (by simp) (h6'.keep0 ho7) hi hbp 64 (by omega)) ?_
 rintro _ w8 ⟨rfl,f8,hg8,ho8,gf8⟩
 rw[hx.reg1.2]at hg8
 rw[hx.reg1.1]
 have z8:=ho8.size
 have nbp: ∀y,y∈fp→y∉ [b]:=fun y hy e=>hbp (by simp only[lms]at e;exact e▸hy)
 have nbr: ∀y,y∈fr→y∉ [b]:=fun y hy e=>hbr (by simp only[lms]at e;exact e▸hy)
 have h8:=(h6'.keep0 ho7).keep ho8 nbp
 have hR8:=(hR6.keep0 ho7).keep ho8 nbr
 refine gO1 (bnf (rfl:(0:Int)=0)) ?_
 refine callT (gRegister hg8 (by simp) h8 hi hbp 66 (by omega)) ?_
 rintro _ w9 ⟨rfl,f9,hg9,ho9,gf9⟩
 rw[hx.reg2.2]at hg9
 rw[hx.reg2.1]
 have h9:=h8.keep ho9 nbp
 have hR9:=hR8.keep ho9 nbr
 have z9:=ho9.size
 have gbw:w.heap.size≤b:=by omega
 have ob: ∀y,y∈[b]→y∈([]:List Nat)∨w.heap.size≤y:=fun y hy=>by simp only[lms]at hy;exact .inr (by omega)
 have o09:Only [] w w9:=((o06.nil ho7).trans ho8 ob).trans ho9 ob
 refine gO1 (bnf (rfl:(0:Int)=0)) ?_
 refine callT (gCollect hg9 (by simp) h9 hi hR9 hx.snd (by rw[hx.objs];simp) (by rw[rA_leads];simp) (hx.snd.rfok hi.ok) hbp hbr hpr) ?_
 rintro _ w10 ⟨s4,R',L',ids,rep,K,S,o,s1,s2,s3,n,pv,fpv,fl',fr',col,rfl,h10,hR10,hg10,hp10,ho10,gr10,gl10,nlr10,gp10⟩
 obtain⟨c1,c2,c3,c4,c5⟩:=hx.first col
 have hsn4:=col.snd hi hx.snd (Rt.newO_ok er)
 have i4:=col.four.2
 have er8: ∃a b c d e f g i,rep=[a,b,c,d,e,f,g,i]:=⟨_,_,_,_,_,_,_,_,col.rp⟩
 obtain⟨p0,p1,p2,p3,p4,p5,p6,p7,erep⟩:=er8
 subst c2 c3 c4
 have z10:=ho10.size
 have e0:p0=2:=by rw[erep]at c5;exact c5
 have o010:Only [] w w10:=o09.trans ho10 fun y hy=>by
  rcases List.mem_cons.1 hy with rfl|hy
  ·exact .inr gbw
  ·rcases List.mem_append.1 hy with hy|hy
   ·exact .inr (hfp1 y hy)
   ·exact .inr (by have:=gfr y hy;omega)
 rw[erep]
 refine gO ?_
 refine boxT fun tb w11 htb hs11 hat11 ho11=>?_
 refine gO ?_
 refine stNT (n:=8) (i:=0) hat11 (by rfl) (by simp) ints_one fun w12 hs12 hat12 ho12=>?_
 have e12:setL [Value.int .i64 0,.int .i64 0,.int .i64 0,.int .i64 0,.int .i64 0,.int .i64 0,.int .i64 0,.int .i64 0] 0 (ints [p0,p1,p2,p3,p4,p5,p6,p7])=ints [p0,p1,p2,p3,p4,p5,p6,p7]:=rfl
 rw[e12,e0]at hat12
 have ct12:w12.cell? ⟨tb,0,none⟩=some (.int .i64 2):=by rw[hat12.cell];rfl
 have o1012:Only [] w10 w12:=ho11.trans ho12 fun y hy=>by simp only[lms]at hy;exact .inr (by omega)
 have hp12:=hp10.keep0 o1012
 refine gO3 ct12 (bnf (rfl:(0:Int)=0)) (bnf (rfl:(2:Int)=2)) ?_
 rw[fillL_one rfl rfl,fillL_one rfl rfl]
 refine gO ?_
 refine bslT fun q w13 hq hs13 hat13 ho13=>?_
 refine gO ?_
 have hs13':Sl w13 1 (.slice (some ⟨q,0,none⟩) 2 2) ([2,1]:List Int).length (ints [2,1]) [q]:=by
  have e:ints [2,1]++[]=[Value.int .i64 2,.int .i64 1]:=rfl
  rw[←e]at hat13
  exact Sl.mk1 hat13 rfl rfl
 refine callT (cInts (hp12.keep0 ho13) hs13' (by simp)) ?_
 rintro _ w14 ⟨rfl,ho14⟩
 have o1014:Only [] w10 w14:=(o1012.nil ho13).nil ho14
 have hg14:=hg10.keep0 o1014
 have hR14:=hR10.keep0 o1014
 refine gO1 (dtr (rfl:([2,1]:List Int)=[2,1])) ?_
 refine callT (gNext hg14 hR14) ?_
 rintro _ w15 ⟨rfl,ho15,_,fr15,hR15,gr15⟩
 have ep1:Rt.popO (some {rA with Q:=[66,64]})=((66,0),some {rA with Q:=[64]}):=rfl
 rw[ep1]at hR15⊢
 have hbl:b<w9.heap.size:=by obtain⟨_,h',_⟩:=hg9;exact h'.lt
 have bfr':b∉fr':=fun e=>(gr10 b e).elim hbr fun h'=>by omega
 have nlr: ∀y,y∈fl'→y∉fr':=nlr10
 have hg15:=hg14.keep ho15 bfr' nlr
 refine gO ?_
 refine callT (gNext hg15 hR15) ?_
 rintro _ w16 ⟨rfl,ho16,_,fr16,hR16,gr16⟩
 have ep2:Rt.popO (some {rA with Q:=[64]})=((64,0),some rA):=rfl
 rw[ep2]at hR16⊢
 have z15:=ho15.size
 have z16:=ho16.size
 have z1014:=o1014.size
 have flt: ∀y,y∈fl'→y<w10.heap.size:=fun y hy=>by obtain⟨_,_,h',_⟩:=hg10;exact h'.lt y hy
 have bfr15:b∉fr15:=fun e=>(gr15 b e).elim bfr' fun h'=>by omega
 have nlr15: ∀y,y∈fl'→y∉fr15:=fun y hy e=>(gr15 y e).elim (nlr y hy) fun h'=>by have:=flt y hy;omega
 have hg16:=hg15.keep ho16 bfr15 nlr15
 have bfr16:b∉fr16:=fun e=>(gr16 b e).elim bfr15 fun h'=>by omega
 have old: ∀y,y∈fp→y∉fr':=fun y hy e=>(gr10 y e).elim (hpr y hy) fun h'=>by have:=hlt y hy;omega
 have old15: ∀y,y∈fp→y∉fr15:=fun y hy e=>(gr15 y e).elim (old y hy) fun h'=>by have:=hlt y hy;omega
 have old16: ∀y,y∈fp→y∉fr16:=fun y hy e=>(gr16 y e).elim (old15 y hy) fun h'=>by have:=hlt y hy;omega
 have h14:=h10.keep0 o1014
 have h16:=(h14.keep ho15 old).keep ho16 old15
 have tbl:w10.heap.size≤tb∧tb<w12.heap.size:=⟨by omega,hat12.lt⟩
 have f14: ∀y,y∈fr'→y<w10.heap.size:=hR10.lt
 have tb15:tb∉fr':=fun e=>by have:=f14 tb e;omega
 have tb16:tb∉fr15:=fun e=>(gr15 tb e).elim tb15 fun h'=>by have:=ho13.size;have:=ho14.size;omega
 have hat14:=(hat12.keep0 ho13).keep0 ho14
 have hat16:=(hat14.keep ho15 tb15).keep ho16 tb16
 have hsn4':Snd true s4 rA:=⟨hsn4.1,rA_zero (.inl rfl)⟩
 have frw: ∀y,y∈fr'→w.heap.size≤y:=fun y hy=>(gr10 y hy).elim (fun h'=>by have:=gfr y h';omega) fun h'=>by omega
 have frw15: ∀y,y∈fr15→w.heap.size≤y:=fun y hy=>(gr15 y hy).elim (frw y) fun h'=>by omega
 have frw16: ∀y,y∈fr16→w.heap.size≤y:=fun y hy=>(gr16 y hy).elim (frw15 y) fun h'=>by omega
 have o016:Only [] w w16:=((o010.nil o1014).trans ho15 fun y hy=>.inr (frw y hy)).trans ho16 fun y hy=>.inr (frw15 y hy)
 refine gO ?_
 refine callT (gCollect hg16 (by simp) h16 i4 hR16 hsn4' (by rw[c1];omega) (by rw[rA_leads];simp) (hsn4'.rfok i4.ok) hbp bfr16 old16) ?_
 rintro _ w17 ⟨s5,R5,L5,ids5,rep5,K5,S5,o5,t1,t2,t3,n5,pv5,fpv5,fl5,fr5,col5,rfl,h17,hR17,hg17,hp17,ho17,_,_,_,_⟩
 have e5:=ColX.none s4 col5 rA_leads
 rw[c1]at e5
 have er8: ∃a b c d e f g i,rep5=[a,b,c,d,e,f,g,i]:=⟨_,_,_,_,_,_,_,_,col5.rp⟩
 obtain⟨q0,q1,q2,q3,q4,q5,q6,q7,erep5⟩:=er8
 have eq2:q2=2:=by rw[erep5]at e5;exact e5
 have z1014:=o1014.size
 have z12:=o1012.size
 have hat17:=hat16.keep ho17 fun e=>by
  rcases List.mem_cons.1 e with e|e
  ·omega
  ·rcases List.mem_append.1 e with e|e
   ·have:=hlt tb e;omega
   ·exact(gr16 tb e).elim tb16 fun h'=>by have:=ho13.size;have:=ho14.size;omega
 rw[erep5]
 refine gO ?_
 refine stNT (n:=8) (i:=0) hat17 (by rfl) (by simp[ints]) ints_one fun w18 hs18 hat18 ho18=>?_
 have e18:setL (ints [2,p1,p2,p3,p4,p5,p6,p7]) 0 (ints [q0,q1,q2,q3,q4,q5,q6,q7])=ints [q0,q1,q2,q3,q4,q5,q6,q7]:=rfl
 rw[e18,eq2]at hat18
 have ct18:w18.cell? ⟨tb,2,none⟩=some (.int .i64 2):=by rw[hat18.cell];rfl
 refine gO5 ct18 (bqt (rfl:(0:Int)=0)) (bqt (rfl:(66:Int)=66)) (bqt (rfl:(64:Int)=64)) (bqt (rfl:(2:Int)=2)) ?_
 refine(o016.trans ho17 fun y hy=>?_).trans ho18 fun y hy=>by simp only[lms]at hy;exact .inr (by omega)
 rcases List.mem_cons.1 hy with rfl|hy
 ·exact .inr gbw
 ·rcases List.mem_append.1 hy with hy|hy
  ·exact .inr (hfp1 y hy)
  ·exact .inr (frw16 y hy)
set_option maxRecDepth 20000
theorem leads_len {R:Rt.MS} (h:R.Ok):(Rt.leadsO (some R)).length≤144:=by
 have h1:=Rt.foldl_addNew_length ((Rt.filled R).map (·.2)) []
 have h2:(Rt.filled R).length≤R.V.length:=by
  rw[Rt.filled_idx h,List.length_map,Rt.V_length h]
  exact Rt.idx_length
 have:=Rt.V_le h
 have e:Rt.leadsO (some R)=((Rt.filled R).map (·.2)).foldl Rt.addNew []:=rfl
 rw[e]
 simp only[List.length_nil,List.length_map]at h1
 omega
section
set_option maxRecDepth 20000
variable {w:World}
theorem PR_ok {a:Option Addr} {fp:List Nat} {R:Rt.MS} (h:Rt.PR w a fp (some R)):R.Ok:=by
 obtain⟨_,_,_,_,_,_,_,_,_,hpm⟩:=h;exact hpm.ok
theorem rf_pos {s:HL} {k:Nat} (h:s.Ok) (hk:s.st.getD k 0=1) (hd:(s.obAt k).sh.2.2=1∨(s.obAt k).sh.2.2=2):0<(s.obAt k).rf.length:=by
 obtain⟨h1,_,hv⟩:=obAt_len h hk
 simp only[validS,Bool.and_eq_true,Bool.or_eq_true,decide_eq_true_eq]at hv
 omega
set_option maxHeartbeats 8000000 in
theorem fin_saved {cs:List Value} {g:BG} {vO vD vL vP vN vl:Value} {nl:Nat} {fl:Nat→Nat→Nat} (hb:BegAt w.heap.size w cs g vO vD vL vP vN) (hl:U8At w.heap.size w vl nl 1 fl):
  Cs Tryz.prog 7 [.agg ⟨cs⟩,vl] w fun v w'=>v=.bool true∧Only [] w w':=by
 have hcs:=hb.e
 refine enter_law20_FinalSaved rfl ?_
 unfold x_law20_FinalSaved
 refine gO ?_
 refine boxT fun q w1 hq hs1 hat1 ho1=>?_
 have hz1:=ho1.size
 have hc1:cellsAt w1 ⟨q,0,none⟩ 7=some cs:=by rw[cellsAt_at hat1 0 7 (by rw[hcs];simp),hcs];rfl
 refine gO1 hc1 ?_
 refine callT (cBegun (hb.keep0 (Nat.le_refl _) hz1 ho1) ((hl.keep (Nat.le_refl _) ho1 (by simp)).up hz1)) ?_
 rintro _ w2 ⟨ho2,b,hpb,rb,qb,kb,s,R,fh,fr,ff,fk,gb,L,A,flr,rfl,bg⟩
 have o2:=ho1.nil ho2
 have hi:=bg.sc.inv
 have hRok:=bg.sc.Rok
 have hsz:=bg.sz.2.1
 have hLl:L.length=A.length:=by rw[bg.ra.e,List.length_map]
 have hA40:=bg.n2
 have hll:=leads_len hRok
 refine gO ?_
 refine run_drt [b] ?_
 have od:=Only.drew [] w2
 have sc:=bg.sc.keep0 od
 have lts: ∀z,z∈[b]→z<w2.drew.heap.size∧z∉([]:List Nat):=fun z hz=>by simp only[lms]at hz;subst hz;exact⟨sc.at_.lt,by simp⟩
 have sb0:SB [b] w2.drew w2.drew:=SB.refl _ _
 refine gO1 sc.at_.cell ?_
 refine callS (cRead sc.h hi) ?_
 rintro _ w3 ⟨ho3,q3,f3,rfl,hf3,g3⟩
 have sb3:=sb0.only ho3 lts
 refine⟨.inr sb3,?_⟩
 have sc3:=sc.keep0 ho3
 refine gO ?_
 refine callS (cReadRoots sc3.r (RT0 bg.sn hi.ok)) ?_
 rintro _ w4 ⟨ho4,q4,f4,rfl,hf4,g4⟩
 refine⟨.inl rfl,?_⟩
 have sc4:=sc3.keep0 ho4
 refine gO ?_
 refine callS (cKept sc4.at_ hi (by omega) sc4.h sc4.r (RT0 bg.sn hi.ok)) ?_
 rintro vK w5 ⟨ho5,Kq,fK,hK5,gK,kq⟩
 refine⟨.inl rfl,?_⟩
 have o25:=((od.nil ho3).nil ho4).nil ho5
 have sc5:=bg.sc.keep0 o25
 refine gO ?_
 refine callT (gSaved (bg.rg.keep0 o25) (by omega) sc5.h hi sc5.r bg.sn (by omega) (by omega) (bg.sn.rfok hi.ok)) ?_
 rintro _ w6 ⟨ho6,Ka,Sa,vs,nS,xsS,fS,rfl,kpa,kpb,hnS,hsS⟩
 obtain⟨aS,cS,eS⟩:=hsS.val
 have o26:=o25.nil ho6
 have o6:=o2.nil o26
 have rg6:=bg.rg.keep0 o26
 have sc6:=bg.sc.keep0 o26
 have gfh:gb∉fh:=fun e=>bg.ng (by simp[e])
 have gfr:gb∉fr:=fun e=>bg.ng (by simp[e])
 have gnb:b≠gb:=fun e=>bg.ng (by simp[e])
 subst eS
 refine gO1 (bnf (rfl:(0:Int)=0)) ?_
 refine callT (gCollect rg6 (by omega) sc6.h hi sc6.r bg.sn (by omega) (by omega) (bg.sn.rfok hi.ok) gfh gfr fun y hy=>(bg.sc.d2 y hy).1) ?_
 rintro _ w7 ⟨s4,R',L',ids,rep,K,S,o,s1,s2,s3,n,pv,fpv,fl',fr',col,rfl,h7,hR7,hg7,hp7,ho7,gr7,gl7,nlr7,gp7⟩
 have er8: ∃a b c d e f g i,rep=[a,b,c,d,e,f,g,i]∧a=(s4.objs.length:Int)∧c=((s2.objs.filter fun i=>!heldB K S ((2*i:Nat):Int)).length:Int):=⟨_,_,_,_,_,_,_,_,col.rp,rfl,rfl⟩
 obtain⟨p0,p1,p2,p3,p4,p5,p6,p7,erep,ep0,ep2⟩:=er8
 rw[erep]
 have hi4:=col.four.2
 have hR4ok:=PR_ok hR7
 have hll4:=leads_len hR4ok
 have hsn4:=col.snd hi bg.sn hRok
 have hfreed:=col.freed
 have hlen4:=col.len
 have z6:=o6.size
 have z26:=o26.size
 have z2:=o2.size
 have z7:=ho7.size
 have hX7: ∀y,w2.heap.size≤y→y∉gb::(fh++fr):=fun y hy e=>by
  have l2:=bg.sc.lt
  rcases List.mem_cons.1 e with e|e
  ·obtain⟨_,hgb,_⟩:=bg.rg
   have:=hgb.lt
   omega
  ·have:=l2 y (by rcases List.mem_append.1 e with e|e<;>simp[e])
   omega
 have zd:w2.drew.heap.size=w2.heap.size:=rfl
 have z3:=ho3.size
 have z4:=ho4.size
 have z5:=ho5.size
 have z56:=ho6.size
 have hf7:FM w7 q3 s.abs f3:=(((hf3.keep0 ho4).keep0 ho5).keep0 ho6).keep ho7 fun y hy=>hX7 y (by have:=g3 y hy;omega)
 have hr7:Rt.RR w7 (some ⟨q4,0,none⟩) f4 (some R):=((hf4.keep0 ho5).keep0 ho6).keep ho7 fun y hy=>hX7 y (by have:=g4 y hy;omega)
 have hK7:=(hK5.keep0 ho6).keep ho7 fun y hy=>hX7 y (by have:=gK y hy;omega)
 have hb7:At w7 b [.pointer (some ⟨hpb,0,none⟩),.pointer (some ⟨rb,0,none⟩),.pointer (some ⟨qb,0,none⟩),.pointer (some ⟨kb,0,none⟩)]:=sc6.at_.keep ho7 fun e=>by
  rcases List.mem_cons.1 e with e|e
  ·exact gnb e
  ·rcases List.mem_append.1 e with e|e
   ·exact sc6.d1.1 e
   ·exact sc6.d1.2.1 e
 have o7:Only [] w w7:=o6.trans ho7 fun y hy=>by
  refine .inr ?_
  rcases List.mem_cons.1 hy with e|e
  ·have:=bg.gg;omega
  ·have:=bg.ge y (by rcases List.mem_append.1 e with e|e<;>simp[e])
   omega
 have kset: ∀x,x∈Kq↔x∈K:=kq.kpt.same col.kpt
 have hsum:=savL_sum col.kpt.nd col.kpt2.nd col.sub
 have hKK:=kq.kpt.len col.kpt
 have edl:deadL s L Ka=deadL s L K:=by
  unfold deadL
  refine List.filter_congr fun x _=>?_
  rw[decide_eq_decide.2 (kpa.same col.kpt x)]
 rw[edl]at kpb
 have hSS:=savL_len kpa col.kpt kpb col.kpt2
 have onle:=col.nle
 have hidl:=col.idl
 have hKl:Kq.length≤2000:=Nat.le_trans (kq.up.le_objs kq.liv) (by omega)
 have hS40:s4.objs.length≤2000:=by omega
 have hol:o.length≤40:=by rw[(col.dead hi bg.ra).length_eq];exact Nat.le_trans (List.length_filter_le _ _) hA40
 obtain⟨ap,cp,rfl⟩:=hp7.val
 obtain⟨aK,cK,eK⟩:=hK7.val
 subst eK
 refine gO ?_
 refine boxT fun tb w8 htb hs8 hat8 ho8=>?_
 refine gO ?_
 refine stNT (n:=8) (i:=0) hat8 (by rfl) (by simp) ints_one fun w9 hs9 hat9 ho9=>?_
 have o79:Only [] w7 w9:=ho8.trans ho9 fun y hy=>by simp only[lms]at hy;exact .inr (by omega)
 have ct0: ∀w',Only [] w9 w'→w'.cell? ⟨tb,0,none⟩=some (.int .i64 (s4.objs.length:Int)):=fun w' o=>by rw[(hat9.keep0 o).cell,←ep0];rfl
 have ct2: ∀w',Only [] w9 w'→w'.cell? ⟨tb,2,none⟩=some (.int .i64 ((s.objs.length-s4.objs.length:Nat):Int)):=fun w' o=>by
  have e:p2=((s.objs.length-s4.objs.length:Nat):Int):=by rw[ep2];omega
  rw[(hat9.keep0 o).cell,←e];rfl
 have hb9:=hb7.keep0 o79
 refine gO1 hb9.cell ?_
 refine callT (cRead (h7.keep0 o79) hi4) ?_
 rintro _ w10 ⟨ho10,q10,f10,rfl,hf10,g10⟩
 have o710:=o79.nil ho10
 have o910:=ho10
 (repeat(first|with_reducible(first|refine nx ?_|refine r_6 rfl ?_)|simp only[go_sem,(hb7.keep0 o710).cell]))
 refine callT (cReadRoots (hR7.keep0 o710) (RT0 hsn4 hi4.ok)) ?_
 rintro _ w11 ⟨ho11,q11,f11,rfl,hf11,g11⟩
 have o711:=o710.nil ho11
 refine gO ?_
 refine callT (cLost hi hi4 (by omega) (by omega) hRok (hf7.keep0 o711) (hr7.keep0 o711) (hf10.keep0 ho11) hf11 (fun K1 k1=>col.kpr hi bg.sn k1) (col.plc hi bg.sn hRok)) ?_
 rintro _ w12 ⟨ho12,aD,cD,rfl⟩
 have o712:=o711.nil ho12
 have o912:=(ho10.nil ho11).nil ho12
 have hf12:=(hf10.keep0 ho11).keep0 ho12
 have hff:=hf7.keep0 (o712.nil (Only.drew [] w12))
 have hfn:=hf12.keep0 (Only.drew [] w12)
 obtain⟨_,vOn,_,_,_,_,LN,_,hmn⟩:=id hfn
 obtain⟨lLN,_⟩:=hmn.ob (s0:=s4) rfl
 obtain⟨avn,cvn,rfl⟩:=hmn.valO
 obtain⟨_,vOw,_,_,_,_,LW,_,hmw⟩:=id hff
 obtain⟨lLW,_⟩:=hmw.ob (s0:=s) rfl
 obtain⟨avw,cvw,rfl⟩:=hmw.valO
 have hb12:=hb7.keep0 (o712.nil (Only.drew [] w12))
 have ct12:=ct0 _ (o912.nil (Only.drew [] w12))
 have ct22:=ct2 _ (o912.nil (Only.drew [] w12))
 refine gO ?_
 refine run_drt [b,q10,q3,tb] ?_
 have ltz: ∀z,z∈[b,q10,q3,tb]→z<w12.drew.heap.size∧z∉([]:List Nat):=fun z hz=>by
  refine⟨?_,by simp⟩
  simp only[List.mem_cons,List.not_mem_nil,or_false]at hz
  rcases hz with rfl|rfl|rfl|rfl
  ·exact hb12.lt
  ·exact hmn.hb.lt
  ·exact hmw.hb.lt
  ·exact(hat9.keep0 (o912.nil (Only.drew [] w12))).lt
 have sbz:SB [b,q10,q3,tb] w12.drew w12.drew:=SB.refl _ _
 have same: ∀x:Int,(x !=x)=false:=fun x=>by simp
 have eadd:IntKind.i64.wrap ((Kq.length:Int)+(nS:Int))=(s4.objs.length:Int):=by rw[IntWalk.i64_in _ (by omega)];omega
 have esub:IntKind.i64.wrap ((s.objs.length:Int)-(s4.objs.length:Int))=((s.objs.length-s4.objs.length:Nat):Int):=by rw[IntWalk.i64_in _ (by omega)];omega
 (repeat(first|with_reducible(first|refine nx ?_|refine r_6 rfl ?_)|simp only[go_sem,hb12.cell,same,bnf (rfl:(0:Int)=0),show(((0:Nat):Int) !=0)=false from rfl,show(Int.ofNat 0 !=0)=false from rfl,show∀b:Bool,(b !=true)=!b from fun b=>by cases b<;>rfl]))
 try simp only[Int.natCast_zero,Int.cast_ofNat_Int,Nat.cast_ofNat]
 refine gO2 hb12.cell same ?_
 refine callS (cReadRoots (hR7.keep0 (o712.nil (Only.drew [] w12))) (RT0 hsn4 hi4.ok)) ?_
 rintro _ w13 ⟨ho13,q13,f13,rfl,hf13,g13⟩
 have sb13:=sbz.only ho13 ltz
 refine⟨.inr sb13,?_⟩
 refine gO ?_
 refine callS1 (cSound hi4 hsn4 (by omega) (by omega) (hfn.keep0 ho13) hf13) (.inr ⟨sb13,fun z hz=>⟨Nat.lt_of_lt_of_le (ltz z hz).1 ho13.size,by simp⟩⟩) fun w14 ho14=>?_
 have o1214:=((Only.drew [] w12).nil ho13).nil ho14
 have o714:=o712.nil o1214
 have hbn:=((hmn.keep0 ho13).keep0 ho14).hb.cell
 have hbw:=((hmw.keep0 ho13).keep0 ho14).hb.cell
 have ct14:=ct0 _ (o912.nil o1214)
 have ct24:=ct2 _ (o912.nil o1214)
 rw[lLN]at hbn
 rw[lLW]at hbw
 (repeat(first|with_reducible(first|refine nx ?_|refine r_6 rfl ?_)|simp only[go_sem,hbn,hbw,hmn.hb.cell,hmw.hb.cell,lLN,lLW,ct12,ct22,ct14,ct24,eadd,esub,same]))
 have o14:=o7.nil o714
 have hf14:FM w14 q3 s.abs f3:=hf7.keep0 o714
 have hfn14:FM w14 q10 s4.abs f10:=(hfn.keep0 ho13).keep0 ho14
 have hp14:=hp7.keep0 o714
 have hK14:=hK7.keep0 o714
 have o1314:=ho13.nil ho14
 refine run_loop (17::18::19::20::21::22::23::134::135::136::137::138::139::140::141::142::143::144::145::146::147::148::149::150::151::152::153::154::155::156::157::158::159::160::161::162::163::164::165::166::167::168::169::170::171::172::173::174::175::176::177::178::179::180::181::182::183::184::185::186::187::188::189::190::191::192::193::194::195::196::197::198::199::200::201::[]) (fun g' w'=> ∃i:Nat,g' 17=.int .i64 (i:Int)∧i≤n∧Only [] w14 w') (fun g' _=>upTo n 17 g')
  ⟨0,by simp only[go_sem];rfl,by omega,Only.refl _ _⟩ fun g15 w15 hI hnext=>?_
 obtain⟨i,h17,hin,ho15⟩:=hI
 by_cases c1:i<n
 rotate_left
 ·refine gO2 h17 (dfl (show¬(i:Int)<(ids.length:Int) by omega)) ?_
  refine callT1 (fin_awake w15) fun w16 ho16=>?_
  refine gO ?_
  exact(o14.nil ho15).nil ho16
 have ci:(0:Int)≤(i:Int)∧(i:Int)<(ids.length:Int):=by omega
 have hio:i<o.length:=by omega
 obtain⟨gp,_,yp,ep,hatp,_,_⟩:=(hp14.keep0 ho15).pos (by omega)
 cases ep
 obtain⟨a,ha⟩: ∃a,a=o.getD i 0:=⟨_,rfl⟩
 have hao:a∈o:=by rw[ha];simp[hio]
 have hal:Liv s a:=col.kpt2.liv a (col.oS hi hao)
 have eid:ids.getD i 0=idA s a:=by
  rw[col.ii,ha]
  simp[hio,c1]
 have vr:w15.cell? ⟨gp,i,none⟩=some (.int .i64 (idA s a)):=by rw[hatp.cell,←eid];exact ints_append_get yp (by omega)
 have ead:adE s (idA s a)=(a,0):=by unfold adE;rw[adO_id hi hal]
 refine gJ4 h17 (dtr ci.2) (eq_true ci) vr ?_
 refine callT0 (fAt hi (hf14.keep0 ho15) (idA s a)) ?_
 rw[ead]
 refine gO ?_
 rw[fillL_one rfl rfl]
 refine gO ?_
 refine bslT fun q16 w16 hq16 hs16 hat16 ho16=>?_
 refine gO ?_
 have o1416:=ho15.nil ho16
 refine callT (cReach (tb:=false) (l:=[a]) (fl:=[q16]) hi (by omega) (hf14.keep0 o1416) (Sl.mk1 (ys:=[]) hat16 rfl rfl) (by simp)) ?_
 rintro vT w17 ⟨ho17,T,fT,hT,gT,kT⟩
 have hTl:T.length≤2000:=Nat.le_trans (kT.up.le_objs kT.liv) (by omega)
 obtain⟨aT,cT,eT⟩:=hT.val
 subst eT
 have o1417:=o1416.nil ho17
 refine gO ?_
 refine run_loop (21::153::154::155::156::157::158::159::160::161::162::163::164::165::[]) (fun g' w'=> ∃k:Nat,g' 21=.int .i64 (k:Int)∧k≤T.length∧w'=w17) (fun g' _=>upTo T.length 21 g')
  ⟨0,by simp only[go_sem];rfl,by omega,rfl⟩ fun g18 w18 hI hnext2=>?_
 obtain⟨k,h21,hkl,rfl⟩:=hI
 by_cases c2:k<T.length
 ·have ck:(0:Int)≤(k:Int)∧(k:Int)<(T.length:Int):=by omega
  obtain⟨gt,_,yt,et,hatt,_,_⟩:=hT.pos (by omega)
  cases et
  have vt:w18.cell? ⟨gt,k,none⟩=some (.int .i64 (T.getD k 0)):=by rw[hatt.cell];exact ints_append_get yt (by omega)
  have hh:=fHas (hfn14.keep0 o1417) (T.getD k 0)
  rw[abs_has hi4.ok,(has_liv hi4.ok).2 (col.reach hi hao kT (show T.getD k 0∈T by simp[c2]))]at hh
  refine gJ4 h21 (dtr ck.2) (eq_true ck) vt ?_
  refine callT0 hh ?_
  refine gO2 h21 (i64_succ k (by omega)) ?_
  refine hnext2 _ w18 ⟨k+1,?_,by omega,rfl⟩ ?_
  ·simp only[go_sem]
  ·exact up_lt h21
 clear hnext2
 refine gO2 h21 (dfl (show¬(k:Int)<(T.length:Int) by omega)) ?_
 refine run_loop (22::23::166::167::168::169::170::171::172::173::174::175::176::177::178::179::180::181::182::183::184::185::186::187::188::189::190::191::192::193::194::195::196::197::198::199::200::201::[]) (fun g' w'=> ∃m:Nat,g' 22=.int .i64 (m:Int)∧m≤Kq.length∧Only [] w18 w') (fun g' _=>upTo Kq.length 22 g')
  ⟨0,by simp only[go_sem];rfl,by omega,Only.refl _ _⟩ fun g19 w19 hI hnext3=>?_
 obtain⟨m,h22,hml,ho19⟩:=hI
 have o1419:=o1417.nil ho19
 by_cases c3:m<Kq.length
 rotate_left
 ·refine gO4 h22 h17 (dfl (show¬(m:Int)<(Kq.length:Int) by omega)) (i64_succ i (by omega)) ?_
  refine hnext _ w19 ⟨i+1,?_,by omega,o1419⟩ ?_
  ·simp only[go_sem]
  ·exact up_lt h17
 have cm:(0:Int)≤(m:Int)∧(m:Int)<(Kq.length:Int):=by omega
 obtain⟨gk,_,yk,ek,hatk,_,_⟩:=hK14.pos (by omega)
 cases ek
 have hx:Kq.getD m 0∈Kq:=by simp[c3]
 have vk: ∀w',Only [] w14 w'→w'.cell? ⟨gk,m,none⟩=some (.int .i64 (Kq.getD m 0)):=fun w' o=>by rw[(hatk.keep0 o).cell];exact ints_append_get yk (by omega)
 obtain⟨k0,hke,hk0⟩:=kq.liv _ hx
 rw[hke]at hx vk
 have hxK:=(kset _).1 hx
 have hk4:=(col.st k0).2 (col.sub _ hxK)
 obtain⟨q',hq',hqe⟩:=objs_index hk4
 obtain⟨gc,cr,cpo,gr,d,cd,gd,ea,gclt,er,_,see⟩:=hmn.see9 hq'
 cases ea
 rw[hqe]at er see
 have cq:(0:Int)≤(q':Int)∧(q':Int)<(s4.objs.length:Int):=by omega
 have o19d:=o1419.nil (Only.drew [] w19)
 have osee:=o1314.nil o19d
 obtain⟨s8,_,_,_⟩:=see _ osee
 have hbn9:=(hmn.keep0 osee).hb.cell
 have hbl9:=(hmn.keep0 osee).hb.lt
 rw[lLN]at hbn9
 have zo:=o1314.size
 have zo2:=o1419.size
 have z19:w19.drew.heap.size=w19.heap.size:=rfl
 refine gO2 h22 (dtr cm.2) ?_
 refine run_cut (23::172::173::174::175::176::177::178::179::180::181::182::183::[]) (fun g' w'=> ∃qo,g' 23=.pointer (some ⟨qo,0,none⟩)∧At w' qo (obV (s4.obAt k0) (.slice cr (s4.obAt k0).rf.length cpo) (.slice d (s4.obAt k0).dt.length cd))∧Only [] w19 w') (fun kk hkk=>?_) (fun g20 w20 hJ=>?_)
 ·refine run_drt [q10,gk,gc] ?_
  have ltz2: ∀z,z∈[q10,gk,gc]→z<w19.drew.heap.size∧z∉([]:List Nat):=fun z hz=>by
   refine⟨?_,by simp⟩
   simp only[List.mem_cons,List.not_mem_nil,or_false]at hz
   rcases hz with rfl|rfl|rfl
   ·exact hbl9
   ·exact(hatk.keep0 o19d).lt
   ·omega
  have sb0:SB [q10,gk,gc] w19.drew w19.drew:=SB.refl _ _
  (repeat(first|with_reducible(first|refine nx ?_|refine r_6 rfl ?_)|simp only[go_sem,h22,hbn9,if_pos cm,tnc,Nat.mul_one,vk _ o19d]))
  refine⟨?_,?_⟩
  ·refine callS0 (fIndex (hfn14.keep0 o19d) ((2*k0:Nat):Int)) (.inr sb0) ?_
   rw[abs_ix hq' hqe]
   (repeat(first|with_reducible(first|refine nx ?_|refine r_6 rfl ?_)|simp only[go_sem,show ixI (some q')=(q':Int)from rfl,if_pos cq,tnc,s8]))
   refine boxS fun qo w21 hq hs21 hat21 ho21=>⟨.inr (sb0.only ho21 ltz2),?_⟩
   refine gO ?_
   refine stNS hat21 rfl (by simp) (obV_one rfl rfl) fun w22 hs22 hat22 ho22=>⟨.inl rfl,?_⟩
   refine gO ?_
   refine hkk _ w22 ⟨qo,?_,hat22,((Only.drew [] w19).nil ho21).trans ho22 fun y hy=>by simp only[lms]at hy;exact .inr (by omega)⟩
   ·simp only[go_sem]
  ·refine boxS fun qo w21 hq hs21 hat21 ho21=>⟨.inr (sb0.only ho21 ltz2),?_⟩
   refine gO ?_
   refine callS0 (fIndex (hfn14.keep0 (o19d.nil ho21)) ((2*k0:Nat):Int)) (.inr (sb0.only ho21 ltz2)) ?_
   rw[abs_ix hq' hqe]
   obtain⟨s7c,_,_,_⟩:=see _ (osee.nil ho21)
   (repeat(first|with_reducible(first|refine nx ?_|refine r_6 rfl ?_)|simp only[go_sem,show ixI (some q')=(q':Int)from rfl,if_pos cq,tnc,s8,s7c]))
   refine stNS hat21 rfl (by simp) (obV_one rfl rfl) fun w22 hs22 hat22 ho22=>⟨.inl rfl,?_⟩
   refine gO ?_
   refine hkk _ w22 ⟨qo,?_,hat22,((Only.drew [] w19).nil ho21).trans ho22 fun y hy=>by simp only[lms]at hy;exact .inr (by omega)⟩
   ·simp only[go_sem]
 obtain⟨qo,h23,hato,ho20⟩:=hJ
 have d4:w20.cell? ⟨qo,4,none⟩=some (.int .i64 (s4.obAt k0).sh.2.2):=by rw[hato.cell];rfl
 have d5:w20.cell? ⟨qo,5,none⟩=some (.slice cr (s4.obAt k0).rf.length cpo):=by rw[hato.cell];rfl
 have ern:(s4.obAt k0).rf.length=(s.obAt k0).rf.length:=by rw[col.obK hxK];exact(clrOb_same _ _).2.2
 have zm:=i64_succ m (by omega)
 have ofin:=ho19.nil ho20
 have fin: ∀g',g' 22=.int .i64 ((m+1:Nat):Int)→upTo Kq.length 22 g'<upTo Kq.length 22 g19:=fun g' hg=>by
  rw[upTo_int (i:=m) h22,upTo_int (k:=.i64) (i:=m+1) hg];omega
 by_cases kw:(s4.obAt k0).sh.2.2=1∨(s4.obAt k0).sh.2.2=2
 ·have hp:=rf_pos hi4.ok hk4 kw
  obtain rfl:=er hp
  have hw:=col.weak hi bg.sn bg.ra hao hxK (by omega)
  have tr:w20.cell? ⟨gr,0,none⟩=some (.int .i64 (s4.RF k0 0)):=(see _ ((o1314.nil o1419).nil ho20)).2.2.1 0 hp
  have i1:(0:Int)≤0∧(0:Int)<((s4.obAt k0).rf.length:Int):=by omega
  rcases kw with kw|kw
  ·rw[kw]at d4
   (repeat(first|with_reducible(first|refine nx ?_|refine r_6 rfl ?_)|simp only[go_sem,h23,d4,bqt (rfl:(1:Int)=1),d5,if_pos i1,if_pos i1.2,show Int.toNat 0*1=0 from rfl,tr,bqf hw,h22,zm]))
   refine hnext3 _ w20 ⟨m+1,?_,by omega,ofin⟩ (fin _ ?_)
   ·simp only[go_sem]
   ·simp only[go_sem]
  ·rw[kw]at d4
   (repeat(first|with_reducible(first|refine nx ?_|refine r_6 rfl ?_)|simp only[go_sem,h23,d4,bqf (show¬(2:Int)=1 by omega),bqt (rfl:(2:Int)=2),d5,if_pos i1,if_pos i1.2,show Int.toNat 0*1=0 from rfl,tr,bqf hw,h22,zm]))
   refine hnext3 _ w20 ⟨m+1,?_,by omega,ofin⟩ (fin _ ?_)
   ·simp only[go_sem]
   ·simp only[go_sem]
 ·have k1: ¬(s4.obAt k0).sh.2.2=1:=fun e=>kw (.inl e)
  have k2: ¬(s4.obAt k0).sh.2.2=2:=fun e=>kw (.inr e)
  refine gO6 h23 d4 (bqf k1) (bqf k2) h22 zm ?_
  refine hnext3 _ w20 ⟨m+1,?_,by omega,ofin⟩ (fin _ ?_)
  ·simp only[go_sem]
  ·simp only[go_sem]
end
section
open Go.ChangeShapes Go.WideShapes Go.ChangeAt Go.RowKit
section
variable {H:Type} {enc:TypeId×Value→H} {P:Program}
theorem trodAll_below (hl:laidOutB P=true) {W W':World} (hb:Below W.heap.size W W'): ∀(ts:List TypeId) (vs:List Value) (ds:List (DataW H)) (ps:List MemPlace),(ts.all fun t=>P.readableRec t&&decide (t<P.types.size))=true→
  DataW.TrodAll enc P W 0 (fun _=>true) true ts vs ds ps→(∀x∈ps,x.block<W.heap.size)→DataW.TrodAll enc P W' 0 (fun b=>decide (b<W.heap.size)) true ts vs ds ps
 | [],[],[],_,_,h,_=>h
 | [],_::_,_,_,_,h,_=>h.elim
 | [],[],_::_,_,_,h,_=>h.elim
 |_::_,[],_,_,_,h,_=>by cases h
 |_::_,_::_,[],_,_,h,_=>by cases h
 |t::ts,v::vs,d::ds,ps,hc,h,hlt=>by
  obtain⟨p,q,h1,h2,rfl⟩:=h
  simp only[List.all_cons,Bool.and_eq_true,decide_eq_true_eq]at hc
  exact⟨p,q,Below.trod hl hc.1.1 hc.1.2 h1 hb (fun x hx=>hlt x (List.mem_append_left _ hx)),trodAll_below hl hb ts vs ds q hc.2 h2 (fun x hx=>hlt x (List.mem_append_right _ hx)),rfl⟩
theorem law_post {f:Func} {s:ChangeSpec} {W W':World} {args:Array Value} {ds:List (DataW H)} {p:List MemPlace} {b:TypeId} (hl:laidOutB P=true) (hc:(f.params.toList.all fun t=>P.readableRec t&&decide (t<P.types.size))=true)
  (hv:s.vars=[]) (hW:DataW.Whole enc P f.params.toList s.vars false W args.toList ds [] (p++[])) (hA:DataW.TrodAll enc P W 0 (fun _=>true) true f.params.toList args.toList ds p)
  (hs:s.fn H (ds++[])= {results:=[.lit (.bool true)],args:=ds}) (hr:f.resultTypes=#[b]) (hbt:P.underlying b=some .bool) (hb:Below W.heap.size W W'):
  s.post enc P f false true false false W args (.bool true) W':=by
 have hlt: ∀x∈p,x.block<W.heap.size:=fun x hx=>hW.lt x (List.mem_append_left _ hx)
 refine⟨ds,[],p++[],[],p,[],hW,?_,?_,?_,hb.frame _,fun h=>by cases h⟩
 ·rw[hs,hr]
  exact trodAll_mk1 (shut_bool hbt true)
 ·rw[hs]
  exact trodAll_below hl hb _ _ _ _ hc hA hlt
 ·rw[hs,hv];rfl
end
theorem law_end {P:Program} {f:FuncId} {args:List Value} {W:World} {Q:Value→World→Prop} (h:Cs P f args W fun r W'=>r=.bool true∧Only [] W W') (hq: ∀W',Below W.heap.size W W'→Q (.bool true) W'):
  Cs P f args W Q:=h.mono fun r W' ⟨e,ho⟩=>by rw[e];exact hq W' (ho.below (by simp))
end
section
open Go.ChangeShapes Go.WideShapes Go.ChangeAt Go.RowKit Go.Deep
theorem Tryz.own:ownKnob Tryz.prog.godebug=none:=by kernel_rfl
theorem Tryz.laidOut:laidOutB Tryz.prog=true:=by kernel_rfl
end
section
open Go.ChangeShapes Go.WideShapes Go.ChangeAt Go.RowKit Go.Deep
set_option maxRecDepth 100000
theorem cellsAt_of12 {w:World} {base:Nat} {a:Addr} {n:Nat} {cs:List Value} (h:w.cells? base a n=some cs):cs.length=n∧ ∀i,i<n→w.cell? (a.add i)=cs[i]? :=by
 obtain⟨_,hl,hc⟩:=World.cells?_some h
 exact⟨hl,fun i hi=>by rw[hc i hi]⟩
theorem choose_lt12 {α:Type} [Inhabited α] {n:Nat} {p:Nat→α→Prop} (h: ∀i,i<n→ ∃x,p i x): ∃F:Nat→α,∀i,i<n→p i (F i):=by
 refine⟨fun i=>if hi:i<n then Classical.choose (h i hi)else default,fun i hi=>?_⟩
 simp only[hi,dif_pos]
 exact Classical.choose_spec (h i hi)
theorem open_u8 {H:Type} {enc:TypeId×Value→H} {w:World} {base:Nat} {spare:Nat→Bool} {held:Bool} {n:Nat} {cs:List Value} {x:DataW H×List MemPlace} (h:DataW.trod enc Tryz.prog w base spare held n 5 cs=some x): ∃k:Nat,cs=[u8V k]∧k<256:=by
 obtain⟨k,e,_,hw⟩:=DataW.trod_int Tryz.underlying5 h
 have hb:=bounds_u8 hw
 exact⟨k.toNat,by rw[e];unfold u8V;rw[Int.toNat_of_nonneg hb.1],by omega⟩
theorem Tryz.cells12u8:Tryz.prog.cellsOf 5=1:=by kernel_rfl
theorem open_u8a {H:Type} {enc:TypeId×Value→H} {w:World} {base:Nat} {spare:Nat→Bool} {held:Bool} {m n:Nat} {ty:TypeId} {cs:List Value} {x:DataW H×List MemPlace} (ha:Tryz.prog.underlying ty=some (.array n 5)) (h:DataW.trod enc Tryz.prog w base spare held m ty cs=some x):
  ∃f:Nat→Nat,∀j,j<n→cs[j]? =some (u8V (f j))∧f j<256:=by
 obtain⟨xs,m',_,_,_,hxl,hx⟩:=DataW.trod_array ha h
 refine choose_lt12 (p:=fun j k=>cs[j]? =some (u8V k)∧k<256) fun j hj=>?_
 have h1:=hx j hj
 rw[Tryz.cells12u8,List.getElem?_eq_getElem (by omega),Nat.mul_one]at h1
 obtain⟨k,e,hk⟩:=open_u8 h1
 refine⟨k,?_,hk⟩
 have:((cs.drop j).take 1)[0]? =some (u8V k):=by rw[e];rfl
 rw[List.getElem?_take,if_pos (by omega),List.getElem?_drop]at this
 simpa using this
theorem open_u8s {H:Type} {enc:TypeId×Value→H} {W:World} {m n:Nat} {st ty:TypeId} {cs:List Value} {x:DataW H×List MemPlace} (hs:Tryz.prog.underlying st=some (.slice ty)) (ha:Tryz.prog.underlying ty=some (.array n 5)) (hn:Tryz.prog.cellsOf ty=n) (hn0:0<n) (h:DataW.trod enc Tryz.prog W 0 (fun _=>true) true m st cs=some x):
  ∃(v:Value) (len:Nat) (f:Nat→Nat→Nat),cs=[v]∧U8At W.heap.size W v len n f:=by
 rcases open_slice hs h with⟨e,_⟩|⟨a,len,cap,m',n',D,Pl,e,_,hle,hcap,hm,_,hel⟩
 ·exact⟨_,0,fun _ _=>0,e,none,0,rfl,fun _ _=>by dsimp only;omega,fun i hi=>by omega⟩
 ·rw[if_pos rfl]at hm
  obtain⟨F,hF⟩:=choose_lt12 (α:=Nat→Nat) (n:=len) (p:=fun i f=> ∀j,j<n→W.cell? ((a.add (i*n)).add j)=some (u8V (f j))∧f j<256) fun i hi=>by
   obtain⟨cs',h1,h2⟩:=hel i (by omega)
   rw[hn]at h1
   obtain⟨hl1,hc1⟩:=cellsAt_of12 h1
   obtain⟨f,hf⟩:=open_u8a ha h2
   exact⟨f,fun j hj=>by rw[hc1 j hj];exact hf j hj⟩
  refine⟨_,len,fun i j=>if i<len∧j<n then F i j else 0,e,some a,cap,rfl,fun i j=>?_,fun i hi=>⟨a,rfl,?_,fun j hj=>?_⟩⟩
  ·dsimp only
   split
   ·rename_i hc;exact(hF i hc.1 j hc.2).2
   ·omega
  ·have:=cell_lt (hF i hi 0 hn0).1
   rwa[add_block,add_block]at this
  ·dsimp only;rw[if_pos ⟨hi,hj⟩];exact(hF i hi j hj).1
theorem open_u8l {H:Type} {enc:TypeId×Value→H} {W:World} {m:Nat} {st:TypeId} {cs:List Value} {x:DataW H×List MemPlace} (hs:Tryz.prog.underlying st=some (.slice 5)) (h:DataW.trod enc Tryz.prog W 0 (fun _=>true) true m st cs=some x):
  ∃(v:Value) (len:Nat) (f:Nat→Nat→Nat),cs=[v]∧U8At W.heap.size W v len 1 f:=by
 rcases open_slice1 hs Tryz.cells12u8 h with⟨e,_⟩|⟨a,len,cap,m',n',V,D,Pl,e,_,hle,hcap,hm,_,hel⟩
 ·exact⟨_,0,fun _ _=>0,e,none,0,rfl,fun _ _=>by dsimp only;omega,fun i hi=>by omega⟩
 ·rw[if_pos rfl]at hm
  obtain⟨F,hF⟩:=choose_lt12 (α:=Nat) (n:=len) (p:=fun i k=>W.cell? (a.add i)=some (u8V k)∧k<256) fun i hi=>by
   obtain⟨h1,h2⟩:=hel i (by omega)
   obtain⟨k,e2,hk⟩:=open_u8 h2
   simp only[List.cons.injEq,and_true]at e2
   exact⟨k,by rw[h1,e2],hk⟩
  refine⟨_,len,fun i _=>if i<len then F i else 0,e,some a,cap,rfl,fun i j=>?_,fun i hi=>⟨a,rfl,?_,fun j hj=>?_⟩⟩
  ·dsimp only
   split
   ·rename_i hc;exact(hF i hc).2
   ·omega
  ·have:=cell_lt (hF i hi).1
   rwa[add_block]at this
  ·obtain rfl:j=0:=by omega
   dsimp only;rw[if_pos hi,Nat.mul_one];exact(hF i hi).1
theorem Tryz.cells12b:Tryz.prog.cellsOf 27=7:=by kernel_rfl
theorem Tryz.cells12o:Tryz.prog.cellsOf 23=1:=by kernel_rfl
theorem Tryz.cells12d:Tryz.prog.cellsOf 22=1:=by kernel_rfl
theorem Tryz.cells12l:Tryz.prog.cellsOf 24=1:=by kernel_rfl
theorem Tryz.cells12p:Tryz.prog.cellsOf 25=1:=by kernel_rfl
theorem open_begin {H:Type} {enc:TypeId×Value→H} {W:World} {v:Value} {d:DataW H} {ps:List MemPlace} {r:Reach} {b0:Nat} (hval:Value.okWide Tryz.prog W r b0 27 v) (h:DataW.Trod enc Tryz.prog W 0 (fun _=>true) true 27 v d ps):
  ∃(cs:List Value) (g:BG) (vO vD vL vP vN:Value),v=.agg ⟨cs⟩∧BegAt W.heap.size W cs g vO vD vL vP vN:=by
 obtain⟨⟨cs⟩,rfl,_⟩:=okWide_struct Tryz.underlying27 hval
 obtain⟨fuel,h⟩:=h
 obtain⟨xs,n,_,_,hl,hlen,hf⟩:=DataW.trod_struct Tryz.underlying27 h
 rw[Tryz.cells12b]at hl
 match xs,hlen with
 | [y0,y1,y2,y3,y4,y5,y6],_=>
 have g0:=by simpa using hf 0 _ rfl
 have g1:=by simpa using hf 1 _ rfl
 have g2:=by simpa using hf 2 _ rfl
 have g3:=by simpa using hf 3 _ rfl
 have g4:=by simpa using hf 4 _ rfl
 have g5:=by simpa using hf 5 _ rfl
 have g6:=by simpa using hf 6 _ rfl
 match cs,hl with
 | [c0,c1,c2,c3,c4,c5,c6],_=>
  obtain⟨k0,e0,l0⟩:=open_u8 g0
  obtain⟨k1,e1,l1⟩:=open_u8 g1
  obtain⟨vO,nO,fO,e2,hO⟩:=open_u8s Tryz.underlying23 Tryz.underlying28 (by kernel_rfl) (by omega) g2
  obtain⟨vD,nD,fD,e3,hD⟩:=open_u8l Tryz.underlying22 g3
  obtain⟨vL,nL,fL,e4,hL⟩:=open_u8s Tryz.underlying24 Tryz.underlying140 (by kernel_rfl) (by omega) g4
  obtain⟨vP,nP,fP,e5,hP⟩:=open_u8s Tryz.underlying25 Tryz.underlying143 (by kernel_rfl) (by omega) g5
  obtain⟨vN,nN,fN,e6,hN⟩:=open_u8l Tryz.underlying22 g6
  simp only[Tryz.cells12u8,Tryz.cells12o,Tryz.cells12d,Tryz.cells12l,Tryz.cells12p,Value.cells,List.tail_cons,List.drop_zero,List.take_succ_cons,List.take_zero,List.drop_succ_cons,List.cons.injEq,and_true]at e0 e1 e2 e3 e4 e5 e6
  exact⟨_,⟨k0,k1,nO,nD,nL,nP,nN,fO,fD,fL,fP,fN⟩,vO,vD,vL,vP,vN,rfl,by rw[e0,e1,e2,e3,e4,e5,e6],l0,l1,hO,hD,hL,hP,hN⟩
theorem open_u8sv {H:Type} {enc:TypeId×Value→H} {W:World} {v:Value} {d:DataW H} {ps:List MemPlace} {r:Reach} {b0:Nat} (hval:Value.okWide Tryz.prog W r b0 22 v) (h:DataW.Trod enc Tryz.prog W 0 (fun _=>true) true 22 v d ps): ∃(n:Nat) (f:Nat→Nat→Nat),U8At W.heap.size W v n 1 f:=by
 obtain⟨a0,len0,cap0,rfl⟩:=okWide_slice Tryz.underlying22 hval
 obtain⟨fuel,h⟩:=h
 obtain⟨v',n,f,e,hu⟩:=open_u8l Tryz.underlying22 h
 simp only[Value.cells,List.cons.injEq,and_true]at e
 rw[←e]at hu
 exact⟨n,f,hu⟩
end
section
open Go.ChangeShapes Go.WideShapes Go.ChangeAt Go.RowKit
set_option maxRecDepth 100000 in
theorem finalSaved_lifted (os:Os) (started:os.Started) (H:Type) (enc:TypeId×Value→H):
  ReturnsInHanded {} Tryz.checked os 7 .any (Rows.finalSavedSpec.pre6 enc Tryz.prog Tryz.f7 Rows.finalSavedRow.domain false) (Rows.finalSavedSpec.post enc Tryz.prog Tryz.f7 false true false false):=by
 refine returnsInHanded_of_change (C:=Tryz.checked) Tryz.own started (by kernel_rfl) Tryz.func7
  (ChangeSpec.witness6 (enc:=enc) (C:=Tryz.checked) false ⟨#[],#[.agg #[.int .u8 0,.int .u8 0,.slice none 0 0,.slice none 0 0,.slice none 0 0,.slice none 0 0,.slice none 0 0],.slice none 0 0],[]⟩ 8 (by kernel_rfl) (by kernel_rfl) (by kernel_rfl) (by kernel_rfl)) ?_
 intro W base args ds gs before hval0 hW hcnd _
 have hval: ∀(j:Nat) t v,Tryz.f7.params[j]? =some t→args[j]? =some v→Value.okWide Tryz.prog W .any base t v:=hval0
 have hW':=hW
 obtain⟨p,q,hA0,hV,rfl,hfz,hnd⟩:=hW
 have hA:DataW.TrodAll enc Tryz.prog W 0 (fun _=>true) true Tryz.f7.params.toList args.toList ds p:=hA0
 have hA1:=hA
 obtain⟨rfl,rfl⟩:=trodVars_none hV
 rw[Tryz.params7]at hA hval
 obtain⟨v0,vs0,d0,ds0,p0,q0,hargs,rfl,rfl,h0,r0⟩:=trodAll_cons hA
 obtain⟨v1,vs1,d1,ds1,p1,q1,rfl,rfl,rfl,h1,r1⟩:=trodAll_cons r0
 obtain⟨rfl,rfl,rfl⟩:=trodAll_nil r1
 obtain⟨args⟩:=args
 simp only at hargs
 subst hargs
 obtain⟨cs0,g0,wO0,wD0,wL0,wP0,wN0,rfl,hl0⟩:=open_begin (hval 0 27 v0 rfl rfl) h0
 obtain⟨n1,f1,hl1⟩:=open_u8sv (hval 1 22 v1 rfl rfl) h1
 exact law_end (fin_saved hl0 hl1) fun W' hb=>law_post (b:=4) Tryz.laidOut (by kernel_rfl) rfl hW' hA1 rfl (by kernel_rfl) Tryz.underlying4 hb
theorem YteiildhelefodaaGreatFinalSaved:Rows.FinalSavedSaid:=
 OpenClaim.holds_of_wide 7 Tryz.f7 rfl rfl rfl rfl rfl rfl rfl ⟨rfl,rfl,rfl,rfl,rfl⟩ rfl rfl rfl rfl rfl (by kernel_rfl) Tryz.func7 (by kernel_rfl)
  (of_decide_eq_true (by kernel_rfl)) (by unfold Func.isWrapper;first|(rw[if_pos (by decide+kernel)];kernel_rfl)|(rw[if_neg (by decide+kernel)];exact⟨rfl,rfl⟩))
  (fun os started H enc _=>finalSaved_lifted os started H enc)
end
end Go.Proofs.YteiildhelefodaaGreat
