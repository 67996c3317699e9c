/- The law FinalOldest: whatever comes in, it returns true, and what came in reads as it did. -/
import Derived.Test.YteiildhelefodaaGreatZPk3
import Derived.ProofKit
import Derived.Deep.Slices
import Derived.Lib.SmallJoins
import Derived.Test.YteiildhelefodaaGreatRows
import Derived.OpenShut
import Derived.Deep.Strs
set_option linter.unusedSimpArgs false
set_option linter.unusedVariables false
section
namespace Go.Proofs.YteiildhelefodaaGreat
set_option maxRecDepth 8000
theorem vKept {w:World} {q vb mk:Nat} {c0:Value} {cs:List Value} {K:List Int} (hq:At w q [.pointer (some ⟨vb,0,none⟩)]) (hv:At w vb (c0::.map (some mk)::cs)) (hK:MB w mk K) (x:Int):
  Cs Tryz.prog 136 [.int .i64 x,.pointer (some ⟨q,0,none⟩)] w fun v w'=>v=.bool (decide (x∈K))∧Only [] w w':=by
 refine enter_final_Registry_view_1 rfl ?_
 unfold x_final_Registry_view_1
 refine gO2 hq.cell hv.cell ?_
 refine lkpT Tryz.underlying115 Tryz.underlying3 (Tryz.zeroValue4 _) hK ?_
 rw[getM_setD]
 refine gO ?_
 exact Only.refl _ _
theorem vSaved {w:World} {q vb mk:Nat} {c0 y:Value} {cs:List Value} {K:List Int} (hq:At w q [.pointer (some ⟨vb,0,none⟩)]) (hv:At w vb (c0::.map (some mk)::cs)) (hK:MB w mk K) (x:Int):
  Cs Tryz.prog 138 [.int .i64 x,y,.pointer (some ⟨q,0,none⟩)] w fun v w'=>v=.bool (decide (x∈K))∧Only [] w w':=by
 refine enter_final_Registry_view_2 rfl ?_
 unfold x_final_Registry_view_2
 refine gO2 hq.cell hv.cell ?_
 refine lkpT Tryz.underlying115 Tryz.underlying3 (Tryz.zeroValue4 _) hK ?_
 rw[getM_setD]
 refine gO ?_
 exact Only.refl _ _
def deadL (s:HL) (L K:List Int):List Int:=(listA s L).filter fun x=>!decide (x∈K)
theorem adO_live {s:HL} (hi:s.Inv) {k a:Int} (h:adO s k=some a):Liv s a:=by
 unfold adO at h
 cases e:getM s.pl k with
 |none=>rw[e]at h;cases h
 |some v=>
  obtain⟨i,h1,rfl,_⟩:=hi.pm.b k v e
  rw[e]at h
  cases h
  exact⟨i,rfl,h1⟩
theorem listA_live {s:HL} (hi:s.Inv) {L:List Int} {a:Int} (h:a∈listA s L):Liv s a:=by
 obtain⟨k,_,e⟩:=List.mem_filterMap.1 h
 exact adO_live hi e
set_option maxHeartbeats 1000000 in
theorem gView {w:World} {b:Nat} {hp:Addr} {ar:Option Addr} {L:List Int} {fl fp fr:List Nat} {s:HL} {R:Rt.MS} (h:RG w b hp ar L fl) (hl:L.length≤500) (hr:HR w (some hp) fp (some s)) (hi:s.Inv) (hR:Rt.PR w ar fr (some R)) (hsn:Snd true s R) (h40:s.objs.length≤2000) (hll:(Rt.leadsO (some R)).length≤500) (hrf:RfOk s.abs):
  Cs Tryz.prog 53 [.pointer (some ⟨b,0,none⟩)] w fun v w'=>Only [] w w'∧ ∃vb mk ms vd fd K S,v=.tuple #[.pointer (some ⟨vb,0,none⟩),.int .i64 0]∧At w' vb [.pointer (some hp),.map (some mk),.map (some ms),vd]∧MB w' mk K∧MB w' ms (S.filter fun x=>!decide (x∈K))∧
   Sl w' 1 vd (deadL s L K).length (ints (deadL s L K)) fd∧Kpt s (Rt.leadsO (some R)) K∧Kpt s (Rt.leadsO (some R)++deadL s L K) S∧w.heap.size≤vb∧w.heap.size≤mk∧w.heap.size≤ms∧(∀y,y∈fd→w.heap.size≤y)∧vb≠mk∧vb≠ms∧mk≠ms∧vb∉fd∧mk∉fd∧ms∉fd:=by
 have hs:=hi.ok
 have hlp: ∀x,x∈Rt.leadsO (some R)→0≤x∧x≤4096:=fun x hx=>(leads_ph hsn.2 hx).le hs
 obtain⟨v0,h1,h2,h3⟩:=id h
 refine enter_final_Registry_view rfl ?_
 unfold x_final_Registry_view
 refine gO ?_
 refine run_drt [b] ?_
 have od:=Only.drew [] w
 have hb1:=h1.keep0 od
 have lt1: ∀z,z∈[b]→z<w.drew.heap.size∧z∉([]:List Nat):=fun z hz=>by simp only[List.mem_singleton]at hz;subst hz;exact⟨hb1.lt,by simp⟩
 refine gO ?_
 refine callS0 (gMade (h.keep0 od)) (.inr (SB.refl _ _)) ?_
 refine gO1 hb1.cell ?_
 refine callS1 (cSoundIs (hr.keep0 od) hs (hR.keep0 od) hsn h40 (by omega)) (.inl rfl) fun w2 ho2=>?_
 refine gO ?_
 have o2:=od.nil ho2
 have hb2:=h1.keep0 o2
 refine gO1 hb2.cell ?_
 rw[fillL_one rfl rfl]
 refine gO ?_
 refine boxT fun vb w3 hvb hs3 hat3 ho3=>?_
 refine gO ?_
 refine boxT fun q w4 hq hs4 hat4 ho4=>?_
 refine gO ?_
 refine stT hat4 (by simp) rfl fun w5 hs5 hat5 ho5=>?_
 have o5:Only [] w w5:=((o2.nil ho3).nil ho4).trans ho5 fun y hy=>by have:=o2.size;simp only[List.mem_singleton]at hy;exact .inr (by omega)
 have hv5:=(hat3.keep0 ho4).keep ho5 (by simp;omega)
 have hq5:At w5 q [.pointer (some ⟨vb,0,none⟩)]:=hat5
 have hb5:=h1.keep0 o5
 refine gO ?_
 refine run_drt [q,b] ?_
 have od5:=Only.drew [] w5
 have qd:=hq5.keep0 od5
 have bd:=hb5.keep0 od5
 have vd5:=hv5.keep0 od5
 have o5d:=o5.nil od5
 have lt5: ∀z,z∈[q,b]→z<w5.drew.heap.size:=fun z hz=>by
  simp only[List.mem_cons,List.not_mem_nil,or_false]at hz
  rcases hz with rfl|rfl
  ·exact qd.lt
  ·exact bd.lt
 refine gO2 qd.cell bd.cell ?_
 refine callS (Rt.Leads_m (hR.keep0 o5d)) ?_
 rintro vl w6 ⟨ho6,f6,hl6,_⟩
 refine⟨.inr ((SB.refl _ _).only ho6 fun z hz=>⟨lt5 z hz,by simp⟩),?_⟩
 have o6:=o5d.nil ho6
 refine gO ?_
 refine callS (cRounds (hr.keep0 o6) hs hrf hl6 (by omega) (fun x hx=>by have:=hlp x hx;omega) h40) ?_
 rintro _ w7 ⟨ho7,mk,K,n7,rfl,hK7,gmk,kpt⟩
 refine⟨.inr (((SB.refl _ _).only ho6 fun z hz=>⟨lt5 z hz,by simp⟩).only ho7 fun z hz=>⟨Nat.lt_of_lt_of_le (lt5 z hz) ho6.size,by simp⟩),?_⟩
 have o7:=o6.nil ho7
 have hv7:=(vd5.keep0 ho6).keep0 ho7
 refine gO ?_
 refine stS hv7 (by simp) rfl fun w8 hs8 hat8 ho8=>⟨.inl rfl,?_⟩
 have hv8:At w8 vb [.pointer (some hp),.map (some mk),.map none,.slice none 0 0]:=hat8
 have z2:=o2.size
 have z6:=o6.size
 have vbw:w.heap.size≤vb:=by omega
 have vb6:vb<w6.heap.size:=by have:=vd5.lt;have:=ho6.size;omega
 have qw:w.heap.size≤q:=by omega
 have qv:q≠vb:=by omega
 have onv: ∀y,y∈[vb]→y∈([]:List Nat)∨w.heap.size≤y:=fun y hy=>by simp only[List.mem_singleton]at hy;subst hy;exact .inr vbw
 have o8:Only [] w w8:=o7.trans ho8 onv
 have hq8:=((qd.keep0 ho6).keep0 ho7).keep ho8 (by simpa using qv)
 have hK8:MB w8 mk K:=hK7.keep ho8 (by simp;omega)
 have hb8:=h1.keep0 o8
 refine gO ?_
 refine run_drt [q] ?_
 have od8:=Only.drew [] w8
 have o8d:=o8.nil od8
 have qd8:=hq8.keep0 od8
 have vd8:=hv8.keep0 od8
 refine gO1 qd8.cell ?_
 refine callS (gList (h.keep0 o8d) (by omega) (hr.keep0 o8d) hi) ?_
 rintro vA w9 ⟨ho9,f9,hA9,g9⟩
 have lt8: ∀z,z∈[q]→z<w8.drew.heap.size:=fun z hz=>by simp only[List.mem_singleton]at hz;subst hz;exact qd8.lt
 refine⟨.inr ((SB.refl _ _).only ho9 fun z hz=>⟨lt8 z hz,by simp⟩),?_⟩
 have o9:=o8d.nil ho9
 have hAl:=listA_len s L
 have dis9: ∀z,z<w8.drew.heap.size→z∉f9:=fun z hz e=>by have:=g9 z e;omega
 have vb8:vb<w8.drew.heap.size:=vd8.lt
 have mk8:mk<w8.drew.heap.size:=MpAt.lt (hK8.keep0 od8)
 refine gO ?_
 refine callS (deleteFunc (p:=fun x=>decide (x∈K)) (F:=136) (caps:=#[.pointer (some ⟨q,0,none⟩)]) hA9 (by kernel_rfl) (by omega) fun w' x ho hx=>?_) ?_
 ·exact vKept ((qd8.keep0 ho9).keep ho (dis9 q (lt8 q (by simp)))) ((vd8.keep0 ho9).keep ho (dis9 vb vb8)) (((hK8.keep0 od8).keep0 ho9).keep ho (dis9 mk mk8)) x
 rintro vD w10 ⟨ho10,hD10⟩
 refine⟨.inr (((SB.refl _ _).only ho9 fun z hz=>⟨lt8 z hz,by simp⟩).only ho10 fun z hz=>⟨Nat.lt_of_lt_of_le (lt8 z hz) ho9.size,dis9 z (lt8 z hz)⟩),?_⟩
 have o10:Only [] w w10:=o9.trans ho10 fun y hy=>.inr (by have:=g9 y hy;have:=o8d.size;omega)
 have hq10:=(qd8.keep0 ho9).keep ho10 (dis9 q (lt8 q (by simp)))
 have hv10:=(vd8.keep0 ho9).keep ho10 (dis9 vb vb8)
 have hK10:=((hK8.keep0 od8).keep0 ho9).keep ho10 (dis9 mk mk8)
 refine gO ?_
 refine stS hv10 (by simp) hD10.oneC' fun w11 hs11 hat11 ho11=>⟨.inl rfl,?_⟩
 have hv11:At w11 vb [.pointer (some hp),.map (some mk),.map none,vD]:=hat11
 have o11:Only [] w w11:=o10.trans ho11 onv
 have hq11:=hq10.keep ho11 (by simpa using qv)
 have hK11:MB w11 mk K:=hK10.keep ho11 (by simp;omega)
 have hD11:=hD10.keep ho11 fun z hz e=>dis9 vb vb8 (by simp only[List.mem_singleton]at e;exact e▸hz)
 have hb11:=h1.keep0 o11
 obtain⟨D,hDe⟩: ∃D,D=deadL s L K:=⟨_,rfl⟩
 have hDv:Sl w11 1 vD D.length (ints D) f9:=by rw[hDe];exact hD11
 have hDl:D.length≤L.length:=by rw[hDe];exact Nat.le_trans (List.length_filter_le _ _) hAl
 refine gO ?_
 refine run_drt [q,b,vb] ?_
 have od11:=Only.drew [] w11
 have o11d:=o11.nil od11
 have qd11:=hq11.keep0 od11
 have vd11:=hv11.keep0 od11
 have bd11:=hb11.keep0 od11
 have lt11: ∀z,z∈[q,b,vb]→z<w11.drew.heap.size:=fun z hz=>by
  simp only[List.mem_cons,List.not_mem_nil,or_false]at hz
  rcases hz with rfl|rfl|rfl
  ·exact qd11.lt
  ·exact bd11.lt
  ·exact vd11.lt
 refine gO3 qd11.cell bd11.cell vd11.cell ?_
 refine callS (Rt.Leads_m (hR.keep0 o11d)) ?_
 rintro vl2 w12 ⟨ho12,f12,hl12,g12⟩
 refine⟨.inr ((SB.refl _ _).only ho12 fun z hz=>⟨lt11 z hz,by simp⟩),?_⟩
 refine gO ?_
 refine appS hl12 ((hDv.keep0 od11).keep0 ho12).src ints_one (by omega) (by omega) ?_
 intro v13 w13 f13 hs13 hf13 ho13 _
 have dis12: ∀z,z<w11.drew.heap.size→z∉f12:=fun z hz e=>by have:=g12 z e;omega
 have sb13:SB [q,b,vb] w11.drew w13:=((SB.refl _ _).only ho12 fun z hz=>⟨lt11 z hz,by simp⟩).only ho13 fun z hz=>⟨Nat.lt_of_lt_of_le (lt11 z hz) ho12.size,dis12 z (lt11 z hz)⟩
 refine⟨.inr sb13,?_⟩
 have o13:Only [] w w13:=(o11d.nil ho12).trans ho13 fun y hy=>.inr (by have:=g12 y hy;have:=o11d.size;omega)
 have hs13':Sl w13 1 v13 (Rt.leadsO (some R)++D).length (ints (Rt.leadsO (some R)++D)) f13:=by rw[List.length_append,ints_append];exact hs13
 have hDb: ∀x,x∈D→x≤4096:=fun x hx=>by
  rw[hDe]at hx
  obtain⟨i,rfl,hk⟩:=listA_live hi (List.mem_filter.1 hx).1
  have:=live_le hs hk
  omega
 refine gO ?_
 refine callS (cRounds (hr.keep0 o13) hs hrf hs13' (by simp only[List.length_append];omega) (fun x hx=>by
  rcases List.mem_append.1 hx with e|e
  ·have:=hlp x e;omega
  ·have:=hDb x e;omega) h40) ?_
 rintro _ w14 ⟨ho14,ms,S,n14,rfl,hS14,gms,kpt2⟩
 have z13:w11.drew.heap.size≤w13.heap.size:=Nat.le_trans ho12.size ho13.size
 refine⟨.inr (sb13.only ho14 fun z hz=>⟨Nat.lt_of_lt_of_le (lt11 z hz) z13,by simp⟩),?_⟩
 have o14:=o13.nil ho14
 have vb11:=lt11 vb (by simp)
 have hv14:=((vd11.keep0 ho12).keep ho13 (dis12 vb vb11)).keep0 ho14
 refine gO ?_
 refine stS hv14 (by simp) rfl fun w15 hs15 hat15 ho15=>⟨.inl rfl,?_⟩
 have hv15:At w15 vb [.pointer (some hp),.map (some mk),.map (some ms),vD]:=hat15
 have ms13:w13.heap.size≤ms:=gms
 have vbms:vb≠ms:=by omega
 have o15:Only [] w w15:=o14.trans ho15 onv
 have mk11:mk<w11.drew.heap.size:=MpAt.lt (hK11.keep0 od11)
 have hK15:MB w15 mk K:=((((hK11.keep0 od11).keep0 ho12).keep ho13 (dis12 mk mk11)).keep0 ho14).keep ho15 (by simp;omega)
 have hS15:MB w15 ms S:=hS14.keep ho15 (by simp;omega)
 have q11:=lt11 q (by simp)
 have hq15:=(((qd11.keep0 ho12).keep ho13 (dis12 q q11)).keep0 ho14).keep ho15 (by simpa using qv)
 have f9lt: ∀z,z∈f9→z<w11.drew.heap.size:=fun z hz=>hDv.lt z hz
 have f9vb:vb∉f9:=fun e=>by have:=g9 vb e;have:w8.drew.heap.size=w8.heap.size:=rfl;omega
 have hD15:=(((((hDv.keep0 od11).keep0 ho12).keep ho13 fun z hz=>dis12 z (f9lt z hz)).keep0 ho14)).keep ho15 fun z hz e=>f9vb (by simp only[List.mem_singleton]at e;exact e▸hz)
 refine gO2 hq15.cell hv15.cell ?_
 refine callT (mDeleteFunc (p:=fun x=>decide (x∈K)) (F:=138) (caps:=#[.pointer (some ⟨q,0,none⟩)]) hS15 (by kernel_rfl) fun w' x ho hx=>?_) ?_
 ·exact vSaved (hq15.keep ho (by simp;omega)) (hv15.keep ho (by simpa using vbms)) (hK15.keep ho (by simp;omega)) x
 rintro _ w16 ⟨ho16,hS16⟩
 have o16:Only [] w w16:=o15.trans ho16 fun y hy=>by simp only[List.mem_singleton]at hy;subst hy;have:=o13.size;exact .inr (by omega)
 have hq16:=hq15.keep ho16 (by simp;omega)
 refine gO1 hq16.cell ?_
 have msf9:ms∉f9:=fun e=>by have:=f9lt ms e;omega
 have mkf9:mk∉f9:=fun e=>dis9 mk mk8 e
 refine⟨o16,vb,mk,ms,vD,f9,K,S,rfl,hv15.keep ho16 (by simpa using vbms),hK15.keep ho16 (by simp;omega),hS16,?_,kpt,?_,vbw,?_,?_,?_,?_,vbms,?_,f9vb,mkf9,msf9⟩
 ·rw[←hDe];exact hD15.keep ho16 fun z hz e=>msf9 (by simp only[List.mem_singleton]at e;exact e▸hz)
 ·rw[←hDe];exact kpt2
 ·omega
 ·have:=o13.size;omega
 ·intro y hy;have:=g9 y hy;have:=o8d.size;omega
 ·omega
 ·omega
end Go.Proofs.YteiildhelefodaaGreat
end
section
namespace Go.Proofs.YteiildhelefodaaGreat
set_option maxRecDepth 8000
theorem SlW.keep {w w':World} {sz:Nat} {v:Value} {n:Nat} {xs:List Value} {fp S:List Nat} (h:SlW w sz v n xs fp) (k:Only S w w') (hd: ∀x,x∈fp→x∉S):SlW w' sz v n xs fp:=by
 refine⟨h.1,h.2.elim .inl fun⟨g,cap,pre,ys,post,T,h1,h2,h3,h4,h5⟩=>.inr ⟨g,cap,pre,ys,post,T,h1,h2,?_,h4,h5⟩⟩
 rw[k.block g ((Array.getElem?_eq_some_iff.1 h3).1) (hd g (by simp[h2]))]
 exact h3
theorem SlW.keep0 {w w':World} {sz:Nat} {v:Value} {n:Nat} {xs:List Value} {fp:List Nat} (h:SlW w sz v n xs fp) (k:Only [] w w'):SlW w' sz v n xs fp:=h.keep k (by simp)
theorem SlW.val {w:World} {sz:Nat} {v:Value} {n:Nat} {xs:List Value} {fp:List Nat} (h:SlW w sz v n xs fp): ∃(a:Option Addr) (cap:Nat),v=.slice a n cap:=by
 rcases h.2 with⟨rfl,rfl,_⟩|⟨g,cap,pre,ys,post,T,rfl,_⟩
 ·exact⟨_,_,rfl⟩
 ·exact⟨_,_,rfl⟩
theorem SlW.rd {w:World} {v:Value} {xs:List Int} {fp:List Nat} (h:SlW w 1 v xs.length (ints xs) fp):RdB w fp v xs:=by
 rcases h.2 with⟨rfl,h2,rfl⟩|⟨g,cap,pre,ys,post,T,rfl,rfl,h3,h4,h5⟩
 ·exact⟨none,0,by rw[h2],fun i hi=>by omega⟩
 ·refine⟨_,cap,rfl,fun i hi=>⟨_,rfl,by simp,?_⟩⟩
  rw[addr_add]
  simp only[World.cell?,h3]
  have hl:(ints xs).length=xs.length:=by simp[ints]
  simp[List.getElem?_append_right,List.getElem?_append_left,hl,hi,ints]
theorem SlW.tail {w:World} {a:Option Addr} {cap n:Nat} {x:Int} {xs:List Int} {fp:List Nat} {k:IntKind} (h:SlW w 1 (.slice a n cap) (x::xs).length (ints (x::xs)) fp) (hn:n=(x::xs).length):
  ∃v',slcO 1 (.slice a n cap) (some (.int k 1)) none=some v'∧SlW w 1 v' xs.length (ints xs) fp:=by
 subst hn
 rcases h.2 with⟨_,h2,_⟩|⟨g,cap',pre,ys,post,T,h1,rfl,h3,h4,h5⟩
 ·simp at h2
 ·injection h1 with h6 _ h7
  subst h6;subst h7
  have hx:ints (x::xs)=.int .i64 x::ints xs:=rfl
  rw[hx]at h3 h4
  by_cases hc:1<cap
  ·refine⟨_,slcO_l (l:=1) (by simp) hc,by simp[ints],.inr ⟨g,cap-1,pre++[.int .i64 x],ys,post,T,?_,rfl,?_,?_,?_⟩⟩
   ·simp[addr_add]
   ·rw[h3];simp
   ·simp only[List.length_append,List.length_cons]at h4⊢;omega
   ·simp only[List.length_cons]at h5;omega
  ·have hcap:cap=1:=by simp only[List.length_cons]at h5;omega
   subst hcap
   have hxs:xs=[]:=by
    cases xs with
    |nil=>rfl
    |cons y ys=>simp only[List.length_cons]at h5;omega
   subst hxs
   refine⟨_,slcO_all (l:=1) rfl,by simp[ints],.inr ⟨g,0,pre,[],.int .i64 x::ys++post,T,rfl,rfl,?_,?_,by simp⟩⟩
   ·rw[h3];simp[ints]
   ·simp[ints]
end Go.Proofs.YteiildhelefodaaGreat
end
section
namespace Go.Proofs.YteiildhelefodaaGreat
set_option maxRecDepth 8000
theorem strong_live {s:HL} {R:Rt.MS} (hs:s.Ok) (hsn:Snd true s R) {x y:Int} (hy:y∈strongO (some s) x):Liv s y:=by
 obtain⟨j,h1,h2,h3,_⟩:=mem_strongR.1 hy
 by_cases c:(shapeO (some s) x).2=0
 ·obtain⟨k,rfl,hk⟩:=shape_live hs c
  rw[refsO_at hs hk]at h1 h2
  have:=hsn.ref hk h1
  unfold HL.RF at this
  rw[←h2]at this
  rcases this with e|⟨_,e⟩
  ·exact absurd e h3
  ·exact e
 ·exfalso
  have:(refsO (some s) x).length=0:=by
   unfold refsO
   rw[List.length_map,List.length_range]
   unfold shapeO at c⊢
   cases hh:hasO (some s) x with
   |true=>simp[objE,hh]at c
   |false=>simp[objE,hh]
  omega
structure Rea (s:HL) (x:Int) (K:List Int):Prop where
 nd:K.Nodup
 liv: ∀y,y∈K→Liv s y
 a: ∀y,y∈strongO (some s) x→y∈K
 c: ∀y z,y∈K→z∈strongO (some s) y→z∈K
 i: ∀P:Int→Prop,(∀y,y∈strongO (some s) x→P y)→(∀y z,P y→z∈strongO (some s) y→P z)→ ∀y,y∈K→P y
structure ReaT (s:HL) (x:Int) (K T:List Int):Prop where
 nd:K.Nodup
 liv: ∀y,y∈K→Liv s y
 lt: ∀y,y∈T→Liv s y
 a: ∀y,y∈strongO (some s) x→y∈K∨y∈T
 c: ∀y z,y∈K→z∈strongO (some s) y→z∈K∨z∈T
 i: ∀P:Int→Prop,(∀y,y∈strongO (some s) x→P y)→(∀y z,P y→z∈strongO (some s) y→P z)→ ∀y,y∈K∨y∈T→P y
theorem ReaT.done {s:HL} {x:Int} {K:List Int} (h:ReaT s x K []):Rea s x K:=
 ⟨h.nd,h.liv,fun y hy=>(h.a y hy).resolve_right (by simp),fun y z hy hz=>(h.c y z hy hz).resolve_right (by simp),fun P h1 h2 y hy=>h.i P h1 h2 y (.inl hy)⟩
theorem ReaT.skip {s:HL} {x y:Int} {K T:List Int} (h:ReaT s x K (y::T)) (hy:y∈K):ReaT s x K T:=
 ⟨h.nd,h.liv,fun z hz=>h.lt z (List.mem_cons_of_mem _ hz),fun z hz=>(h.a z hz).elim .inl fun e=>(List.mem_cons.1 e).elim (fun e=>.inl (e▸hy)) .inr,fun u z hu hz=>(h.c u z hu hz).elim .inl fun e=>(List.mem_cons.1 e).elim (fun e=>.inl (e▸hy)) .inr,fun P h1 h2 z hz=>h.i P h1 h2 z (hz.imp_right (List.mem_cons_of_mem _))⟩
theorem ReaT.step {s:HL} {R:Rt.MS} (hs:s.Ok) (hsn:Snd true s R) {x y:Int} {K T:List Int} (h:ReaT s x K (y::T)) (hy:y∉K):ReaT s x (K++[y]) (T++strongO (some s) y):=by
 refine⟨?_,fun z hz=>?_,fun z hz=>?_,fun z hz=>?_,fun u z hu hz=>?_,fun P h1 h2 z hz=>?_⟩
 ·rw[List.nodup_append]
  exact⟨h.nd,by simp,fun a ha b hb e=>hy (by simp only[List.mem_singleton]at hb;rw[←hb,←e];exact ha)⟩
 ·rcases List.mem_append.1 hz with e|e
  ·exact h.liv z e
  ·simp only[List.mem_singleton]at e;rw[e];exact h.lt y (by simp)
 ·rcases List.mem_append.1 hz with e|e
  ·exact h.lt z (List.mem_cons_of_mem _ e)
  ·exact strong_live hs hsn e
 ·rcases h.a z hz with e|e
  ·exact .inl (List.mem_append_left _ e)
  ·rcases List.mem_cons.1 e with e|e
   ·exact .inl (by rw[e];simp)
   ·exact .inr (List.mem_append_left _ e)
 ·rcases List.mem_append.1 hu with e|e
  ·rcases h.c u z e hz with e|e
   ·exact .inl (List.mem_append_left _ e)
   ·rcases List.mem_cons.1 e with e|e
    ·exact .inl (by rw[e];simp)
    ·exact .inr (List.mem_append_left _ e)
  ·simp only[List.mem_singleton]at e
   rw[e]at hz
   exact .inr (List.mem_append_right _ hz)
 ·have hPy:P y:=h.i P h1 h2 y (.inr (by simp))
  rcases hz with e|e
  ·rcases List.mem_append.1 e with e|e
   ·exact h.i P h1 h2 z (.inl e)
   ·simp only[List.mem_singleton]at e;rw[e];exact hPy
  ·rcases List.mem_append.1 e with e|e
   ·exact h.i P h1 h2 z (.inr (List.mem_cons_of_mem _ e))
   ·exact h2 y z hPy e
def slLen (v:Value):Nat:=match v with
 |.slice _ n _=>n
 |_=>0
theorem vReach {w:World} {vb:Nat} {hp:Addr} {cs:List Value} {fp:List Nat} {s:HL} {R:Rt.MS} (hv:At w vb (.pointer (some hp)::cs)) (hr:HR w (some hp) fp (some s)) (hs:s.Ok) (hsn:Snd true s R) (h40:s.objs.length≤2000) (x:Int) (hx:Liv s x):
  Cs Tryz.prog 139 [.pointer (some ⟨vb,0,none⟩),.int .i64 x] w fun v w'=>Only [] w w'∧ ∃bm K,v=.map (some bm)∧MB w' bm K∧Rea s x K∧w.heap.size≤bm:=by
 have hx2:=hx.le hs
 refine enter_final_view_reach rfl ?_
 unfold x_final_view_reach
 refine gO ?_
 refine mkmapT fun bm w1 hbm hs1 hm1 ho1=>?_
 (repeat(first|with_reducible(first|refine nx ?_|refine r_6 rfl ?_)|simp only[go_sem,(hv.keep0 ho1).cell]))
 refine callT (cStrong (hr.keep0 ho1) hs x (by omega)) ?_
 rintro v0 w2 ⟨ho2,f2,hl2,g2⟩
 have o2:=ho1.nil ho2
 have sl15: ∀y,(strongO (some s) y).length≤15:=fun y=>Nat.le_trans strongR_len (refs_le hs y)
 have f2b:bm∉f2:=fun e=>by have:=g2 bm e;omega
 refine gO ?_
 refine run_loop (6::7::15::16::17::18::19::20::21::22::23::24::25::26::27::28::29::30::31::32::33::34::35::36::[]) (fun g w'=> ∃(T K:List Int) (ft:List Nat),SlW w' 1 (g 6) T.length (ints T) ft∧T.length≤16+16*K.length∧MB w' bm K∧ReaT s x K T∧Only [bm] w1 w'∧bm∉ft∧ ∀y,y∈ft→w1.heap.size≤y) (fun g w'=>16*(2000-mapLen w' bm)+slLen (g 6))
  ⟨strongO (some s) x,[],f2,by simp only[go_sem];exact hl2.toW,by have:=sl15 x;simp;omega,hm1.keep0 ho2,?_,ho2.of_nil,f2b,g2⟩ fun g w3 hI hnext=>?_
 ·exact⟨List.nodup_nil,fun y hy=>absurd hy (by simp),fun y hy=>strong_live hs hsn hy,fun y hy=>.inr hy,fun y z hy=>absurd hy (by simp),fun P h1 _ y hy=>h1 y (hy.resolve_left (by simp))⟩
 obtain⟨T,K,ft,hT,hTl,hK,hre,ho3,hbt,gt⟩:=hI
 have hKl:K.length≤2000:=Nat.le_trans (nodup_le hre.nd hre.liv) h40
 have o3:Only [] w w3:=ho1.trans ho3 fun y hy=>by simp only[List.mem_singleton]at hy;subst hy;exact .inr (by omega)
 generalize h6:g 6=v6 at hT
 obtain⟨a6,c6,rfl⟩:=hT.val
 cases T with
 |nil=>
  (repeat(first|with_reducible(first|refine nx ?_|refine r_6 rfl ?_)|simp only[go_sem,h6,show decide ((0:Int)<((0:Nat):Int))=false from rfl,show decide ((0:Int)<((([]:List Int).length:Nat):Int))=false from rfl]))
  exact⟨o3,bm,K,rfl,hK,hre.done,by omega⟩
 |cons y T=>
 have hml:=hK.len
 obtain⟨p,hp6,hc6⟩:=hT.rd.get (i:=0) (by simp)
 subst hp6
 obtain⟨v',hsl,hT'⟩:=hT.tail (k:=.i64) rfl
 simp only[List.length_cons]at hsl h6
 have hc0:w3.cell? (p.add 0)=some (.int .i64 y):=hc6
 have hyl:Liv s y:=hre.lt y (by simp)
 (repeat(first|with_reducible(first|refine nx ?_|refine r_6 rfl ?_)|simp only[go_sem,h6,decide_eq_true (show(0:Int)<((T.length+1:Nat):Int) by omega),if_pos (show(0:Int)<((T.length+1:Nat):Int) by omega),hc0,(show w3.cell? p=some (.int .i64 y)from hc0),hsl,Int.toNat_zero,Nat.zero_mul,show(0:Int).toNat*1=0 from rfl]))
 refine lkpT Tryz.underlying115 Tryz.underlying3 (Tryz.zeroValue4 _) hK ?_
 rw[getM_setD]
 obtain⟨a',c',e'⟩:=hT'.val
 by_cases c:y∈K
 ·rw[decide_eq_true c]
  refine gO ?_
  refine hnext _ w3 ?_ ⟨T,K,ft,by simp only[go_sem];exact hT',by simp only[List.length_cons]at hTl;omega,hK,hre.skip c,ho3,hbt,gt⟩ ?_
  ·(repeat(first|with_reducible exact k_1|with_reducible exact Keeps.ovr _ _ _|refine Keeps.put ?_ rfl _|exact k_1|exact Keeps.ovr _ _ _|refine Keeps.ovr2 ?_ rfl _))
  ·simp only[go_sem,h6]
   rw[e'];simp only[slLen,List.length_cons];omega
 rw[decide_eq_false c]
 refine gO ?_
 refine mputT Tryz.underlying115 Tryz.underlying3 hK fun w4 hs4 hm4 ho4=>?_
 rw[putM_set c]at hm4
 have hK4:MB w4 bm (K++[y]):=hm4
 have o4:Only [bm] w1 w4:=ho3.trans ho4 fun z hz=>.inl hz
 have o4w:Only [] w w4:=ho1.trans o4 fun z hz=>by simp only[List.mem_singleton]at hz;subst hz;exact .inr (by omega)
 have hT4:=hT'.keep ho4 fun z hz e=>hbt (by simp only[List.mem_singleton]at e;exact e▸hz)
 subst e'
 (repeat(first|with_reducible(first|refine nx ?_|refine r_6 rfl ?_)|simp only[go_sem,(hv.keep0 o4w).cell]))
 refine callT (cStrong (hr.keep0 o4w) hs y (by have:=hyl.le hs;omega)) ?_
 rintro v5 w5 ⟨ho5,f5,hl5,g5⟩
 have sy:=sl15 y
 have hn4:=nodup_le (s:=s) (K:=K++[y]) (hre.step hs hsn c).nd (hre.step hs hsn c).liv
 simp only[List.length_append,List.length_singleton]at hn4
 have hT5:=hT4.keep0 ho5
 refine gO ?_
 refine appTW hT5 hl5.src ints_one (by simp only[List.length_cons]at hTl;omega) (by simp only[List.length_cons]at hTl;omega) ?_
 intro v6 w6 f6 hs6 hf6 ho6 _
 have z4:=o4.size
 have z5:=ho5.size
 have o6:Only [bm] w1 w6:=(o4.nil ho5).trans ho6 fun z hz=>.inr (gt z hz)
 have hK6:=(hK4.keep0 ho5).keep ho6 (by exact hbt)
 have hbm6:bm<w5.heap.size:=MpAt.lt (hK4.keep0 ho5)
 have hs6':SlW w6 1 v6 (T++strongO (some s) y).length (ints (T++strongO (some s) y)) f6:=by rw[List.length_append,ints_append];exact hs6
 obtain⟨a7,c7,e7⟩:=hs6'.val
 refine gO ?_
 refine hnext _ w6 ?_ ⟨T++strongO (some s) y,K++[y],f6,by simp only[go_sem];exact hs6',?_,hK6,hre.step hs hsn c,o6,?_,?_⟩ ?_
 ·(repeat(first|with_reducible exact k_1|with_reducible exact Keeps.ovr _ _ _|refine Keeps.put ?_ rfl _|exact k_1|exact Keeps.ovr _ _ _|refine Keeps.ovr2 ?_ rfl _))
 ·simp only[List.length_append,List.length_cons,List.length_nil]at hTl⊢;omega
 ·rcases hf6 with rfl|rfl
  ·exact hbt
  ·simp only[List.mem_singleton];omega
 ·intro z hz
  rcases hf6 with rfl|rfl
  ·exact gt z hz
  ·simp only[List.mem_singleton]at hz;omega
 ·rw[hK6.len]
  simp only[go_sem,h6]
  rw[e7]
  simp only[slLen,List.length_append,List.length_cons,List.length_nil]at hml⊢
  omega
end Go.Proofs.YteiildhelefodaaGreat
end
section
namespace Go.Proofs.YteiildhelefodaaGreat
set_option maxRecDepth 8000
theorem slc3O_one {n cap i:Nat} {g:Nat} (h:i<n) (hc:n≤cap):slc3O 1 (.slice (some ⟨g,0,none⟩) n cap) (.int .i64 (i:Int)) (.int .i64 ((i+1:Nat):Int)) (.int .i64 (n:Int))=some (.slice (some ⟨g,i,none⟩) 1 (n-i)):=by
 unfold slc3O
 simp only
 rw[if_pos ⟨by omega,by omega,by omega,by omega⟩]
 simp only[Int.toNat_natCast]
 rw[if_neg (by omega),Option.map_some,addr_add,Nat.zero_add,Nat.mul_one,show i+1-i=1 by omega]
theorem sDelete {w:World} {v0:Value} {xs:List Int} {g i:Nat} (hsl:Sl w 1 v0 xs.length (ints xs) [g]) (hi:i<xs.length) (hl:xs.length≤4000):
  Cs Tryz.prog 104 [v0,.int .i64 (i:Int),.int .i64 ((i+1:Nat):Int)] w fun v w'=>Only [g] w w'∧Sl w' 1 v (xs.eraseIdx i).length (ints (xs.eraseIdx i)) [g]:=by
 obtain⟨cap,ys,rfl,hat,hcl⟩: ∃cap ys,v0=.slice (some ⟨g,0,none⟩) xs.length cap∧At w g (ints xs++ys)∧(ints xs++ys).length=cap:=by
  rcases hsl.2 with⟨_,h0,_⟩|⟨g',cap',ys,T,h1,h2,h3,h4,h5⟩
  ·omega
  ·cases h2;exact⟨cap',ys,h1,⟨T,h3⟩,by simpa using h4⟩
 have hcap:xs.length≤cap:=by rw[List.length_append,ints_length]at hcl;omega
 have hin:(xs.eraseIdx i).length=xs.length-1:=List.length_eraseIdx_of_lt hi
 have hee:xs.eraseIdx i=xs.take i++xs.drop (i+1):=List.eraseIdx_eq_take_drop_succ xs i
 refine enter_slices_Delete___int_int_ rfl ?_
 unfold x_slices_Delete___int_int_
 have ne:((i:Int)==((i+1:Nat):Int))=false:=beq_int_false (by omega)
 (repeat(first|with_reducible(first|refine nx ?_|refine r_6 rfl ?_)|simp only[go_sem,slc3O_one hi hcap,ne]))
 rw[slcO_h (show i≤cap by omega)]
 have hsA:Sl w.drew 1 (.slice (some ⟨g,0,none⟩) i cap) i (ints (xs.take i)) [g]:=by
  have h1:At w.drew g (ints (xs.take i)++(ints (xs.drop i)++ys)):=by
   rw[←List.append_assoc,←ints_append,List.take_append_drop];exact hat.keep0 (Only.drew [] w)
  exact Sl.mk1 h1 (by rw[ints_length,List.length_take];omega) (by rw[←hcl];simp only[List.length_append,ints_length,List.length_take,List.length_drop];omega)
 obtain⟨vB,hB,hsB⟩: ∃vB,slcO 1 (.slice (some ⟨g,0,none⟩) xs.length cap) (some (.int .i64 ((i+1:Nat):Int))) none=some vB∧SrcIs w.drew 1 vB (xs.length-(i+1)) (ints (xs.drop (i+1))):=by
  have hlen:(ints (xs.drop (i+1))).length=(xs.length-(i+1))*1:=by rw[ints_length,List.length_drop,Nat.mul_one]
  by_cases c:i+1<cap
  ·refine⟨_,slcO_l (l:=i+1) (by omega) c,hlen,.inr ⟨_,_,rfl,?_⟩⟩
   rw[addr_add,Nat.zero_add,Nat.mul_one,cellsAt_at (hat.keep0 (Only.drew [] w)) (i+1) _ (by rw[List.length_append,ints_length];omega)]
   congr 1
   rw[List.drop_append_of_le_length (by rw[ints_length];omega),List.take_append_of_le_length (by rw[List.length_drop,ints_length];omega)]
   rw[List.take_of_length_le (by rw[List.length_drop,ints_length];omega)]
   simp[ints,List.map_drop]
  ·have e1:i+1=xs.length:=by omega
   have e2:cap=xs.length:=by omega
   rw[e2]
   refine⟨_,slcO_all (l:=i+1) e1,hlen,?_⟩
   rw[show xs.length-(i+1)=0 by omega]
   refine .inr ⟨_,0,rfl,?_⟩
   rw[cellsAt_at (hat.keep0 (Only.drew [] w)) 0 _ (by simp),List.drop_eq_nil_of_le (show xs.length≤i+1 by omega)]
   simp[ints]
 refine gO1 hB ?_
 refine appT hsA hsB ints_one (by omega) (by omega) ?_
 intro v1 w1 f1 hs1 _ ho1 hap
 obtain⟨rfl,rfl⟩:=hap.2 _ _ rfl (by omega)
 have en:i+(xs.length-(i+1))=xs.length-1:=by omega
 rw[←ints_append,←hee,en]at hs1
 rw[en]
 obtain⟨zs,hat1,hcl1⟩: ∃zs,At w1 g (ints (xs.eraseIdx i)++zs)∧(ints (xs.eraseIdx i)++zs).length=cap:=by
  rcases hs1.2 with⟨h0,_⟩|⟨g',cap',zs,T,h1,h2,h3,h4,h5⟩
  ·cases h0
  ·cases h1;exact⟨zs,⟨T,h3⟩,by simpa using h4⟩
 have o1:Only [g] w w1:=((Only.drew [] w).of_nil).trans ho1 fun y hy=>.inl hy
 refine gO ?_
 rw[slcO_lh (show xs.length-1≤xs.length by omega) hcap (by omega)]
 (repeat(first|with_reducible(first|refine nx ?_|refine r_6 rfl ?_)|simp only[go_sem,addr_add,Nat.zero_add,Nat.mul_one,show xs.length-(xs.length-1)=1 by omega]))
 refine clearT Tryz.underlying33 (Tryz.zeroValue3 w1) rfl hat1 (by omega) fun w2 hs2 hat2 ho2=>?_
 refine gO ?_
 refine⟨o1.trans ho2 fun y hy=>.inl hy,?_⟩
 have hel:(ints (xs.eraseIdx i)).length=xs.length-1:=by rw[ints_length,hin]
 rw[List.take_left' hel,List.append_assoc]at hat2
 rw[hin]
 refine Sl.mk1 hat2 hel ?_
 rw[←hcl1]
 simp only[List.length_append,hel,List.length_replicate,List.length_drop]
 have:(ints (xs.eraseIdx i)++zs).length=cap:=hcl1
 rw[List.length_append,hel]at this
 omega
end Go.Proofs.YteiildhelefodaaGreat
end
section
namespace Go.Proofs.YteiildhelefodaaGreat
set_option maxRecDepth 8000
inductive Rs (s:HL) (x:Int):Int→Prop
 |one {y:Int}:y∈strongO (some s) x→Rs s x y
 |more {y z:Int}:Rs s x y→z∈strongO (some s) y→Rs s x z
theorem Rs.trans {s:HL} {x y z:Int} (h:Rs s x y) (k:Rs s y z):Rs s x z:=by
 induction k with
 |one e=>exact .more h e
 |more _ e ih=>exact .more ih e
theorem Rea.iff {s:HL} {x:Int} {K:List Int} (h:Rea s x K) (y:Int):y∈K↔Rs s x y:=by
 refine⟨fun hy=>h.i (Rs s x) (fun _=>.one) (fun _ _=>.more) y hy,fun hy=>?_⟩
 induction hy with
 |one e=>exact h.a _ e
 |more _ e ih=>exact h.c _ _ ih e
open Classical in
noncomputable def bef (s:HL) (x y:Int):Bool:=decide (Rs s x y)&&!decide (Rs s y x)
theorem bef_iff {s:HL} {x y:Int}:bef s x y=true↔Rs s x y∧ ¬Rs s y x:=by simp[bef]
theorem bef_trans {s:HL} {x y z:Int} (h:bef s x y=true) (k:bef s y z=true):bef s x z=true:=by
 rw[bef_iff]at*
 exact⟨h.1.trans k.1,fun e=>k.2 (e.trans h.1)⟩
theorem bef_irr (s:HL) (x:Int):bef s x x=false:=by
 rw[Bool.eq_false_iff];intro h;rw[bef_iff]at h;exact h.2 h.1
theorem bef_first (s:HL): ∀l:List Int,l≠ []→ ∃y,y∈l∧l.any (fun x=>bef s x y)=false
 | [],h=>absurd rfl h
 | [a],_=>⟨a,by simp,by simp[bef_irr]⟩
 |a::b::l,_=>by
  obtain⟨y,hy,hn⟩:=bef_first s (b::l) (by simp)
  by_cases c:bef s a y=true
  ·refine⟨a,by simp,?_⟩
   rw[List.any_eq_false]at hn⊢
   intro x hx hb
   rcases List.mem_cons.1 hx with rfl|hx
   ·rw[bef_irr]at hb;cases hb
   ·exact hn x hx (bef_trans hb c)
  ·refine⟨y,List.mem_cons_of_mem _ hy,?_⟩
   rw[List.any_cons,hn,Bool.or_false]
   simpa using c
inductive Ordr (s:HL):List Int→List Int→Prop
 |nil:Ordr s [] []
 |cons {l o:List Int} {i:Nat}:i<l.length→(∀j,j<i→l.any (fun x=>bef s x (l.getD j 0))=true)→l.any (fun x=>bef s x (l.getD i 0))=false→Ordr s (l.eraseIdx i) o→Ordr s l (l.getD i 0::o)
def RM (w:World) (s:HL) (rm N:Nat) (D:List Int):Prop:=rm<N∧ ∃m,MpAt w rm m∧ ∀x,x∈D→ ∃bm K,bm<N∧bm≠rm∧getM m x=some (.map (some bm))∧MB w bm K∧Rea s x K
theorem RM.keep {w w':World} {s:HL} {rm N:Nat} {D:List Int} {S:List Nat} (h:RM w s rm N D) (k:Only S w w') (hd: ∀z,z∈S→N≤z):RM w' s rm N D:=by
 obtain⟨h1,m,h2,h3⟩:=h
 refine⟨h1,m,h2.keep k fun e=>by have:=hd _ e;omega,fun x hx=>?_⟩
 obtain⟨bm,K,h4,h5,h6,h7,h8⟩:=h3 x hx
 exact⟨bm,K,h4,h5,h6,h7.keep k fun e=>by have:=hd _ e;omega,h8⟩
theorem RM.keep0 {w w':World} {s:HL} {rm N:Nat} {D:List Int} (h:RM w s rm N D) (k:Only [] w w'):RM w' s rm N D:=h.keep k (by simp)
open Classical in
theorem vBef {w:World} {qR qY rm N:Nat} {s:HL} {D:List Int} {x y:Int} (hR:At w qR [.map (some rm)]) (hY:At w qY [.int .i64 y]) (h:RM w s rm N D) (hx:x∈D) (hy:y∈D):
  Cs Tryz.prog 143 [.int .i64 x,.pointer (some ⟨qR,0,none⟩),.pointer (some ⟨qY,0,none⟩)] w fun v w'=>v=.bool (bef s x y)∧Only [] w w':=by
 obtain⟨_,m,hm,hD⟩:=h
 obtain⟨bx,Kx,_,_,gx,mx,rx⟩:=hD x hx
 obtain⟨by',Ky,_,_,gy,my,ry⟩:=hD y hy
 refine enter_final_view_order_1_1 rfl ?_
 unfold x_final_view_order_1_1
 have ex:decide (y∈Kx)=decide (Rs s x y):=by rw[decide_eq_decide];exact rx.iff y
 have ey:decide (x∈Ky)=decide (Rs s y x):=by rw[decide_eq_decide];exact ry.iff x
 refine gO2 hR.cell hY.cell ?_
 refine lkpT Tryz.underlying182 Tryz.underlying3 (Tryz.zeroValue115 _) hm ?_
 rw[gx]
 refine gO1 hY.cell ?_
 refine lkpT Tryz.underlying115 Tryz.underlying3 (Tryz.zeroValue4 _) mx ?_
 rw[getM_setD,ex]
 by_cases c:Rs s x y
 ·rw[decide_eq_true c]
  refine gO2 hR.cell hY.cell ?_
  refine lkpT Tryz.underlying182 Tryz.underlying3 (Tryz.zeroValue115 _) hm ?_
  rw[gy]
  refine gO1 hY.cell ?_
  refine lkpT Tryz.underlying115 Tryz.underlying3 (Tryz.zeroValue4 _) my ?_
  rw[getM_setD,ey]
  refine gO ?_
  exact⟨by rw[bef,decide_eq_true c,Bool.true_and],Only.refl _ _⟩
 ·rw[decide_eq_false c]
  refine gO ?_
  exact⟨by rw[bef,decide_eq_false c,Bool.false_and],Only.refl _ _⟩
theorem vFirst {w:World} {qL qR rm N:Nat} {s:HL} {D l:List Int} {vl:Value} {fl:List Nat} {y:Int} (hL:At w qL [vl]) (hl:Sl w 1 vl l.length (ints l) fl) (hll:l.length≤1000) (hR:At w qR [.map (some rm)]) (h:RM w s rm N D) (hs: ∀x,x∈l→x∈D) (hy:y∈D):
  Cs Tryz.prog 141 [.int .i64 y,.pointer (some ⟨qL,0,none⟩),.pointer (some ⟨qR,0,none⟩)] w fun v w'=>v=.bool (!(l.any fun x=>bef s x y))∧Only [] w w':=by
 obtain⟨al,cl,rfl⟩:=hl.val
 refine enter_final_view_order_1 rfl ?_
 unfold x_final_view_order_1
 refine gO ?_
 refine boxT fun q w1 hq hs1 hat1 ho1=>?_
 (repeat(first|with_reducible(first|refine nx ?_|refine r_6 rfl ?_)|simp only[go_sem,(hL.keep0 ho1).cell]))
 refine callT (containsFunc (p:=fun x=>bef s x y) (F:=143) (caps:=#[.pointer (some ⟨qR,0,none⟩),.pointer (some ⟨q,0,none⟩)]) (fun hne=>?_) (by kernel_rfl) hll fun w' x ho hx=>?_) ?_
 ·obtain⟨g,cap',ys,e,hat,_⟩:=(hl.keep0 ho1).pos (List.length_pos_iff.2 hne)
  cases e
  exact⟨g,ys,rfl,hat⟩
 ·exact vBef ((hR.keep0 ho1).keep0 ho) (hat1.keep0 ho) ((h.keep0 ho1).keep0 ho) (hs x hx) hy
 rintro _ w2 ⟨rfl,ho2⟩
 refine gO ?_
 exact ho1.nil ho2
end Go.Proofs.YteiildhelefodaaGreat
end
section
namespace Go.Proofs.YteiildhelefodaaGreat
set_option maxRecDepth 8000
section
variable {P:Program} {t kt et:TypeId} {w:World} {b:Nat} {m:IM} {k:Int} {d:Option Nat} {rest:XT} {ρ:Env} {C:Env→World→Prop} {fl:Bool} {L:List Nat} {w0:World}
theorem mputS (ht:P.underlying t=some (.map kt et)) (hd:P.underlying kt=some (.int .i64)) {v:Value} (h:MpAt w b m) (h2: ∀w',w'.heap.size=w.heap.size→MpAt w' b (putM m k v)→Only [b] w w'→(fl=true∨SB L w0 w')∧VT P L w0 rest (putO ρ d undef) w' C):
  RunUS P fl L w0 (Instr.mapUpdate t (.map (some b)) (.int .i64 k) v) d rest ρ w C:=by
 obtain⟨w',h3,h4,h5,h6⟩:=run_put (k:=k) ht hd h v
 exact runUS h3 (h2 w' h4 h5 h6).1 (h2 w' h4 h5 h6).2
end
theorem RM.put {w w2 w3:World} {s:HL} {rm:Nat} {D:List Int} {x:Int} {m:IM} {bm:Nat} {K:List Int} (h2:MpAt w rm m) (hm3:MpAt w3 rm (putM m x (.map (some bm)))) (hD: ∀y,y∈D→ ∃bm K,bm<w.heap.size∧bm≠rm∧getM m y=some (.map (some bm))∧MB w bm K∧Rea s y K)
  (o2:Only [] w w2) (hK:MB w2 bm K) (hre:Rea s x K) (hb:w.heap.size≤bm) (o3:Only [rm] w2 w3):RM w3 s rm w3.heap.size (D++[x]):=by
 have hrm:=h2.lt
 have z2:=o2.size
 have z3:=o3.size
 have hb2:bm<w2.heap.size:=MpAt.lt hK
 refine⟨by omega,_,hm3,fun y hy=>?_⟩
 rw[getM_putM]
 by_cases c:y=x
 ·rw[if_pos c,c]
  exact⟨bm,K,by omega,by omega,rfl,hK.keep o3 (by simp;omega),hre⟩
 ·rw[if_neg c]
  obtain⟨bm',K',g1,g2,g3,g4,g5⟩:=hD y ((List.mem_append.1 hy).resolve_right (by simpa using c))
  exact⟨bm',K',by omega,g2,g3,(g4.keep0 o2).keep o3 (by simpa using g2),g5⟩
set_option maxHeartbeats 1000000 in
theorem vOrder {w:World} {vb:Nat} {hp:Addr} {c1 c2 vd:Value} {fd fp:List Nat} {s:HL} {R:Rt.MS} {D:List Int} (hv:At w vb [.pointer (some hp),c1,c2,vd]) (hD:Sl w 1 vd D.length (ints D) fd) (hDl:D.length≤500) (hlv: ∀x,x∈D→Liv s x) (hr:HR w (some hp) fp (some s)) (hs:s.Ok) (hsn:Snd true s R) (h40:s.objs.length≤2000):
  Cs Tryz.prog 56 [.pointer (some ⟨vb,0,none⟩)] w fun v w'=>Only [] w w'∧ ∃o fo,Ordr s D o∧Sl w' 1 v o.length (ints o) fo∧ ∀y,y∈fo→w.heap.size≤y:=by
 obtain⟨ad,cd,rfl⟩:=hD.val
 refine enter_final_view_order rfl ?_
 unfold x_final_view_order
 refine gO ?_
 refine mkmapT fun rm w1 hrm hs1 hm1 ho1=>?_
 refine gO ?_
 refine boxT fun qR w2 hqR hs2 hat2 ho2=>?_
 refine gO ?_
 refine stT hat2 (by simp) rfl fun w3 hs3 hat3 ho3=>?_
 have hR3:At w3 qR [.map (some rm)]:=hat3
 have hm3:MpAt w3 rm []:=(hm1.keep0 ho2).keep ho3 (by simp;omega)
 have o3:Only [] w w3:=(ho1.nil ho2).trans ho3 fun y hy=>by simp only[List.mem_singleton]at hy;subst hy;exact .inr (by omega)
 (repeat(first|with_reducible(first|refine nx ?_|refine r_6 rfl ?_)|simp only[go_sem,(hv.keep0 o3).cell]))
 refine run_loop (5::15::16::17::18::19::20::21::22::23::24::[]) (fun g w'=> ∃i:Nat,g 15=.int .i64 (i:Int)∧i≤D.length∧Only [rm] w3 w'∧RM w' s rm w'.heap.size (D.take i)) (fun g _=>upTo D.length 15 g)
  ⟨0,by simp only[go_sem];rfl,by omega,Only.refl _ _,hm3.lt,[],hm3,fun x hx=>absurd hx (by simp)⟩ fun g w4 hI hnext=>?_
 obtain⟨i,h15,hi,ho4,hrmN,m,hm4,hDi⟩:=hI
 have o4:Only [] w w4:=o3.trans ho4 fun y hy=>by simp only[List.mem_singleton]at hy;subst hy;exact .inr (by omega)
 have hR4:=hR3.keep ho4 (by simp;omega)
 by_cases c:i<D.length
 ·obtain⟨gd,_,yd,ed,hatd,_,_⟩:=(hD.keep0 o4).pos (by omega)
  cases ed
  have ci:(0:Int)≤(i:Int)∧(i:Int)<(D.length:Int):=by omega
  have vr:w4.cell? ⟨gd,i,none⟩=some (.int .i64 (D.getD i 0)):=by rw[hatd.cell];exact ints_append_get yd c
  refine gJ4 h15 (decide_eq_true ci.2) (eq_true ci) vr ?_
  refine run_drt [qR] ?_
  have od:=Only.drew [] w4
  have hRd:=hR4.keep0 od
  have o4d:=o4.nil od
  have hxl:Liv s (D.getD i 0):=hlv _ (by simp[c])
  refine gO1 hRd.cell ?_
  refine callS (vReach (hv.keep0 o4d) (hr.keep0 o4d) hs hsn h40 (D.getD i 0) hxl) ?_
  rintro _ w5 ⟨ho5,bm,K,rfl,hK,hre,hbm⟩
  refine⟨.inr ((SB.refl _ _).only ho5 fun z hz=>⟨by simp only[List.mem_singleton]at hz;subst hz;exact hRd.lt,by simp⟩),?_⟩
  refine gO ?_
  refine mputS Tryz.underlying182 Tryz.underlying3 ((hm4.keep0 od).keep0 ho5) fun w6 hs6 hm6 ho6=>⟨.inl rfl,?_⟩
  refine gO2 h15 (i64_succ i (by omega)) ?_
  refine hnext _ w6 ?_ ⟨i+1,?_,by omega,((ho4.nil od).nil ho5).trans ho6 fun y hy=>.inl hy,?_⟩ ?_
  ·(repeat(first|with_reducible exact k_1|with_reducible exact Keeps.ovr _ _ _|refine Keeps.put ?_ rfl _|exact k_1|exact Keeps.ovr _ _ _|refine Keeps.ovr2 ?_ rfl _))
  ·simp only[go_sem]
  ·have:=RM.put (w:=w4) hm4 hm6 hDi (od.nil ho5) hK hre hbm ho6
   rw[List.take_succ_eq_append_getElem c]
   simpa[c]using this
  ·rw[upTo_int (i:=i) h15,upTo_int (k:=.i64) (i:=i+1) (by simp only[go_sem])];omega
 have hiD:i=D.length:=by omega
 subst hiD
 rw[List.take_length]at hDi
 have hRM:RM w4 s rm w4.heap.size D:=⟨hrmN,m,hm4,hDi⟩
 (repeat(first|with_reducible(first|refine nx ?_|refine r_6 rfl ?_)|simp only[go_sem,h15,decide_eq_false (show¬((D.length:Nat):Int)<(D.length:Int) by omega),(hv.keep0 o4).cell]))
 refine callT (sclone (hD.keep0 o4).src ints_one (by omega)) ?_
 rintro vl w5 ⟨ho5,fc,hc5,gc⟩
 refine gO ?_
 refine boxT fun qL w6 hqL hs6 hat6 ho6=>?_
 refine gO ?_
 refine stT hat6 (by simp) hc5.oneC' fun w7 hs7 hat7 ho7=>?_
 have hL7:At w7 qL [vl]:=hat7
 have z4:=o4.size
 have z5:=ho5.size
 have o7:Only [] w w7:=((o4.nil ho5).nil ho6).trans ho7 fun y hy=>by simp only[List.mem_singleton]at hy;subst hy;exact .inr (by omega)
 have o47:Only [] w4 w7:=(ho5.nil ho6).trans ho7 fun y hy=>by simp only[List.mem_singleton]at hy;subst hy;exact .inr (by omega)
 have qLfc:qL∉fc:=fun e=>by have:=hc5.lt qL e;omega
 have hc7:Sl w7 1 vl D.length (ints D) fc:=(hc5.keep0 ho6).keep ho7 fun z hz e=>qLfc (by simp only[List.mem_singleton]at e;exact e▸hz)
 have hR7:=hR4.keep0 o47
 have hRM7:=hRM.keep0 o47
 have hqR4:qR<w4.heap.size:=hR4.lt
 have fw: ∀z,z∈qL::fc→w4.heap.size≤z:=fun z hz=>by
  rcases List.mem_cons.1 hz with rfl|hz
  ·omega
  ·exact gc z hz
 have fw0: ∀z,z∈qL::fc→z∈([]:List Nat)∨w.heap.size≤z:=fun z hz=>.inr (Nat.le_trans z4 (fw z hz))
 refine gO ?_
 refine run_loop (6::8::30::31::32::33::34::35::36::37::38::39::40::41::42::43::44::45::46::47::[]) (fun g w'=> ∃(l o:List Int) (vl:Value) (fo:List Nat),At w' qL [vl]∧Sl w' 1 vl l.length (ints l) fc∧l.length+o.length≤D.length∧(∀x,x∈l→x∈D)∧(∀O,Ordr s l O→Ordr s D (o++O))∧Only (qL::fc) w7 w'∧Sl w' 1 (g 6) o.length (ints o) fo∧ ∀y,y∈fo→w7.heap.size≤y) (fun _ w'=>match w'.cell? ⟨qL,0,none⟩with|some v=>slLen v|none=>0)
  ⟨D,[],vl,[],hL7,hc7,by simp,fun _ h=>h,fun O hO=>hO,Only.refl _ _,by simp only[go_sem];exact Sl.nil1 _,fun y hy=>absurd hy (by simp)⟩ fun g w8 hI hnext=>?_
 obtain⟨l,o,vl8,fo,hL8,hl8,hlo,hlD,hO,ho8,hq8,gfo⟩:=hI
 obtain⟨al,cl,rfl⟩:=hl8.val
 have o8:Only [] w w8:=o7.trans ho8 fw0
 cases l with
 |nil=>
  (repeat(first|with_reducible(first|refine nx ?_|refine r_6 rfl ?_)|simp only[go_sem,hL8.cell,show decide ((0:Int)<((0:Nat):Int))=false from rfl]))
  refine⟨o8,o,fo,?_,hq8,fun y hy=>by have:=gfo y hy;have:=o7.size;omega⟩
  have:=hO [] .nil
  simpa using this
 |cons l0 l1=>
 obtain⟨l,hl⟩: ∃l,l=l0::l1:=⟨_,rfl⟩
 rw[←hl]at hl8 hlo hlD hO hL8
 have hl1:0<l.length:=by rw[hl];simp
 obtain⟨gl,_,yl,el,hatl,hfc,_⟩:=hl8.pos hl1
 cases el
 have hR8:=hR7.keep ho8 fun e=>by have:=fw qR e;omega
 have hRM8:=hRM7.keep ho8 fw
 refine gO2 hL8.cell (decide_eq_true (show(0:Int)<(l.length:Int) by omega)) ?_
 refine callT (indexFuncX (p:=fun y=>!(l.any fun x=>bef s x y)) (F:=141) (caps:=#[.pointer (some ⟨qL,0,none⟩),.pointer (some ⟨qR,0,none⟩)]) (fun _=>⟨gl,yl,rfl,hatl⟩) (by kernel_rfl) (by omega) fun w' x ho hx=>?_) ?_
 ·exact vFirst (hL8.keep0 ho) (hl8.keep0 ho) (by omega) (hR8.keep0 ho) (hRM8.keep0 ho) hlD (hlD x hx)
 rintro _ w9 ⟨⟨k,rfl,hk⟩,ho9⟩
 obtain⟨i,rfl,hi,hpi,hbf⟩: ∃i:Nat,k=(i:Int)∧i<l.length∧l.any (fun x=>bef s x (l.getD i 0))=false∧(l.take i).any (fun y=>!(l.any fun x=>bef s x y))=false:=by
  rcases hk with⟨_,hn⟩|⟨i,h1,h2,h3,h4⟩
  ·obtain⟨y,hy,hyn⟩:=bef_first s l (by intro e;rw[e]at hl1;cases hl1)
   have:=List.any_eq_false.1 hn y hy
   simp[hyn]at this
  ·exact⟨i,h1,h2,by simpa using h3,h4⟩
 have hL9:=hL8.keep0 ho9
 have ci:(0:Int)≤(i:Int)∧(i:Int)<(l.length:Int):=by omega
 have vr:w9.cell? ⟨gl,i,none⟩=some (.int .i64 (l.getD i 0)):=by rw[(hatl.keep0 ho9).cell];exact ints_append_get yl hi
 refine gJ3 hL9.cell (eq_true ci) vr ?_
 rw[fillL_one rfl rfl]
 refine gO ?_
 refine bslT fun q10 w10 hq10 hs10 hat10 ho10=>?_
 refine gO ?_
 refine appT ((hq8.keep0 ho9).keep0 ho10) (SrcIs.at (us:=[.int .i64 (l.getD i 0)]) hat10 rfl) (by simp[oneC]) (by omega) (by omega) ?_
 intro v11 w11 f11 hs11 hf11 ho11 _
 have z7:=ho8.size
 have z8:=ho9.size
 have z9:=ho10.size
 have fofc: ∀z,z∈qL::fc→z∉fo:=fun z hz e=>by
  have:=gfo z e
  rcases List.mem_cons.1 hz with rfl|hz
  ·have:=hL7.lt;omega
  ·have:=hc7.lt z hz;omega
 have hL11:=(hL9.keep0 ho10).keep ho11 (fofc qL (by simp))
 have hl11:=((hl8.keep0 ho9).keep0 ho10).keep ho11 fun z hz=>fofc z (List.mem_cons_of_mem _ hz)
 rw[hfc]at hl11
 refine gO2 hL11.cell (i64_succ i (by omega)) ?_
 refine callT (sDelete hl11 hi (by omega)) ?_
 rintro v12 w12 ⟨ho12,hl12⟩
 rw[←hfc]at ho12 hl12
 have f11fc: ∀z,z∈qL::fc→z∉f11:=fun z hz e=>by
  rcases hf11 with rfl|rfl
  ·exact fofc z hz e
  ·simp only[List.mem_singleton]at e
   rcases List.mem_cons.1 hz with rfl|hz
   ·have:=hL7.lt;omega
   ·have:=hc7.lt z hz;omega
 have hL12:=hL11.keep ho12 qLfc
 refine gO ?_
 refine stT hL12 (by simp) hl12.oneC' fun w13 hs13 hat13 ho13=>?_
 have hL13:At w13 qL [v12]:=hat13
 have hl13:=hl12.keep ho13 fun z hz e=>qLfc (by simp only[List.mem_singleton]at e;exact e▸hz)
 have hq13:=(hs11.keep ho12 fun z hz e=>f11fc z (List.mem_cons_of_mem _ e) hz).keep ho13 fun z hz e=>f11fc z (by simp only[List.mem_singleton]at e;rw[e];simp) hz
 obtain⟨a13,c13,e13⟩:=hl13.val
 have hel:(l.eraseIdx i).length=l.length-1:=List.length_eraseIdx_of_lt hi
 refine gO ?_
 refine hnext _ w13 ?_ ⟨l.eraseIdx i,o++[l.getD i 0],v12,f11,hL13,hl13,?_,fun x hx=>hlD x (List.mem_of_mem_eraseIdx hx),fun O hO'=>?_,?_,?_,?_⟩ ?_
 ·(repeat(first|with_reducible exact k_1|with_reducible exact Keeps.ovr _ _ _|refine Keeps.put ?_ rfl _|exact k_1|exact Keeps.ovr _ _ _|refine Keeps.ovr2 ?_ rfl _))
 ·rw[hel,List.length_append,List.length_singleton];omega
 ·have:=hO (l.getD i 0::O) (.cons hi (fun j hj=>?_) hpi hO')
  ·simpa using this
  ·have:=List.any_eq_false.1 hbf (l.getD j 0) (by
    have hjl:j<l.length:=by omega
    rw[List.mem_take_iff_getElem]
    exact⟨j,by omega,by simp[hjl]⟩)
   simpa using this
 ·exact((((ho8.nil ho9).nil ho10).trans ho11 fun y hy=>.inr (gfo y hy)).trans ho12 fun y hy=>.inl (List.mem_cons_of_mem _ hy)).trans ho13 fun y hy=>.inl (by simp only[List.mem_singleton]at hy;rw[hy];simp)
 ·simp only[go_sem]
  rw[List.length_append,ints_append];exact hq13
 ·intro y hy
  rcases hf11 with rfl|rfl
  ·exact gfo y hy
  ·simp only[List.mem_singleton]at hy;omega
 ·rw[hL13.cell,hL8.cell,e13]
  simp only[List.getElem?_cons_zero,slLen]
  omega
end Go.Proofs.YteiildhelefodaaGreat
end
section
namespace Go.Proofs.YteiildhelefodaaGreat
set_option maxRecDepth 8000
theorem vKept1 {w:World} {q vb mk:Nat} {c0:Value} {cs:List Value} {K:List Int} (hq:At w q [.pointer (some ⟨vb,0,none⟩)]) (hv:At w vb (c0::.map (some mk)::cs)) (hK:MB w mk K) (x:Int):
  Cs Tryz.prog 54 [.int .i64 x,.pointer (some ⟨q,0,none⟩)] w fun v w'=>v=.bool (decide (x∈K))∧Only [] w w':=by
 refine enter_final_Registry_Collect_1 rfl ?_
 unfold x_final_Registry_Collect_1
 refine gO2 hq.cell hv.cell ?_
 refine lkpT Tryz.underlying115 Tryz.underlying3 (Tryz.zeroValue4 _) hK ?_
 rw[getM_setD]
 refine gO ?_
 exact Only.refl _ _
theorem vHeld2 {w:World} {q vb mk ms:Nat} {c0:Value} {cs:List Value} {K S:List Int} (hq:At w q [.pointer (some ⟨vb,0,none⟩)]) (hv:At w vb (c0::.map (some mk)::.map (some ms)::cs)) (hK:MB w mk K) (hS:MB w ms S) (x:Int):
  Cs Tryz.prog 55 [.int .i64 x,.pointer (some ⟨q,0,none⟩)] w fun v w'=>v=.bool (decide (x∈K)||decide (x∈S))∧Only [] w w':=by
 refine enter_final_Registry_Collect_2 rfl ?_
 unfold x_final_Registry_Collect_2
 refine gO2 hq.cell hv.cell ?_
 refine lkpT Tryz.underlying115 Tryz.underlying3 (Tryz.zeroValue4 _) hK ?_
 rw[getM_setD]
 by_cases c:x∈K
 ·rw[decide_eq_true c]
  refine gO ?_
  exact Only.refl _ _
 rw[decide_eq_false c]
 refine gO2 hq.cell hv.cell ?_
 refine lkpT Tryz.underlying115 Tryz.underlying3 (Tryz.zeroValue4 _) hS ?_
 rw[getM_setD]
 refine gO ?_
 exact Only.refl _ _
theorem vSame3 {w:World} {q:Nat} {k:Int} (hq:At w q [.int .i64 k]) (x:Int):
  Cs Tryz.prog 60 [.int .i64 x,.pointer (some ⟨q,0,none⟩)] w fun v w'=>v=.bool (x==k)∧Only [] w w':=by
 refine enter_final_Registry_Collect_3 rfl ?_
 unfold x_final_Registry_Collect_3
 refine gO1 hq.cell ?_
 exact Only.refl _ _
theorem cWordsAt {w:World} {a:Option Addr} {fp:List Nat} {m:HO} (h:HR w a fp m) (x:Int) (hx:x≤4611686018427387904):
  Cs Tryz.prog 145 [.pointer a,.int .i64 x] w fun v w'=>v=.int .i64 (wordsS (shapeO m x).1)∧Only [] w w':=by
 refine enter_sound_Words rfl ?_
 unfold x_sound_Words
 refine gO ?_
 refine callT (hShape h x hx) ?_
 rintro _ w1 ⟨rfl,ho1⟩
 refine gO ?_
 refine boxT fun q w2 hq hs2 hat2 ho2=>?_
 refine gO ?_
 refine stNT (cs:=shV (shapeO m x).1) hat2 rfl (by simp[shV]) (shV_one _) fun w3 hs3 hat3 ho3=>?_
 rw[setL_sh]at hat3
 have o3:Only [] w w3:=ho1.nil (ho2.trans ho3 fun y hy=>by simp only[List.mem_singleton]at hy;subst hy;exact .inr (by omega))
 have hc3:cellsAt w3 ⟨q,0,none⟩ 3=some (shV (shapeO m x).1):=by
  rw[cellsAt_at hat3 0 3 (by simp[shV])];rfl
 refine gO1 hc3 ?_
 refine callT (hWords w3 (shapeO m x).1) ?_
 rintro _ w4 ⟨rfl,ho4⟩
 refine gO ?_
 exact o3.nil ho4
theorem gNext {w:World} {b:Nat} {hp:Addr} {ar:Option Addr} {L:List Int} {fl fr:List Nat} {m:Rt.MO} (h:RG w b hp ar L fl) (hR:Rt.PR w ar fr m):
  Cs Tryz.prog 26 [.pointer (some ⟨b,0,none⟩)] w fun v w'=>v=.tuple #[.int .i64 (Rt.popO m).1.1,.int .i64 (Rt.popO m).1.2]∧Only fr w w'∧((Rt.popO m).1.2≠0→Only [] w w')∧ ∃fr',Rt.PR w' ar fr' (Rt.popO m).2∧ ∀x,x∈fr'→x∈fr∨w.heap.size≤x:=by
 refine enter_final_Registry_Next rfl ?_
 unfold x_final_Registry_Next
 refine gO ?_
 refine callT0 (gMade h) ?_
 obtain⟨v0,h1,h2,h3⟩:=id h
 refine gO1 h1.cell ?_
 refine callT (Rt.Pop_m hR) ?_
 rintro _ w1 ⟨rfl,ho1,ho1',f1,hp1,g1⟩
 refine gO ?_
 exact⟨ho1,ho1',f1,hp1,g1⟩
end Go.Proofs.YteiildhelefodaaGreat
end
section
namespace Go.Proofs.YteiildhelefodaaGreat
set_option maxRecDepth 8000
def clrO (m:HO) (x kd:Int):Nat→HO×Nat
 |0=>(m,0)
 |i+1=>if(refO (clrO m x kd i).1 x (i:Int)).1≠0∧softI kd i=true then(setRefM (clrO m x kd i).1 x (i:Int) 0,(clrO m x kd i).2+1)else clrO m x kd i
theorem clrO_le (m:HO) (x kd:Int): ∀i,(clrO m x kd i).2≤i
 |0=>Nat.le_refl _
 |i+1=>by
  have:=clrO_le m x kd i
  unfold clrO
  split
  ·simp only;omega
  ·omega
def clearO (m:HO) (x:Int) (kept:Int→Bool):HO×Nat:=
 if(shapeO m x).1.2.2≠1∧(shapeO m x).1.2.2≠2 then(m,0)else if(refO m x 0).1≠0∧kept (refO m x 0).1=true then(m,0)else clrO m x (shapeO m x).1.2.2 (shapeO m x).1.1.toNat
theorem cCleared {w:World} {a:Option Addr} {fp:List Nat} {m:HO} {F n:Nat} {caps:Array Value} {kept:Int→Bool} (h:HR w a fp m) (x:Int) (hx:x≤4611686018427387904) (hn:(shapeO m x).1.1=(n:Int)) (hn15:n≤15) (hok:okF Tryz.prog F=true)
  (hF: ∀w' y,Only [] w w'→Cs Tryz.prog F ([.int .i64 y]++caps.toList) w' fun v w''=>v=.bool (kept y)∧Only [] w' w''):
  Cs Tryz.prog 144 [.pointer a,.int .i64 x,.func (.func F) #[] caps] w fun v w'=>v=.int .i64 (clearO m x kept).2∧HR w' a fp (clearO m x kept).1∧Only fp w w':=by
 refine enter_place_Cleared rfl ?_
 unfold x_place_Cleared
 refine gO ?_
 refine callT (hShape h x hx) ?_
 rintro _ w1 ⟨rfl,ho1⟩
 refine gO ?_
 refine boxT fun q w2 hq hs2 hat2 ho2=>?_
 refine gO ?_
 refine stNT (cs:=shV (shapeO m x).1) hat2 rfl (by simp[shV]) (shV_one _) fun w3 hs3 hat3 ho3=>?_
 rw[setL_sh]at hat3
 have o3:Only [] w w3:=ho1.nil (ho2.trans ho3 fun y hy=>by simp only[List.mem_singleton]at hy;subst hy;exact .inr (by omega))
 unfold clearO
 rw[hn,Int.toNat_natCast]
 obtain⟨kd,hkd⟩: ∃kd,kd=(shapeO m x).1.2.2:=⟨_,rfl⟩
 have c30:w3.cell? ⟨q,0,none⟩=some (.int .i64 (n:Int)):=by rw[hat3.cell,←hn];rfl
 have c32:w3.cell? ⟨q,2,none⟩=some (.int .i64 kd):=by rw[hat3.cell,hkd];rfl
 rw[←hkd]
 have qfp:q∉fp:=fun e=>by have:=h.lt q e;have:=ho1.size;omega
 simp only[go_sem]
 refine run_seq ?_
 refine run_cut (21::22::23::24::25::26::27::28::[]) (fun _ w'=>w'=w3∧(kd=1∨kd=2)) (fun kk hkk=>?_) (fun g4 w4 hJ=>?_)
 ·by_cases c1:kd=1
  ·refine gO2 c32 (bne_int_false c1) ?_
   refine hkk _ w3 ?_ ⟨rfl,.inl c1⟩
   (repeat(first|with_reducible exact k_1|with_reducible exact Keeps.ovr _ _ _|refine Keeps.put ?_ rfl _|exact k_1|exact Keeps.ovr _ _ _|refine Keeps.ovr2 ?_ rfl _))
  by_cases c2:kd=2
  ·refine gO3 c32 (bne_int_true c1) (bne_int_false c2) ?_
   refine hkk _ w3 ?_ ⟨rfl,.inr c2⟩
   (repeat(first|with_reducible exact k_1|with_reducible exact Keeps.ovr _ _ _|refine Keeps.put ?_ rfl _|exact k_1|exact Keeps.ovr _ _ _|refine Keeps.ovr2 ?_ rfl _))
  refine gO3 c32 (bne_int_true c1) (bne_int_true c2) ?_
  rw[if_pos ⟨c1,c2⟩]
  exact⟨rfl,h.keep0 o3,o3.of_nil⟩
 obtain⟨rfl,ck⟩:=hJ
 rw[if_neg (show¬(kd≠1∧kd≠2) by omega)]
 obtain⟨res,hres⟩: ∃res,res=(if(refO m x 0).1≠0∧kept (refO m x 0).1=true then(m,0)else clrO m x kd n):=⟨_,rfl⟩
 rw[←hres]
 refine run_seq ?_
 refine run_cut (9::10::29::30::31::32::33::34::35::36::37::38::39::40::41::[]) (fun _ w'=>Only [] w4 w'∧ ¬((refO m x 0).1≠0∧kept (refO m x 0).1=true)) (fun kk hkk=>?_) (fun g5 w5 hJ=>?_)
 ·refine gO ?_
  refine callT (hRef (h.keep0 o3) x 0 hx) ?_
  rintro _ w5 ⟨rfl,ho5⟩
  by_cases c0:(refO m x 0).1=0
  ·refine gO1 (bne_int_false c0) ?_
   refine hkk _ w5 ?_ ⟨ho5,fun e=>e.1 c0⟩
   (repeat(first|with_reducible exact k_1|with_reducible exact Keeps.ovr _ _ _|refine Keeps.put ?_ rfl _|exact k_1|exact Keeps.ovr _ _ _|refine Keeps.ovr2 ?_ rfl _))
  refine gO1 (bne_int_true c0) ?_
  have hF':Cs Tryz.prog F ((#[]:Array Value).toList++[.int .i64 (refO m x 0).1]++caps.toList) w5 fun v w''=>v=.bool (kept (refO m x 0).1)∧Only [] w5 w'':=by
   have:=hF w5 (refO m x 0).1 (o3.nil ho5)
   simpa using this
  refine callVT (callVals_f F #[] [.int .i64 (refO m x 0).1] caps) hok hF' ?_
  rintro _ w6 ⟨rfl,ho6⟩
  cases ck2:kept (refO m x 0).1 with
  |true=>
   refine gO ?_
   rw[if_pos ⟨c0,ck2⟩]at hres
   rw[hres]
   exact⟨rfl,h.keep0 ((o3.nil ho5).nil ho6),((o3.nil ho5).nil ho6).of_nil⟩
  |false=>
   refine gO ?_
   refine hkk _ w6 ?_ ⟨ho5.nil ho6,fun e=>by rw[ck2]at e;cases e.2⟩
   (repeat(first|with_reducible exact k_1|with_reducible exact Keeps.ovr _ _ _|refine Keeps.put ?_ rfl _|exact k_1|exact Keeps.ovr _ _ _|refine Keeps.ovr2 ?_ rfl _))
 obtain⟨ho5,cc⟩:=hJ
 rw[if_neg cc]at hres
 rw[hres]
 have o5:=o3.nil ho5
 have hat5:=hat3.keep0 ho5
 have c50:w5.cell? ⟨q,0,none⟩=some (.int .i64 (n:Int)):=by rw[hat5.cell,←hn];rfl
 refine gO1 c50 ?_
 refine run_loop (11::12::13::14::44::45::46::47::48::49::50::51::52::53::54::55::56::57::58::59::60::61::62::63::64::65::66::67::68::[]) (fun g w'=> ∃i:Nat,g 44=.int .i64 (i:Int)∧g 11=.int .i64 ((clrO m x kd i).2:Int)∧i≤n∧HR w' a fp (clrO m x kd i).1∧Only fp w5 w') (fun g _=>upTo n 44 g)
  ⟨0,by simp only[go_sem];rfl,by simp only[go_sem];rfl,by omega,h.keep0 o5,Only.refl _ _⟩ fun g6 w6 hI hnext=>?_
 obtain⟨i,h44,h11,hi,hr6,ho6⟩:=hI
 have o6:Only fp w w6:=(o5.of_nil).trans ho6 fun y hy=>.inl hy
 by_cases c:i<n
 rotate_left
 ·refine gO3 h44 h11 (decide_eq_false (show¬(i:Int)<(n:Int) by omega)) ?_
  have:i=n:=by omega
  subst this
  exact⟨rfl,hr6,o6⟩
 have hat6:=hat5.keep ho6 qfp
 have c62: ∀w7,Only [] w6 w7→w7.cell? ⟨q,2,none⟩=some (.int .i64 kd):=fun w7 o=>by rw[(hat6.keep0 o).cell,hkd];rfl
 have hle:=clrO_le m x kd i
 have hst:clrO m x kd (i+1)=if(refO (clrO m x kd i).1 x (i:Int)).1≠0∧softI kd i=true then(setRefM (clrO m x kd i).1 x (i:Int) 0,(clrO m x kd i).2+1)else clrO m x kd i:=rfl
 refine gO2 h44 (decide_eq_true (show(i:Int)<(n:Int) by omega)) ?_
 refine callT (hRef hr6 x (i:Int) hx) ?_
 rintro _ w7 ⟨rfl,ho7⟩
 by_cases c0:(refO (clrO m x kd i).1 x (i:Int)).1=0
 ·refine gO3 (bne_int_false c0) h44 (i64_succ i (by omega)) ?_
  rw[if_neg (fun e=>e.1 c0)]at hst
  refine hnext _ w7 ?_ ⟨i+1,?_,?_,by omega,by rw[hst];exact hr6.keep0 ho7,ho6.nil ho7⟩ ?_
  ·(repeat(first|with_reducible exact k_1|with_reducible exact Keeps.ovr _ _ _|refine Keeps.put ?_ rfl _|exact k_1|exact Keeps.ovr _ _ _|refine Keeps.ovr2 ?_ rfl _))
  ·simp only[go_sem]
  ·simp only[go_sem,h11];rw[hst]
  ·rw[upTo_int (i:=i) h44,upTo_int (k:=.i64) (i:=i+1) (by simp only[go_sem])];omega
 (repeat(first|with_reducible(first|refine nx ?_|refine r_6 rfl ?_)|simp only[go_sem,bne_int_true c0,c62 w7 ho7,h44]))
 refine callT0 (cSoft w7 kd i) ?_
 cases hsf:softI kd i with
 |false=>
  refine gO2 h44 (i64_succ i (by omega)) ?_
  rw[if_neg (fun e=>by rw[hsf]at e;cases e.2)]at hst
  refine hnext _ w7 ?_ ⟨i+1,?_,?_,by omega,by rw[hst];exact hr6.keep0 ho7,ho6.nil ho7⟩ ?_
  ·(repeat(first|with_reducible exact k_1|with_reducible exact Keeps.ovr _ _ _|refine Keeps.put ?_ rfl _|exact k_1|exact Keeps.ovr _ _ _|refine Keeps.ovr2 ?_ rfl _))
  ·simp only[go_sem]
  ·simp only[go_sem,h11];rw[hst]
  ·rw[upTo_int (i:=i) h44,upTo_int (k:=.i64) (i:=i+1) (by simp only[go_sem])];omega
 |true=>
  refine gO2 h44 h11 ?_
  refine callT (hSetRef (hr6.keep0 ho7) x (i:Int) 0 hx (by omega)) ?_
  rintro _ w8 ⟨rfl,hr8,ho8⟩
  refine gO4 h44 h11 (i64_succ i (by omega)) (i64_succ (clrO m x kd i).2 (by omega)) ?_
  rw[if_pos ⟨c0,hsf⟩]at hst
  refine hnext _ w8 ?_ ⟨i+1,?_,?_,by omega,by rw[hst];exact hr8,(ho6.nil ho7).trans ho8 fun y hy=>.inl hy⟩ ?_
  ·(repeat(first|with_reducible exact k_1|with_reducible exact Keeps.ovr _ _ _|refine Keeps.put ?_ rfl _|exact k_1|exact Keeps.ovr _ _ _|refine Keeps.ovr2 ?_ rfl _))
  ·simp only[go_sem]
  ·simp only[go_sem];rw[hst]
  ·rw[upTo_int (i:=i) h44,upTo_int (k:=.i64) (i:=i+1) (by simp only[go_sem])];omega
theorem cClear {w:World} {a:Option Addr} {fp:List Nat} {m:HO} {F n:Nat} {caps:Array Value} {kept:Int→Bool} (h:HR w a fp m) (x:Int) (hx:x≤4611686018427387904) (hn:(shapeO m x).1.1=(n:Int)) (hn15:n≤15) (hok:okF Tryz.prog F=true)
  (hF: ∀w' y,Only [] w w'→Cs Tryz.prog F ([.int .i64 y]++caps.toList) w' fun v w''=>v=.bool (kept y)∧Only [] w' w''):
  Cs Tryz.prog 57 [.pointer a,.int .i64 x,.func (.func F) #[] caps] w fun v w'=>v=.bool (decide (0<(clearO m x kept).2))∧HR w' a fp (clearO m x kept).1∧Only fp w w':=by
 refine enter_place_Clear rfl ?_
 unfold x_place_Clear
 refine gO ?_
 refine callT (cCleared h x hx hn hn15 hok hF) ?_
 rintro _ w1 ⟨rfl,hr1,ho1⟩
 have e:decide ((0:Int)<((clearO m x kept).2:Int))=decide (0<(clearO m x kept).2):=by rw[decide_eq_decide];omega
 refine gO1 e ?_
 exact⟨hr1,ho1⟩
end Go.Proofs.YteiildhelefodaaGreat
end
section
namespace Go.Proofs.YteiildhelefodaaGreat
set_option maxRecDepth 8000
def kst (keep:Int→Bool) (r:HO×Int×Int) (x:Int):HO×Int×Int:=if keep x then r else(killM r.1 x,IntKind.i64.wrap (r.2.1+1),IntKind.i64.wrap (r.2.2+wordsS (shapeO r.1 x).1))
theorem foldl_take {α β:Type} (f:α→β→α) (a:α) (l:List β) (d:β) {i:Nat} (h:i<l.length):(l.take (i+1)).foldl f a=f ((l.take i).foldl f a) (l.getD i d):=by
 rw[List.take_succ_eq_append_getElem h,List.foldl_append]
 simp[h]
set_option maxHeartbeats 1000000 in
theorem cKill {w:World} {a:Option Addr} {fp:List Nat} {m:HO} {F rb:Nat} {caps:Array Value} {keep:Int→Bool} {f0 fw0:Int} {y0 y1:Value} {ys:List Value} (h:HR w a fp m) (hA: ∀x,x∈allH m→x≤4611686018427387904) (hl:(allH m).length≤5000) (hrb:At w rb (y0::y1::.int .i64 f0::.int .i64 fw0::ys)) (hn:rb∉fp) (hok:okF Tryz.prog F=true)
  (hF: ∀w' y,Only (rb::fp) w w'→Cs Tryz.prog F ([.int .i64 y]++caps.toList) w' fun v w''=>v=.bool (keep y)∧Only [] w' w''):
  Cs Tryz.prog 61 [.pointer a,.func (.func F) #[] caps,.pointer (some ⟨rb,0,none⟩)] w fun _ w'=>At w' rb (y0::y1::.int .i64 ((allH m).foldl (kst keep) (m,f0,fw0)).2.1::.int .i64 ((allH m).foldl (kst keep) (m,f0,fw0)).2.2::ys)∧HR w' a fp ((allH m).foldl (kst keep) (m,f0,fw0)).1∧Only (rb::fp) w w':=by
 refine enter_sound_Kill rfl ?_
 unfold x_sound_Kill
 refine gO ?_
 refine callT (hAll h) ?_
 rintro v w1 ⟨ho1,fA,hA1,gA⟩
 obtain⟨A,hAe⟩: ∃A,A=allH m:=⟨_,rfl⟩
 rw[←hAe]at hA1 hA hl⊢
 obtain⟨aA,cA,rfl⟩:=hA1.val
 have dA: ∀z,z∈rb::fp→z∉fA:=fun z hz e=>by
  have:=gA z e
  rcases List.mem_cons.1 hz with rfl|hz
  ·have:=hrb.lt;omega
  ·have:=h.lt z hz;omega
 refine gO ?_
 refine run_loop (7::11::12::13::14::15::16::17::18::19::20::21::22::23::24::25::26::27::28::29::30::31::32::33::34::35::36::37::38::39::[]) (fun g w'=> ∃i:Nat,g 11=.int .i64 (i:Int)∧i≤A.length∧At w' rb (y0::y1::.int .i64 ((A.take i).foldl (kst keep) (m,f0,fw0)).2.1::.int .i64 ((A.take i).foldl (kst keep) (m,f0,fw0)).2.2::ys)∧HR w' a fp ((A.take i).foldl (kst keep) (m,f0,fw0)).1∧Only (rb::fp) w1 w') (fun g _=>upTo A.length 11 g)
  ⟨0,by simp only[go_sem];rfl,by omega,hrb.keep0 ho1,h.keep0 ho1,Only.refl _ _⟩ fun g w2 hI hnext=>?_
 obtain⟨i,h11,hi,hb2,hr2,ho2⟩:=hI
 have o2:Only (rb::fp) w w2:=(ho1.of_nil).trans ho2 fun y hy=>.inl hy
 by_cases c:i<A.length
 rotate_left
 ·refine gO2 h11 (decide_eq_false (show¬(i:Int)<(A.length:Int) by omega)) ?_
  rw[List.take_of_length_le (by omega)]at hb2 hr2
  exact⟨hb2,hr2,o2⟩
 obtain⟨gl,_,yl,el,hatl,_,_⟩:=(hA1.keep ho2 fun z hz e=>dA z e hz).pos (by omega)
 cases el
 have ci:(0:Int)≤(i:Int)∧(i:Int)<(A.length:Int):=by omega
 have vr:w2.cell? ⟨gl,i,none⟩=some (.int .i64 (A.getD i 0)):=by rw[hatl.cell];exact ints_append_get yl c
 have hft:=foldl_take (kst keep) (m,f0,fw0) A 0 c
 obtain⟨r,hr⟩: ∃r,r=(A.take i).foldl (kst keep) (m,f0,fw0):=⟨_,rfl⟩
 rw[←hr]at hb2 hr2 hft
 have hxA:=hA (A.getD i 0) (by simp[c])
 refine gJ4 h11 (decide_eq_true ci.2) (eq_true ci) vr ?_
 have hF':Cs Tryz.prog F ((#[]:Array Value).toList++[.int .i64 (A.getD i 0)]++caps.toList) w2 fun v w''=>v=.bool (keep (A.getD i 0))∧Only [] w2 w'':=by
  have:=hF w2 (A.getD i 0) o2
  simpa using this
 refine callVT (callVals_f F #[] [.int .i64 (A.getD i 0)] caps) hok hF' ?_
 rintro _ w3 ⟨rfl,ho3⟩
 have ek:kst keep r (A.getD i 0)=if keep (A.getD i 0)then r else(killM r.1 (A.getD i 0),IntKind.i64.wrap (r.2.1+1),IntKind.i64.wrap (r.2.2+wordsS (shapeO r.1 (A.getD i 0)).1)):=rfl
 by_cases ck:keep (A.getD i 0)=true
 ·rw[if_pos ck]at ek
  rw[ek]at hft
  refine gO3 ck h11 (i64_succ i (by omega)) ?_
  refine hnext _ w3 ?_ ⟨i+1,?_,by omega,?_,?_,ho2.nil ho3⟩ ?_
  ·(repeat(first|with_reducible exact k_1|with_reducible exact Keeps.ovr _ _ _|refine Keeps.put ?_ rfl _|exact k_1|exact Keeps.ovr _ _ _|refine Keeps.ovr2 ?_ rfl _))
  ·simp only[go_sem]
  ·rw[hft];exact hb2.keep0 ho3
  ·rw[hft];exact hr2.keep0 ho3
  ·rw[upTo_int (i:=i) h11,upTo_int (k:=.i64) (i:=i+1) (by simp only[go_sem])];omega
 ·rw[if_neg ck]at ek
  rw[ek]at hft
  have ck':keep (A.getD i 0)=false:=by simpa using ck
  have hb3:=hb2.keep0 ho3
  refine gO2 ck' hb3.cell ?_
  refine stT hb3 (by simp) rfl fun w4 hs4 hat4 ho4=>?_
  have hr4:=(hr2.keep0 ho3).keep ho4 fun z hz e=>hn (by simp only[List.mem_singleton]at e;exact e▸hz)
  have hb4:At w4 rb (y0::y1::.int .i64 (IntKind.i64.wrap (r.2.1+1))::.int .i64 r.2.2::ys):=hat4
  refine gO ?_
  refine run_drt [rb] ?_
  have od:=Only.drew [] w4
  have hb4d:=hb4.keep0 od
  refine gO1 hb4d.cell ?_
  refine callS (cWordsAt (hr4.keep0 od) (A.getD i 0) hxA) ?_
  rintro _ w5 ⟨rfl,ho5⟩
  refine⟨.inr ((SB.refl _ _).only ho5 fun z hz=>⟨by simp only[List.mem_singleton]at hz;subst hz;exact hb4d.lt,by simp⟩),?_⟩
  have hb5:=hb4d.keep0 ho5
  refine gO ?_
  refine stS hb5 (by simp) rfl fun w6 hs6 hat6 ho6=>⟨.inl rfl,?_⟩
  have hr6:=((hr4.keep0 od).keep0 ho5).keep ho6 fun z hz e=>hn (by simp only[List.mem_singleton]at e;exact e▸hz)
  have hb6:At w6 rb (y0::y1::.int .i64 (IntKind.i64.wrap (r.2.1+1))::.int .i64 (IntKind.i64.wrap (r.2.2+wordsS (shapeO r.1 (A.getD i 0)).1))::ys):=hat6
  refine gO ?_
  refine callT (hKill hr6 (A.getD i 0) hxA) ?_
  rintro _ w7 ⟨rfl,hr7,ho7⟩
  have hb7:=hb6.keep ho7 hn
  have one: ∀z,z∈[rb]→z∈rb::fp∨w1.heap.size≤z:=fun z hz=>.inl (by simp only[List.mem_singleton]at hz;rw[hz];simp)
  have o7:Only (rb::fp) w1 w7:=(((((ho2.nil ho3).trans ho4 one).nil od).nil ho5).trans ho6 one).trans ho7 fun z hz=>.inl (List.mem_cons_of_mem _ hz)
  refine gO2 h11 (i64_succ i (by omega)) ?_
  refine hnext _ w7 ?_ ⟨i+1,?_,by omega,?_,?_,o7⟩ ?_
  ·(repeat(first|with_reducible exact k_1|with_reducible exact Keeps.ovr _ _ _|refine Keeps.put ?_ rfl _|exact k_1|exact Keeps.ovr _ _ _|refine Keeps.ovr2 ?_ rfl _))
  ·simp only[go_sem]
  ·rw[hft];exact hb7
  ·rw[hft];exact hr7
  ·rw[upTo_int (i:=i) h11,upTo_int (k:=.i64) (i:=i+1) (by simp only[go_sem])];omega
end Go.Proofs.YteiildhelefodaaGreat
end
section
namespace Go.Proofs.YteiildhelefodaaGreat
set_option maxRecDepth 8000
section
variable {w:World} {b:Nat} {hp:Addr} {ar:Option Addr} {L:List Int} {fl fp fr:List Nat} {s:HL} {R:Rt.MS}
end
end Go.Proofs.YteiildhelefodaaGreat
end
section
namespace Go.Proofs.YteiildhelefodaaGreat
set_option maxRecDepth 8000
def usd (s:HL) (acc:Int) (x:Int):Int:=IntKind.i64.wrap (acc+s.size x.toNat)
theorem hUsed {w:World} {hp:Addr} {fp:List Nat} {s:HL} (h:HR w (some hp) fp (some s)) (h40:s.objs.length≤5000):
  Cs Tryz.prog 97 [.pointer (some hp)] w fun v w'=>v=.int .i64 ((allH (some s)).foldl (usd s) 0)∧Only [] w w':=by
 refine enter_heap_Heap_Used rfl ?_
 unfold x_heap_Heap_Used
 refine gO ?_
 refine callT (hAll h) ?_
 rintro v w1 ⟨ho1,fA,hA1,gA⟩
 obtain⟨A,hAe⟩: ∃A,A=allH (some s):=⟨_,rfl⟩
 have hl:A.length≤5000:=by rw[hAe,allH_len];exact h40
 have hlv: ∀x,x∈A→Liv s x:=fun x hx=>allH_mem.1 (by rw[←hAe];exact hx)
 rw[←hAe]at hA1⊢
 obtain⟨aA,cA,rfl⟩:=hA1.val
 obtain⟨b,e,gB,gW,cB,cW,yB,yW,sb,sg,pb,pg,bl,bf,h2,h3⟩:=id h
 cases e
 refine gO ?_
 refine run_loop (3::5::9::10::11::12::13::14::15::16::17::18::[]) (fun g w'=> ∃i:Nat,g 9=.int .i64 (i:Int)∧i≤A.length∧g 3=.int .i64 ((A.take i).foldl (usd s) 0)∧Only [] w1 w') (fun g _=>upTo A.length 9 g)
  ⟨0,by simp only[go_sem];rfl,by omega,by simp only[go_sem];rfl,Only.refl _ _⟩ fun g w2 hI hnext=>?_
 obtain⟨i,h9,hi,hg3,ho2⟩:=hI
 by_cases c:i<A.length
 rotate_left
 ·refine gO3 h9 hg3 (decide_eq_false (show¬(i:Int)<(A.length:Int) by omega)) ?_
  rw[List.take_of_length_le (by omega)]
  exact⟨rfl,ho1.nil ho2⟩
 obtain⟨gl,_,yl,el,hatl,_,_⟩:=(hA1.keep0 ho2).pos (by omega)
 cases el
 have ci:(0:Int)≤(i:Int)∧(i:Int)<(A.length:Int):=by omega
 obtain⟨k,hk,hlk⟩:=hlv (A.getD i 0) (by simp[c])
 have vr:w2.cell? ⟨gl,i,none⟩=some (.int .i64 ((2*k:Nat):Int)):=by rw[hatl.cell,←hk];exact ints_append_get yl c
 have hft:=foldl_take (usd s) 0 A 0 c
 rw[hk]at hft
 obtain⟨r,hr⟩: ∃r,r=(A.take i).foldl (usd s) 0:=⟨_,rfl⟩
 rw[←hr]at hft hg3
 have eu:usd s r ((2*k:Nat):Int)=IntKind.i64.wrap (r+s.size (2*k)):=by unfold usd;rw[Int.toNat_natCast]
 refine gJ5 h9 hg3 (decide_eq_true ci.2) (eq_true ci) vr ?_
 refine callT (hSize (h3.keep0 (ho1.nil ho2)) hlk) ?_
 rintro _ w3 ⟨rfl,ho3⟩
 refine gO3 h9 hg3 (i64_succ i (by omega)) ?_
 refine hnext _ w3 ?_ ⟨i+1,?_,by omega,?_,ho2.nil ho3⟩ ?_
 ·(repeat(first|with_reducible exact k_1|with_reducible exact Keeps.ovr _ _ _|refine Keeps.put ?_ rfl _|exact k_1|exact Keeps.ovr _ _ _|refine Keeps.ovr2 ?_ rfl _))
 ·simp only[go_sem]
 ·simp only[go_sem];rw[hft,eu]
 ·rw[upTo_int (i:=i) h9,upTo_int (k:=.i64) (i:=i+1) (by simp only[go_sem])];omega
end Go.Proofs.YteiildhelefodaaGreat
end
section
namespace Go.Proofs.YteiildhelefodaaGreat
set_option maxRecDepth 8000
theorem cDone {w:World} {hp:Addr} {fp:List Nat} {s:HL} {rb:Nat} {y0 y1 y2 y3 y4:Value} {ys:List Value} (h:HR w (some hp) fp (some s)) (h40:s.objs.length≤5000) (hrb:At w rb (y0::y1::y2::y3::y4::ys)):
  Cs Tryz.prog 63 [.pointer (some hp),.slice none 0 0,.pointer (some ⟨rb,0,none⟩)] w fun _ w'=>At w' rb (.int .i64 (s.objs.length:Int)::.int .i64 ((allH (some s)).foldl (usd s) 0)::y2::y3::.int .i64 0::ys)∧Only [rb] w w':=by
 refine enter_sound_Done rfl ?_
 unfold x_sound_Done
 refine gO ?_
 refine callT (hAll h) ?_
 rintro v w1 ⟨ho1,fA,hA1,gA⟩
 rw[allH_len]at hA1
 obtain⟨aA,cA,rfl⟩:=hA1.val
 refine gO ?_
 refine callT (hUsed (h.keep0 ho1) h40) ?_
 rintro _ w2 ⟨rfl,ho2⟩
 have hb2:=hrb.keep0 (ho1.nil ho2)
 refine gO ?_
 refine stT hb2 (by simp) rfl fun w3 hs3 hat3 ho3=>?_
 refine gO ?_
 refine stT hat3 (by simp) rfl fun w4 hs4 hat4 ho4=>?_
 refine gO ?_
 refine stT hat4 (by simp) rfl fun w5 hs5 hat5 ho5=>?_
 have o5:Only [rb] w w5:=((((ho1.nil ho2).of_nil).trans ho3 fun y hy=>.inl hy).trans ho4 fun y hy=>.inl hy).trans ho5 fun y hy=>.inl hy
 refine gO ?_
 refine run_loop (7::26::27::28::29::30::31::32::33::34::35::36::37::38::39::40::41::[]) (fun g w'=>g 26=.int .i64 0∧w'=w5) (fun _ _=>0) ⟨by simp only[go_sem],rfl⟩ fun g w6 hI hnext=>?_
 obtain⟨h26,rfl⟩:=hI
 (repeat(first|with_reducible(first|refine nx ?_|refine r_6 rfl ?_)|simp only[go_sem,h26,show decide ((0:Int)<((0:Nat):Int))=false from rfl]))
 exact⟨hat5,o5⟩
end Go.Proofs.YteiildhelefodaaGreat
end
section
namespace Go.Proofs.YteiildhelefodaaGreat
set_option maxRecDepth 8000
def heldE (s:HL) (k:Nat):Int:=if k=0 then 1 else if(s.B.getD k (0,0)).1≠1∧(s.B.getD k (0,0)).1≠2 then 5 else 0
theorem hHeld {w:World} {b:Nat} {s:HL} {gB gW cB cW:Nat} {yB yW:List Value} {sb sg pb pg bl bf:Nat} (h:HMs w b s gB gW cB cW yB yW sb sg pb pg bl bf) (k:Nat) (hk:k<s.B.length):
  Cs Tryz.prog 217 [.pointer (some ⟨b,0,none⟩),.int .i64 (k:Int),.bool true] w fun v w'=>v=.int .i64 (heldE s k)∧w'=w:=by
 have hB:=h.ok.b64
 have get:(blkV s.B++yB)[k*2]? =some (.int .i64 (s.B.getD k (0,0)).1):=by
  rw[List.getElem?_append_left (by rw[blkV_len];omega),Nat.mul_comm];exact(blkV_get hk).1
 have e1:(0:Int)≤(k:Int)∧(k:Int)<(s.B.length:Int):=⟨by omega,by omega⟩
 refine enter_heap_Heap_held rfl ?_
 unfold x_heap_Heap_held
 refine gO ?_
 refine callT0 (hMadeS h) ?_
 refine gO ?_
 refine callT0 (hThere (HR.intro h) (k:Int)) ?_
 unfold heldE
 by_cases k0:k=0
 ·have et:thereO (some s) (k:Int)=false:=by simp[thereO,k0]
  refine gO1 et ?_
  rw[if_pos k0]
 have et:thereO (some s) (k:Int)=true:=by simp only[thereO,Bool.and_eq_true,decide_eq_true_eq];omega
 rw[if_neg k0]
 by_cases c1:(s.B.getD k (0,0)).1=1
 ·refine gJ6 et h.hb.cell h.hB.cell (eq_true e1) get (bne_int_false c1) ?_
  rw[if_neg (by omega)]
 by_cases c2:(s.B.getD k (0,0)).1=2
 ·refine gJ7 et h.hb.cell h.hB.cell (eq_true e1) get (bne_int_true c1) (bne_int_false c2) ?_
  rw[if_neg (by omega)]
 refine gJ7 et h.hb.cell h.hB.cell (eq_true e1) get (bne_int_true c1) (bne_int_true c2) ?_
 rw[if_pos ⟨c1,c2⟩]
end Go.Proofs.YteiildhelefodaaGreat
end
section
namespace Go.Proofs.YteiildhelefodaaGreat
set_option maxRecDepth 8000
def SamW (s s':HL):Prop:= ∃W,s'= {s with W:=W}
theorem SamW.refl (s:HL):SamW s s:=⟨s.W,rfl⟩
theorem SamW.trans {a b c:HL} (h:SamW a b) (k:SamW b c):SamW a c:=by
 obtain⟨W,rfl⟩:=h
 obtain⟨V,rfl⟩:=k
 exact⟨V,rfl⟩
theorem SamW.st {s s':HL} (h:SamW s s'):s'.st=s.st:=by obtain⟨W,rfl⟩:=h;rfl
theorem SamW.B {s s':HL} (h:SamW s s'):s'.B=s.B:=by obtain⟨W,rfl⟩:=h;rfl
theorem SamW.objs {s s':HL} (h:SamW s s'):s'.objs=s.objs:=by unfold HL.objs;rw[h.st]
theorem setRef_sam {s s':HL} {x i to:Int} (e:setRefM (some s) x i to=some s'):SamW s s':=by
 unfold setRefM at e
 by_cases c:setRefE (some s) x i to=0
 ·simp only[if_pos c,Option.some.injEq]at e;exact⟨_,e.symm⟩
 ·simp only[if_neg c,Option.some.injEq]at e;exact e▸SamW.refl s
def clrRf (kd:Int) (m:Nat) (rf:List Int):List Int:=(List.range rf.length).map fun j=>if j<m∧softI kd j=true then 0 else rf.getD j 0
theorem clrRf_len (kd:Int) (m:Nat) (rf:List Int):(clrRf kd m rf).length=rf.length:=by simp[clrRf]
theorem clrRf_get {kd:Int} {m:Nat} {rf:List Int} {j:Nat} (h:j<rf.length):(clrRf kd m rf).getD j 0=if j<m∧softI kd j=true then 0 else rf.getD j 0:=by
 unfold clrRf;rw[map_range_getD h]
theorem clrRf_zero (kd:Int) (rf:List Int):clrRf kd 0 rf=rf:=by
 refine List.ext_getD' 0 (clrRf_len _ _ _) fun i hi=>?_
 rw[clrRf_len]at hi
 rw[clrRf_get hi,if_neg (by omega)]
def softN (kd:Int) (rf:List Int) (i:Nat):Nat:=((List.range i).filter fun j=>softI kd j&&(rf.getD j 0 !=0)).length
theorem softN_succ (kd:Int) (rf:List Int) (i:Nat):softN kd rf (i+1)=softN kd rf i+if softI kd i=true∧rf.getD i 0≠0 then 1 else 0:=by
 unfold softN
 rw[List.range_succ,List.filter_append,List.length_append]
 congr 1
 by_cases c:softI kd i=true∧rf.getD i 0≠0
 ·rw[if_pos c,List.filter_cons_of_pos (by rw[c.1,bne_int_true c.2];rfl)];rfl
 ·rw[if_neg c,List.filter_cons_of_neg]
  ·rfl
  ·intro e
   simp only[Bool.and_eq_true,bne_iff_ne]at e
   exact c e
theorem clrO_spec {s:HL} (h:s.Inv) {k:Nat} (hk:s.st.getD k 0=1) (kd:Int): ∀i,i≤(s.obAt k).rf.length→ ∃s',(clrO (some s) ((2*k:Nat):Int) kd i).1=some s'∧s'.Inv∧SamW s s'∧
  (∀j,s.st.getD j 0=1→s'.obAt j=if j=k then {s.obAt k with rf:=clrRf kd i (s.obAt k).rf}else s.obAt j)∧(clrO (some s) ((2*k:Nat):Int) kd i).2=softN kd (s.obAt k).rf i
 |0,_=>⟨s,rfl,h,SamW.refl s,fun j _=>by
   by_cases c:j=k
   ·subst c;rw[if_pos rfl,clrRf_zero]
   ·rw[if_neg c],rfl⟩
 |i+1,hi=>by
  obtain⟨s1,e1,i1,w1,o1,n1⟩:=clrO_spec h hk kd i (by omega)
  have hk1:s1.st.getD k 0=1:=by rw[w1.st];exact hk
  have ok:=o1 k hk
  rw[if_pos rfl]at ok
  have hl1:(s1.obAt k).rf.length=(s.obAt k).rf.length:=by rw[ok];exact clrRf_len _ _ _
  have hr:refO (some s1) ((2*k:Nat):Int) (i:Int)=((s.obAt k).rf.getD i 0,0):=by
   rw[at_ref i1.ok hk1 (by omega),ok]
   simp only
   rw[clrRf_get (by omega),if_neg (by omega)]
  have est:clrO (some s) ((2*k:Nat):Int) kd (i+1)=if(refO (clrO (some s) ((2*k:Nat):Int) kd i).1 ((2*k:Nat):Int) (i:Int)).1≠0∧softI kd i=true then(setRefM (clrO (some s) ((2*k:Nat):Int) kd i).1 ((2*k:Nat):Int) (i:Int) 0,(clrO (some s) ((2*k:Nat):Int) kd i).2+1)else clrO (some s) ((2*k:Nat):Int) kd i:=rfl
  rw[e1,hr]at est
  simp only at est
  rw[softN_succ]
  by_cases c:(s.obAt k).rf.getD i 0≠0∧softI kd i=true
  ·rw[if_pos c]at est
   rw[est,if_pos ⟨c.2,c.1⟩]
   obtain⟨s2,e2, -⟩:=abs_setRef i1.ok ((2*k:Nat):Int) (i:Int) 0
   have ok2:=setRef_Ok i1.ok e2
   refine⟨s2,e2,i1.setRef e2 ok2,w1.trans (setRef_sam e2),fun j hj=>?_,by simp only;rw[n1]⟩
   rw[obAt_setRef i1.ok ok2 hk1 (by omega) (.inl rfl) e2 j (by rw[w1.st];exact hj)]
   by_cases cj:j=k
   ·rw[if_pos cj,if_pos cj,ok]
    have e3:(clrRf kd i (s.obAt k).rf).set i 0=clrRf kd (i+1) (s.obAt k).rf:=by
     refine List.ext_getD' 0 (by rw[List.length_set,clrRf_len,clrRf_len]) fun t ht=>?_
     rw[List.length_set,clrRf_len]at ht
     rw[clrRf_get ht]
     by_cases ct:i=t
     ·subst ct
      rw[getD_set_eq (by rw[clrRf_len];omega),if_pos ⟨by omega,c.2⟩]
     ·rw[getD_set_ne' ct,clrRf_get ht]
      by_cases c3:t<i∧softI kd t=true
      ·rw[if_pos c3,if_pos ⟨by omega,c3.2⟩]
      ·rw[if_neg c3,if_neg (fun e=>c3 ⟨by omega,e.2⟩)]
    rw[←e3]
   ·rw[if_neg cj,if_neg cj,o1 j hj,if_neg cj]
  ·rw[if_neg c]at est
   rw[est,if_neg (fun e=>c ⟨e.2,e.1⟩)]
   refine⟨s1,e1,i1,w1,fun j hj=>?_,by rw[n1];rfl⟩
   rw[o1 j hj]
   by_cases cj:j=k
   ·rw[if_pos cj,if_pos cj]
    have e3:clrRf kd i (s.obAt k).rf=clrRf kd (i+1) (s.obAt k).rf:=by
     refine List.ext_getD' 0 (by rw[clrRf_len,clrRf_len]) fun t ht=>?_
     rw[clrRf_len]at ht
     rw[clrRf_get ht,clrRf_get ht]
     by_cases c3:t<i∧softI kd t=true
     ·rw[if_pos c3,if_pos ⟨by omega,c3.2⟩]
     ·rw[if_neg c3]
      by_cases c4:t<i+1∧softI kd t=true
      ·rw[if_pos c4]
       have:t=i:=by
        rcases Nat.lt_or_ge t i with h'|h'
        ·exact absurd ⟨h',c4.2⟩ c3
        ·omega
       subst this
       exact Decidable.byContradiction fun e=>c ⟨e,c4.2⟩
      ·rw[if_neg c4]
    rw[←e3]
   ·rw[if_neg cj,if_neg cj]
def stays (keep:Int→Bool) (o:Ob):Prop:=(o.sh.2.2≠1∧o.sh.2.2≠2)∨(o.rf.getD 0 0≠0∧keep (o.rf.getD 0 0)=true)
instance (keep:Int→Bool) (o:Ob):Decidable (stays keep o):=by unfold stays;infer_instance
def clrOb (keep:Int→Bool) (o:Ob):Ob:=if stays keep o then o else {o with rf:=clrRf o.sh.2.2 o.rf.length o.rf}
def clrN (keep:Int→Bool) (o:Ob):Nat:=if stays keep o then 0 else softN o.sh.2.2 o.rf o.rf.length
theorem clearO_spec {s:HL} (h:s.Inv) {k:Nat} (hk:s.st.getD k 0=1) (keep:Int→Bool): ∃s',(clearO (some s) ((2*k:Nat):Int) keep).1=some s'∧s'.Inv∧SamW s s'∧
  (∀j,s.st.getD j 0=1→s'.obAt j=if j=k then clrOb keep (s.obAt k)else s.obAt j)∧(clearO (some s) ((2*k:Nat):Int) keep).2=clrN keep (s.obAt k):=by
 obtain⟨l1,l2,l3⟩:=obAt_len h.ok hk
 have stay:stays keep (s.obAt k)→clearO (some s) ((2*k:Nat):Int) keep=(some s,0)→ ∃s',(clearO (some s) ((2*k:Nat):Int) keep).1=some s'∧s'.Inv∧SamW s s'∧(∀j,s.st.getD j 0=1→s'.obAt j=if j=k then clrOb keep (s.obAt k)else s.obAt j)∧(clearO (some s) ((2*k:Nat):Int) keep).2=clrN keep (s.obAt k):=fun hs e=>by
  rw[e]
  refine⟨s,rfl,h,SamW.refl s,fun j _=>?_,by unfold clrN;rw[if_pos hs]⟩
  by_cases c:j=k
  ·subst c;rw[if_pos rfl];unfold clrOb;rw[if_pos hs]
  ·rw[if_neg c]
 unfold clearO at stay⊢
 rw[at_shape h.ok hk]at stay⊢
 simp only at stay⊢
 by_cases c1:(s.obAt k).sh.2.2≠1∧(s.obAt k).sh.2.2≠2
 ·exact stay (.inl c1) (by rw[if_pos c1])
 rw[if_neg c1]at stay⊢
 have hr1:0<(s.obAt k).rf.length:=by
  simp only[validS,Bool.and_eq_true,Bool.or_eq_true,decide_eq_true_eq]at l3
  omega
 have e0:=at_ref h.ok hk hr1
 rw[show((0:Nat):Int)=0 from rfl]at e0
 rw[e0]at stay⊢
 simp only at stay⊢
 by_cases c2:(s.obAt k).rf.getD 0 0≠0∧keep ((s.obAt k).rf.getD 0 0)=true
 ·exact stay (.inr c2) (by rw[if_pos c2])
 rw[if_neg c2]at stay⊢
 have hns: ¬stays keep (s.obAt k):=fun e=>e.elim c1 c2
 have en:(s.obAt k).sh.1.toNat=(s.obAt k).rf.length:=by omega
 rw[en]
 obtain⟨s',a1,a2,a3,a4,a5⟩:=clrO_spec h hk (s.obAt k).sh.2.2 (s.obAt k).rf.length (Nat.le_refl _)
 refine⟨s',a1,a2,a3,fun j hj=>?_,by rw[a5];unfold clrN;rw[if_neg hns]⟩
 rw[a4 j hj]
 unfold clrOb
 rw[if_neg hns]
structure Clrd (s s':HL) (C:List Int) (keep:Int→Bool):Prop where
 inv:s'.Inv
 sam:SamW s s'
 ob: ∀i,s.st.getD i 0=1→s'.obAt i=if((2*i:Nat):Int)∈C then clrOb keep (s.obAt i)else s.obAt i
theorem Clrd.none {s:HL} (h:s.Inv) (keep:Int→Bool):Clrd s s [] keep:=⟨h,SamW.refl s,fun i _=>by rw[if_neg (by simp)]⟩
theorem Clrd.step {s s1:HL} {C C':List Int} {keep:Int→Bool} {x:Int} (h:Clrd s s1 C keep) (hx:Liv s x) (hn:x∉C) (hc: ∀y,y∈C'↔y=x∨y∈C): ∃s2 k,x=((2*k:Nat):Int)∧s.st.getD k 0=1∧(clearO (some s1) x keep).1=some s2∧Clrd s s2 C' keep∧(clearO (some s1) x keep).2=clrN keep (s.obAt k):=by
 obtain⟨k,rfl,hk⟩:=hx
 have hk1:s1.st.getD k 0=1:=by rw[h.sam.st];exact hk
 obtain⟨s2,a1,a2,a3,a4,a5⟩:=clearO_spec h.inv hk1 keep
 have ok:s1.obAt k=s.obAt k:=by rw[h.ob k hk,if_neg hn]
 refine⟨s2,k,rfl,hk,a1,⟨a2,h.sam.trans a3,fun i hi=>?_⟩,by rw[a5,ok]⟩
 rw[a4 i (by rw[h.sam.st];exact hi),ok]
 by_cases c:i=k
 ·subst c
  rw[if_pos rfl,if_pos ((hc _).2 (.inl rfl))]
 ·rw[if_neg c,h.ob i hi]
  by_cases c2:((2*i:Nat):Int)∈C
  ·rw[if_pos c2,if_pos ((hc _).2 (.inr c2))]
  ·rw[if_neg c2,if_neg (fun e=>((hc _).1 e).elim (fun e=>c (by omega)) c2)]
end Go.Proofs.YteiildhelefodaaGreat
end
section
namespace Go.Proofs.YteiildhelefodaaGreat
set_option maxRecDepth 8000
theorem kill_spec {s:HL} (h:s.Inv) {k:Nat} (hk:s.st.getD k 0=1): ∃s',killM (some s) ((2*k:Nat):Int)=some s'∧s'.Inv∧s'.B=s.B∧s'.born=s.born∧
  (∀i,s'.st.getD i 0=1↔i≠k∧s.st.getD i 0=1)∧(∀i,i≠k→s.st.getD i 0=1→s'.obAt i=s.obAt i)∧s'.objs=s.objs.filter (fun i=>i !=k):=by
 obtain⟨s',e1,e2,e3,e4,e5⟩:=abs_kill h.ok ((2*k:Nat):Int)
 have hob:=at_objE h.ok hk
 have hne:s'≠s:=by
  intro e
  subst e
  unfold killM at e1
  simp only[hob,if_true]at e1
  have h1:=Option.some.inj e1
  have h2:=congrArg HL.st h1
  simp only[Int.toNat_natCast,Nat.mul_div_cancel_left k (show 0<2 by omega)]at h2
  have hlt:k<s'.st.length:=(h.ok.start hk).1
  rw[←h2,getD_set_eq hlt]at hk
  omega
 obtain⟨i,hi,e6,e7,e8,e9⟩:=e5.resolve_left hne
 have hik:i=k:=by
  unfold killM at e1
  simp only[hob,if_true]at e1
  have h1:=Option.some.inj e1
  have h2:=congrArg HL.st h1
  simp only[Int.toNat_natCast,Nat.mul_div_cancel_left k (show 0<2 by omega)]at h2
  rw[e7]at h2
  have hlt:k<s.st.length:=(h.ok.start hk).1
  have hlt2:i<s.st.length:=(h.ok.start hi).1
  refine Decidable.byContradiction fun c=>?_
  have h3:(s.st.set k 0).getD k 0=(s.st.set i 0).getD k 0:=by rw[h2]
  rw[getD_set_eq hlt,getD_set_ne' c]at h3
  omega
 subst hik
 obtain⟨g1,g2,g3,_⟩:=h.ok.sz hi
 have hin:2*i+(s.size (2*i)).toNat≤s.W.length:=by omega
 have ok':s'.Ok:=by
  have:=h.ok.kill hi (pn:=s.pn.set i 0) (pl:=delM s.pl (s.W.getD (2*i) 0)) (by rw[List.length_set];exact h.ok.pl)
  refine⟨by rw[e3];exact h.ok.b2,by rw[e3];exact h.ok.b64,by rw[e9,e3];exact this.wl,by rw[e7,e3];exact this.sl,by rw[e8,e3];exact this.pl,fun j hj=>?_,fun j l hj hl hjl=>?_⟩
  ·rw[e7]at hj;rw[e9];exact this.fit j hj
  ·rw[e7]at hj hl
   have:=this.dj j l hj hl hjl
   unfold HL.size at this⊢
   rw[e9];exact this
 have hst: ∀j,s'.st.getD j 0=1↔j≠i∧s.st.getD j 0=1:=fun j=>by
  rw[e7]
  by_cases c:j=i
  ·subst c
   rw[getD_set_eq (h.ok.start hi).1]
   simp
  ·rw[getD_set_ne' (Ne.symm c)]
   exact⟨fun e=>⟨c,e⟩,fun e=>e.2⟩
 refine⟨s',e1,h.kill e1 ok',e3,e4,hst,fun j hj1 hj2=>?_,?_⟩
 ·refine obAt_congr h.ok hj2 (fun t t1 t2=>?_) (by rw[e8];exact getD_set_ne' (Ne.symm hj1))
  rw[e9,wipeW_get hin,if_neg]
  rcases Nat.lt_or_ge i j with hij|hij
  ·have:=h.ok.dj i j hi hj2 hij;omega
  ·have:=h.ok.dj j i hj2 hi (by omega);omega
 ·unfold HL.objs
  rw[e7,List.length_set]
  exact objsB_set (by omega)
structure Klld (s s':HL) (D:Nat→Bool):Prop where
 inv:s'.Inv
 B:s'.B=s.B
 born:s'.born=s.born
 st: ∀i,s'.st.getD i 0=1↔D i=false∧s.st.getD i 0=1
 ob: ∀i,D i=false→s.st.getD i 0=1→s'.obAt i=s.obAt i
 objs:s'.objs=s.objs.filter fun i=>!D i
theorem Klld.none {s:HL} (h:s.Inv) {D:Nat→Bool} (hD: ∀i,D i=false):Klld s s D:=
 ⟨h,rfl,rfl,fun i=>by simp[hD],fun _ _ _=>rfl,by
  rw[show(fun i=>!D i)=fun _=>true from funext fun i=>by rw[hD];rfl,List.filter_eq_self.2 fun _ _=>rfl]⟩
theorem Klld.step {s s1:HL} {D D':Nat→Bool} {k:Nat} (h:Klld s s1 D) (hk:s.st.getD k 0=1) (hn:D k=false) (hD: ∀i,D' i=(D i||decide (i=k))): ∃s2,killM (some s1) ((2*k:Nat):Int)=some s2∧Klld s s2 D'∧s1.obAt k=s.obAt k∧s1.st.getD k 0=1:=by
 have hk1:s1.st.getD k 0=1:=(h.st k).2 ⟨hn,hk⟩
 obtain⟨s2,a1,a2,a3,a4,a5,a6,a7⟩:=kill_spec h.inv hk1
 refine⟨s2,a1,⟨a2,a3.trans h.B,a4.trans h.born,fun i=>?_,fun i h1 h2=>?_,?_⟩,h.ob k hn hk,hk1⟩
 ·rw[a5,h.st,hD]
  by_cases c:i=k
  ·simp[c]
  ·simp[c]
 ·rw[hD]at h1
  simp only[Bool.or_eq_false_iff,decide_eq_false_iff_not]at h1
  rw[a6 i h1.2 ((h.st i).2 ⟨h1.1,h2⟩),h.ob i h1.1 h2]
 ·rw[a7,h.objs,List.filter_filter]
  refine List.filter_congr fun i _=>?_
  rw[hD]
  by_cases c:i=k
  ·simp[c]
  ·simp[c]
def wSum (s:HL) (l:List Nat):Int:=(l.map fun i=>wordsS (s.obAt i).sh).sum
theorem wSum_snoc (s:HL) (l:List Nat) (i:Nat):wSum s (l++[i])=wSum s l+wordsS (s.obAt i).sh:=by unfold wSum;simp
theorem wSum_le (s:HL): ∀l:List Nat,0≤wSum s l∧wSum s l≤218*l.length
 | []=>⟨Int.le_refl _,Int.le_refl _⟩
 |i::l=>by
  have h:=wSum_le s l
  have h2:=words_any (s.obAt i).sh
  have e:wSum s (i::l)=wordsS (s.obAt i).sh+wSum s l:=by unfold wSum;simp
  rw[e,List.length_cons]
  omega
def killB (keep:Int→Bool) (l:List Nat) (i:Nat):Bool:=decide (i∈l)&&!keep ((2*i:Nat):Int)
theorem kill_fold {s:HL} (h:s.Inv) (keep:Int→Bool): ∀n,n≤s.objs.length→ ∃s',(adrs (s.objs.take n)).foldl (kst keep) (some s,0,0)=(some s',(((s.objs.take n).filter fun i=>!keep ((2*i:Nat):Int)).length:Int),wSum s ((s.objs.take n).filter fun i=>!keep ((2*i:Nat):Int)))∧Klld s s' (killB keep (s.objs.take n))
 |0,_=>⟨s,rfl,Klld.none h fun i=>by simp[killB]⟩
 |n+1,hn=>by
  obtain⟨s1,e1,k1⟩:=kill_fold h keep n (by omega)
  have hlt:n<s.objs.length:=hn
  obtain⟨k,hk⟩: ∃k,k=s.objs[n]:=⟨_,rfl⟩
  have hks:s.st.getD k 0=1:=mem_objs.1 (by rw[hk];exact List.getElem_mem hlt)
  have et:s.objs.take (n+1)=s.objs.take n++[k]:=by rw[List.take_succ_eq_append_getElem hlt,hk]
  have hB:s.objs.length≤2048:=by
   have:=objsB_len s.st 0 s.st.length
   have:=h.ok.sl
   have:=h.ok.b64
   unfold HL.objs;omega
  rw[et,adrs_append,List.foldl_append,e1,List.filter_append]
  show∃s',kst keep _ _=_∧_
  have hlen:=List.length_filter_le (fun i=>!keep ((2*i:Nat):Int)) (s.objs.take n)
  rw[List.length_take]at hlen
  have hnk:k∉s.objs.take n:=by
   intro e
   have h1:=objs_nodup s
   rw[←List.take_append_drop (n+1) s.objs,et]at h1
   have h2:=(List.nodup_append.1 (List.nodup_append.1 h1).1).2.2
   exact h2 k e k (by simp) rfl
  unfold kst
  by_cases ck:keep ((2*k:Nat):Int)=true
  ·rw[if_pos ck,List.filter_cons_of_neg (by simp only[ck,Bool.not_true,Bool.false_eq_true,not_false_eq_true]),List.filter_nil,List.append_nil]
   refine⟨s1,rfl,?_⟩
   have:killB keep (s.objs.take n++[k])=killB keep (s.objs.take n):=by
    funext i
    unfold killB
    by_cases c:i=k
    ·subst c;simp only[ck,Bool.not_true,Bool.and_false]
    ·simp[c]
   rw[this];exact k1
  ·have ck':keep ((2*k:Nat):Int)=false:=by simpa using ck
   obtain⟨s2,a1,a2,a3,a4⟩:=k1.step (D':=killB keep (s.objs.take n++[k])) hks (by simp[killB,hnk]) fun i=>by
    unfold killB
    by_cases c:i=k
    ·subst c;simp only[ck',Bool.not_false,Bool.and_true,List.mem_append,List.mem_singleton,or_true,decide_true,hnk,decide_false,Bool.or_true]
    ·simp[c]
   rw[if_neg ck,List.filter_cons_of_pos (by simp only[ck',Bool.not_false]),List.filter_nil]
   refine⟨s2,?_,a2⟩
   simp only
   rw[a1,at_shape k1.inv.ok a4,a3,wSum_snoc,List.length_append,List.length_singleton]
   have hw:=wSum_le s ((s.objs.take n).filter fun i=>!keep ((2*i:Nat):Int))
   have hw2:=words_any (s.obAt k).sh
   simp only
   rw[IntWalk.i64_in _ (by omega),IntWalk.i64_in _ (by omega)]
   rfl
theorem kill_all {s:HL} (h:s.Inv) (keep:Int→Bool): ∃s',(allH (some s)).foldl (kst keep) (some s,0,0)=(some s',((s.objs.filter fun i=>!keep ((2*i:Nat):Int)).length:Int),wSum s (s.objs.filter fun i=>!keep ((2*i:Nat):Int)))∧Klld s s' fun i=>!keep ((2*i:Nat):Int):=by
 obtain⟨s',e1,k1⟩:=kill_fold h keep s.objs.length (Nat.le_refl _)
 rw[List.take_length]at e1 k1
 refine⟨s',e1,k1.inv,k1.B,k1.born,fun i=>?_,fun i h1 h2=>k1.ob i (by unfold killB;rw[h1];simp) h2,?_⟩
 ·rw[k1.st]
  unfold killB
  constructor
  ·rintro⟨h1,h2⟩
   refine⟨?_,h2⟩
   simpa[mem_objs.2 h2]using h1
  ·rintro⟨h1,h2⟩
   exact⟨by rw[h1];simp,h2⟩
 ·rw[k1.objs]
  refine List.filter_congr fun i hi=>?_
  unfold killB
  simp[hi]
theorem used_fold {s:HL} (h:s.Inv):(allH (some s)).foldl (usd s) 0=wSum s s.objs:=by
 have key: ∀n,n≤s.objs.length→(adrs (s.objs.take n)).foldl (usd s) 0=wSum s (s.objs.take n):=by
  intro n
  induction n with
  |zero=>intro _;rfl
  |succ n ih=>
   intro hn
   have hlt:n<s.objs.length:=hn
   obtain⟨k,hk⟩: ∃k,k=s.objs[n]:=⟨_,rfl⟩
   have hks:s.st.getD k 0=1:=mem_objs.1 (by rw[hk];exact List.getElem_mem hlt)
   have hB:s.objs.length≤2048:=by
    have:=objsB_len s.st 0 s.st.length
    have:=h.ok.sl
    have:=h.ok.b64
    unfold HL.objs;omega
   rw[List.take_succ_eq_append_getElem hlt,←hk,adrs_append,List.foldl_append,ih (by omega),wSum_snoc]
   show usd s _ ((2*k:Nat):Int)=_
   unfold usd
   rw[Int.toNat_natCast]
   obtain⟨r,d,kk,hv,hs,hz,e1,e2,e3⟩:=obAt_rf h.ok hks
   rw[hz,e1]
   have hw:=wSum_le s (s.objs.take n)
   have hw2:=words_any ((r:Int),(d:Int),(kk:Int))
   rw[List.length_take]at hw
   rw[IntWalk.i64_in _ (by omega)]
 have:=key s.objs.length (Nat.le_refl _)
 rwa[List.take_length]at this
end Go.Proofs.YteiildhelefodaaGreat
end
section
namespace Go.Proofs.YteiildhelefodaaGreat
set_option maxRecDepth 8000
def objsK (s:HL) (k:Nat):List Nat:=objsB s.st (32*k) (32*(k+1))
theorem hObjects {w:World} {b:Nat} {s:HL} {gB gW cB cW:Nat} {yB yW:List Value} {sb sg pb pg bl bf:Nat} (h:HMs w b s gB gW cB cW yB yW sb sg pb pg bl bf) (k:Nat) (hk:k<s.B.length):
  Cs Tryz.prog 183 [.pointer (some ⟨b,0,none⟩),.int .i64 (k:Int)] w fun v w'=>Only [] w w'∧ ∃fq,Sl w' 1 v (objsK s k).length (ints (adrs (objsK s k))) fq∧ ∀y,y∈fq→w.heap.size≤y:=by
 have hB:=h.ok.b64
 have e1:IntKind.i64.wrap ((k:Int)*64)=((2*(32*k):Nat):Int):=by rw[IntWalk.i64_in _ (by omega)];omega
 have e2:IntKind.i64.wrap (((k+1:Nat):Int)*64)=((2*(32*(k+1)):Nat):Int):=by rw[IntWalk.i64_in _ (by omega)];omega
 refine enter_heap_Heap_Objects rfl ?_
 unfold x_heap_Heap_Objects
 refine gO ?_
 refine callT0 (hMadeS h) ?_
 refine gO6 (decide_eq_false (show¬(k:Int)<0 by omega)) h.hb.cell (decide_eq_false (show¬(s.B.length:Int)≤(k:Int) by omega)) (i64_succ k (by omega)) e1 e2 ?_
 refine callT (hBetween h (32*k) (32*(k+1)) (by omega) (by omega)) ?_
 rintro v w' ⟨ho,fq,hs,hf⟩
 refine gO ?_
 exact⟨ho,fq,hs,hf⟩
def relE (s:HL) (k:Nat):Int:=if heldE s k≠0 then heldE s k else if(objsK s k).length≠0 then 8 else 0
def relM (s:HL) (k:Nat):HL:=if relE s k=0 then {s with B:=fillB s.B k (0,0) (s.span k)}else s
theorem relM_len (s:HL) (k:Nat):(relM s k).B.length=s.B.length:=by
 unfold relM
 split
 ·exact fillB_len _ _ _ _
 ·rfl
set_option maxHeartbeats 1000000 in
theorem hRelease {w:World} {hp:Addr} {fp:List Nat} {s:HL} (h0:HR w (some hp) fp (some s)) (k:Nat) (hk:k<s.B.length):
  Cs Tryz.prog 146 [.pointer (some hp),.int .i64 (k:Int)] w fun v w'=>v=.int .i64 (relE s k)∧HR w' (some hp) fp (some (relM s k))∧Only fp w w':=by
 obtain⟨b,eb,gB,gW,cB,cW,yB,yW,sb,sg,pb,pg,bl,bf,h2,h⟩:=id h0
 cases eb
 have hB:=h.ok.b64
 refine enter_heap_Heap_Release rfl ?_
 unfold x_heap_Heap_Release
 refine gO ?_
 refine callT0 (hHeld h k hk) ?_
 by_cases c1:heldE s k=0
 rotate_left
 ·refine gO1 (bne_int_true c1) ?_
  have e:relE s k=heldE s k:=by unfold relE;rw[if_pos c1]
  refine⟨by rw[e],?_,Only.refl _ _⟩
  unfold relM
  rw[e,if_neg c1];exact h0
 refine gO1 (bne_int_false c1) ?_
 refine callT (hObjects h k hk) ?_
 rintro v w1 ⟨ho1,fq,hs1,g1⟩
 obtain⟨a1,cc1,rfl⟩:=hs1.val
 by_cases c2:(objsK s k).length=0
 rotate_left
 ·refine gO1 (decide_eq_true (show(0:Int)<((objsK s k).length:Int) by omega)) ?_
  have e:relE s k=8:=by unfold relE;rw[if_neg (by simp[c1]),if_pos c2]
  refine⟨by rw[e],?_,ho1.of_nil⟩
  unfold relM
  rw[e,if_neg (by omega)];exact h0.keep0 ho1
 have h1:=h.keep0 ho1
 refine gO1 (decide_eq_false (show¬(0:Int)<((objsK s k).length:Int) by omega)) ?_
 refine callT0 (hSpan h1 k hk) ?_
 have hE:relE s k=0:=by unfold relE;rw[if_neg (by simp[c1]),if_neg (by simp[c2])]
 have hM:relM s k= {s with B:=fillB s.B k (0,0) (s.span k)}:=by unfold relM;rw[if_pos hE]
 rw[hE,hM]
 obtain⟨N,hN⟩: ∃N,N=s.span k:=⟨_,rfl⟩
 have hsl:=span_le (s:=s) hk
 rw[←hN]at hsl⊢
 refine gO ?_
 refine run_loop (6::21::22::23::24::25::26::27::28::29::30::31::32::33::34::35::36::37::38::39::40::[]) (fun g w'=> ∃n:Nat,∃B':List (Int×Int),g 6=.int .i64 (n:Int)∧n≤N∧B'.length=s.B.length∧(∀i,B'.getD i (0,0)=if k+n≤i∧i<k+N then(0,0)else s.B.getD i (0,0))∧HMs w' b {s with B:=B'} gB gW cB cW yB yW sb sg pb pg bl bf∧Only [gB] w1 w') (fun g _=>downTo 6 g)
  ⟨N,s.B,by simp only[go_sem],Nat.le_refl _,rfl,fun i=>by rw[if_neg (by omega)],h1,Only.refl _ _⟩ fun g w2 hI hnext=>?_
 obtain⟨n,B',h6,hn,hl,hget,h3,ho3⟩:=hI
 have inGB:gB∈fp:=by rw[h2];simp
 by_cases c3:0<n
 rotate_left
 ·have n0:n=0:=by omega
  subst n0
  refine gO2 h6 (decide_eq_false (show¬(0:Int)<((0:Nat):Int) by omega)) ?_
  have:B'=fillB s.B k (0,0) N:=by
   refine List.ext_getD' (0,0) (by rw[hl,fillB_len]) fun i _=>?_
   rw[hget,fillB_get _ _ _ _ hsl.1]
   rfl
  rw[←this]
  exact⟨⟨b,rfl,gB,gW,cB,cW,yB,yW,sb,sg,pb,pg,bl,bf,h2,h3⟩,(ho1.of_nil).trans ho3 fun z hz=>by simp only[List.mem_singleton]at hz;subst hz;exact .inl inGB⟩
 have e4:IntKind.i64.wrap (IntKind.i64.wrap ((k:Int)+(n:Int))-1)=((k+n-1:Nat):Int):=by
  rw[IntWalk.i64_in ((k:Int)+(n:Int)) (by omega),IntWalk.i64_in _ (by omega)];omega
 have e5:(0:Int)≤((k+n-1:Nat):Int)∧((k+n-1:Nat):Int)<(B'.length:Int):=⟨by omega,by omega⟩
 have e6:IntKind.i64.wrap ((n:Int)-1)=((n-1:Nat):Int):=by rw[IntWalk.i64_in _ (by omega)];omega
 refine gJ5 h6 (decide_eq_true (show(0:Int)<(n:Int) by omega)) h3.hb.cell e4 (eq_true e5) ?_
 refine stNT (cs:=bV (0,0)) (n:=2) (i:=(k+n-1)*2) h3.hB rfl (by simp only[List.length_append,blkV_len];omega) (bV_one _) fun w5 hs5 hat5 ho5=>?_
 have hkn:k+n-1<B'.length:=by omega
 rw[blkV_set yB hkn]at hat5
 refine gO2 h6 e6 ?_
 refine hnext _ w5 ?_ ⟨n-1,B'.set (k+n-1) (0,0),?_,by omega,by rw[List.length_set];exact hl,fun i=>?_,?_,ho3.same ho5⟩ ?_
 ·(repeat(first|with_reducible exact k_1|with_reducible exact Keeps.ovr _ _ _|refine Keeps.put ?_ rfl _|exact k_1|exact Keeps.ovr _ _ _|refine Keeps.ovr2 ?_ rfl _))
 ·simp only[go_sem]
 ·by_cases c:k+n-1=i
  ·subst c
   rw[getD_set_eq (by omega),if_pos ⟨by omega,by omega⟩]
  ·rw[getD_set_ne' c,hget]
   by_cases c4:k+n≤i∧i<k+N
   ·rw[if_pos c4,if_pos ⟨by omega,c4.2⟩]
   ·rw[if_neg c4,if_neg (fun e=>c4 ⟨by omega,e.2⟩)]
 ·have:=h3.setB (B':=B'.set (k+n-1) (0,0)) (by simp) hat5 ho5
  exact this
 ·rw[downTo_int h6,downTo_int (k:=.i64) (i:=((n-1:Nat):Int)) (by simp only[go_sem])];omega
def relAll (s:HL) (n:Nat):HL:=(List.range n).foldl relM s
theorem relAll_succ (s:HL) (n:Nat):relAll s (n+1)=relM (relAll s n) n:=by unfold relAll;rw[List.range_succ,List.foldl_append];rfl
theorem relAll_len (s:HL): ∀n,(relAll s n).B.length=s.B.length
 |0=>rfl
 |n+1=>by rw[relAll_succ,relM_len,relAll_len s n]
theorem cRelease {w:World} {hp:Addr} {fp:List Nat} {s:HL} (h:HR w (some hp) fp (some s)) (hB:s.B.length≤64):
  Cs Tryz.prog 62 [.pointer (some hp)] w fun _ w'=>HR w' (some hp) fp (some (relAll s s.B.length))∧Only fp w w':=by
 refine enter_sound_Release rfl ?_
 unfold x_sound_Release
 refine gO ?_
 refine callT0 (hBlocks h) ?_
 have eb:((blocksO (some s):Nat):Int)=(s.B.length:Int):=rfl
 refine gO1 eb ?_
 refine run_loop (2::5::6::7::8::9::10::11::[]) (fun g w'=> ∃i:Nat,g 5=.int .i64 (i:Int)∧i≤s.B.length∧HR w' (some hp) fp (some (relAll s i))∧Only fp w w') (fun g _=>upTo s.B.length 5 g)
  ⟨0,by simp only[go_sem];rfl,by omega,h,Only.refl _ _⟩ fun g w2 hI hnext=>?_
 obtain⟨i,h5,hi,hr,ho⟩:=hI
 by_cases c:i<s.B.length
 rotate_left
 ·refine gO2 h5 (decide_eq_false (show¬(i:Int)<(s.B.length:Int) by omega)) ?_
  rw[show s.B.length=i by omega]
  exact⟨hr,ho⟩
 refine gO2 h5 (decide_eq_true (show(i:Int)<(s.B.length:Int) by omega)) ?_
 refine callT (hRelease hr i (by rw[relAll_len];exact c)) ?_
 rintro _ w3 ⟨rfl,hr3,ho3⟩
 refine gO2 h5 (i64_succ i (by omega)) ?_
 refine hnext _ w3 ?_ ⟨i+1,?_,by omega,by rw[relAll_succ];exact hr3,ho.same ho3⟩ ?_
 ·(repeat(first|with_reducible exact k_1|with_reducible exact Keeps.ovr _ _ _|refine Keeps.put ?_ rfl _|exact k_1|exact Keeps.ovr _ _ _|refine Keeps.ovr2 ?_ rfl _))
 ·simp only[go_sem]
 ·rw[upTo_int (i:=i) h5,upTo_int (k:=.i64) (i:=i+1) (by simp only[go_sem])];omega
end Go.Proofs.YteiildhelefodaaGreat
end
section
namespace Go.Proofs.YteiildhelefodaaGreat
set_option maxRecDepth 8000
def tup3 (o:Option Value) (u v:Value):Option Value:=match o with|some x=>some (.tuple #[x,u,v])|none=>none
theorem tup3_some (x u v:Value):tup3 (some x) u v=some (.tuple #[x,u,v]):=Eq.trans rfl rfl
theorem RetV_cNtt (a n t u:Nat) (ρ:Env) (w:World) (R:Value→World→Prop):RetV [.cN a n,.t t,.t u] ρ w R=RetC (tup3 (cellsO w n (ρ a)) (ρ t) (ρ u)) w R:=by
 unfold RetV RetC
 simp only[retO,resL,resX]
 cases cellsO w n (ρ a)<;>rfl
attribute [go_sem] tup3_some RetV_cNtt
section
variable {P:Program} {fl:Bool} {rest:XT} {L:List Nat} {w0 w:World} {d:Option Nat} {ρ:Env} {C:Env→World→Prop} {t kt et:TypeId} {b:Nat} {m:IM}
theorem mlenS (ht:P.underlying t=some (.map kt et)) (h:MpAt w b m) (hs:fl=true∨SB L w0 w) (h2:VT P L w0 rest (putO ρ d (.int .i64 m.length)) w C):RunS P fl L w0 (Builtin.len_ #[t] 0 #[.map (some b)]) d rest ρ w C:=runS (run_mlen ht h) hs h2
end
def inB (K:List Int) (x:Int):Bool:=decide (x∈K)
def savL (K S:List Int):List Int:=S.filter fun x=>!decide (x∈K)
def heldB (K S:List Int) (x:Int):Bool:=decide (x∈K)||decide (x∈savL K S)
def idA (s:HL) (a:Int):Int:=(identO (some s) a).1
def HL.obX (s:HL) (x:Int):Ob:=s.obAt (x.toNat/2)
def clrC (s:HL) (keep:Int→Bool) (C:List Int):Nat:=(C.filter fun x=>decide (0<clrN keep (s.obX x))).length
structure ColX (s:HL) (R:Rt.MS) (L:List Int) (s4:HL) (R':Rt.MS) (L' ids rep K S o:List Int) (s1 s2 s3:HL) (n:Nat):Prop where
 kpt:Kpt s (Rt.leadsO (some R)) K
 kpt2:Kpt s (Rt.leadsO (some R)++deadL s L K) S
 ord:Ordr s (deadL s L K) o
 nn:n=min o.length (64-R.Q.length)
 c1:Clrd s s1 K (inB K)
 c2:Clrd s1 s2 (savL K S) (heldB K S)
 k3:Klld s2 s3 fun i=>!heldB K S ((2*i:Nat):Int)
 r4:s4=relAll s3 s3.B.length
 RR:R'= {R with Q:=R.Q++o.take n}
 ii:ids=(o.take n).map (idA s)
 LL:L'=(tidyL s L).filter fun x=>!decide (x∈ids)
 rp:rep=[(s4.objs.length:Int),wSum s4 s4.objs,((s2.objs.filter fun i=>!heldB K S ((2*i:Nat):Int)).length:Int),wSum s2 (s2.objs.filter fun i=>!heldB K S ((2*i:Nat):Int)),0,0,((K.length+(savL K S).length:Nat):Int),((clrC s (inB K) K+clrC s1 (heldB K S) (savL K S):Nat):Int)]
theorem cnt_step {x:Int} {f f':Int→Bool} (h1:f x=false) (h2:f' x=true) (h3: ∀y,y≠x→f' y=f y) (p:Int→Bool): ∀ {K:List Int},K.Nodup→x∈K→((K.filter f').filter p).length=((K.filter f).filter p).length+if p x=true then 1 else 0
 | [],_,hx=>absurd hx (by simp)
 |y::K,hn,hx=>by
  have hn1:=List.nodup_cons.1 hn
  by_cases c:y=x
  ·subst c
   have e1:K.filter f'=K.filter f:=List.filter_congr fun z hz=>h3 z fun e=>hn1.1 (e▸hz)
   simp only[List.filter_cons,h1,h2,e1,if_true,Bool.false_eq_true,if_false]
   by_cases cp:p y=true
   ·simp only[cp,if_true,List.length_cons]
   ·simp only[cp,if_false,Nat.add_zero,Bool.false_eq_true]
  ·have ih:=cnt_step h1 h2 h3 p hn1.2 ((List.mem_cons.1 hx).resolve_left (Ne.symm c))
   simp only[List.filter_cons,h3 y c]
   cases f y with
   |false=>simp only[Bool.false_eq_true,if_false];exact ih
   |true=>
    simp only[if_true,List.filter_cons]
    cases p y with
    |false=>simp only[Bool.false_eq_true,if_false];exact ih
    |true=>simp only[if_true,List.length_cons];omega
theorem clrC_step {s:HL} {keep:Int→Bool} {K T:List Int} {x:Int} (hn:K.Nodup) (hx:x∈K) (hT:x∈T):clrC s keep (K.filter fun y=>!decide (y∈T.filter (·!=x)))=clrC s keep (K.filter fun y=>!decide (y∈T))+if 0<clrN keep (s.obX x)then 1 else 0:=by
 unfold clrC
 rw[cnt_step (x:=x) (f:=fun y=>!decide (y∈T)) (by simp[hT]) (by simp) (fun y hy=>by simp[hy]) _ hn hx]
 congr 1
 by_cases c:0<clrN keep (s.obX x)
 ·rw[if_pos c,if_pos (by simpa using c)]
 ·rw[if_neg c,if_neg (by simpa using c)]
theorem clrC_le (s:HL) (keep:Int→Bool) (C:List Int):clrC s keep C≤C.length:=List.length_filter_le _ _
theorem obX_at (s:HL) (k:Nat):s.obX ((2*k:Nat):Int)=s.obAt k:=by unfold HL.obX;rw[Int.toNat_natCast,Nat.mul_div_cancel_left k (by omega)]
theorem mem_left {K T:List Int} {x y:Int} (hx:x∈K) (hT:x∈T):y∈(K.filter fun y=>!decide (y∈T.filter (·!=x)))↔y=x∨y∈K.filter fun y=>!decide (y∈T):=by
 by_cases c:y=x
 ·subst c;simp[hx]
 ·simp[c]
theorem left_all (K:List Int):(K.filter fun y=>!decide (y∈K))=[]:=by
 rw[List.filter_eq_nil_iff]
 intro y hy
 simp[hy]
theorem left_none (K:List Int):(K.filter fun y=>!decide (y∈([]:List Int)))=K:=by
 rw[List.filter_eq_self]
 intro y _
 simp
structure Kp (w:World) (q vb mk ms:Nat) (hp:Addr) (vd:Value) (K sv:List Int):Prop where
 q:At w q [.pointer (some ⟨vb,0,none⟩)]
 v:At w vb [.pointer (some hp),.map (some mk),.map (some ms),vd]
 k:MB w mk K
 s:MB w ms sv
theorem Kp.keep {w w':World} {q vb mk ms:Nat} {hp:Addr} {vd:Value} {K sv:List Int} {S:List Nat} (h:Kp w q vb mk ms hp vd K sv) (o:Only S w w') (hd: ∀y,y∈[q,vb,mk,ms]→y∉S):Kp w' q vb mk ms hp vd K sv:=
 ⟨h.q.keep o (hd _ (by simp)),h.v.keep o (hd _ (by simp)),h.k.keep o (hd _ (by simp)),h.s.keep o (hd _ (by simp))⟩
theorem Kp.keep0 {w w':World} {q vb mk ms:Nat} {hp:Addr} {vd:Value} {K sv:List Int} (h:Kp w q vb mk ms hp vd K sv) (o:Only [] w w'):Kp w' q vb mk ms hp vd K sv:=h.keep o fun _ _=>by simp
theorem Kp.lt {w:World} {q vb mk ms:Nat} {hp:Addr} {vd:Value} {K sv:List Int} (h:Kp w q vb mk ms hp vd K sv): ∀y,y∈[q,vb,mk,ms]→y<w.heap.size:=fun y hy=>by
 simp only[List.mem_cons,List.not_mem_nil,or_false]at hy
 rcases hy with rfl|rfl|rfl|rfl
 ·exact h.q.lt
 ·exact h.v.lt
 ·exact MpAt.lt h.k
 ·exact MpAt.lt h.s
theorem ident_clrd {s s1:HL} {C:List Int} {keep:Int→Bool} (hi:s.Inv) (h:Clrd s s1 C keep) {a:Int} (ha:Liv s a):identO (some s1) a=(idA s a,0):=by
 obtain⟨k,rfl,hk⟩:=ha
 have hk1:s1.st.getD k 0=1:=by rw[h.sam.st];exact hk
 unfold idA
 rw[at_ident h.inv.ok hk1,at_ident hi.ok hk,h.ob k hk]
 split
 ·unfold clrOb;split<;>rfl
 ·rfl
theorem ordr_mem {s:HL} {D o:List Int} (h:Ordr s D o):o.Perm D:=by
 induction h with
 |nil=>exact List.Perm.nil
 |@cons l o i hi _ _ _ ih=>
  refine(ih.cons (l.getD i 0)).trans ?_
  have e:l.getD i 0=l[i]:=by simp[hi]
  rw[e]
  rw[List.eraseIdx_eq_take_drop_succ]
  have e2:l=l.take i++l[i]::l.drop (i+1):=by rw[List.getElem_cons_drop,List.take_append_drop]
  exact(List.perm_middle.symm).trans (List.Perm.of_eq e2.symm)
theorem relM_inv {s:HL} (h:s.Inv) {k:Nat} (hk:k<s.B.length):(relM s k).Inv:=by
 unfold relM
 by_cases c:relE s k=0
 rotate_left
 ·rw[if_neg c];exact h
 rw[if_pos c]
 have hk0:k≠0:=fun e=>by
  subst e
  unfold relE heldE at c
  simp at c
 have hsp:=span_le (s:=s) hk
 refine h.setB (fillB_len _ _ _ _) (fun i _ hi=>?_) ?_
 ·rw[fillB_get _ _ _ _ hsp.1]at hi⊢
  split
  ·rfl
  ·rename_i hne
   rw[if_neg hne]at hi
   by_cases hl:i<s.B.length
   ·exact h.bf i hl hi
   ·rw[List.getD_eq_getElem?_getD,List.getElem?_eq_none (by omega)];rfl
 ·rw[fillB_get _ _ _ _ hsp.1,if_neg (by omega)]
theorem relM_sam (s:HL) (k:Nat): ∃B,relM s k= {s with B:=B}:=by
 unfold relM
 split
 ·exact⟨_,rfl⟩
 ·exact⟨s.B,rfl⟩
theorem relAll_spec {s:HL} (h:s.Inv): ∀n,n≤s.B.length→(∃B,relAll s n= {s with B:=B})∧(relAll s n).Inv
 |0,_=>⟨⟨s.B,rfl⟩,h⟩
 |n+1,hn=>by
  obtain⟨⟨B,e⟩,i⟩:=relAll_spec h n (by omega)
  rw[relAll_succ]
  refine⟨?_,relM_inv i (by rw[relAll_len];omega)⟩
  obtain⟨B',e'⟩:=relM_sam (relAll s n) n
  exact⟨B',by rw[e',e]⟩
theorem Clrd.live {s s1:HL} {C:List Int} {keep:Int→Bool} (h:Clrd s s1 C keep) {x:Int} (hx:Liv s x):Liv s1 x:=by
 obtain⟨k,e,hk⟩:=hx
 exact⟨k,e,by rw[h.sam.st];exact hk⟩
end Go.Proofs.YteiildhelefodaaGreat
end
section
namespace Go.Proofs.YteiildhelefodaaGreat
set_option maxRecDepth 8000
theorem strongO_at {s:HL} (h:s.Ok) {i:Nat} (hi:s.st.getD i 0=1):strongO (some s) ((2*i:Nat):Int)=strongR (s.obAt i).sh.2.2 0 (s.obAt i).rf:=by
 unfold strongO
 rw[at_shape h hi,refsO_at h hi]
theorem mem_strongO {s:HL} (h:s.Ok) {i:Nat} (hi:s.st.getD i 0=1) {y:Int}:y∈strongO (some s) ((2*i:Nat):Int)↔ ∃j,j<(s.obAt i).rf.length∧y=(s.obAt i).rf.getD j 0∧y≠0∧softI (s.obAt i).sh.2.2 j=false:=by
 rw[strongO_at h hi,mem_strongR]
 constructor
 ·rintro⟨j,h1,h2,h3,h4⟩;exact⟨j,h1,h2,h3,by rwa[Nat.zero_add]at h4⟩
 ·rintro⟨j,h1,h2,h3,h4⟩;exact⟨j,h1,h2,h3,by rwa[Nat.zero_add]⟩
theorem kindO_at {s:HL} (h:s.Ok) {i:Nat} (hi:s.st.getD i 0=1):kindO s ((2*i:Nat):Int)=(s.obAt i).sh.2.2:=by
 unfold kindO;rw[at_shape h hi]
theorem ephK_at {s:HL} (h:s.Ok) {i:Nat} (hi:s.st.getD i 0=1) (hl:0<(s.obAt i).rf.length):ephK s ((2*i:Nat):Int)=(s.obAt i).rf.getD 0 0:=by
 have:=at_ref h hi hl
 unfold ephK
 rw[show((0:Nat):Int)=0 from rfl]at this
 rw[this]
theorem ephV_at {s:HL} (h:s.Ok) {i:Nat} (hi:s.st.getD i 0=1) (hl:1<(s.obAt i).rf.length):ephV s ((2*i:Nat):Int)=(s.obAt i).rf.getD 1 0:=by
 have:=at_ref h hi hl
 unfold ephV
 rw[show((1:Nat):Int)=1 from rfl]at this
 rw[this]
theorem softI_cases {kd:Int} {j:Nat} (h:softI kd j=true):(j=0∧(kd=1∨kd=2))∨(j=1∧kd=2):=by
 unfold softI at h
 simp only[Bool.or_eq_true,Bool.and_eq_true,beq_iff_eq]at h
 omega
theorem live_at {s:HL} {k:Nat} (h:Liv s ((2*k:Nat):Int)):s.st.getD k 0=1:=by
 obtain⟨i,e,hi⟩:=h
 have:k=i:=by omega
 rw[this];exact hi
theorem clr_closed {s:HL} {R:Rt.MS} {F K:List Int} {keep:Int→Bool} (hi:s.Inv) (hsn:Snd true s R) (hk:Kpt s F K) (he: ∀x,keep x=true↔x∈K) {i:Nat} (hx:((2*i:Nat):Int)∈K) {r:Int} (hr:r∈(clrOb keep (s.obAt i)).rf):r=0∨r∈K:=by
 have hli:=live_at (hk.liv _ hx)
 obtain⟨l1,l2,l3⟩:=obAt_len hi.ok hli
 have strong: ∀j,j<(s.obAt i).rf.length→softI (s.obAt i).sh.2.2 j=false→(s.obAt i).rf.getD j 0=0∨(s.obAt i).rf.getD j 0∈K:=fun j hj hs=>by
  rcases hsn.ref hli hj with h0|⟨_,hl⟩
  ·exact .inl h0
  ·by_cases c:(s.obAt i).rf.getD j 0=0
   ·exact .inl c
   ·exact .inr (hk.cls.g _ _ (hk.liv _ hx) hx ((mem_strongO hi.ok hli).2 ⟨j,hj,rfl,c,hs⟩) hl)
 unfold clrOb at hr
 by_cases cs:stays keep (s.obAt i)
 ·rw[if_pos cs]at hr
  obtain⟨j,hj,rfl⟩:=List.mem_iff_getElem.1 hr
  have ej:(s.obAt i).rf[j]=(s.obAt i).rf.getD j 0:=by simp[hj]
  rw[ej]
  cases e:softI (s.obAt i).sh.2.2 j with
  |false=>exact strong j hj e
  |true=>
   have e2:=softI_cases e
   have hrf0:(s.obAt i).rf.getD 0 0≠0∧keep ((s.obAt i).rf.getD 0 0)=true:=cs.resolve_left (by omega)
   rcases e2 with⟨rfl,_⟩|⟨rfl,k2⟩
   ·exact .inr ((he _).1 hrf0.2)
   ·rcases hsn.ref hli hj with h0|⟨_,hl⟩
    ·exact .inl h0
    ·refine .inr ?_
     have h1:=hk.cls.e _ (hk.liv _ hx) hx (by rw[kindO_at hi.ok hli];exact k2) (by rw[ephK_at hi.ok hli (by omega)];exact(he _).1 hrf0.2) (by rw[ephV_at hi.ok hli hj];exact hl)
     rwa[ephV_at hi.ok hli hj]at h1
 ·rw[if_neg cs]at hr
  obtain⟨j,hj,rfl⟩:=List.mem_iff_getElem.1 hr
  simp only at hj⊢
  rw[clrRf_len]at hj
  have ej:(clrRf (s.obAt i).sh.2.2 (s.obAt i).rf.length (s.obAt i).rf)[j]'(by rw[clrRf_len];exact hj)=(clrRf (s.obAt i).sh.2.2 (s.obAt i).rf.length (s.obAt i).rf).getD j 0:=by simp[clrRf_len,hj]
  rw[ej,clrRf_get hj]
  by_cases c:softI (s.obAt i).sh.2.2 j=true
  ·rw[if_pos ⟨hj,c⟩];exact .inl rfl
  ·rw[if_neg (fun e=>c e.2)];exact strong j hj (by simpa using c)
theorem fl_mem {k:Nat} {L:List Int} {x:Int} (hx:x∈L) (h0:x≠0): ∃p,(p,x)∈Rt.fl k L:=by
 obtain⟨i,hi,rfl⟩:=List.mem_iff_getElem.1 hx
 refine⟨Rt.pl k i,?_⟩
 unfold Rt.fl
 refine List.mem_filter.2 ⟨?_,by simpa using h0⟩
 rw[List.mem_iff_getElem]
 exact⟨i,by simp[hi],by simp⟩
theorem leads_of {R:Rt.MS} (h:R.Ok) {x:Int} (hx:x∈R.S∨x∈R.G∨x∈R.Q) (h0:x≠0):x∈Rt.leadsO (some R):=by
 show x∈((Rt.filled R).map (·.2)).foldl Rt.addNew []
 rw[mem_foldAdd]
 refine .inr (List.mem_map.2 ?_)
 rw[Rt.filled_rows h]
 rcases hx with hx|hx|hx
 ·obtain⟨p,hp⟩:=fl_mem (k:=0) hx h0
  exact⟨(p,x),by simp[hp],rfl⟩
 ·obtain⟨p,hp⟩:=fl_mem (k:=1) hx h0
  exact⟨(p,x),by simp[hp],rfl⟩
 ·obtain⟨p,hp⟩:=fl_mem (k:=2) hx h0
  exact⟨(p,x),by simp[hp],rfl⟩
theorem kpt_mono {s:HL} {F G K S:List Int} (h:Kpt s F K) (h':Kpt s G S) (hs: ∀x,x∈F→x∈G): ∀x,x∈K→x∈S:=
 h.ind (· ∈S) ⟨fun x hx hl=>h'.cls.f x (hs x hx) hl,h'.cls.g,h'.cls.e⟩
theorem Snd.rfok {s:HL} {R:Rt.MS} (h:Snd true s R) (hs:s.Ok):RfOk s.abs:=h.1.mono fun _ hx=>hx.le hs
section
variable {s:HL} {R:Rt.MS} {L:List Int} {s4:HL} {R':Rt.MS} {L' ids rep K S o:List Int} {s1 s2 s3:HL} {n:Nat}
theorem ColX.sub (h:ColX s R L s4 R' L' ids rep K S o s1 s2 s3 n): ∀x,x∈K→x∈S:=kpt_mono h.kpt h.kpt2 fun x hx=>List.mem_append.2 (.inl hx)
theorem ColX.held (h:ColX s R L s4 R' L' ids rep K S o s1 s2 s3 n) (x:Int):heldB K S x=true↔x∈S:=by
 unfold heldB savL
 simp only[Bool.or_eq_true,decide_eq_true_eq,List.mem_filter,Bool.not_eq_true',decide_eq_false_iff_not]
 constructor
 ·rintro(hx|hx)
  ·exact h.sub x hx
  ·exact hx.1
 ·intro hx
  by_cases c:x∈K
  ·exact .inl c
  ·exact .inr ⟨hx,c⟩
theorem ColX.four (h:ColX s R L s4 R' L' ids rep K S o s1 s2 s3 n):(∃B,s4= {s3 with B:=B})∧s4.Inv:=by
 rw[h.r4];exact relAll_spec h.k3.inv _ (Nat.le_refl _)
theorem ColX.st (h:ColX s R L s4 R' L' ids rep K S o s1 s2 s3 n) (i:Nat):s4.st.getD i 0=1↔((2*i:Nat):Int)∈S:=by
 obtain⟨⟨B,e⟩,_⟩:=h.four
 have e1:s4.st=s3.st:=by rw[e]
 rw[e1,h.k3.st,h.c2.sam.st,h.c1.sam.st]
 constructor
 ·rintro⟨h1,h2⟩
  exact(h.held _).1 (by simpa using h1)
 ·intro hx
  exact⟨by simpa using(h.held _).2 hx,live_at (h.kpt2.liv _ hx)⟩
theorem ColX.live (h:ColX s R L s4 R' L' ids rep K S o s1 s2 s3 n) (x:Int):Liv s4 x↔x∈S:=by
 constructor
 ·rintro⟨k,rfl,hk⟩;exact(h.st k).1 hk
 ·intro hx
  obtain⟨k,rfl,_⟩:=h.kpt2.liv x hx
  exact⟨k,rfl,(h.st k).2 hx⟩
theorem ColX.ob (h:ColX s R L s4 R' L' ids rep K S o s1 s2 s3 n) {i:Nat} (hx:((2*i:Nat):Int)∈S):s4.obAt i=if((2*i:Nat):Int)∈K then clrOb (inB K) (s.obAt i)else clrOb (heldB K S) (s.obAt i):=by
 obtain⟨⟨B,e⟩,_⟩:=h.four
 have hl:=live_at (h.kpt2.liv _ hx)
 have hh:(!heldB K S ((2*i:Nat):Int))=false:=by simpa using(h.held _).2 hx
 have e1:s4.obAt i=s3.obAt i:=by rw[e];rfl
 have hl1:s1.st.getD i 0=1:=by rw[h.c1.sam.st];exact hl
 have hl2:s2.st.getD i 0=1:=by rw[h.c2.sam.st];exact hl1
 rw[e1,h.k3.ob i hh hl2,h.c2.ob i hl1,h.c1.ob i hl]
 by_cases c:((2*i:Nat):Int)∈K
 ·rw[if_neg (fun e=>by have:=(List.mem_filter.1 e).2;simp only[c,decide_true,Bool.not_true,Bool.false_eq_true]at this),if_pos c,if_pos c]
 ·rw[if_pos (by simp only[savL,List.mem_filter,hx,c,decide_false,Bool.not_false,and_self]),if_neg c,if_neg c]
theorem ColX.snd (h:ColX s R L s4 R' L' ids rep K S o s1 s2 s3 n) (hi:s.Inv) (hsn:Snd true s R) (hR:R.Ok):Snd true s4 R':=by
 have rootK: ∀x,x∈R.S∨x∈R.G∨x∈R.Q→PhP true s4 x:=fun x hx=>by
  by_cases c:x=0
  ·exact .inl c
  ·refine .inr ⟨rfl,(h.live x).2 (h.sub x (h.kpt.cls.f x (leads_of hR hx c) ?_))⟩
   have:PhP true s x:=by
    rcases hx with hx|hx|hx
    ·exact hsn.2.1 x hx
    ·exact hsn.2.2.1 x hx
    ·exact hsn.2.2.2 x hx
   exact(this.resolve_left c).2
 refine⟨fun ob hob r hr=>?_,?_⟩
 ·obtain⟨i,hio,rfl⟩:=List.mem_map.1 hob
  have hxS:=(h.st i).1 (mem_objs.1 hio)
  rw[h.ob hxS]at hr
  have key:r=0∨r∈S:=by
   split at hr
   ·rename_i c
    exact(clr_closed hi hsn h.kpt (fun x=>by unfold inB;exact decide_eq_true_iff) c hr).imp id (h.sub r)
   ·exact clr_closed hi hsn h.kpt2 h.held hxS hr
  exact key.imp id fun e=>⟨rfl,(h.live r).2 e⟩
 ·rw[h.RR]
  refine⟨fun x hx=>rootK x (.inl hx),fun x hx=>rootK x (.inr (.inl hx)),fun x hx=>?_⟩
  rcases List.mem_append.1 hx with hx|hx
  ·exact rootK x (.inr (.inr hx))
  ·have hD:=(ordr_mem h.ord).mem_iff.1 (List.mem_of_mem_take hx)
   have hl:=listA_live hi (List.mem_filter.1 hD).1
   exact .inr ⟨rfl,(h.live x).2 (h.kpt2.cls.f x (List.mem_append.2 (.inr hD)) hl)⟩
theorem ColX.len (h:ColX s R L s4 R' L' ids rep K S o s1 s2 s3 n):s4.objs.length=S.length:=by
 have hnd:(adrs s4.objs).Nodup:=by
  unfold adrs
  exact List.Pairwise.map _ (fun a b h e=>h (by omega)) (objs_nodup s4)
 refine Nat.le_antisymm ?_ ?_
 ·rw[←adrs_len]
  exact nodup_sub hnd fun x hx=>(h.live x).1 (allH_mem.1 (show x∈allH (some s4)from hx))
 ·exact nodup_le h.kpt2.nd fun x hx=>(h.live x).2 hx
end
end Go.Proofs.YteiildhelefodaaGreat
end
section
namespace Go.Proofs.YteiildhelefodaaGreat
set_option maxRecDepth 8000
end Go.Proofs.YteiildhelefodaaGreat
end
section
namespace Go.Proofs.YteiildhelefodaaGreat
set_option maxRecDepth 8000
end Go.Proofs.YteiildhelefodaaGreat
end
section
namespace Go.Proofs.YteiildhelefodaaGreat
set_option maxRecDepth 8000
end Go.Proofs.YteiildhelefodaaGreat
end
section
namespace Go.Proofs.YteiildhelefodaaGreat
set_option maxRecDepth 20000
def rep0 (sc cl:Nat):List Value:=[.int .i64 0,.int .i64 0,.int .i64 0,.int .i64 0,.int .i64 0,.int .i64 0,.int .i64 (sc:Int),.int .i64 (cl:Int)]
theorem setL_rep0 (a0 a1 a2 a3 a4 a5 a6 a7:Value):setL (rep0 0 0) 0 [a0,a1,a2,a3,a4,a5,a6,a7]=[a0,a1,a2,a3,a4,a5,a6,a7]:=rfl
set_option maxHeartbeats 4000000 in
theorem gCollect {w:World} {b:Nat} {hp:Addr} {ar:Option Addr} {L:List Int} {fl fp fr:List Nat} {s:HL} {R:Rt.MS} (h:RG w b hp ar L fl) (hl:L.length≤500) (hr:HR w (some hp) fp (some s)) (hi:s.Inv) (hR:Rt.PR w ar fr (some R)) (hsn:Snd true s R) (h40:s.objs.length≤2000) (hll:(Rt.leadsO (some R)).length≤500) (hrf:RfOk s.abs) (hbp:b∉fp) (hbr:b∉fr) (hpr: ∀y,y∈fp→y∉fr):
  Cs Tryz.prog 14 [.pointer (some ⟨b,0,none⟩)] w fun v w'=> ∃s4 R' L' ids rep K S o s1 s2 s3 n pv fpv fl' fr',ColX s R L s4 R' L' ids rep K S o s1 s2 s3 n∧v=.tuple #[.agg ⟨ints rep⟩,pv,.int .i64 0]∧
   HR w' (some hp) fp (some s4)∧Rt.PR w' ar fr' (some R')∧RG w' b hp ar L' fl'∧Sl w' 1 pv ids.length (ints ids) fpv∧Only (b::(fp++fr)) w w'∧(∀y,y∈fr'→y∈fr∨w.heap.size≤y)∧(∀y,y∈fl'→w.heap.size≤y)∧(∀y,y∈fl'→y∉fr')∧(∀y,y∈fpv→w.heap.size≤y):=by
 obtain⟨v0,g1,g2,g3⟩:=id h
 have hbw:=g1.lt
 have hRok:R.Ok:=by
  obtain⟨_,_,_,_,_,_,_,_,_,hpm⟩:=hR
  exact hpm.ok
 refine enter_final_Registry_Collect rfl ?_
 unfold x_final_Registry_Collect
 refine gO ?_
 refine boxT fun rt w1 hrt hs1 hat1 ho1=>?_
 refine gO ?_
 refine callT (gView (h.keep0 ho1) hl (hr.keep0 ho1) hi (hR.keep0 ho1) hsn h40 hll hrf) ?_
 rintro _ w2 ⟨ho2,vb,mk,ms,vd,fd,K,S,rfl,hv2,hK2,hS2,hd2,kpt,kpt2,gvb,gmk,gms,gfd,nvk,nvs,nks,nvd,nkd,nsd⟩
 obtain⟨sv,hsv⟩: ∃sv,sv=savL K S:=⟨_,rfl⟩
 have hS2':MB w2 ms sv:=by rw[hsv];exact hS2
 have z1:=ho1.size
 have z2:=ho2.size
 refine gO ?_
 refine boxT fun q w3 hq hs3 hat3 ho3=>?_
 refine gO ?_
 refine stT hat3 (by simp) rfl fun w4 hs4 hat4 ho4=>?_
 have o2:Only [] w w2:=ho1.nil ho2
 have o3:Only [] w w3:=o2.nil ho3
 have o4:Only [] w w4:=o3.trans ho4 fun y hy=>by simp only[List.mem_singleton]at hy;exact .inr (by omega)
 have hvb2:=hv2.lt
 have hmk2:=MpAt.lt hK2
 have hms2:=MpAt.lt hS2
 have kp4:Kp w4 q vb mk ms hp vd K sv:=by
  refine⟨hat4,(hv2.keep0 ho3).keep ho4 ?_,(hK2.keep0 ho3).keep ho4 ?_,(hS2'.keep0 ho3).keep ho4 ?_⟩<;>simp<;>omega
 have hd4: ∀y,y∈[q,vb,mk,ms]→w.heap.size≤y∧y<w4.heap.size:=fun y hy=>⟨by
  simp only[List.mem_cons,List.not_mem_nil,or_false]at hy
  rcases hy with rfl|rfl|rfl|rfl<;>omega,kp4.lt y hy⟩
 have hD4:Sl w4 1 vd (deadL s L K).length (ints (deadL s L K)) fd:=(hd2.keep0 ho3).keep ho4 fun z hz e=>by
  simp only[List.mem_singleton]at e;have:=hd2.lt z hz;omega
 have hrt4:At w4 rt (rep0 0 0):=(((hat1.keep0 ho2).keep0 ho3).keep ho4 (by simp;omega))
 have hrtl:w.heap.size≤rt∧rt<w4.heap.size:=⟨by omega,hrt4.lt⟩
 refine gO ?_
 refine callT (gTidy (h.keep0 o4) (by omega) (hr.keep0 o4) hi hbp) ?_
 rintro _ w5 ⟨fl1,hg5,ho5,gfl1⟩
 have z5:=ho5.size
 have z4:=o4.size
 have nb4: ∀y,w.heap.size≤y→y∉ [b]:=fun y hy=>by simp only[List.mem_singleton];omega
 have kp5:=kp4.keep ho5 fun y hy=>nb4 y (hd4 y hy).1
 have o5:Only (b::(fp++fr)) w w5:=(o4.of_nil).trans ho5 fun y hy=>.inl (by simp only[List.mem_singleton]at hy;rw[hy];simp)
 have hr5:=(hr.keep0 o4).keep ho5 fun y hy e=>hbp (by simp only[List.mem_singleton]at e;exact e▸hy)
 have hR5:=(hR.keep0 o4).keep ho5 fun y hy e=>hbr (by simp only[List.mem_singleton]at e;exact e▸hy)
 have hD5:=hD4.keep ho5 fun y hy=>nb4 y (by have:=gfd y hy;omega)
 have hrt5:=hrt4.keep ho5 (nb4 rt hrtl.1)
 have hLl:=listA_len s L
 have hdl:(deadL s L K).length≤500:=Nat.le_trans (List.length_filter_le _ _) (Nat.le_trans hLl hl)
 have hKl:K.length≤2000:=Nat.le_trans (nodup_le kpt.nd kpt.liv) h40
 have hSl:S.length≤2000:=Nat.le_trans (nodup_le kpt2.nd kpt2.liv) h40
 have hsvl:sv.length≤2000:=by rw[hsv];exact Nat.le_trans (List.length_filter_le _ _) hSl
 have hsvn:sv.Nodup:=by rw[hsv];exact List.Nodup.sublist List.filter_sublist kpt2.nd
 have hsvv: ∀x,x∈sv→Liv s x:=fun x hx=>by rw[hsv]at hx;exact kpt2.liv x (List.mem_filter.1 hx).1
 have esc:IntKind.i64.wrap ((K.length:Int)+(sv.length:Int))=((K.length+sv.length:Nat):Int):=by rw[IntWalk.i64_in _ (by omega)];omega
 refine gO ?_
 refine run_cut (9::31::32::33::34::35::36::37::38::39::40::41::42::[]) (fun g w'=> ∃rb,g 9=.pointer (some ⟨rb,0,none⟩)∧w5.heap.size≤rb∧At w' rb (rep0 (K.length+sv.length) 0)∧Only [] w5 w') (fun kk hkk=>?_) (fun g6 w6 hJ=>?_)
 ·refine run_drt [q,vb] ?_
  have od:=Only.drew [] w5
  have kpd:=kp5.keep0 od
  have lts: ∀z,z∈[q,vb]→z<w5.drew.heap.size∧z∉([]:List Nat):=fun z hz=>⟨kpd.lt z (by simp only[List.mem_cons,List.not_mem_nil,or_false]at hz⊢;omega),by simp⟩
  refine gO2 kpd.q.cell kpd.v.cell ?_
  have sb0:SB [q,vb] w5.drew w5.drew:=SB.refl _ _
  refine⟨mlenS Tryz.underlying115 kpd.k (.inr sb0) ?_,boxS fun rb w6 hrb hs6 hat6 ho6=>?_⟩
  ·refine gO ?_
   refine⟨mlenS Tryz.underlying115 kpd.s (.inl rfl) ?_,boxS fun rb w6 hrb hs6 hat6 ho6=>?_⟩
   ·(repeat(first|with_reducible(first|refine nx ?_|refine r_6 rfl ?_)|simp only[go_sem,setM_len,esc]))
    rw[fillL_one rfl rfl]
    refine gO ?_
    refine boxS fun rb w6 hrb hs6 hat6 ho6=>⟨.inr (sb0.only ho6 lts),?_⟩
    refine gO ?_
    refine stNS (cs:=rep0 (K.length+sv.length) 0) hat6 rfl (by simp[rep0]) (by simp[rep0,oneC]) fun w7 hs7 hat7 ho7=>⟨.inl rfl,?_⟩
    refine gO ?_
    refine hkk _ w7 ?_ ⟨rb,?_,by have:=od.size;omega,hat7,(od.nil ho6).trans ho7 fun y hy=>by simp only[List.mem_singleton]at hy;have:=od.size;exact .inr (by omega)⟩
    ·(repeat(first|with_reducible exact k_1|with_reducible exact Keeps.ovr _ _ _|refine Keeps.put ?_ rfl _|exact k_1|exact Keeps.ovr _ _ _|refine Keeps.ovr2 ?_ rfl _))
    ·simp only[go_sem]
   ·refine⟨.inr (sb0.only ho6 lts),?_⟩
    refine gO ?_
    refine mlenS Tryz.underlying115 (kpd.keep0 ho6).s (.inl rfl) ?_
    (repeat(first|with_reducible(first|refine nx ?_|refine r_6 rfl ?_)|simp only[go_sem,setM_len,esc]))
    rw[fillL_one rfl rfl]
    refine gO ?_
    refine stNS (cs:=rep0 (K.length+sv.length) 0) hat6 rfl (by simp[rep0]) (by simp[rep0,oneC]) fun w7 hs7 hat7 ho7=>⟨.inl rfl,?_⟩
    refine gO ?_
    refine hkk _ w7 ?_ ⟨rb,?_,by have:=od.size;omega,hat7,(od.nil ho6).trans ho7 fun y hy=>by simp only[List.mem_singleton]at hy;have:=od.size;exact .inr (by omega)⟩
    ·(repeat(first|with_reducible exact k_1|with_reducible exact Keeps.ovr _ _ _|refine Keeps.put ?_ rfl _|exact k_1|exact Keeps.ovr _ _ _|refine Keeps.ovr2 ?_ rfl _))
    ·simp only[go_sem]
  ·refine⟨.inr (sb0.only ho6 lts),?_⟩
   refine gO ?_
   refine mlenS Tryz.underlying115 (kpd.keep0 ho6).k (.inr (sb0.only ho6 lts)) ?_
   refine gO ?_
   refine mlenS Tryz.underlying115 (kpd.keep0 ho6).s (.inl rfl) ?_
   (repeat(first|with_reducible(first|refine nx ?_|refine r_6 rfl ?_)|simp only[go_sem,setM_len,esc]))
   rw[fillL_one rfl rfl]
   refine gO ?_
   refine stNS (cs:=rep0 (K.length+sv.length) 0) hat6 rfl (by simp[rep0]) (by simp[rep0,oneC]) fun w7 hs7 hat7 ho7=>⟨.inl rfl,?_⟩
   refine gO ?_
   refine hkk _ w7 ?_ ⟨rb,?_,by have:=od.size;omega,hat7,(od.nil ho6).trans ho7 fun y hy=>by simp only[List.mem_singleton]at hy;have:=od.size;exact .inr (by omega)⟩
   ·(repeat(first|with_reducible exact k_1|with_reducible exact Keeps.ovr _ _ _|refine Keeps.put ?_ rfl _|exact k_1|exact Keeps.ovr _ _ _|refine Keeps.ovr2 ?_ rfl _))
   ·simp only[go_sem]
 obtain⟨rb,h9,grb,hrb6,ho6⟩:=hJ
 have kp6:=kp5.keep0 ho6
 have z6:=ho6.size
 have o6:=o5.nil ho6
 refine gO1 kp6.q.cell ?_
 refine callT (vOrder kp6.v (hD5.keep0 ho6) hdl (fun x hx=>listA_live hi (List.mem_filter.1 hx).1) (hr5.keep0 ho6) hi.ok hsn h40) ?_
 rintro vo w7 ⟨ho7,o,fo,hO,hs7,gfo⟩
 obtain⟨ao,co,rfl⟩:=hs7.val
 have z7:=ho7.size
 have o7:=o6.nil ho7
 have kp7:=kp6.keep0 ho7
 have hol:o.length≤500:=by rw[(ordr_mem hO).length_eq];exact hdl
 have hov: ∀x,x∈o→Liv s x:=fun x hx=>listA_live hi (List.mem_filter.1 ((ordr_mem hO).mem_iff.1 hx)).1
 refine gO2 kp7.q.cell kp7.v.cell ?_
 refine rangeT Tryz.underlying115 kp7.k fun r w8 hr8 hs8 hit8 ho8=>?_
 have z8:=ho8.size
 have o8:=o7.nil ho8
 have kp8:=kp7.keep0 ho8
 have hg8:=((hg5.keep0 ho6).keep0 ho7).keep0 ho8
 have hrb8:=(hrb6.keep0 ho7).keep0 ho8
 have hrh8:=((hr5.keep0 ho6).keep0 ho7).keep0 ho8
 have nrb:rb∉fp:=fun e=>by have:=hr.lt rb e;omega
 have bd: ∀y,y∈[q,vb,mk,ms]→y∉rb::fp:=fun y hy e=>by
  have:=hd4 y hy
  rcases List.mem_cons.1 e with e|e
  ·omega
  ·have:=hr.lt y e;omega
 have bnr:b∉rb::fp:=fun e=>by
  rcases List.mem_cons.1 e with e|e
  ·omega
  ·exact hbp e
 refine gO ?_
 refine run_loop (11::50::51::52::53::54::55::56::57::58::59::60::61::62::63::64::[]) (fun _ w'=> ∃(T:List Int) (s1:HL),ItAt w' r mk (setM K) (setM T)∧(∀x,x∈T→x∈K)∧Clrd s s1 (K.filter fun y=>!decide (y∈T)) (inB K)∧HR w' (some hp) fp (some s1)∧At w' rb (rep0 (K.length+sv.length) (clrC s (inB K) (K.filter fun y=>!decide (y∈T))))∧Only (rb::fp) w7 w') (fun _ w'=>itLeft w' r mk)
  ⟨K,s,hit8,fun _ h=>h,?_,hrh8,?_,ho8.of_nil⟩ fun g9 w9 hI hnext=>?_
 ·rw[left_all];exact Clrd.none hi _
 ·rw[left_all];exact hrb8
 obtain⟨T,s1,hit,hTK,hC,hr9,hrb9,ho9⟩:=hI
 obtain⟨vg,gb7,gl7,gn7⟩:=id ((hg5.keep0 ho6).keep0 ho7)
 have gb9:=gb7.keep ho9 bnr
 have hl9:=hit.left
 refine gO ?_
 refine nextT hit (fun h0=>?_) (fun e w10 hp10 hs10 ho10 hit10 hen10=>?_)
 rotate_left
 ·obtain⟨hx,he⟩:=mem_setM hp10
  obtain⟨x,v⟩:=e
  simp only at hx he
  obtain rfl:v=.bool true:=(Prod.mk.inj he).2
  rw[setM_filter]at hit10
  have hxK:=hTK x hx
  have hxv:=kpt.liv x hxK
  have rr: ∀y,y∈[r]→y∈rb::fp∨w7.heap.size≤y:=fun y hy=>by simp only[List.mem_singleton]at hy;exact .inr (by omega)
  have nr: ∀y,y<w7.heap.size→y∉ [r]:=fun y hy=>by simp only[List.mem_singleton];omega
  have ltT:(setM (T.filter (·!=x))).length<(setM T).length:=by
   rw[setM_len,setM_len]
   rcases Nat.lt_or_ge (T.filter (·!=x)).length T.length with h'|h'
   ·exact h'
   ·have:=List.filter_eq_self.1 (List.Sublist.eq_of_length_le List.filter_sublist h') x hx
    simp at this
  have sT: ∀y,y∈T.filter (·!=x)→y∈K:=fun y hy=>hTK y (List.mem_filter.1 hy).1
  obtain⟨s2,k,rfl,hk,e2,hC2,n2⟩:=hC.step (C':=K.filter fun y=>!decide (y∈T.filter (·!=x))) hxv (by simp[hx]) fun y=>mem_left hxK hx
  have hr10:=hr9.keep ho10 fun y hy=>nr y (by have:=hr.lt y hy;omega)
  have hrb10:=hrb9.keep ho10 (nr rb (by have:=hrb6.lt;omega))
  have gb10:=gb9.keep ho10 (nr b (by omega))
  have kp9:=kp7.keep ho9 bd
  have kp10:=kp9.keep ho10 fun y hy=>nr y (by have:=hd4 y hy;omega)
  have hx62:((2*k:Nat):Int)≤4611686018427387904:=by have:=live_le hi.ok hk;omega
  have hk1:s1.st.getD k 0=1:=by rw[hC.sam.st];exact hk
  obtain⟨l1,_,_⟩:=obAt_len hC.inv.ok hk1
  have hl15:=rf_le hC.inv.ok hk1
  refine gO ?_
  refine entryT hen10 ?_
  refine gO1 gb10.cell ?_
  refine callT (cClear (n:=(s1.obAt k).rf.length) (kept:=inB K) (F:=54) (caps:=#[.pointer (some ⟨q,0,none⟩)]) hr10 ((2*k:Nat):Int) hx62 (by rw[at_shape hC.inv.ok hk1];exact l1.symm) hl15 (by kernel_rfl) fun w' y ho=>?_) ?_
  ·exact vKept1 (kp10.keep0 ho).q (kp10.keep0 ho).v (kp10.keep0 ho).k y
  rintro _ w11 ⟨rfl,hr11,ho11⟩
  rw[e2]at hr11
  rw[n2]
  have hrb11:=hrb10.keep ho11 nrb
  have ofp: ∀y,y∈fp→y∈rb::fp∨w7.heap.size≤y:=fun y hy=>.inl (List.mem_cons_of_mem _ hy)
  have o11:Only (rb::fp) w7 w11:=(ho9.trans ho10 rr).trans ho11 ofp
  have hit11:ItAt w11 r mk (setM K) (setM (T.filter (·!=((2*k:Nat):Int)))):=hit10.keep ho11 (fun e=>by have:=hr.lt r e;omega) (fun e=>by have:=hr.lt mk e;omega)
  have hcs:=clrC_step (s:=s) (keep:=inB K) kpt.nd hxK hx
  rw[obX_at]at hcs
  by_cases cn:0<clrN (inB K) (s.obAt k)
  ·rw[if_pos cn]at hcs
   have hcl:=clrC_le s (inB K) (K.filter fun y=>!decide (y∈T))
   have hcl2:=List.length_filter_le (fun y=>!decide (y∈T)) K
   have c7:w11.cell? ⟨rb,7,none⟩=some (.int .i64 (clrC s (inB K) (K.filter fun y=>!decide (y∈T)):Nat)):=by rw[hrb11.cell];rfl
   refine gO4 h9 (decide_eq_true cn) c7 (i64_succ (clrC s (inB K) (K.filter fun y=>!decide (y∈T))) (by omega)) ?_
   refine stT (i:=7) hrb11 (by simp[rep0]) rfl fun w12 hs12 hat12 ho12=>?_
   have hrb12:At w12 rb (rep0 (K.length+sv.length) (clrC s (inB K) (K.filter fun y=>!decide (y∈T.filter (·!=((2*k:Nat):Int)))))):=by rw[hcs];exact hat12
   refine gO ?_
   have n1: ∀y,y∈fp→y∉ [rb]:=fun y hy e=>nrb (by simp only[List.mem_singleton]at e;exact e▸hy)
   have hit12:ItAt w12 r mk (setM K) (setM (T.filter (·!=((2*k:Nat):Int)))):=hit11.keep ho12 (by simp only[List.mem_singleton];have:=hrb6.lt;omega) (by simp only[List.mem_singleton];have:=(hd4 mk (by simp)).2;omega)
   refine hnext _ w12 ?_ ⟨T.filter (·!=((2*k:Nat):Int)),s2,hit12,sT,hC2,hr11.keep ho12 n1,hrb12,o11.trans ho12 fun y hy=>by simp only[List.mem_singleton]at hy;exact .inl (by rw[hy];simp)⟩ ?_
   ·(repeat(first|with_reducible exact k_1|with_reducible exact Keeps.ovr _ _ _|refine Keeps.put ?_ rfl _|exact k_1|exact Keeps.ovr _ _ _|refine Keeps.ovr2 ?_ rfl _))
   ·rw[hl9,hit12.left];exact ltT
  ·rw[if_neg cn,Nat.add_zero]at hcs
   rw[decide_eq_false cn]
   refine gO ?_
   refine hnext _ w11 ?_ ⟨T.filter (·!=((2*k:Nat):Int)),s2,hit11,sT,hC2,hr11,by rw[hcs];exact hrb11,o11⟩ ?_
   ·(repeat(first|with_reducible exact k_1|with_reducible exact Keeps.ovr _ _ _|refine Keeps.put ?_ rfl _|exact k_1|exact Keeps.ovr _ _ _|refine Keeps.ovr2 ?_ rfl _))
   ·rw[hl9,hit11.left];exact ltT
 ·have hT:T=[]:=by cases T with
   |nil=>rfl
   |cons a T=>cases h0
  subst hT
  rw[left_none]at hC hrb9
  have z9:=ho9.size
  have o9:Only (b::(fp++fr)) w w9:=o7.trans ho9 fun y hy=>by
   rcases List.mem_cons.1 hy with rfl|hy
   ·exact .inr (by omega)
   ·exact .inl (by simp[hy])
  have kp9:=kp7.keep ho9 bd
  have fl5: ∀y,y∈fl1→w.heap.size≤y∧y<w5.heap.size:=fun y hy=>by
   obtain⟨_,_,gl,_⟩:=hg5
   exact⟨by have:=gfl1 y hy;omega,gl.lt y hy⟩
  have nfp: ∀y,y∈fl1→y∉rb::fp:=fun y hy e=>by
   have:=fl5 y hy
   rcases List.mem_cons.1 e with e|e
   ·omega
   ·have:=hr.lt y e;omega
  have hg9:RG w9 b hp ar (tidyL s L) fl1:=((hg5.keep0 ho6).keep0 ho7).keep ho9 bnr nfp
  have hR9:Rt.PR w9 ar fr (some R):=((hR5.keep0 ho6).keep0 ho7).keep ho9 fun y hy e=>by
   have:=hR.lt y hy
   rcases List.mem_cons.1 e with e|e
   ·omega
   ·exact hpr y e hy
  have hvo9:Sl w9 1 (.slice ao o.length co) o.length (ints o) fo:=hs7.keep ho9 fun y hy e=>by
   have:=gfo y hy
   rcases List.mem_cons.1 e with e|e
   ·have:=hrb6.lt;omega
   ·have:=hr.lt y e;omega
  have hro:=hR9.lt
  have hLt:(tidyL s L).length≤500:=Nat.le_trans (List.length_filter_le _ _) hl
  have hX: ∀y,w.heap.size≤y→y∉fl1→y∉b::(fl1++fr):=fun y h1 h2 e=>by
   rcases List.mem_cons.1 e with e|e
   ·omega
   ·rcases List.mem_append.1 e with e|e
    ·exact h2 e
    ·have:=hR.lt y e;omega
  have hX5: ∀y,w5.heap.size≤y→y∉b::(fl1++fr):=fun y h1=>hX y (by omega) fun e=>by have:=fl5 y e;omega
  obtain⟨Qn,hQn⟩: ∃Qn,Qn=R.Q.length:=⟨_,rfl⟩
  obtain⟨idl,hidl⟩: ∃idl:Nat→List Int,idl=fun n=>(o.take n).map (idA s):=⟨_,rfl⟩
  obtain⟨Lf,hLf⟩: ∃Lf:Nat→List Int,Lf=fun n=>(tidyL s L).filter fun x=>!decide (x∈idl n):=⟨_,rfl⟩
  (repeat(first|with_reducible(first|refine r_1 ?_|refine r_2 ?_|refine r_4 ?_|refine r_5 ?_|refine r_6 rfl ?_|refine r_7 ?_|refine r_8 ?_|refine r_9 ?_|refine r_0 ?_)|simp only[go_sem]))
  refine run_cut (12::14::15::16::67::68::69::70::71::72::73::74::75::76::77::78::79::80::81::82::83::84::85::86::87::88::89::90::91::92::93::94::95::96::97::98::99::100::[]) (fun g w'=> ∃n fr1 fpv,n=min o.length (64-R.Q.length)∧Rt.PR w' ar fr1 (some {R with Q:=R.Q++o.take n})∧(∀y,y∈fr1→y∈fr∨w9.heap.size≤y)∧RG w' b hp ar (Lf n) fl1∧Sl w' 1 (g 12) n (ints (idl n)) fpv∧(∀y,y∈fpv→w9.heap.size≤y)∧Only (b::(fl1++fr)) w9 w') (fun kk hkk=>?_) (fun g13 w13 hJ=>?_)
  ·refine gO ?_
   refine run_loop (12::14::15::16::67::68::69::70::71::72::73::74::75::76::77::78::79::80::81::82::83::84::85::86::87::88::89::90::91::92::93::94::95::96::97::98::99::100::[]) (fun g w'=> ∃i fr1 fpv,g 67=.int .i64 ((i:Nat):Int)∧i≤o.length∧R.Q.length+i≤64∧Rt.PR w' ar fr1 (some {R with Q:=R.Q++o.take i})∧(∀y,y∈fr1→y∈fr∨w9.heap.size≤y)∧RG w' b hp ar (Lf i) fl1∧Sl w' 1 (g 12) i (ints (idl i)) fpv∧(∀y,y∈fpv→w9.heap.size≤y∧y∉fr1)∧Only (b::(fl1++fr)) w9 w') (fun g _=>upTo o.length 67 g)
    ⟨0,fr,[],by simp only[go_sem];rfl,by omega,?_,?_,fun y hy=>.inl hy,?_,?_,by simp,Only.refl _ _⟩ fun g10 w10 hI hnext=>?_
   ·have:=hRok.lq;omega
   ·rw[List.take_zero,List.append_nil];exact hR9
   ·have:Lf 0=tidyL s L:=by rw[hLf];exact List.filter_eq_self.2 fun x _=>by simp[hidl]
    rw[this];exact hg9
   ·have:idl 0=[]:=by rw[hidl];rfl
    rw[this];simp only[go_sem];exact Sl.nil1 _
   obtain⟨i,fr1,fpv,h67,hi1,hi2,hRi,gfr1,hgi,hvi,gvi,ho10⟩:=hI
   have z10:=ho10.size
   by_cases c:i<o.length
   rotate_left
   ·refine gO2 h67 (decide_eq_false (show¬(i:Int)<(o.length:Int) by omega)) ?_
    refine hkk _ w10 ?_ ⟨i,fr1,fpv,by omega,hRi,gfr1,hgi,?_,fun y hy=>(gvi y hy).1,ho10⟩
    ·(repeat(first|with_reducible exact k_1|with_reducible exact Keeps.ovr _ _ _|refine Keeps.put ?_ rfl _|exact k_1|exact Keeps.ovr _ _ _|refine Keeps.ovr2 ?_ rfl _))
    ·simp only[go_sem];exact hvi
   obtain⟨go,_,yo,eo,hato,_,_⟩:=(hvo9.keep ho10 fun y hy=>hX5 y (by have:=gfo y hy;omega)).pos (by omega)
   cases eo
   have ci:(0:Int)≤(i:Int)∧(i:Int)<(o.length:Int):=by omega
   have vr:w10.cell? ⟨go,i,none⟩=some (.int .i64 (o.getD i 0)):=by rw[hato.cell];exact ints_append_get yo c
   obtain⟨k,hok,hk⟩:=hov (o.getD i 0) (by simp[c])
   have hk0:k≠0:=fun e=>hi.z0 (e▸hk)
   have hkl:=live_le hi.ok hk
   obtain⟨vgi,gbi,gli,gni⟩:=id hgi
   obtain⟨agi,cgi,rfl⟩:=gli.val
   have hfr1: ∀y,y∈fr1→y∉fl1:=fun y hy e=>by
    have:=fl5 y e
    rcases gfr1 y hy with h'|h'
    ·have:=hR.lt y h';omega
    ·omega
   have hbf1:b∉fr1:=fun e=>(gfr1 b e).elim hbr fun h'=>by omega
   rw[hok]at vr
   refine gJ5 h67 (decide_eq_true ci.2) (eq_true ci) vr gbi.cell ?_
   refine callT (Rt.Push_m hRi ((2*k:Nat):Int)) ?_
   rintro _ w11 ⟨rfl,ho11,ho11',fr2,hR11,gfr2⟩
   by_cases c64:R.Q.length+i=64
   ·have e6:Rt.pushO (some {R with Q:=R.Q++o.take i}) ((2*k:Nat):Int)=(6,some {R with Q:=R.Q++o.take i}):=by
     unfold Rt.pushO
     simp only
     rw[if_neg (by omega),if_pos (by rw[List.length_append,List.length_take];omega)]
    rw[e6]at ho11' hR11⊢
    have ho0:=ho11' (by simp)
    refine gO ?_
    refine hkk _ w11 ?_ ⟨i,fr1,fpv,by omega,hRi.keep0 ho0,gfr1,hgi.keep0 ho0,?_,fun y hy=>(gvi y hy).1,ho10.nil ho0⟩
    ·(repeat(first|with_reducible exact k_1|with_reducible exact Keeps.ovr _ _ _|refine Keeps.put ?_ rfl _|exact k_1|exact Keeps.ovr _ _ _|refine Keeps.ovr2 ?_ rfl _))
    ·simp only[go_sem];exact hvi.keep0 ho0
   have e0:Rt.pushO (some {R with Q:=R.Q++o.take i}) ((2*k:Nat):Int)=(0,some {R with Q:=R.Q++o.take (i+1)}):=by
    unfold Rt.pushO
    simp only
    rw[if_neg (by omega),if_neg (by rw[List.length_append,List.length_take];omega),List.take_succ_eq_append_getElem c,List.append_assoc]
    have:o[i]=((2*k:Nat):Int):=by rw[←hok];simp[c]
    rw[this]
   rw[e0]at hR11⊢
   have gfr2': ∀y,y∈fr2→y∈fr∨w9.heap.size≤y:=fun y hy=>(gfr2 y hy).elim (gfr1 y) fun h'=>.inr (by omega)
   have hg11:=hgi.keep ho11 hbf1 fun y hy e=>hfr1 y e hy
   have hv11:=hvi.keep ho11 fun y hy=>(gvi y hy).2
   have z11:=ho11.size
   have gb11:=gbi.keep ho11 hbf1
   have gl11:=gli.keep ho11 fun y hy e=>hfr1 y e hy
   have o11:Only (b::(fl1++fr)) w9 w11:=ho10.trans ho11 fun y hy=>(gfr1 y hy).imp (fun h'=>by simp[h']) fun h'=>h'
   have hr11:HR w11 (some hp) fp (some s1):=hr9.keep o11 fun y hy e=>by
    have:=hr.lt y hy
    rcases List.mem_cons.1 e with e|e
    ·exact hbp (e▸hy)
    ·rcases List.mem_append.1 e with e|e
     ·have:=fl5 y e;omega
     ·exact hpr y hy e
   have hid:identO (some s1) ((2*k:Nat):Int)=(idA s ((2*k:Nat):Int),0):=ident_clrd hi hC ⟨k,rfl,hk⟩
   refine gO2 h67 gb11.cell ?_
   refine callT (hIdent hr11 ((2*k:Nat):Int) (by omega)) ?_
   rintro _ w12 ⟨rfl,ho12⟩
   rw[hid]
   refine gO ?_
   refine boxT fun q2 w13 hq2 hs13 hat13 ho13=>?_
   refine gO ?_
   refine stT hat13 (by simp) rfl fun w14 hs14 hat14 ho14=>?_
   have o14:Only [] w11 w14:=(ho12.nil ho13).trans ho14 fun y hy=>by simp only[List.mem_singleton]at hy;have:=ho12.size;exact .inr (by omega)
   have hat14':At w14 q2 [.int .i64 (idA s ((2*k:Nat):Int))]:=hat14
   refine gO1 hat14'.cell ?_
   rw[fillL_one rfl rfl]
   refine gO ?_
   refine bslT fun q3 w15 hq3 hs15 hat15 ho15=>?_
   refine gO ?_
   have o15:=o14.nil ho15
   refine appT (hv11.keep0 o15) (SrcIs.at (us:=[.int .i64 (idA s ((2*k:Nat):Int))]) hat15 rfl) (by simp[oneC]) (by omega) (by omega) ?_
   intro v16 w16 fp16 hs16 hfp16 ho16 _
   have z12:=ho12.size
   have g16: ∀y,y∈fp16→y∈fpv∨w15.heap.size≤y:=fun y hy=>by
    rcases hfp16 with rfl|rfl
    ·exact .inl hy
    ·simp only[List.mem_singleton]at hy;exact .inr (by omega)
   have nfl: ∀y,y∈fl1→y∉fpv:=fun y hy e=>by have:=fl5 y hy;have:=(gvi y e).1;omega
   have gb16:=(gb11.keep0 o15).keep ho16 (fun e=>by have:=(gvi b e).1;omega)
   have gl16:=(gl11.keep0 o15).keep ho16 nfl
   have hq16:=(hat14'.keep0 ho15).keep ho16 (fun e=>by have:=hvi.lt q2 e;omega)
   refine gO1 gb16.cell ?_
   refine callT (deleteFunc (p:=fun x=>x==idA s ((2*k:Nat):Int)) (F:=60) (caps:=#[.pointer (some ⟨q2,0,none⟩)]) gl16 (by kernel_rfl) (Nat.le_trans (by rw[hLf];exact List.length_filter_le _ _) (Nat.le_trans hLt (by omega))) fun w' x ho hx=>vSame3 (hq16.keep ho fun e=>by have:=fl5 q2 e;omega) x) ?_
   rintro vD w17 ⟨ho17,hD17⟩
   have bfl:b∉fl1:=fun e=>by have:=fl5 b e;omega
   have gb17:=gb16.keep ho17 bfl
   refine gO ?_
   refine stT (i:=2) gb17 (by simp) hD17.oneC' fun w18 hs18 hat18 ho18=>?_
   have hidS:idl (i+1)=idl i++[idA s ((2*k:Nat):Int)]:=by
    rw[hidl]
    simp only
    rw[List.take_succ_eq_append_getElem c,List.map_append]
    have:o[i]=((2*k:Nat):Int):=by rw[←hok];simp[c]
    rw[this];rfl
   have hLS:(Lf i).filter (fun x=>!(x==idA s ((2*k:Nat):Int)))=Lf (i+1):=by
    rw[hLf]
    simp only
    rw[List.filter_filter,hidS]
    refine List.filter_congr fun x _=>?_
    by_cases cx:x=idA s ((2*k:Nat):Int)
    ·simp[cx]
    ·simp only[beq_int_false cx,Bool.not_false,Bool.true_and,List.mem_append,List.mem_singleton,cx,or_false]
   rw[hLS]at hD17
   have hD18:=hD17.keep ho18 fun y hy e=>bfl (by simp only[List.mem_singleton]at e;exact e▸hy)
   have hg18:RG w18 b hp ar (Lf (i+1)) fl1:=⟨vD,hat18,hD18,bfl⟩
   have z15:=o15.size
   have z16:=ho16.size
   have z17:=ho17.size
   have f2lt:=hR11.lt
   have n16: ∀y,y∈fr2→y∉fpv:=fun y hy e=>by
    have:=hvi.lt y e
    rcases gfr2 y hy with h'|h'
    ·exact(gvi y e).2 h'
    ·omega
   have nl2: ∀y,y∈fr2→y∉fl1:=fun y hy e=>by
    have:=fl5 y e
    rcases gfr2' y hy with h'|h'
    ·have:=hR.lt y h';omega
    ·omega
   have nb2:b∉fr2:=fun e=>(gfr2' b e).elim hbr fun h'=>by omega
   have hR18:=(((hR11.keep0 o15).keep ho16 n16).keep ho17 nl2).keep ho18 fun y hy e=>nb2 (by simp only[List.mem_singleton]at e;exact e▸hy)
   have nv1: ∀y,y∈fp16→y∉fl1:=fun y hy e=>by
    have:=fl5 y e
    rcases g16 y hy with h'|h'
    ·have:=(gvi y h').1;omega
    ·omega
   have nv2: ∀y,y∈fp16→w9.heap.size≤y∧y∉fr2:=fun y hy=>by
    rcases g16 y hy with h'|h'
    ·exact⟨(gvi y h').1,fun e=>n16 y e h'⟩
    ·exact⟨by omega,fun e=>by have:=f2lt y e;omega⟩
   have hv18:=(hs16.keep ho17 nv1).keep ho18 fun y hy e=>by simp only[List.mem_singleton]at e;have:=(nv2 y hy).1;omega
   have ei:ints (idl i)++[Value.int .i64 (idA s ((2*k:Nat):Int))]=ints (idl (i+1)):=by rw[hidS,ints_append];rfl
   rw[ei]at hv18
   have o18:Only (b::(fl1++fr)) w9 w18:=(((o11.nil o15).trans ho16 fun y hy=>.inr (gvi y hy).1).trans ho17 fun y hy=>.inl (by simp[hy])).trans ho18 fun y hy=>.inl (by simp only[List.mem_singleton]at hy;rw[hy];simp)
   refine gO2 h67 (i64_succ i (by omega)) ?_
   refine hnext _ w18 ?_ ⟨i+1,fr2,fp16,?_,by omega,by omega,hR18,gfr2',hg18,?_,nv2,o18⟩ ?_
   ·(repeat(first|with_reducible exact k_1|with_reducible exact Keeps.ovr _ _ _|refine Keeps.put ?_ rfl _|exact k_1|exact Keeps.ovr _ _ _|refine Keeps.ovr2 ?_ rfl _))
   ·simp only[go_sem]
   ·simp only[go_sem];exact hv18
   ·rw[upTo_int (i:=i) h67,upTo_int (k:=.i64) (i:=i+1) (by simp only[go_sem])];omega
  obtain⟨n,fr1,fpv,hn,hR13,gfr1,hg13,hv13,gv13,ho13⟩:=hJ
  have z13:=ho13.size
  have kp13:=kp9.keep ho13 fun y hy=>hX y (hd4 y hy).1 fun e=>by have:=gfl1 y e;have:=(hd4 y hy).2;omega
  have hrb13:=hrb9.keep ho13 (hX5 rb grb)
  have hrt9:=((hrt5.keep0 ho6).keep0 ho7).keep ho9 fun e=>by
   rcases List.mem_cons.1 e with e|e
   ·have:=hrtl.2;omega
   ·have:=hr.lt rt e;have:=hrtl.1;omega
  have hrt13:=hrt9.keep ho13 (hX rt hrtl.1 fun e=>by have:=gfl1 rt e;have:=hrtl.2;omega)
  have hr13:HR w13 (some hp) fp (some s1):=hr9.keep ho13 fun y hy e=>by
   have:=hr.lt y hy
   rcases List.mem_cons.1 e with e|e
   ·exact hbp (e▸hy)
   ·rcases List.mem_append.1 e with e|e
    ·have:=fl5 y e;omega
    ·exact hpr y hy e
  have o13:Only (b::(fp++fr)) w w13:=o9.trans ho13 fun y hy=>by
   rcases List.mem_cons.1 hy with e|e
   ·exact .inl (by rw[e];simp)
   ·rcases List.mem_append.1 e with e|e
    ·exact .inr (fl5 y e).1
    ·exact .inl (by simp[e])
  obtain⟨vg13,gb13,gl13,gn13⟩:=id hg13
  have hheld: ∀x,heldB K S x=(decide (x∈K)||decide (x∈sv)):=fun x=>by rw[hsv];rfl
  obtain⟨N1,hN1⟩: ∃N1,N1=clrC s (inB K) K:=⟨_,rfl⟩
  rw[←hN1]at hrb13
  have hN1l:N1≤2000:=by rw[hN1];exact Nat.le_trans (clrC_le _ _ _) hKl
  refine gO2 kp13.q.cell kp13.v.cell ?_
  refine rangeT Tryz.underlying115 kp13.s fun r2 w14 hr2 hs14 hit14 ho14=>?_
  have z14:=ho14.size
  refine gO ?_
  refine run_loop (17::106::107::108::109::110::111::112::113::114::115::116::117::118::119::120::[]) (fun _ w'=> ∃(T:List Int) (s2:HL),ItAt w' r2 ms (setM sv) (setM T)∧(∀x,x∈T→x∈sv)∧Clrd s1 s2 (sv.filter fun y=>!decide (y∈T)) (heldB K S)∧HR w' (some hp) fp (some s2)∧At w' rb (rep0 (K.length+sv.length) (N1+clrC s1 (heldB K S) (sv.filter fun y=>!decide (y∈T))))∧Only (rb::fp) w13 w') (fun _ w'=>itLeft w' r2 ms)
   ⟨sv,s1,hit14,fun _ h=>h,?_,hr13.keep0 ho14,?_,ho14.of_nil⟩ fun g15 w15 hI hnext=>?_
  ·rw[left_all];exact Clrd.none hC.inv _
  ·rw[left_all];exact hrb13.keep0 ho14
  obtain⟨T,s2,hit,hTK,hC2,hr15,hrb15,ho15⟩:=hI
  have gb15:=gb13.keep ho15 bnr
  have hl15:=hit.left
  refine gO ?_
  refine nextT hit (fun h0=>?_) (fun e w16 hp16 hs16 ho16 hit16 hen16=>?_)
  rotate_left
  ·obtain⟨hx,he⟩:=mem_setM hp16
   obtain⟨x,v⟩:=e
   simp only at hx he
   obtain rfl:v=.bool true:=(Prod.mk.inj he).2
   rw[setM_filter]at hit16
   have hxK:=hTK x hx
   have hxv:=hC.live (hsvv x hxK)
   have rr: ∀y,y∈[r2]→y∈rb::fp∨w13.heap.size≤y:=fun y hy=>by simp only[List.mem_singleton]at hy;exact .inr (by omega)
   have nr: ∀y,y<w13.heap.size→y∉ [r2]:=fun y hy=>by simp only[List.mem_singleton];omega
   have ltT:(setM (T.filter (·!=x))).length<(setM T).length:=by
    rw[setM_len,setM_len]
    rcases Nat.lt_or_ge (T.filter (·!=x)).length T.length with h'|h'
    ·exact h'
    ·have:=List.filter_eq_self.1 (List.Sublist.eq_of_length_le List.filter_sublist h') x hx
     simp at this
   have sT: ∀y,y∈T.filter (·!=x)→y∈sv:=fun y hy=>hTK y (List.mem_filter.1 hy).1
   obtain⟨s3,k,rfl,hk,e2,hC3,n2⟩:=hC2.step (C':=sv.filter fun y=>!decide (y∈T.filter (·!=x))) hxv (by simp[hx]) fun y=>mem_left hxK hx
   have hr16:=hr15.keep ho16 fun y hy=>nr y (by have:=hr.lt y hy;omega)
   have hrb16:=hrb15.keep ho16 (nr rb (hrb13.lt))
   have gb16:=gb15.keep ho16 (nr b (by omega))
   have kp15:=kp13.keep ho15 bd
   have kp16:=kp15.keep ho16 fun y hy=>nr y (by have:=hd4 y hy;omega)
   have hx62:((2*k:Nat):Int)≤4611686018427387904:=by have:=live_le hC.inv.ok hk;omega
   have hk1:s2.st.getD k 0=1:=by rw[hC2.sam.st];exact hk
   obtain⟨l1,_,_⟩:=obAt_len hC2.inv.ok hk1
   have hl15':=rf_le hC2.inv.ok hk1
   refine gO ?_
   refine entryT hen16 ?_
   refine gO1 gb16.cell ?_
   refine callT (cClear (n:=(s2.obAt k).rf.length) (kept:=heldB K S) (F:=55) (caps:=#[.pointer (some ⟨q,0,none⟩)]) hr16 ((2*k:Nat):Int) hx62 (by rw[at_shape hC2.inv.ok hk1];exact l1.symm) hl15' (by kernel_rfl) fun w' y ho=>?_) ?_
   ·rw[hheld];exact vHeld2 (kp16.keep0 ho).q (kp16.keep0 ho).v (kp16.keep0 ho).k (kp16.keep0 ho).s y
   rintro _ w17 ⟨rfl,hr17,ho17⟩
   rw[e2]at hr17
   rw[n2]
   have hrb17:=hrb16.keep ho17 nrb
   have ofp: ∀y,y∈fp→y∈rb::fp∨w13.heap.size≤y:=fun y hy=>.inl (List.mem_cons_of_mem _ hy)
   have o17:Only (rb::fp) w13 w17:=(ho15.trans ho16 rr).trans ho17 ofp
   have hit17:ItAt w17 r2 ms (setM sv) (setM (T.filter (·!=((2*k:Nat):Int)))):=hit16.keep ho17 (fun e=>by have:=hr.lt r2 e;omega) (fun e=>by have:=hr.lt ms e;omega)
   have hcs:=clrC_step (s:=s1) (keep:=heldB K S) hsvn hxK hx
   rw[obX_at]at hcs
   by_cases cn:0<clrN (heldB K S) (s1.obAt k)
   ·rw[if_pos cn]at hcs
    have hcl:=clrC_le s1 (heldB K S) (sv.filter fun y=>!decide (y∈T))
    have hcl2:=List.length_filter_le (fun y=>!decide (y∈T)) sv
    have c7:w17.cell? ⟨rb,7,none⟩=some (.int .i64 (N1+clrC s1 (heldB K S) (sv.filter fun y=>!decide (y∈T)):Nat)):=by rw[hrb17.cell];rfl
    refine gO4 h9 (decide_eq_true cn) c7 (i64_succ (N1+clrC s1 (heldB K S) (sv.filter fun y=>!decide (y∈T))) (by omega)) ?_
    refine stT (i:=7) hrb17 (by simp[rep0]) rfl fun w18 hs18 hat18 ho18=>?_
    have hrb18:At w18 rb (rep0 (K.length+sv.length) (N1+clrC s1 (heldB K S) (sv.filter fun y=>!decide (y∈T.filter (·!=((2*k:Nat):Int)))))):=by rw[hcs,←Nat.add_assoc];exact hat18
    refine gO ?_
    have n1: ∀y,y∈fp→y∉ [rb]:=fun y hy e=>nrb (by simp only[List.mem_singleton]at e;exact e▸hy)
    have hit18:ItAt w18 r2 ms (setM sv) (setM (T.filter (·!=((2*k:Nat):Int)))):=hit17.keep ho18 (by simp only[List.mem_singleton];have:=hrb13.lt;omega) (by simp only[List.mem_singleton];have:=(hd4 ms (by simp)).2;omega)
    refine hnext _ w18 ?_ ⟨T.filter (·!=((2*k:Nat):Int)),s3,hit18,sT,hC3,hr17.keep ho18 n1,hrb18,o17.trans ho18 fun y hy=>by simp only[List.mem_singleton]at hy;exact .inl (by rw[hy];simp)⟩ ?_
    ·(repeat(first|with_reducible exact k_1|with_reducible exact Keeps.ovr _ _ _|refine Keeps.put ?_ rfl _|exact k_1|exact Keeps.ovr _ _ _|refine Keeps.ovr2 ?_ rfl _))
    ·rw[hl15,hit18.left];exact ltT
   ·rw[if_neg cn,Nat.add_zero]at hcs
    rw[decide_eq_false cn]
    refine gO ?_
    refine hnext _ w17 ?_ ⟨T.filter (·!=((2*k:Nat):Int)),s3,hit17,sT,hC3,hr17,by rw[hcs];exact hrb17,o17⟩ ?_
    ·(repeat(first|with_reducible exact k_1|with_reducible exact Keeps.ovr _ _ _|refine Keeps.put ?_ rfl _|exact k_1|exact Keeps.ovr _ _ _|refine Keeps.ovr2 ?_ rfl _))
    ·rw[hl15,hit17.left];exact ltT
  have hT:T=[]:=by cases T with
   |nil=>rfl
   |cons a T=>cases h0
  subst hT
  rw[left_none]at hC2 hrb15
  have z15:=ho15.size
  have o15:Only (b::(fp++fr)) w w15:=o13.trans ho15 fun y hy=>by
   rcases List.mem_cons.1 hy with rfl|hy
   ·exact .inr (by omega)
   ·exact .inl (by simp[hy])
  have kp15:=kp13.keep ho15 bd
  have hB64:=hi.ok.b64
  have hob2:s2.objs=s.objs:=by rw[hC2.sam.objs,hC.sam.objs]
  obtain⟨s3,hkf,hK3⟩:=kill_all hC2.inv (heldB K S)
  have hall:(allH (some s2)).length≤5000:=by rw[allH_len,hob2];omega
  refine gO2 gb15.cell h9 ?_
  refine callT (cKill (keep:=heldB K S) (F:=55) (caps:=#[.pointer (some ⟨q,0,none⟩)]) hr15 (fun x hx=>by have:=(allH_mem.1 hx).le hC2.inv.ok;omega) hall hrb15 nrb (by kernel_rfl) fun w' y ho=>?_) ?_
  ·rw[hheld];exact vHeld2 (kp15.keep ho bd).q (kp15.keep ho bd).v (kp15.keep ho bd).k (kp15.keep ho bd).s y
  rintro _ w16 ⟨hrb16,hr16,ho16⟩
  rw[hkf]at hrb16 hr16
  simp only at hrb16 hr16
  have gb16:=gb15.keep ho16 bnr
  refine gO2 gb16.cell h9 ?_
  refine callT (cRelease hr16 (by rw[hK3.B,hC2.sam.B,hC.sam.B];exact hB64)) ?_
  rintro _ w17 ⟨hr17,ho17⟩
  have hrb17:=hrb16.keep ho17 nrb
  have gb17:=gb16.keep ho17 hbp
  obtain⟨⟨B4,e4⟩,i4⟩:=relAll_spec hK3.inv s3.B.length (Nat.le_refl _)
  obtain⟨s4,hs4'⟩: ∃s4,s4=relAll s3 s3.B.length:=⟨_,rfl⟩
  rw[←hs4']at hr17 i4 e4
  have hob4:s4.objs=s3.objs:=by rw[e4];rfl
  have hl4:s4.objs.length≤5000:=by rw[hob4,hK3.objs,hob2];exact Nat.le_trans (List.length_filter_le _ _) (by omega)
  refine gO2 gb17.cell h9 ?_
  refine callT (cDone hr17 hl4 hrb17) ?_
  rintro _ w18 ⟨hrb18,ho18⟩
  rw[used_fold i4]at hrb18
  have z16:=ho16.size
  have z17:=ho17.size
  have z18:=ho18.size
  have o3w:Only (rb::fp) w15 w18:=((ho16.trans ho17 fun y hy=>.inl (by simp[hy])).trans ho18 fun y hy=>.inl (by simp only[List.mem_singleton]at hy;rw[hy];simp))
  have o18:Only (b::(fp++fr)) w w18:=o15.trans o3w fun y hy=>by
   rcases List.mem_cons.1 hy with rfl|hy
   ·exact .inr (by omega)
   ·exact .inl (by simp[hy])
  have o13w:Only (rb::fp) w13 w18:=ho15.same o3w
  have rtn:rt∉rb::fp:=fun e=>by
   rcases List.mem_cons.1 e with e|e
   ·have:=hrtl.2;omega
   ·have:=hr.lt rt e;have:=hrtl.1;omega
  have hrt18:=hrt13.keep o13w rtn
  have hc18:cellsAt w18 ⟨rb,0,none⟩ 8=some [.int .i64 (s4.objs.length:Int),.int .i64 (wSum s4 s4.objs),.int .i64 ((s2.objs.filter fun i=>!heldB K S ((2*i:Nat):Int)).length:Int),.int .i64 (wSum s2 (s2.objs.filter fun i=>!heldB K S ((2*i:Nat):Int))),.int .i64 0,.int .i64 0,.int .i64 ((K.length+sv.length:Nat):Int),.int .i64 ((N1+clrC s1 (heldB K S) sv:Nat):Int)]:=by
   rw[cellsAt_at hrb18 0 8 (by simp)];rfl
  refine gO2 h9 hc18 ?_
  refine stNT (n:=8) (i:=0) hrt18 rfl (by simp[rep0]) (by simp[oneC]) fun w19 hs19 hat19 ho19=>?_
  rw[setL_rep0]at hat19
  have hc19:cellsAt w19 ⟨rt,0,none⟩ 8=some [.int .i64 (s4.objs.length:Int),.int .i64 (wSum s4 s4.objs),.int .i64 ((s2.objs.filter fun i=>!heldB K S ((2*i:Nat):Int)).length:Int),.int .i64 (wSum s2 (s2.objs.filter fun i=>!heldB K S ((2*i:Nat):Int))),.int .i64 0,.int .i64 0,.int .i64 ((K.length+sv.length:Nat):Int),.int .i64 ((N1+clrC s1 (heldB K S) sv:Nat):Int)]:=by
   rw[cellsAt_at hat19 0 8 (by simp)];rfl
  refine gO1 hc19 ?_
  have nrt: ∀y,y≠rt→y∉ [rt]:=fun y hy=>by simpa using hy
  have f13: ∀y,y∈fl1→y∉rb::fp:=nfp
  have frn: ∀y,y∈fr1→y∉rb::fp:=fun y hy e=>by
   rcases List.mem_cons.1 e with e|e
   ·rcases gfr1 y hy with h'|h'
    ·have:=hR.lt y h';omega
    ·have:=hrb9.lt;omega
   ·rcases gfr1 y hy with h'|h'
    ·exact hpr y e h'
    ·have:=hr.lt y e;omega
  have frt: ∀y,y∈fr1→y≠rt:=fun y hy e=>by
   have:=hrtl
   rcases gfr1 y hy with h'|h'
   ·have:=hR.lt y h';omega
   ·omega
  have fvn: ∀y,y∈fpv→y∉rb::fp∧y≠rt:=fun y hy=>⟨fun e=>by
   have:=gv13 y hy
   rcases List.mem_cons.1 e with e|e
   ·have:=hrb9.lt;omega
   ·have:=hr.lt y e;omega,by have:=gv13 y hy;have:=hrtl.2;omega⟩
  have hidn:(idl n).length=n:=by
   rw[hidl]
   simp only[List.length_map,List.length_take]
   omega
  refine⟨s4,{R with Q:=R.Q++o.take n},Lf n,idl n,[(s4.objs.length:Int),wSum s4 s4.objs,((s2.objs.filter fun i=>!heldB K S ((2*i:Nat):Int)).length:Int),wSum s2 (s2.objs.filter fun i=>!heldB K S ((2*i:Nat):Int)),0,0,((K.length+sv.length:Nat):Int),((N1+clrC s1 (heldB K S) sv:Nat):Int)],K,S,o,s1,s2,s3,n,g13 12,fpv,fl1,fr1,
   ⟨kpt,kpt2,hO,hn,hC,by rw[←hsv];exact hC2,hK3,hs4',rfl,by rw[hidl],by rw[hLf],by rw[hN1,hsv]⟩,rfl,?_,?_,?_,?_,?_,?_,?_,?_,?_⟩
  ·exact(hr17.keep ho18 fun y hy e=>nrb (by simp only[List.mem_singleton]at e;exact e▸hy)).keep ho19 fun y hy=>nrt y (by have:=hr.lt y hy;have:=hrtl.1;omega)
  ·exact(hR13.keep o13w frn).keep ho19 fun y hy=>nrt y (frt y hy)
  ·exact(hg13.keep o13w bnr nfp).keep ho19 (nrt b (by have:=hrtl.1;omega)) fun y hy=>nrt y (by have:=gfl1 y hy;have:=hrtl.2;omega)
  ·rw[hidn]
   exact(hv13.keep o13w fun y hy=>(fvn y hy).1).keep ho19 fun y hy=>nrt y (fvn y hy).2
  ·exact o18.trans ho19 fun y hy=>by simp only[List.mem_singleton]at hy;exact .inr (by have:=hrtl.1;omega)
  ·intro y hy
   exact(gfr1 y hy).imp id fun h'=>by omega
  ·exact fun y hy=>(fl5 y hy).1
  ·intro y hy e
   have:=fl5 y hy
   rcases gfr1 y e with h'|h'
   ·have:=hR.lt y h';omega
   ·omega
  ·intro y hy;have:=gv13 y hy;omega
end Go.Proofs.YteiildhelefodaaGreat
end
section
namespace Go.Proofs.YteiildhelefodaaGreat
set_option maxRecDepth 8000
def eA0:HO:=newH 4
def eA1:HO:=claimM eA0 1 1 (1,0) (0,0)
def eA2:HO:=placeM eA1 64 (0,0,0)
def eA3:HO:=placeM eA2 66 (1,0,0)
def eA4:HO:=setRefM eA3 66 0 64
def rA:Rt.MS:=⟨1,List.replicate 16 0,List.replicate 16 0,[]⟩
theorem eA_f1:claimE eA0 1 1 (1,0)=0∧(placeR eA1 64 (0,0,0)).2=0∧(placeR eA2 66 (1,0,0)).2=0∧setRefE eA3 66 0 64=0∧eA1.map HL.born=some 0∧eA2.map HL.born=some 1:=by decide+kernel
theorem eA_f2:eA4.map (fun s=>(s.objs,adO s 1,adO s 2,idA s 64,idA s 66))=some ([32,33],some 64,some 66,1,2):=by decide+kernel
theorem eA_f3:eA4.map (fun s=>(regE s [] 64,regL s [] 64,regE s [1] 66,regL s [1] 66,tidyL s [1,2]))=some (0,[1],0,[1,2],[1,2]):=by decide+kernel
theorem eA_f4:eA4.map (fun s=>((s.obAt 32).rf,(s.obAt 33).rf,strongO (some s) 64,strongO (some s) 66))=some ([],[64],[],[64]):=by decide+kernel
theorem eA_f5:eA4.map (fun s=>s.B.length)=some 4:=by decide+kernel
theorem rA_leads:Rt.leadsO (some rA)=[]:=by decide+kernel
theorem eA_inv: ∃s,eA4=some s∧s.Inv:=by
 obtain⟨s0,e0,i0,_⟩:=new_inv (n:=4) (by omega) (by omega)
 have e0:eA0=some s0:=e0
 obtain⟨s1,e1,_,i1,_⟩:=(abs_claim i0 1 0).2
 have e1':eA1=some s1:=by unfold eA1;rw[e0];exact e1
 obtain⟨s2,e2,_,i2,_⟩:=abs_place i1 64 (0,0,0)
 have e2':eA2=some s2:=by unfold eA2;rw[e1'];exact e2
 obtain⟨s3,e3,_,i3,_⟩:=abs_place i2 66 (1,0,0)
 have e3':eA3=some s3:=by unfold eA3;rw[e2'];exact e3
 obtain⟨s4,e4,_⟩:=abs_setRef i3.ok 66 0 64
 refine⟨s4,by unfold eA4;rw[e3'];exact e4,i3.setRef e4 (setRef_Ok i3.ok e4)⟩
structure ExA (s:HL):Prop where
 inv:s.Inv
 objs:s.objs=[32,33]
 ad1:adO s 1=some 64
 ad2:adO s 2=some 66
 id1:idA s 64=1
 id2:idA s 66=2
 rf1:(s.obAt 32).rf=[]
 rf2:(s.obAt 33).rf=[64]
 st1:strongO (some s) 64=[]
 st2:strongO (some s) 66=[64]
 reg1:regE s [] 64=0∧regL s [] 64=[1]
 reg2:regE s [1] 66=0∧regL s [1] 66=[1,2]
 td:tidyL s [1,2]=[1,2]
 B:s.B.length=4
theorem exA: ∃s,eA4=some s∧ExA s:=by
 obtain⟨s,e,hi⟩:=eA_inv
 have f1:=eA_f2
 have f2:=eA_f3
 have f3:=eA_f4
 have f4:=eA_f5
 rw[e]at f1 f2 f3 f4
 simp only[Option.map_some,Option.some.injEq,Prod.mk.injEq]at f1 f2 f3 f4
 exact⟨s,e,hi,f1.1,f1.2.1,f1.2.2.1,f1.2.2.2.1,f1.2.2.2.2,f3.1,f3.2.1,f3.2.2.1,f3.2.2.2,⟨f2.1,f2.2.1⟩,⟨f2.2.2.1,f2.2.2.2.1⟩,f2.2.2.2.2,f4⟩
theorem rA_zero {P:Int→Prop} (h0:P 0):RtP P rA:=⟨fun x hx=>by rw[(List.mem_replicate.1 hx).2];exact h0,fun x hx=>by rw[(List.mem_replicate.1 hx).2];exact h0,fun x hx=>absurd hx (by simp[rA])⟩
theorem ExA.snd {s:HL} (h:ExA s):Snd true s rA:=by
 refine⟨fun ob hob r hr=>?_,rA_zero (.inl rfl)⟩
 obtain⟨i,hio,rfl⟩:=List.mem_map.1 hob
 rw[h.objs]at hio
 simp only[List.mem_cons,List.not_mem_nil,or_false]at hio
 rcases hio with rfl|rfl
 ·rw[h.rf1]at hr;simp at hr
 ·rw[h.rf2]at hr
  simp only[List.mem_singleton]at hr
  subst hr
  exact .inr ⟨rfl,32,rfl,mem_objs.1 (by rw[h.objs];simp)⟩
theorem kpt_none {s:HL} {F K:List Int} (h:Kpt s F K) (hF: ∀x,x∈F→ ¬Liv s x):K=[]:=by
 have: ∀x,x∈K→False:=h.ind (fun _=>False) ⟨fun x hx hl=>hF x hx hl,fun _ _ _ hp _ _=>hp,fun _ _ hp _ _ _=>hp⟩
 cases K with
 |nil=>rfl
 |cons x K=>exact absurd (List.mem_cons_self) (this x)
theorem rs_none {s:HL} {x y:Int} (h:strongO (some s) x=[]): ¬Rs s x y:=by
 intro e
 induction e with
 |one e=>rw[h]at e;simp at e
 |more _ _ ih=>exact ih
theorem ordr_one {s:HL} {x:Int} {o:List Int} (h:Ordr s [x] o):o=[x]:=by
 have:=ordr_mem h
 exact List.perm_singleton.1 this
theorem ExA.first {s:HL} (h:ExA s) {s4:HL} {R':Rt.MS} {L' ids rep K S o:List Int} {s1 s2 s3:HL} {n:Nat} (c:ColX s rA [1,2] s4 R' L' ids rep K S o s1 s2 s3 n):
  s4.objs.length=2∧L'=[]∧ids=[2,1]∧R'= {rA with Q:=[66,64]}∧rep.getD 0 0=2:=by
 have hl:=rA_leads
 have l64:Liv s 64:=⟨32,rfl,mem_objs.1 (by rw[h.objs];simp)⟩
 have l66:Liv s 66:=⟨33,rfl,mem_objs.1 (by rw[h.objs];simp)⟩
 have hK:K=[]:=kpt_none c.kpt fun x hx=>by rw[hl]at hx;simp at hx
 subst hK
 have hD:deadL s [1,2] []=[64,66]:=by
  unfold deadL listA
  simp[h.ad1,h.ad2]
 have hk2:=c.kpt2
 rw[hl,hD]at hk2
 have hSl:S.length=2:=by
  have h1:=nodup_le hk2.nd hk2.liv
  rw[h.objs]at h1
  have h2:([64,66]:List Int).length≤S.length:=nodup_sub (by decide) fun x hx=>hk2.cls.f x (by simpa using hx) (by
   simp only[List.mem_cons,List.not_mem_nil,or_false]at hx
   rcases hx with rfl|rfl
   ·exact l64
   ·exact l66)
  simp only[List.length_cons,List.length_nil]at h1 h2
  omega
 have b1:bef s 66 64=true:=bef_iff.2 ⟨.one (by rw[h.st2];simp),rs_none h.st1⟩
 have b2:bef s 64 66=false:=by
  rw[Bool.eq_false_iff]
  exact fun e=>rs_none h.st1 (bef_iff.1 e).1
 have ho:o=[66,64]:=by
  have:=c.ord
  rw[hD]at this
  cases this with
  |@cons _ o' i hi h1 h2 h3=>
   have hi2:i<2:=hi
   have:i=1:=by
    have:i=0∨i=1:=by omega
    rcases this with rfl|rfl
    ·simp[b1]at h2
    ·rfl
   subst this
   have e:([64,66]:List Int).eraseIdx 1=[64]:=rfl
   rw[e]at h3
   rw[ordr_one h3];rfl
 have hn:n=2:=by rw[c.nn,ho];rfl
 have hids:ids=[2,1]:=by rw[c.ii,ho,hn];simp[h.id1,h.id2]
 have hlen:=c.len.trans hSl
 refine⟨hlen,?_,hids,?_,?_⟩
 ·rw[c.LL,h.td,hids];decide
 ·rw[c.RR,ho,hn];rfl
 ·rw[c.rp,hlen];rfl
theorem ColX.none (s:HL) {R:Rt.MS} {s4:HL} {R':Rt.MS} {L' ids rep K S o:List Int} {s1 s2 s3:HL} {n:Nat} (c:ColX s R [] s4 R' L' ids rep K S o s1 s2 s3 n) (hl:Rt.leadsO (some R)=[]):rep.getD 2 0=(s.objs.length:Int):=by
 have hK:K=[]:=kpt_none c.kpt fun x hx=>by rw[hl]at hx;simp at hx
 have hS:S=[]:=kpt_none c.kpt2 fun x hx=>by
  rw[hl]at hx
  unfold deadL listA at hx
  simp at hx
 subst hK hS
 rw[c.rp]
 show((s2.objs.filter fun i=>!heldB [] [] ((2*i:Nat):Int)).length:Int)=_
 rw[show(fun i:Nat=>!heldB [] [] ((2*i:Nat):Int))=fun _=>true from funext fun i=>by simp[heldB,savL],List.filter_eq_self.2 fun _ _=>rfl,c.c2.sam.objs,c.c1.sam.objs]
end Go.Proofs.YteiildhelefodaaGreat
end
section
namespace Go.Proofs.YteiildhelefodaaGreat
set_option maxRecDepth 20000
structure RgA (s:HL) (L A:List Int):Prop where
 e:L=A.map (idA s)
 nd:A.Nodup
 liv: ∀a,a∈A→Liv s a
theorem adO_id {s:HL} (hi:s.Inv) {a:Int} (h:Liv s a):adO s (idA s a)=some a:=by
 obtain⟨k,rfl,hk⟩:=h
 have h1:=hi.pm.a _ hk
 have e:idA s ((2*k:Nat):Int)=s.W.getD (2*k) 0:=by
  unfold idA;rw[at_ident hi.ok hk];rfl
 rw[e]
 unfold adO
 rw[h1]
theorem idA_inj {s:HL} (hi:s.Inv) {a c:Int} (ha:Liv s a) (hc:Liv s c) (e:idA s a=idA s c):a=c:=by
 have h1:=adO_id hi ha
 rw[e,adO_id hi hc]at h1
 exact(Option.some.inj h1).symm
theorem RgA.list {s:HL} (hi:s.Inv) {L A:List Int} (h:RgA s L A):listA s L=A:=by
 rw[h.e]
 unfold listA
 rw[List.filterMap_map]
 have: ∀l:List Int,(∀a,a∈l→Liv s a)→l.filterMap (adO s∘idA s)=l:=fun l=>by
  induction l with
  |nil=>intro _;rfl
  |cons a l ih=>
   intro hl
   rw[List.filterMap_cons_some (show(adO s∘idA s) a=some a from adO_id hi (hl a (by simp))),ih fun b hb=>hl b (by simp[hb])]
 exact this A h.liv
theorem RgA.tidy {s:HL} (hi:s.Inv) {L A:List Int} (h:RgA s L A):tidyL s L=L:=by
 unfold tidyL
 refine List.filter_eq_self.2 fun x hx=>?_
 rw[h.e]at hx
 obtain⟨a,ha,rfl⟩:=List.mem_map.1 hx
 rw[adO_id hi (h.liv a ha)];rfl
theorem RgA.mem {s:HL} (hi:s.Inv) {L A:List Int} (h:RgA s L A) {a:Int} (ha:Liv s a):idA s a∈L↔a∈A:=by
 rw[h.e,List.mem_map]
 constructor
 ·rintro⟨c,hc,e⟩
  rw[←idA_inj hi (h.liv c hc) ha e];exact hc
 ·intro hc;exact⟨a,hc,rfl⟩
theorem identO_live {s:HL} (hi:s.Inv) {a:Int} (h:Liv s a):identO (some s) a=(idA s a,0):=by
 obtain⟨k,rfl,hk⟩:=h
 unfold idA
 rw[at_ident hi.ok hk]
theorem RgA.reg {s:HL} (hi:s.Inv) {L A:List Int} (h:RgA s L A) (hl:A.length<64) {a:Int} (ha:Liv s a):regE s L a=(if a∈A then 8 else 0)∧regL s L a=(if a∈A then L else L++[idA s a]):=by
 have hL:L.length=A.length:=by rw[h.e,List.length_map]
 unfold regE regL
 rw[identO_live hi ha,h.tidy hi]
 simp only[ne_eq,not_true_eq_false,if_false]
 by_cases c:a∈A
 ·rw[if_pos c,if_pos c,if_pos ((h.mem hi ha).2 c),if_pos ((h.mem hi ha).2 c)]
  exact⟨rfl,rfl⟩
 ·have c':=fun e=>c ((h.mem hi ha).1 e)
  rw[if_neg c,if_neg c,if_neg c',if_neg c',if_neg (by omega),if_neg (by omega)]
  exact⟨rfl,rfl⟩
theorem RgA.add {s:HL} {L A:List Int} (h:RgA s L A) {a:Int} (ha:Liv s a) (hn:a∉A):RgA s (L++[idA s a]) (A++[a]):=by
 refine⟨by rw[h.e,List.map_append];rfl,?_,fun c hc=>?_⟩
 ·rw[List.nodup_append]
  refine⟨h.nd,List.pairwise_singleton _ _,fun x hx y hy e=>?_⟩
  simp only[List.mem_singleton]at hy
  exact hn (by rw[←hy,←e];exact hx)
 ·rcases List.mem_append.1 hc with hc|hc
  ·exact h.liv c hc
  ·simp only[List.mem_singleton]at hc;rw[hc];exact ha
end Go.Proofs.YteiildhelefodaaGreat
end
section
namespace Go.Proofs.YteiildhelefodaaGreat
set_option maxRecDepth 8000
theorem cInts {w:World} {va vb:Value} {xs ys:List Int} {fa fb:List Nat} (ha:Sl w 1 va xs.length (ints xs) fa) (hb:Sl w 1 vb ys.length (ints ys) fb) (hl:xs.length≤100000):
  Cs Tryz.prog 15 [va,vb] w fun v w'=>v=.bool (decide (xs=ys))∧Only [] w w':=by
 obtain⟨aa,ca,rfl⟩:=ha.val
 obtain⟨ab,cb,rfl⟩:=hb.val
 refine enter_law12_Ints rfl ?_
 unfold x_law12_Ints
 by_cases c0:xs.length=ys.length
 rotate_left
 ·refine gO1 (bne_int_true (show¬(xs.length:Int)=(ys.length:Int) by omega)) ?_
  exact⟨by rw[decide_eq_false (fun e=>c0 (by rw[e]))],Only.refl _ _⟩
 refine gO1 (bne_int_false (show(xs.length:Int)=(ys.length:Int) by omega)) ?_
 refine run_loop (5::11::12::13::14::15::16::17::18::19::20::21::22::23::24::25::[]) (fun g w'=> ∃i:Nat,g 5=.int .i64 (i:Int)∧i≤xs.length∧(∀j,j<i→xs.getD j 0=ys.getD j 0)∧Only [] w w') (fun g _=>upTo xs.length 5 g) ⟨0,by simp only[go_sem];rfl,by omega,fun j hj=>absurd hj (by omega),Only.refl _ _⟩ fun g w1 hI hnext=>?_
 obtain⟨i,h5,hi,heq,ho⟩:=hI
 by_cases c1:i<xs.length
 rotate_left
 ·refine gO2 h5 (decide_eq_false (show¬(i:Int)<(xs.length:Int) by omega)) ?_
  refine⟨?_,ho⟩
  rw[decide_eq_true]
  refine List.ext_getElem c0 fun j h1 h2=>?_
  have:=heq j (by omega)
  simpa[List.getD_eq_getElem?_getD,h1,h2]using this
 obtain⟨ga,_,ya,ea,hata,_,_⟩:=(ha.keep0 ho).pos (by omega)
 obtain⟨gb,_,yb,eb,hatb,_,_⟩:=(hb.keep0 ho).pos (by omega)
 cases ea
 cases eb
 have ci:(0:Int)≤(i:Int)∧(i:Int)<(xs.length:Int):=by omega
 have ci':(0:Int)≤(i:Int)∧(i:Int)<(ys.length:Int):=by omega
 have da:w1.drew.cell? ⟨ga,i,none⟩=some (.int .i64 (xs.getD i 0)):=by rw[hata.drew.cell];exact ints_append_get ya (by omega)
 have db:w1.drew.cell? ⟨gb,i,none⟩=some (.int .i64 (ys.getD i 0)):=by rw[hatb.drew.cell];exact ints_append_get yb (by omega)
 have od:=ho.nil (Only.drew [] w1)
 by_cases c2:xs.getD i 0=ys.getD i 0
 ·(repeat(first|with_reducible(first|refine nx ?_|refine r_6 rfl ?_)|simp only[go_sem,h5,decide_eq_true ci.2,if_pos ci,if_pos ci',Int.toNat_natCast,Nat.mul_one,da,db,bne_int_false c2,i64_succ i (by omega)]))
  refine hnext _ _ ?_ ⟨i+1,?_,by omega,fun j hj=>?_,od⟩ ?_
  ·(repeat(first|with_reducible exact k_1|with_reducible exact Keeps.ovr _ _ _|refine Keeps.put ?_ rfl _|exact k_1|exact Keeps.ovr _ _ _|refine Keeps.ovr2 ?_ rfl _))
  ·simp only[go_sem]
  ·by_cases e:j=i
   ·rw[e];exact c2
   ·exact heq j (by omega)
  ·rw[upTo_int (i:=i) h5,upTo_int (k:=.i64) (i:=i+1) (by simp only[go_sem])];omega
 ·refine gJ7 h5 (decide_eq_true ci.2) (eq_true ci) (eq_true ci') da db (bne_int_true c2) ?_
  exact⟨by rw[decide_eq_false (fun e=>c2 (by rw[e]))],od⟩
theorem U8At.up {h0 h1:Nat} {w:World} {v:Value} {n sz:Nat} {f:Nat→Nat→Nat} (h:U8At h0 w v n sz f) (hh:h0≤h1):U8At h1 w v n sz f:=by
 obtain⟨a,c,e,hf,hc⟩:=h
 exact⟨a,c,e,hf,fun i hi=>by obtain⟨p,e1,e2,e3⟩:=hc i hi;exact⟨p,e1,by omega,e3⟩⟩
theorem BegAt.keep0 {h0 h1:Nat} {w w':World} {cs:List Value} {g:BG} {vO vD vL vP vN:Value} (h:BegAt h0 w cs g vO vD vL vP vN) (hz:h0≤w.heap.size) (hh:h0≤h1) (o:Only [] w w'):BegAt h1 w' cs g vO vD vL vP vN:=
 ⟨h.e,h.l0,h.l1,(h.o.keep hz o (by simp)).up hh,(h.d.keep hz o (by simp)).up hh,(h.l.keep hz o (by simp)).up hh,(h.p.keep hz o (by simp)).up hh,(h.n.keep hz o (by simp)).up hh⟩
end Go.Proofs.YteiildhelefodaaGreat
end
section
namespace Go.Proofs.YteiildhelefodaaGreat
set_option maxRecDepth 20000
structure Bgn (g:BG) (w0 w:World) (nl b hb rb qb kb:Nat) (s:HL) (R:Rt.MS) (fh fr ff fk:List Nat) (gb:Nat) (L A:List Int) (flr:List Nat):Prop where
 sc:SCs w b hb rb qb kb s R fh fr ff fk
 rg:RG w gb ⟨hb,0,none⟩ (some ⟨rb,0,none⟩) L flr
 ra:RgA s L A
 n1:A.length≤nl
 n2:A.length≤40
 sz:Sz s 40 (2+g.bl%23)
 sn:Snd true s R
 op:OpenR g (s,R)
 ge: ∀y,y∈b::(fh++(fr++(ff++fk)))→w0.heap.size≤y
 gg:w0.heap.size≤gb
 ng:gb∉b::(fh++(fr++(ff++fk)))
 nl: ∀y,y∈flr→y∉b::(fh++(fr++(ff++fk)))
 gl: ∀y,y∈flr→w0.heap.size≤y
theorem atS_live {s:HL} {n:Nat} (h:atS s n≠0):Liv s (atS s n):=((atS_ph s n).resolve_left h).2
set_option maxHeartbeats 1000000 in
theorem cBegun {w:World} {cs:List Value} {g:BG} {vO vD vL vP vN vl:Value} {nl:Nat} {fl:Nat→Nat→Nat} (h:BegAt w.heap.size w cs g vO vD vL vP vN) (hl:U8At w.heap.size w vl nl 1 fl):
  Cs Tryz.prog 9 [.agg ⟨cs⟩,vl] w fun v w'=>Only [] w w'∧ ∃b hb rb qb kb s R fh fr ff fk gb L A flr,v=.tuple #[.pointer (some ⟨b,0,none⟩),.pointer (some ⟨gb,0,none⟩)]∧Bgn g w w' nl b hb rb qb kb s R fh fr ff fk gb L A flr:=by
 have hcs:=h.e
 refine enter_law20_begun rfl ?_
 unfold x_law20_begun
 refine gO ?_
 refine boxT fun q w1 hq hs1 hat1 ho1=>?_
 have hz1:=ho1.size
 have hc1:cellsAt w1 ⟨q,0,none⟩ 7=some cs:=by rw[cellsAt_at hat1 0 7 (by rw[hcs];simp),hcs];rfl
 have hg1:=h.keep0 (Nat.le_refl _) hz1 ho1
 refine gO1 hc1 ?_
 refine callT (cOpen1 hg1) ?_
 rintro _ w2 ⟨b,rfl,s,R,fp,⟨hb,rb,qb,kb,fh,fr,ff,fk,rfl,sc⟩,gfp,ho2,sz,sn,op⟩
 have z2:=ho2.size
 have o2:=ho1.nil ho2
 refine gO ?_
 refine run_drt [b] ?_
 have od:=Only.drew [] w2
 have scd:=sc.keep0 od
 refine gO1 scd.at_.cell ?_
 have hRok:=sc.Rok
 have hmu:Rt.mutO (some R)≠0:=by
  have:=hRok.m1
  show(R.M:Int)≠0
  omega
 refine callS (gNew scd.h sc.inv.ok scd.r hmu) ?_
 rintro _ w3 ⟨ho3,gb,rfl,hg3,ggb⟩
 refine⟨.inl rfl,?_⟩
 have o23:=od.nil ho3
 have o3:=o2.nil o23
 have z3:=o23.size
 have sc3:=sc.keep0 o23
 have ggb2:w2.heap.size≤gb:=ggb
 obtain⟨al,cl,rfl,fb,hcl⟩:=id hl
 have flt:=sc.lt
 have ngb:gb∉b::(fh++(fr++(ff++fk))):=fun e=>by have:=flt gb e;omega
 have hbfh:gb∉fh:=fun e=>ngb (by simp[e])
 refine gO1 (bne_int_false (rfl:(0:Int)=0)) ?_
 refine run_loop (9::10::11::34::35::36::37::38::39::40::41::42::43::44::45::46::47::48::49::50::51::52::53::54::55::56::57::58::59::60::61::62::[]) (fun g' w'=> ∃(i:Nat) (L A:List Int) (flr:List Nat),g' 9=.int .i64 (i:Int)∧i≤40∧i≤nl∧RgA s L A∧A.length≤i∧RG w' gb ⟨hb,0,none⟩ (some ⟨rb,0,none⟩) L flr∧(∀y,y∈flr→w3.heap.size≤y)∧Only [gb] w3 w') (fun g' _=>upTo 40 9 g')
  ⟨0,[],[],[],by simp only[go_sem];rfl,by omega,by omega,⟨rfl,List.nodup_nil,by simp⟩,by simp,hg3,by simp,Only.refl _ _⟩ fun g4 w4 hI hnext=>?_
 obtain⟨i,L,A,flr,h9,hi40,hinl,ra,hA,hg4,gfl,ho4⟩:=hI
 have z4:=ho4.size
 have keepF: ∀ {S:List Nat},(∀x,x∈S→x∈b::(fh++(fr++(ff++fk))))→ ∀x,x∈S→x∉ [gb]:=fun hS x hx e=>by
  simp only[List.mem_singleton]at e
  exact ngb (e▸hS x hx)
 have sc4:SCs w4 b hb rb qb kb s R fh fr ff fk:=sc3.keep ho4 (keepF fun _ h=>h)
 have o4:Only [] w w4:=o3.trans ho4 fun y hy=>by simp only[List.mem_singleton]at hy;exact .inr (by omega)
 have bgn:Bgn g w w4 nl b hb rb qb kb s R fh fr ff fk gb L A flr:=⟨sc4,hg4,ra,by omega,by omega,sz,sn,op,fun y hy=>by have:=gfp y hy;omega,by omega,ngb,fun y hy e=>by have:=gfl y hy;have:=flt y e;omega,fun y hy=>by have:=gfl y hy;have:=o3.size;omega⟩
 by_cases c1:i<nl
 rotate_left
 ·refine gO2 h9 (decide_eq_false (show¬(i:Int)<(nl:Int) by omega)) ?_
  exact⟨o4,b,hb,rb,qb,kb,s,R,fh,fr,ff,fk,gb,L,A,flr,rfl,bgn⟩
 by_cases c2:i<40
 rotate_left
 ·refine gO3 h9 (decide_eq_true (show(i:Int)<(nl:Int) by omega)) (decide_eq_false (show¬(i:Int)<40 by omega)) ?_
  exact⟨o4,b,hb,rb,qb,kb,s,R,fh,fr,ff,fk,gb,L,A,flr,rfl,bgn⟩
 have ci:(0:Int)≤(i:Int)∧(i:Int)<(nl:Int):=by omega
 obtain⟨p,rfl,hp1,hp2⟩:=hcl i c1
 have m100:((fl i 0:Nat):Int).tmod 100=((fl i 0%100:Nat):Int):=tmodN _ 100
 have hc0:w4.cell? (p.add i)=some (u8V (fl i 0)):=by
  have:=hp2 0 (by omega)
  rw[Nat.mul_one]at this
  rw[cell_of_heap (w:=w) (w':=w4) (by rw[add_block];exact o4.block _ hp1 (by simp))]
  exact this
 have z1:=i64_succ i (by omega)
 have hA64:A.length<64:=by omega
 (repeat(first|with_reducible(first|refine nx ?_|refine r_6 rfl ?_)|simp only[go_sem,h9,decide_eq_true ci.2,decide_eq_true (show(i:Int)<40 by omega),if_pos ci,Int.toNat_natCast,Nat.mul_one,hc0,u8V,conv_u8 (fl i 0) (fb i 0),m100]))
 refine callT (cAt sc4 (fl i 0%100) (by omega)) ?_
 rintro _ w5 ⟨rfl,ho5⟩
 obtain⟨y,hy⟩: ∃y,y=atS s (fl i 0%100):=⟨_,rfl⟩
 have hyle:=atS_le sc.inv.ok (fl i 0%100)
 rw[←hy]at hyle⊢
 by_cases c0:y=0
 ·refine gO3 (bne_int_false c0) h9 z1 ?_
  refine hnext _ w5 ?_ ⟨i+1,L,A,flr,?_,by omega,by omega,ra,by omega,hg4.keep0 ho5,gfl,ho4.nil ho5⟩ ?_
  ·(repeat(first|with_reducible exact k_1|with_reducible exact Keeps.ovr _ _ _|refine Keeps.put ?_ rfl _|exact k_1|exact Keeps.ovr _ _ _|refine Keeps.ovr2 ?_ rfl _))
  ·simp only[go_sem]
  ·rw[upTo_int (i:=i) h9,upTo_int (k:=.i64) (i:=i+1) (by simp only[go_sem])];omega
 have hlv:Liv s y:=by rw[hy]at c0⊢;exact atS_live c0
 refine gO1 (bne_int_true c0) ?_
 refine callT (gRegister (hg4.keep0 ho5) (by rw[ra.e,List.length_map];omega) (sc4.h.keep0 ho5) sc.inv hbfh y (by omega)) ?_
 rintro _ w6 ⟨rfl,f6,hg6,ho6,gf6⟩
 obtain⟨r1,r2⟩:=ra.reg sc.inv hA64 hlv
 rw[r2]at hg6
 rw[r1]
 have z5:=ho5.size
 have gf6': ∀y,y∈f6→w3.heap.size≤y:=fun y hy=>(gf6 y hy).elim (gfl y) fun h'=>by omega
 by_cases cm:y∈A
 ·rw[if_pos cm]at hg6
  rw[if_pos cm]
  refine gO4 (bne_int_true (show¬(8:Int)=0 by omega)) (bne_int_false (rfl:(8:Int)=8)) h9 z1 ?_
  refine hnext _ w6 ?_ ⟨i+1,L,A,f6,?_,by omega,by omega,ra,by omega,hg6,gf6',(ho4.nil ho5).same ho6⟩ ?_
  ·(repeat(first|with_reducible exact k_1|with_reducible exact Keeps.ovr _ _ _|refine Keeps.put ?_ rfl _|exact k_1|exact Keeps.ovr _ _ _|refine Keeps.ovr2 ?_ rfl _))
  ·simp only[go_sem]
  ·rw[upTo_int (i:=i) h9,upTo_int (k:=.i64) (i:=i+1) (by simp only[go_sem])];omega
 ·rw[if_neg cm]at hg6
  rw[if_neg cm]
  refine gO3 (bne_int_false (rfl:(0:Int)=0)) h9 z1 ?_
  refine hnext _ w6 ?_ ⟨i+1,L++[idA s y],A++[y],f6,?_,by omega,by omega,ra.add hlv cm,by rw[List.length_append,List.length_singleton];omega,hg6,gf6',(ho4.nil ho5).same ho6⟩ ?_
  ·(repeat(first|with_reducible exact k_1|with_reducible exact Keeps.ovr _ _ _|refine Keeps.put ?_ rfl _|exact k_1|exact Keeps.ovr _ _ _|refine Keeps.ovr2 ?_ rfl _))
  ·simp only[go_sem]
  ·rw[upTo_int (i:=i) h9,upTo_int (k:=.i64) (i:=i+1) (by simp only[go_sem])];omega
end Go.Proofs.YteiildhelefodaaGreat
end
section
namespace Go.Proofs.YteiildhelefodaaGreat
set_option maxRecDepth 20000
end Go.Proofs.YteiildhelefodaaGreat
end
section
namespace Go.Proofs.YteiildhelefodaaGreat
set_option maxRecDepth 8000
section
variable {s:HL} {R:Rt.MS} {L A:List Int} {s4:HL} {R':Rt.MS} {L' ids rep K S o:List Int} {s1 s2 s3:HL} {n:Nat}
end
end Go.Proofs.YteiildhelefodaaGreat
end
section
namespace Go.Proofs.YteiildhelefodaaGreat
set_option maxRecDepth 8000
theorem small_words {k:Nat} (h:k<6):wordsS ((0:Int),(k:Int),(0:Int))≤32:=by
 have: ∀k:Nat,k<6→wordsS ((0:Int),(k:Int),(0:Int))≤32:=by decide+kernel
 exact this k h
theorem place_small {s s':HL} {k:Nat} (hk:k<6) (hi:s.Inv) (hz:RfP (· =0) s.abs) (h:PlaceU s ((0:Int),(k:Int),(0:Int)) 0 s'):s'.Inv∧RfP (· =0) s'.abs∧s.objs.length≤s'.objs.length:=by
 obtain⟨a,c,hf,hp⟩:=h
 have hw:=small_words hk
 rcases hp with⟨rfl,rfl⟩|⟨s3,hc,hp⟩
 ·exact⟨hi,hz,Nat.le_refl _⟩
 have key:s3.Inv∧RfP (· =0) s3.abs∧s3.abs.O=s.abs.O:=by
  rcases hc with⟨_,rfl⟩|⟨rfl,_⟩|⟨rfl,hc⟩
  ·exact⟨hi,hz,rfl⟩
  ·rcases hf with⟨h1,_⟩|⟨_,h2⟩
   ·omega
   ·rcases h2 with⟨h2,_⟩|⟨_,_,_,h3⟩<;>omega
  ·rcases hf with⟨h1,_⟩|⟨_,h2⟩
   ·omega
   rcases h2 with⟨h2,_⟩|⟨_,k',_,h3⟩
   ·omega
   rcases h3 with⟨h3,_⟩|⟨_,_,h4,rfl⟩
   ·omega
   have ek:((64*k':Nat):Int)/64=(k':Int):=by omega
   rw[ek]at hc
   obtain⟨t,e1,e2,e3,_⟩:=(abs_claim hi k' 0).2
   have:s3=t:=Option.some.inj (hc.symm.trans e1)
   subst this
   refine⟨e3,by rw[e2];exact hz.claimM _ _,?_⟩
   rw[e2]
   unfold RL.claimM
   split<;>rfl
 obtain⟨i3,z3,o3⟩:=key
 obtain⟨t,e1,e2,e3,_⟩:=abs_place i3 a ((0:Int),(k:Int),(0:Int))
 have:s'=t:=Option.some.inj (hp.symm.trans e1)
 subst this
 refine⟨e3,by rw[e2];exact z3.placeM rfl _ _,?_⟩
 rw[←abs_len s,←abs_len s',e2,←o3]
 unfold RL.placeM
 split
 ·unfold RL.putM
  simp only[List.length_append,List.length_take,List.length_drop,List.length_singleton]
  have:=posO_le s3.abs.O a
  omega
 ·exact Nat.le_refl _
theorem first_small: ∀k:Nat,k<6→(placeM (claimM (newH 10) 1 1 (1,0) (0,0)) 64 ((0:Int),(k:Int),(0:Int))).map (fun s=>s.objs.length)=some 1:=by decide+kernel
theorem place_first {s s':HL} {k:Nat} (hk:k<6) (hs:newH 10=some s) (h:PlaceU s ((0:Int),(k:Int),(0:Int)) 0 s'):s'.objs.length=1:=by
 obtain⟨s0,n1,n2,n3,n4,n5⟩:=new_inv (n:=10) (by omega) (by omega)
 have:s=s0:=Option.some.inj (hs.symm.trans n1)
 subst this
 obtain⟨a,c,hf,hp⟩:=h
 have hw:=small_words hk
 have hB:s.abs.B=List.replicate 10 (0,0):=by rw[n3]
 have hst: ∀i:Int,0≤i→i<10→s.abs.stateR i=0:=fun i h0 h1=>by
  unfold RL.stateR
  rw[hB,if_pos ⟨h0,by simpa using h1⟩,List.getD_eq_getElem?_getD,List.getElem?_replicate,if_pos (by omega)];rfl
 have hBl:s.abs.B.length=10:=by rw[hB];rfl
 have hfree:s.abs.FreeAt 1 1:=⟨by omega,by omega,fun j hj=>hst _ (by omega) (by omega)⟩
 have hgap: ∀i a',¬s.abs.GapAt ((0:Int),(k:Int),(0:Int)) 0 i a':=fun i a' hg=>by
  have:=hst (i:Int) (by omega) (by have:=hg.2.1;omega)
  rw[hg.2.2.1]at this
  omega
 rcases hf with⟨h1,_⟩|⟨_,h2⟩
 ·omega
 rcases h2 with⟨_,h2⟩|⟨_,k',hk',h3⟩
 ·rcases h2 with⟨h2,_⟩|⟨_,i,hg,_⟩
  ·cases h2
  ·exact absurd hg (hgap i a)
 have ek:k'=1:=by
  rcases hk' with⟨_,h5⟩|⟨h5,h6⟩
  ·exact absurd hfree (h5 1)
  ·have h7:=h5.1
   rcases Nat.lt_or_ge 1 k' with h8|h8
   ·exact absurd hfree (h6 1 h8)
   ·omega
 subst ek
 have hcl:s.abs.claimE ((1:Nat):Int) 0=0:=by
  unfold RL.claimE
  rw[hB];rfl
 rcases h3 with⟨_,h3|h3⟩|⟨rfl,_,_,rfl⟩
 ·omega
 ·exact absurd hcl h3
 rcases hp with⟨h0,_⟩|⟨s3,hc,hp⟩
 ·omega
 rcases hc with⟨h0,_⟩|⟨h0,_⟩|⟨_,hc⟩
 ·omega
 ·omega
 have:=first_small k hk
 rw[hs,show(1:Int)=((64*1:Nat):Int)/64 from rfl]at this
 rw[show((((64*1:Nat):Int)/64:Int),(0:Int))=((1:Int),(0:Int))from rfl,show((64*1:Nat):Int)/64=1 from rfl]at this
 rw[show(((64*1:Nat):Int)/64)=1 from rfl]at hc
 rw[hc,show(64:Int)=((64*1:Nat):Int)from rfl,hp]at this
 simpa using this
theorem oldest_begin {g:BG} {d:Nat} {s:HL} {R:Rt.MS} (h1:g.bl=8) (h2:g.mu=0) (h3:g.nO=10) (h4:g.nD=0) (h5:g.nL=0) (h6:g.nP=0) (h7:g.nN=0) (hf: ∀i,i<10→g.fO i 0=0∧g.fO i 1=0∧g.fO i 2=d∧g.fO i 3=0) (h:OpenR g (s,R)):
  R=rA∧(∀x y,y∉strongO (some s) x)∧0<s.objs.length:=by
 unfold OpenR Op5 Op4 Op3 Op2 at h
 rw[h3,h4,h5,h6,h7]at h
 have h:Op1 g 10 (s,R):=h
 have key: ∀n,n≤10→ ∀x:HS,Op1 g n x→x.1.Inv∧RfP (· =0) x.1.abs∧x.2=rA∧(1≤n→0<x.1.objs.length):=by
  intro n
  induction n with
  |zero=>
   intro _ x hx
   obtain⟨e1,e2⟩:=hx
   rw[h1]at e1
   rw[h2]at e2
   obtain⟨s0,n1,n2,n3,_,_⟩:=new_inv (n:=10) (by omega) (by omega)
   have:x.1=s0:=Option.some.inj (e1.symm.trans n1)
   rw[this]
   refine⟨n2,fun ob hob=>?_,(Option.some.inj e2).symm,fun e=>by omega⟩
   rw[n3]at hob;simp at hob
  |succ n ih=>
   intro hn x hx
   obtain⟨y,hy,hp,e2⟩:=hx
   obtain⟨i1,i2,i3,i4⟩:=ih (by omega) y hy
   obtain⟨f0,f1,f2,f3⟩:=hf n (by omega)
   rw[f0,f1,f2,f3]at hp
   have esh:shapeB 0 0 d=((0:Int),((d%6:Nat):Int),(0:Int)):=by unfold shapeB;simp
   rw[esh]at hp
   have hp:PlaceU y.1 ((0:Int),((d%6:Nat):Int),(0:Int)) 0 x.1:=hp
   obtain⟨j1,j2,j3⟩:=place_small (Nat.mod_lt _ (by omega)) i1 i2 hp
   refine⟨j1,j2,e2.trans i3,fun _=>?_⟩
   by_cases c:n=0
   ·subst c
    obtain⟨e1,_⟩:=hy
    rw[h1]at e1
    rw[place_first (Nat.mod_lt _ (by omega)) e1 hp];omega
   ·have:=i4 (by omega);omega
 obtain⟨j1,j2,j3,j4⟩:=key 10 (Nat.le_refl _) (s,R) h
 refine⟨j3,fun x y hy=>?_,j4 (by omega)⟩
 have hne:y≠0:=by
  unfold strongO at hy
  obtain⟨_,_,_,h0,_⟩:=mem_strongR.1 hy
  exact h0
 unfold strongO at hy
 obtain⟨j,hj,hyj,_,_⟩:=mem_strongR.1 hy
 have hsn:(shapeO (some s) x).1.1.toNat≠0→hasO (some s) x=true:=fun hh=>by
  cases e:hasO (some s) x with
  |true=>rfl
  |false=>
   exfalso
   apply hh
   unfold shapeO
   simp[objE,e]
 have hx:hasO (some s) x=true:=hsn (by
  intro e
  unfold refsO at hj
  rw[e]at hj
  simp at hj)
 obtain⟨k,rfl,hk⟩:=(has_liv j1.ok).1 hx
 have hz:=j2 (s.obAt k) (List.mem_map.2 ⟨k,mem_objs.2 hk,rfl⟩)
 rw[refsO_at j1.ok hk]at hyj hj
 have:(s.obAt k).rf.getD j 0∈(s.obAt k).rf:=by simp[hj]
 exact hne (by rw[hyj];exact hz _ this)
theorem ordr_id {s:HL} (hn: ∀x y,bef s x y=false) {D o:List Int} (h:Ordr s D o):o=D:=by
 induction h with
 |nil=>rfl
 |@cons l o i hi h1 h2 h3 ih=>
  have hi0:i=0:=by
   refine Decidable.byContradiction fun c=>?_
   have:=h1 0 (by omega)
   rw[List.any_eq_true]at this
   obtain⟨x,_,hx⟩:=this
   rw[hn]at hx;cases hx
  subst hi0
  cases l with
  |nil=>simp at hi
  |cons x l=>rw[ih];rfl
theorem bef_no {s:HL} (h: ∀x y,y∉strongO (some s) x) (x y:Int):bef s x y=false:=by
 rw[Bool.eq_false_iff]
 intro e
 have hr:=(bef_iff.1 e).1
 clear e
 induction hr with
 |one e=>exact h _ _ e
 |more _ e _=>exact h _ _ e
end Go.Proofs.YteiildhelefodaaGreat
end
section
namespace Go.Proofs.YteiildhelefodaaGreat
set_option maxRecDepth 20000
set_option maxHeartbeats 2000000 in
theorem fin_awake (w:World):Cs Tryz.prog 16 [] w fun v w'=>v=.bool true∧Only [] w w':=by
 obtain⟨f1,f2,f3,f4,f5,f6⟩:=eA_f1
 obtain⟨s,es,hx⟩:=exA
 have hi:=hx.inv
 refine enter_law20_awake rfl ?_
 unfold x_law20_awake
 refine gO ?_
 refine callT (hNew w 4) ?_
 rintro r w1 ⟨a,fp,rfl,h1,_,hfp1,ho1⟩
 have hs0:(newH 4).isSome=true:=rfl
 have h1':HR w1 a fp eA0:=h1
 obtain⟨hb,rfl,_⟩:=h1
 refine gO1 hs0 ?_
 refine callT (Rt.New_m w1 1) ?_
 rintro r w2 ⟨ho2,ar,fr,rfl,hR2,_,gfr⟩
 have er:Rt.newO 1=some rA:=rfl
 rw[er]at hR2
 have hro:(Rt.newO 1).isSome=true:=rfl
 obtain⟨rb,era,_⟩:=id hR2
 subst era
 have z1:=ho1.size
 have z2:=ho2.size
 refine gO1 hro ?_
 refine callT (hClaim (h1'.keep0 ho2) 1 0 (by omega)) ?_
 rintro r w3 ⟨rfl,h3,ho3⟩
 rw[f1]
 have hlt:=h1'.lt
 have hrl:=hR2.lt
 have hpr: ∀y,y∈fp→y∉fr:=fun y hy e=>by have:=hlt y hy;have:=gfr y e;omega
 have hrp: ∀y,y∈fr→y∉fp:=fun y hy e=>hpr y e hy
 refine gO1 (bne_int_false (rfl:(0:Int)=0)) ?_
 have b1: ∀s,eA1=some s→s.born≤4611686018427387900:=fun s h=>by rw[h]at f5;simp only[Option.map_some,Option.some.injEq]at f5;omega
 have b2: ∀s,eA2=some s→s.born≤4611686018427387900:=fun s h=>by rw[h]at f6;simp only[Option.map_some,Option.some.injEq]at f6;omega
 refine callT (hPlace (m:=eA1) h3 64 (0,0,0) (by omega) (by decide) b1) ?_
 rintro r w4 ⟨rfl,h4,ho4⟩
 rw[f2]
 refine gO1 (bne_int_false (rfl:(0:Int)=0)) ?_
 rw[fillL_one rfl rfl]
 refine gO ?_
 refine callT (hPlace (m:=eA2) h4 66 (1,0,0) (by omega) (by decide) b2) ?_
 rintro r w5 ⟨rfl,h5,ho5⟩
 rw[f3]
 refine gO1 (bne_int_false (rfl:(0:Int)=0)) ?_
 refine callT (hSetRef (m:=eA3) h5 66 0 64 (by omega) (by omega)) ?_
 rintro r w6 ⟨rfl,h6,ho6⟩
 rw[f4]
 have h6':HR w6 (some ⟨hb,0,none⟩) fp (some s):=by rw[←es];exact h6
 have o26:Only fp w2 w6:=((ho3.same ho4).same ho5).same ho6
 have hR6:=hR2.keep o26 hrp
 have o06:Only [] w w6:=(ho1.nil ho2).trans o26 fun x hx=>.inr (hfp1 x hx)
 refine gO1 (bne_int_false (rfl:(0:Int)=0)) ?_
 refine callT (gNew h6' hi.ok hR6 (by decide)) ?_
 rintro r w7 ⟨ho7,b,rfl,hg7,gb⟩
 have z26:=o26.size
 have z7:=ho7.size
 have hbp:b∉fp:=fun e=>by have:=hlt b e;omega
 have hbr:b∉fr:=fun e=>by have:=hrl b e;omega
 refine gO ?_
 refine callT (gRegister hg7 (by simp) (h6'.keep0 ho7) hi hbp 64 (by omega)) ?_
 rintro _ w8 ⟨rfl,f8,hg8,ho8,gf8⟩
 rw[hx.reg1.2]at hg8
 rw[hx.reg1.1]
 have z8:=ho8.size
 have nbp: ∀y,y∈fp→y∉ [b]:=fun y hy e=>hbp (by simp only[List.mem_singleton]at e;exact e▸hy)
 have nbr: ∀y,y∈fr→y∉ [b]:=fun y hy e=>hbr (by simp only[List.mem_singleton]at e;exact e▸hy)
 have h8:=(h6'.keep0 ho7).keep ho8 nbp
 have hR8:=(hR6.keep0 ho7).keep ho8 nbr
 refine gO1 (bne_int_false (rfl:(0:Int)=0)) ?_
 refine callT (gRegister hg8 (by simp) h8 hi hbp 66 (by omega)) ?_
 rintro _ w9 ⟨rfl,f9,hg9,ho9,gf9⟩
 rw[hx.reg2.2]at hg9
 rw[hx.reg2.1]
 have h9:=h8.keep ho9 nbp
 have hR9:=hR8.keep ho9 nbr
 have z9:=ho9.size
 have gbw:w.heap.size≤b:=by omega
 have ob: ∀y,y∈[b]→y∈([]:List Nat)∨w.heap.size≤y:=fun y hy=>by simp only[List.mem_singleton]at hy;exact .inr (by omega)
 have o09:Only [] w w9:=((o06.nil ho7).trans ho8 ob).trans ho9 ob
 refine gO1 (bne_int_false (rfl:(0:Int)=0)) ?_
 refine callT (gCollect hg9 (by simp) h9 hi hR9 hx.snd (by rw[hx.objs];simp) (by rw[rA_leads];simp) (hx.snd.rfok hi.ok) hbp hbr hpr) ?_
 rintro _ w10 ⟨s4,R',L',ids,rep,K,S,o,s1,s2,s3,n,pv,fpv,fl',fr',col,rfl,h10,hR10,hg10,hp10,ho10,gr10,gl10,nlr10,gp10⟩
 obtain⟨c1,c2,c3,c4,c5⟩:=hx.first col
 have hsn4:=col.snd hi hx.snd (Rt.newO_ok er)
 have i4:=col.four.2
 have er8: ∃a b c d e f g i,rep=[a,b,c,d,e,f,g,i]:=⟨_,_,_,_,_,_,_,_,col.rp⟩
 obtain⟨p0,p1,p2,p3,p4,p5,p6,p7,erep⟩:=er8
 subst c2 c3 c4
 have z10:=ho10.size
 have e0:p0=2:=by rw[erep]at c5;exact c5
 have o010:Only [] w w10:=o09.trans ho10 fun y hy=>by
  rcases List.mem_cons.1 hy with rfl|hy
  ·exact .inr gbw
  ·rcases List.mem_append.1 hy with hy|hy
   ·exact .inr (hfp1 y hy)
   ·exact .inr (by have:=gfr y hy;omega)
 rw[erep]
 refine gO ?_
 refine boxT fun tb w11 htb hs11 hat11 ho11=>?_
 refine gO ?_
 refine stNT (n:=8) (i:=0) hat11 (by rfl) (by simp) ints_one fun w12 hs12 hat12 ho12=>?_
 have e12:setL [Value.int .i64 0,.int .i64 0,.int .i64 0,.int .i64 0,.int .i64 0,.int .i64 0,.int .i64 0,.int .i64 0] 0 (ints [p0,p1,p2,p3,p4,p5,p6,p7])=ints [p0,p1,p2,p3,p4,p5,p6,p7]:=rfl
 rw[e12,e0]at hat12
 have ct12:w12.cell? ⟨tb,0,none⟩=some (.int .i64 2):=by rw[hat12.cell];rfl
 have o1012:Only [] w10 w12:=ho11.trans ho12 fun y hy=>by simp only[List.mem_singleton]at hy;exact .inr (by omega)
 have hp12:=hp10.keep0 o1012
 refine gO3 ct12 (bne_int_false (rfl:(0:Int)=0)) (bne_int_false (rfl:(2:Int)=2)) ?_
 rw[fillL_one rfl rfl,fillL_one rfl rfl]
 refine gO ?_
 refine bslT fun q w13 hq hs13 hat13 ho13=>?_
 refine gO ?_
 have hs13':Sl w13 1 (.slice (some ⟨q,0,none⟩) 2 2) ([2,1]:List Int).length (ints [2,1]) [q]:=by
  have e:ints [2,1]++[]=[Value.int .i64 2,.int .i64 1]:=rfl
  rw[←e]at hat13
  exact Sl.mk1 hat13 rfl rfl
 refine callT (cInts (hp12.keep0 ho13) hs13' (by simp)) ?_
 rintro _ w14 ⟨rfl,ho14⟩
 have o1014:Only [] w10 w14:=(o1012.nil ho13).nil ho14
 have hg14:=hg10.keep0 o1014
 have hR14:=hR10.keep0 o1014
 refine gO1 (decide_eq_true (rfl:([2,1]:List Int)=[2,1])) ?_
 refine callT (gNext hg14 hR14) ?_
 rintro _ w15 ⟨rfl,ho15,_,fr15,hR15,gr15⟩
 have ep1:Rt.popO (some {rA with Q:=[66,64]})=((66,0),some {rA with Q:=[64]}):=rfl
 rw[ep1]at hR15⊢
 have hbl:b<w9.heap.size:=by obtain⟨_,h',_⟩:=hg9;exact h'.lt
 have bfr':b∉fr':=fun e=>(gr10 b e).elim hbr fun h'=>by omega
 have nlr: ∀y,y∈fl'→y∉fr':=nlr10
 have hg15:=hg14.keep ho15 bfr' nlr
 refine gO ?_
 refine callT (gNext hg15 hR15) ?_
 rintro _ w16 ⟨rfl,ho16,_,fr16,hR16,gr16⟩
 have ep2:Rt.popO (some {rA with Q:=[64]})=((64,0),some rA):=rfl
 rw[ep2]at hR16⊢
 have z15:=ho15.size
 have z16:=ho16.size
 have z1014:=o1014.size
 have flt: ∀y,y∈fl'→y<w10.heap.size:=fun y hy=>by obtain⟨_,_,h',_⟩:=hg10;exact h'.lt y hy
 have bfr15:b∉fr15:=fun e=>(gr15 b e).elim bfr' fun h'=>by omega
 have nlr15: ∀y,y∈fl'→y∉fr15:=fun y hy e=>(gr15 y e).elim (nlr y hy) fun h'=>by have:=flt y hy;omega
 have hg16:=hg15.keep ho16 bfr15 nlr15
 have bfr16:b∉fr16:=fun e=>(gr16 b e).elim bfr15 fun h'=>by omega
 have old: ∀y,y∈fp→y∉fr':=fun y hy e=>(gr10 y e).elim (hpr y hy) fun h'=>by have:=hlt y hy;omega
 have old15: ∀y,y∈fp→y∉fr15:=fun y hy e=>(gr15 y e).elim (old y hy) fun h'=>by have:=hlt y hy;omega
 have old16: ∀y,y∈fp→y∉fr16:=fun y hy e=>(gr16 y e).elim (old15 y hy) fun h'=>by have:=hlt y hy;omega
 have h14:=h10.keep0 o1014
 have h16:=(h14.keep ho15 old).keep ho16 old15
 have tbl:w10.heap.size≤tb∧tb<w12.heap.size:=⟨by omega,hat12.lt⟩
 have f14: ∀y,y∈fr'→y<w10.heap.size:=hR10.lt
 have tb15:tb∉fr':=fun e=>by have:=f14 tb e;omega
 have tb16:tb∉fr15:=fun e=>(gr15 tb e).elim tb15 fun h'=>by have:=ho13.size;have:=ho14.size;omega
 have hat14:=(hat12.keep0 ho13).keep0 ho14
 have hat16:=(hat14.keep ho15 tb15).keep ho16 tb16
 have hsn4':Snd true s4 rA:=⟨hsn4.1,rA_zero (.inl rfl)⟩
 have frw: ∀y,y∈fr'→w.heap.size≤y:=fun y hy=>(gr10 y hy).elim (fun h'=>by have:=gfr y h';omega) fun h'=>by omega
 have frw15: ∀y,y∈fr15→w.heap.size≤y:=fun y hy=>(gr15 y hy).elim (frw y) fun h'=>by omega
 have frw16: ∀y,y∈fr16→w.heap.size≤y:=fun y hy=>(gr16 y hy).elim (frw15 y) fun h'=>by omega
 have o016:Only [] w w16:=((o010.nil o1014).trans ho15 fun y hy=>.inr (frw y hy)).trans ho16 fun y hy=>.inr (frw15 y hy)
 refine gO ?_
 refine callT (gCollect hg16 (by simp) h16 i4 hR16 hsn4' (by rw[c1];omega) (by rw[rA_leads];simp) (hsn4'.rfok i4.ok) hbp bfr16 old16) ?_
 rintro _ w17 ⟨s5,R5,L5,ids5,rep5,K5,S5,o5,t1,t2,t3,n5,pv5,fpv5,fl5,fr5,col5,rfl,h17,hR17,hg17,hp17,ho17,_,_,_,_⟩
 have e5:=ColX.none s4 col5 rA_leads
 rw[c1]at e5
 have er8: ∃a b c d e f g i,rep5=[a,b,c,d,e,f,g,i]:=⟨_,_,_,_,_,_,_,_,col5.rp⟩
 obtain⟨q0,q1,q2,q3,q4,q5,q6,q7,erep5⟩:=er8
 have eq2:q2=2:=by rw[erep5]at e5;exact e5
 have z1014:=o1014.size
 have z12:=o1012.size
 have hat17:=hat16.keep ho17 fun e=>by
  rcases List.mem_cons.1 e with e|e
  ·omega
  ·rcases List.mem_append.1 e with e|e
   ·have:=hlt tb e;omega
   ·exact(gr16 tb e).elim tb16 fun h'=>by have:=ho13.size;have:=ho14.size;omega
 rw[erep5]
 refine gO ?_
 refine stNT (n:=8) (i:=0) hat17 (by rfl) (by simp[ints]) ints_one fun w18 hs18 hat18 ho18=>?_
 have e18:setL (ints [2,p1,p2,p3,p4,p5,p6,p7]) 0 (ints [q0,q1,q2,q3,q4,q5,q6,q7])=ints [q0,q1,q2,q3,q4,q5,q6,q7]:=rfl
 rw[e18,eq2]at hat18
 have ct18:w18.cell? ⟨tb,2,none⟩=some (.int .i64 2):=by rw[hat18.cell];rfl
 refine gO5 ct18 (beq_int_true (rfl:(0:Int)=0)) (beq_int_true (rfl:(66:Int)=66)) (beq_int_true (rfl:(64:Int)=64)) (beq_int_true (rfl:(2:Int)=2)) ?_
 refine(o016.trans ho17 fun y hy=>?_).trans ho18 fun y hy=>by simp only[List.mem_singleton]at hy;exact .inr (by omega)
 rcases List.mem_cons.1 hy with rfl|hy
 ·exact .inr gbw
 ·rcases List.mem_append.1 hy with hy|hy
  ·exact .inr (hfp1 y hy)
  ·exact .inr (frw16 y hy)
end Go.Proofs.YteiildhelefodaaGreat
end
section
namespace Go.Proofs.YteiildhelefodaaGreat
set_option maxRecDepth 20000
theorem leads_len {R:Rt.MS} (h:R.Ok):(Rt.leadsO (some R)).length≤144:=by
 have h1:=Rt.foldl_addNew_length ((Rt.filled R).map (·.2)) []
 have h2:(Rt.filled R).length≤R.V.length:=by
  rw[Rt.filled_idx h,List.length_map,Rt.V_length h]
  exact Rt.idx_length
 have:=Rt.V_le h
 have e:Rt.leadsO (some R)=((Rt.filled R).map (·.2)).foldl Rt.addNew []:=rfl
 rw[e]
 simp only[List.length_nil,List.length_map]at h1
 omega
end Go.Proofs.YteiildhelefodaaGreat
end
section
namespace Go.Proofs.YteiildhelefodaaGreat
set_option maxRecDepth 20000
def oV (x:Nat):Nat→List Value
 |0=>[]
 |i+1=>oV x i++[u8V 0,u8V 0,u8V x,u8V 0]
theorem oV_len (x:Nat): ∀i,(oV x i).length=i*4
 |0=>rfl
 |i+1=>by unfold oV;rw[List.length_append,oV_len x i];simp;omega
theorem oV_one (x:Nat): ∀i u,u∈oV x i→oneC u=true
 |0,u,h=>by simp[oV]at h
 |i+1,u,h=>by
  unfold oV at h
  rcases List.mem_append.1 h with h|h
  ·exact oV_one x i u h
  ·simp only[List.mem_cons,List.not_mem_nil,or_false]at h
   rcases h with rfl|rfl|rfl|rfl<;>rfl
def oF (x:Nat) (_ j:Nat):Nat:=if j=2 then x else 0
theorem oV_get (x:Nat): ∀n i j,i<n→j<4→(oV x n)[i*4+j]? =some (u8V (oF x i j))
 |0,i,j,h,_=>by omega
 |n+1,i,j,h,hj=>by
  unfold oV
  by_cases c:i<n
  ·rw[List.getElem?_append_left (by rw[oV_len];omega)];exact oV_get x n i j c hj
  ·have e:i=n:=by omega
   subst e
   rw[List.getElem?_append_right (by rw[oV_len];omega),oV_len,Nat.add_sub_cancel_left]
   have:j=0∨j=1∨j=2∨j=3:=by omega
   rcases this with rfl|rfl|rfl|rfl<;>rfl
theorem Sl.srcN {w:World} {sz:Nat} {v:Value} {n:Nat} {xs:List Value} {fp:List Nat} (h:Sl w sz v n xs fp):SrcIs w sz v n xs:=by
 refine⟨h.1,?_⟩
 rcases h.2 with⟨rfl,rfl,_⟩|⟨g,cap,ys,T,rfl,_,h3,h4,h5⟩
 ·exact .inl ⟨0,rfl,rfl⟩
 ·refine .inr ⟨_,_,rfl,?_⟩
  have hat:At w g (xs++ys):=⟨T,h3⟩
  rw[cellsAt_at hat 0 (n*sz) (by rw[List.length_append,h.1];omega),List.drop_zero,List.take_left' h.1]
theorem Sl.empty4 {w:World} {q:Nat} (h:At w q []):Sl w 4 (.slice (some ⟨q,0,none⟩) 0 0) 0 [] [q]:=by
 obtain⟨T,h⟩:=h
 exact⟨rfl,.inr ⟨q,0,[],T,rfl,rfl,h,rfl,Nat.le_refl _⟩⟩
theorem nilU8 (h0:Nat) (w:World) (sz:Nat):U8At h0 w (.slice none 0 0) 0 sz fun _ _=>0:=⟨none,0,rfl,fun _ _=>by show(0:Nat)<256;omega,fun i hi=>by omega⟩
set_option maxHeartbeats 4000000 in
theorem fin_oldest {w:World} {vl:Value} {nl:Nat} {fl:Nat→Nat→Nat} (hl:U8At w.heap.size w vl nl 1 fl) (x:Nat) (hx:x<256):
  Cs Tryz.prog 3 [vl,.int .u8 (x:Int)] w fun v w'=>v=.bool true∧Only [] w w':=by
 refine enter_law20_FinalOldest rfl ?_
 unfold x_law20_FinalOldest
 refine gO ?_
 rw[fillL_one rfl rfl]
 refine gO ?_
 refine boxT fun q w1 hq hs1 hat1 ho1=>?_
 refine gO ?_
 refine stNT (n:=7) (i:=0) hat1 (by rfl) (by simp) (by simp[oneC]) fun w2 hs2 hat2 ho2=>?_
 have hat2':At w2 q [u8V 8,u8V 0,.slice none 0 0,.slice none 0 0,.slice none 0 0,.slice none 0 0,.slice none 0 0]:=hat2
 have z1:=ho1.size
 have o2:Only [] w w2:=ho1.trans ho2 fun y hy=>by simp only[List.mem_singleton]at hy;exact .inr (by omega)
 refine gO ?_
 refine run_loop (6::20::21::22::23::24::25::26::27::28::29::30::31::32::[]) (fun g w'=> ∃(i:Nat) (v:Value) (fv:List Nat),g 6=.int .i64 (i:Int)∧i≤10∧At w' q [u8V 8,u8V 0,v,.slice none 0 0,.slice none 0 0,.slice none 0 0,.slice none 0 0]∧Sl w' 4 v i (oV x i) fv∧(∀y,y∈fv→w.heap.size≤y∧y≠q)∧Only [] w w') (fun g _=>upTo 10 6 g)
  ⟨0,.slice none 0 0,[],by simp only[go_sem];rfl,by omega,hat2',⟨rfl,.inl ⟨rfl,rfl,rfl⟩⟩,by simp,o2⟩ fun g3 w3 hI hnext=>?_
 obtain⟨i,v,fv,h6,hi10,hat3,hsl,gfv,ho3⟩:=hI
 by_cases c1:i<10
 ·refine gO2 h6 (decide_eq_true (show(i:Int)<10 by omega)) ?_
  refine bslT fun q4 w4 hq4 hs4 hat4 ho4=>?_
  have hat34:=hat3.keep0 ho4
  refine gO1 hat34.cell ?_
  refine appT (Sl.empty4 hat4) (hsl.keep0 ho4).srcN (oV_one x i) (by omega) (by omega) ?_
  intro v5 w5 f5 hs5 hf5 ho5 _
  have z3:=ho3.size
  have z4:=ho4.size
  have hq3:=hat3.lt
  have hat5:=hat34.keep ho5 (by simp;omega)
  have g5: ∀y,y∈f5→w.heap.size≤y∧y≠q:=fun y hy=>by
   rcases hf5 with e|e<;>(rw[e]at hy;simp only[List.mem_singleton]at hy;omega)
  refine gO ?_
  rw[fillL_one rfl rfl,fillL_one rfl rfl,fillL_one rfl rfl,fillL_one rfl rfl]
  refine gO ?_
  rw[fillL_ag (cs:=[Value.int .u8 0,.int .u8 0,.int .u8 0,.int .u8 0]) (vs:=[.int .u8 0,.int .u8 0,.int .u8 (x:Int),.int .u8 0]) (n:=4) rfl rfl]
  refine gO ?_
  refine bslT fun q6 w6 hq6 hs6 hat6 ho6=>?_
  have hat6':At w6 q6 [u8V 0,u8V 0,u8V x,u8V 0]:=hat6
  refine gO ?_
  rw[Nat.zero_add,List.nil_append]at hs5
  refine appT (hs5.keep0 ho6) (SrcIs.at (us:=[u8V 0,u8V 0,u8V x,u8V 0]) hat6' rfl) (by simp[u8V,oneC]) (by omega) (by omega) ?_
  intro v7 w7 f7 hs7 hf7 ho7 _
  have z5:=ho5.size
  have z6:=ho6.size
  have g7: ∀y,y∈f7→w.heap.size≤y∧y≠q:=fun y hy=>by
   rcases hf7 with e|e
   ·rw[e]at hy;exact g5 y hy
   ·rw[e]at hy;simp only[List.mem_singleton]at hy;omega
  have hat7:=(hat5.keep0 ho6).keep ho7 fun e=>(g5 q e).2 rfl
  refine gO ?_
  refine stT (i:=2) hat7 (by simp) hs7.oneC' fun w8 hs8 hat8 ho8=>?_
  have hat8':At w8 q [u8V 8,u8V 0,v7,.slice none 0 0,.slice none 0 0,.slice none 0 0,.slice none 0 0]:=hat8
  have o8:Only [] w w8:=((((ho3.nil ho4).trans ho5 fun y hy=>by simp only[List.mem_singleton]at hy;exact .inr (by omega)).nil ho6).trans ho7 fun y hy=>.inr (g5 y hy).1).trans ho8 fun y hy=>by simp only[List.mem_singleton]at hy;exact .inr (by omega)
  refine gO2 h6 (i64_succ i (by omega)) ?_
  refine hnext _ w8 ?_ ⟨i+1,v7,f7,?_,by omega,hat8',hs7.keep ho8 fun y hy e=>(g7 y hy).2 (by simpa using e),g7,o8⟩ ?_
  ·(repeat(first|with_reducible exact k_1|with_reducible exact Keeps.ovr _ _ _|refine Keeps.put ?_ rfl _|exact k_1|exact Keeps.ovr _ _ _|refine Keeps.ovr2 ?_ rfl _))
  ·simp only[go_sem]
  ·rw[upTo_int (i:=i) h6,upTo_int (k:=.i64) (i:=i+1) (by simp only[go_sem])];omega
 have hi:i=10:=by omega
 subst hi
 clear hnext
 obtain⟨av,cv,rfl⟩:=hsl.val
 have hc3:cellsAt w3 ⟨q,0,none⟩ 7=some [u8V 8,u8V 0,.slice av 10 cv,.slice none 0 0,.slice none 0 0,.slice none 0 0,.slice none 0 0]:=by rw[cellsAt_at hat3 0 7 (by simp)];rfl
 have hO:U8At w3.heap.size w3 (.slice av 10 cv) 10 4 (oF x):=by
  refine⟨av,cv,rfl,fun i j=>by unfold oF;split<;>omega,fun i hi=>?_⟩
  rcases hsl.2 with⟨_,h0,_⟩|⟨g,cap,ys,T,e,_,h3,h4,h5⟩
  ·omega
  ·cases e
   have hat:At w3 g (oV x 10++ys):=⟨T,h3⟩
   refine⟨_,rfl,hat.lt,fun j hj=>?_⟩
   rw[addr_add,addr_add,hat.cell,List.getElem?_append_left (by rw[oV_len];omega),Nat.zero_add]
   exact oV_get x 10 i j hi hj
 have hbeg:BegAt w3.heap.size w3 [u8V 8,u8V 0,.slice av 10 cv,.slice none 0 0,.slice none 0 0,.slice none 0 0,.slice none 0 0] ⟨8,0,10,0,0,0,0,oF x,fun _ _=>0,fun _ _=>0,fun _ _=>0,fun _ _=>0⟩ (.slice av 10 cv) (.slice none 0 0) (.slice none 0 0) (.slice none 0 0) (.slice none 0 0):=
  ⟨rfl,by show(8:Nat)<256;omega,by show(0:Nat)<256;omega,hO,nilU8 _ _ _,nilU8 _ _ _,nilU8 _ _ _,nilU8 _ _ _⟩
 refine gO3 h6 (decide_eq_false (show¬((10:Nat):Int)<10 by omega)) hc3 ?_
 refine callT (cBegun hbeg (nilU8 _ _ _)) ?_
 rintro _ w4 ⟨ho4,b,hpb,rb,qb,kb,s,R,fh,fr,ff,fk,gb,L0,A0,flr,rfl,bg⟩
 have hi:=bg.sc.inv
 have hRok:=bg.sc.Rok
 have hsz:=bg.sz.2.1
 have o4:=ho3.nil ho4
 have hA0:A0=[]:=List.length_eq_zero_iff.1 (Nat.le_zero.1 bg.n1)
 have hL0:L0=[]:=by rw[bg.ra.e,hA0];rfl
 obtain⟨eR,hno,hpos⟩:=oldest_begin (d:=x) rfl rfl rfl rfl rfl rfl rfl (fun i _=>⟨rfl,rfl,rfl,rfl⟩) bg.op
 subst hA0 hL0
 refine gO1 bg.sc.at_.cell ?_
 refine callT (hAll bg.sc.h) ?_
 rintro vA w5 ⟨ho5,fA,hA5,gA⟩
 rw[allH_len]at hA5
 obtain⟨aA,cA,rfl⟩:=hA5.val
 obtain⟨al,cl,rfl,fb,hcl⟩:=id hl
 have o5:=o4.nil ho5
 have z4:=ho4.size
 have z5:=ho5.size
 have rg5:=bg.rg.keep0 ho5
 have sc5:=bg.sc.keep0 ho5
 have gfh:gb∉fh:=fun e=>bg.ng (by simp[e])
 have gfr:gb∉fr:=fun e=>bg.ng (by simp[e])
 have flt:=bg.sc.lt
 have hgb:gb<w4.heap.size:=by obtain⟨_,h',_⟩:=bg.rg;exact h'.lt
 have nsc: ∀y,y∈b::(fh++(fr++(ff++fk)))→y∉ [gb]:=fun y hy e=>bg.ng (by simp only[List.mem_singleton]at e;exact e▸hy)
 (repeat(first|with_reducible(first|refine r_1 ?_|refine r_2 ?_|refine r_4 ?_|refine r_5 ?_|refine r_6 rfl ?_|refine r_7 ?_|refine r_8 ?_|refine r_9 ?_|refine r_0 ?_)|simp only[go_sem]))
 refine run_cut (10::11::12::13::14::15::45::46::47::48::49::50::51::52::53::54::55::56::57::58::59::60::61::62::63::64::65::66::67::68::69::70::71::72::73::74::75::76::77::78::79::80::81::82::83::84::85::86::87::88::89::90::91::[]) (fun g' w'=> ∃(L A:List Int) (flr fw:List Nat),RgA s L A∧A.length≤20∧RG w' gb ⟨hpb,0,none⟩ (some ⟨rb,0,none⟩) L flr∧Sl w' 1 (g' 10) L.length (ints L) fw∧(∀y,y∈fw→w5.heap.size≤y∧y∉flr)∧Only [gb] w5 w') (fun kk hkk=>?_) (fun g6 w6 hJ=>?_)
 ·refine gO ?_
  refine run_loop (10::11::12::13::14::15::45::46::47::48::49::50::51::52::53::54::55::56::57::58::59::60::61::62::63::64::65::66::67::68::69::70::71::72::73::74::75::76::77::78::79::80::81::82::83::84::85::86::87::88::89::90::91::[]) (fun g' w'=> ∃(i:Nat) (L A:List Int) (flr fw:List Nat),g' 11=.int .i64 (i:Int)∧i≤20∧RgA s L A∧A.length≤i∧RG w' gb ⟨hpb,0,none⟩ (some ⟨rb,0,none⟩) L flr∧Sl w' 1 (g' 10) L.length (ints L) fw∧(∀y,y∈fw→w5.heap.size≤y∧y∉flr)∧Only [gb] w5 w') (fun g' _=>upTo 20 11 g')
   ⟨0,[],[],flr,[],by simp only[go_sem];rfl,by omega,⟨rfl,List.nodup_nil,by simp⟩,by simp,rg5,by simp only[go_sem];exact Sl.nil1 _,by simp,Only.refl _ _⟩ fun g6 w6 hI hnext=>?_
  obtain⟨i,L,A,flr,fw,h11,hi20,ra,hA,hg6,hw6,gw6,ho6⟩:=hI
  have z6:=ho6.size
  have hLl:L.length=A.length:=by rw[ra.e,List.length_map]
  have sc6:SCs w6 b hpb rb qb kb s R fh fr ff fk:=sc5.keep ho6 nsc
  by_cases c1:i<nl∧i<20
  ·have ci:(0:Int)≤(i:Int)∧(i:Int)<(nl:Int):=by omega
   obtain⟨p,rfl,hp1,hp2⟩:=hcl i c1.1
   have hc0:w6.cell? (p.add i)=some (u8V (fl i 0)):=by
    have:=hp2 0 (by omega)
    rw[Nat.mul_one]at this
    have o6w:=o5.trans ho6 fun y hy=>by simp only[List.mem_singleton]at hy;have:=bg.gg;have:=ho3.size;exact .inr (by omega)
    rw[cell_of_heap (w:=w) (w':=w6) (by rw[add_block];exact o6w.block _ hp1 (by simp))]
    exact this
   obtain⟨m,hm⟩: ∃m,m=fl i 0%s.objs.length:=⟨_,rfl⟩
   have hml:m<s.objs.length:=by rw[hm];exact Nat.mod_lt _ hpos
   have em:((fl i 0:Nat):Int).tmod ((s.objs.length:Nat):Int)=(m:Int):=by rw[tmodN,hm]
   have hmA:m<(allH (some s)).length:=by rw[allH_len];exact hml
   have cm:(0:Int)≤(m:Int)∧(m:Int)<(s.objs.length:Int):=by omega
   obtain⟨ga,_,ya,ea,hata,_,_⟩:=(hA5.keep ho6 fun y hy e=>by simp only[List.mem_singleton]at e;have:=gA y hy;omega).pos (by omega)
   cases ea
   obtain⟨a,ha⟩: ∃a,a=(allH (some s)).getD m 0:=⟨_,rfl⟩
   have hal:Liv s a:=allH_mem.1 (by rw[ha];simp[hmA])
   have hale:=hal.le hi.ok
   have va:w6.cell? ⟨ga,m,none⟩=some (.int .i64 a):=by rw[hata.cell,ha];exact ints_append_get ya hmA
   (repeat(first|with_reducible(first|refine nx ?_|refine r_6 rfl ?_)|simp only[go_sem,h11,decide_eq_true ci.2,decide_eq_true (show(i:Int)<20 by omega),if_pos ci,Int.toNat_natCast,Nat.mul_one,hc0,u8V,conv_u8 (fl i 0) (fb i 0),divO_of (show((s.objs.length:Nat):Int)≠0 by omega),em,if_pos cm,va,sc6.at_.cell]))
   refine callT (hIdent sc6.h a (by omega)) ?_
   rintro _ w7 ⟨rfl,ho7⟩
   rw[identO_live hi hal]
   refine gO ?_
   refine callT (gRegister (hg6.keep0 ho7) (by omega) (sc6.h.keep0 ho7) hi gfh a (by omega)) ?_
   rintro _ w8 ⟨rfl,f8,hg8,ho8,gf8⟩
   obtain⟨r1,r2⟩:=ra.reg hi (by omega) hal
   rw[r2]at hg8
   rw[r1]
   have z7:=ho7.size
   have hw8:=(hw6.keep0 ho7).keep ho8 fun y hy e=>by simp only[List.mem_singleton]at e;have:=(gw6 y hy).1;omega
   have o8:Only [gb] w5 w8:=(ho6.nil ho7).same ho8
   have f8lt: ∀y,y∈f8→y<w8.heap.size:=fun y hy=>by obtain⟨_,_,h',_⟩:=hg8;exact h'.lt y hy
   have n8: ∀y,y∈fw→y∉f8:=fun y hy e=>(gf8 y e).elim (gw6 y hy).2 fun h'=>by have:=hw6.lt y hy;omega
   have gw8: ∀y,y∈fw→w5.heap.size≤y∧y∉f8:=fun y hy=>⟨(gw6 y hy).1,n8 y hy⟩
   have hcm:L.contains (idA s a)=decide (a∈A):=by rw[Bool.eq_iff_iff,List.contains_iff_mem,decide_eq_true_iff];exact ra.mem hi hal
   obtain⟨aw,cw,ew⟩:=hw6.val
   rw[ew]at hw8
   refine gO1 ew ?_
   refine callT0 (hHas12 hw8.rd (by omega) (idA s a)) ?_
   rw[hcm]
   by_cases cA:a∈A
   ·rw[if_pos cA]at hg8
    rw[if_pos cA,decide_eq_true cA]
    refine gO2 (beq_int_false (show¬(8:Int)=0 by omega)) ew ?_
    refine callT0 (hHas12 hw8.rd (by omega) (idA s a)) ?_
    rw[hcm,decide_eq_true cA]
    refine gO2 h11 (i64_succ i (by omega)) ?_
    refine hnext _ w8 ?_ ⟨i+1,L,A,f8,fw,?_,by omega,ra,by omega,hg8,?_,gw8,o8⟩ ?_
    ·(repeat(first|with_reducible exact k_1|with_reducible exact Keeps.ovr _ _ _|refine Keeps.put ?_ rfl _|exact k_1|exact Keeps.ovr _ _ _|refine Keeps.ovr2 ?_ rfl _))
    ·simp only[go_sem]
    ·simp only[go_sem,ew];exact hw8
    ·rw[upTo_int (i:=i) h11,upTo_int (k:=.i64) (i:=i+1) (by simp only[go_sem])];omega
   ·rw[if_neg cA]at hg8
    rw[if_neg cA,decide_eq_false cA]
    refine gO2 (beq_int_true (rfl:(0:Int)=0)) ew ?_
    refine callT0 (hHas12 hw8.rd (by omega) (idA s a)) ?_
    rw[hcm,decide_eq_false cA]
    refine gO1 ew ?_
    rw[fillL_one rfl rfl]
    refine gO ?_
    refine bslT fun q9 w9 hq9 hs9 hat9 ho9=>?_
    refine gO ?_
    refine appT (hw8.keep0 ho9) (SrcIs.at (us:=[.int .i64 (idA s a)]) hat9 rfl) (by simp[oneC]) (by omega) (by omega) ?_
    intro v10 w10 f10 hs10 hf10 ho10 _
    have z8:=ho8.size
    have z9:=ho9.size
    have g10: ∀y,y∈f10→w5.heap.size≤y:=fun y hy=>by
     rcases hf10 with e|e
     ·rw[e]at hy;exact(gw6 y hy).1
     ·rw[e]at hy;simp only[List.mem_singleton]at hy;omega
    have g10': ∀y,y∈f10→w5.heap.size≤y∧y∉f8:=fun y hy=>⟨g10 y hy,fun e=>by
     rcases hf10 with e2|e2
     ·rw[e2]at hy;exact n8 y hy e
     ·rw[e2]at hy;simp only[List.mem_singleton]at hy;have:=f8lt y e;omega⟩
    have hg10:=(hg8.keep0 ho9).keep ho10 (fun e=>by have:=(gw6 gb e).1;omega) fun y hy e=>n8 y e hy
    refine gO2 h11 (i64_succ i (by omega)) ?_
    refine hnext _ w10 ?_ ⟨i+1,L++[idA s a],A++[a],f8,f10,?_,by omega,ra.add hal cA,by rw[List.length_append,List.length_singleton];omega,hg10,?_,g10',(o8.nil ho9).trans ho10 fun y hy=>.inr (gw6 y hy).1⟩ ?_
    ·(repeat(first|with_reducible exact k_1|with_reducible exact Keeps.ovr _ _ _|refine Keeps.put ?_ rfl _|exact k_1|exact Keeps.ovr _ _ _|refine Keeps.ovr2 ?_ rfl _))
    ·simp only[go_sem]
    ·simp only[go_sem]
     rw[List.length_append,ints_append];exact hs10
    ·rw[upTo_int (i:=i) h11,upTo_int (k:=.i64) (i:=i+1) (by simp only[go_sem])];omega
  by_cases c2:i<nl
  ·refine gO3 h11 (decide_eq_true (show(i:Int)<(nl:Int) by omega)) (decide_eq_false (show¬(i:Int)<20 by omega)) ?_
   refine hkk _ w6 ?_ ⟨L,A,flr,fw,ra,by omega,hg6,?_,gw6,ho6⟩
   ·(repeat(first|with_reducible exact k_1|with_reducible exact Keeps.ovr _ _ _|refine Keeps.put ?_ rfl _|exact k_1|exact Keeps.ovr _ _ _|refine Keeps.ovr2 ?_ rfl _))
   ·simp only[go_sem];exact hw6
  ·refine gO2 h11 (decide_eq_false (show¬(i:Int)<(nl:Int) by omega)) ?_
   refine hkk _ w6 ?_ ⟨L,A,flr,fw,ra,by omega,hg6,?_,gw6,ho6⟩
   ·(repeat(first|with_reducible exact k_1|with_reducible exact Keeps.ovr _ _ _|refine Keeps.put ?_ rfl _|exact k_1|exact Keeps.ovr _ _ _|refine Keeps.ovr2 ?_ rfl _))
   ·simp only[go_sem];exact hw6
 obtain⟨L,A,flr,fw,ra,hA,hg6,hw6,gw6,ho6⟩:=hJ
 have z6:=ho6.size
 have hLl:L.length=A.length:=by rw[ra.e,List.length_map]
 have sc6:SCs w6 b hpb rb qb kb s R fh fr ff fk:=sc5.keep ho6 nsc
 have hll:=leads_len hRok
 have o6:Only [] w w6:=o5.trans ho6 fun y hy=>by simp only[List.mem_singleton]at hy;have:=bg.gg;have:=ho3.size;exact .inr (by omega)
 refine gO ?_
 refine callT (gCollect hg6 (by omega) sc6.h hi sc6.r bg.sn (by omega) (by omega) (bg.sn.rfok hi.ok) gfh gfr fun y hy=>(bg.sc.d2 y hy).1) ?_
 rintro _ w7 ⟨s4,R',L',ids,rep,K,S,o,s1,s2,s3,n,pv,fpv,fl',fr',col,rfl,h7,hR7,hg7,hp7,ho7,gr7,gl7,nlr7,gp7⟩
 have er8: ∃a b c d e f g i,rep=[a,b,c,d,e,f,g,i]:=⟨_,_,_,_,_,_,_,_,col.rp⟩
 obtain⟨p0,p1,p2,p3,p4,p5,p6,p7,erep⟩:=er8
 rw[erep]
 have hK:K=[]:=kpt_none col.kpt fun y hy=>by rw[eR,rA_leads]at hy;simp at hy
 subst hK
 have eo:o=A:=by
  have h1:=ordr_id (bef_no hno) col.ord
  rw[h1]
  unfold deadL
  rw[ra.list hi]
  exact List.filter_eq_self.2 fun y _=>by simp
 have hn:n=A.length:=by
  rw[col.nn,eo,eR]
  show min A.length (64-0)=_
  omega
 have eids:ids=L:=by rw[col.ii,eo,hn,List.take_length,ra.e]
 rw[eids]at hp7
 have z7:=ho7.size
 have hw7:=hw6.keep ho7 fun y hy e=>by
  have h1:=(gw6 y hy).1
  rcases List.mem_cons.1 e with e|e
  ·omega
  ·have:=flt y (by rcases List.mem_append.1 e with e|e<;>simp[e])
   omega
 have o7:Only [] w w7:=o6.trans ho7 fun y hy=>by
  refine .inr ?_
  have:=ho3.size
  rcases List.mem_cons.1 hy with e|e
  ·have:=bg.gg;omega
  ·have:=bg.ge y (by rcases List.mem_append.1 e with e|e<;>simp[e])
   omega
 obtain⟨aw,cw,ew⟩:=hw6.val
 rw[ew]at hw7
 refine gO ?_
 refine boxT fun tb w8 htb hs8 hat8 ho8=>?_
 refine gO ?_
 refine stNT (n:=8) (i:=0) hat8 (by rfl) (by simp) ints_one fun w9 hs9 hat9 ho9=>?_
 have o79:Only [] w7 w9:=ho8.trans ho9 fun y hy=>by simp only[List.mem_singleton]at hy;exact .inr (by omega)
 refine gO2 ew (beq_int_true (rfl:(0:Int)=0)) ?_
 refine callT (cInts (hp7.keep0 o79) (hw7.keep0 o79) (by omega)) ?_
 rintro _ w10 ⟨rfl,ho10⟩
 rw[decide_eq_true rfl]
 refine gO ?_
 refine callT1 (fin_awake w10) fun w11 ho11=>?_
 refine gO ?_
 exact((o7.nil o79).nil ho10).nil ho11
end Go.Proofs.YteiildhelefodaaGreat
end
section
namespace Go.Proofs.YteiildhelefodaaGreat
open Go.ChangeShapes Go.WideShapes Go.ChangeAt Go.RowKit
section
variable {H:Type} {enc:TypeId×Value→H} {P:Program}
theorem trodAll_below (hl:laidOutB P=true) {W W':World} (hb:Below W.heap.size W W'): ∀(ts:List TypeId) (vs:List Value) (ds:List (DataW H)) (ps:List MemPlace),(ts.all fun t=>P.readableRec t&&decide (t<P.types.size))=true→
  DataW.TrodAll enc P W 0 (fun _=>true) true ts vs ds ps→(∀x∈ps,x.block<W.heap.size)→DataW.TrodAll enc P W' 0 (fun b=>decide (b<W.heap.size)) true ts vs ds ps
 | [],[],[],_,_,h,_=>h
 | [],_::_,_,_,_,h,_=>h.elim
 | [],[],_::_,_,_,h,_=>h.elim
 |_::_,[],_,_,_,h,_=>by cases h
 |_::_,_::_,[],_,_,h,_=>by cases h
 |t::ts,v::vs,d::ds,ps,hc,h,hlt=>by
  obtain⟨p,q,h1,h2,rfl⟩:=h
  simp only[List.all_cons,Bool.and_eq_true,decide_eq_true_eq]at hc
  exact⟨p,q,Below.trod hl hc.1.1 hc.1.2 h1 hb (fun x hx=>hlt x (List.mem_append_left _ hx)),trodAll_below hl hb ts vs ds q hc.2 h2 (fun x hx=>hlt x (List.mem_append_right _ hx)),rfl⟩
theorem law_post {f:Func} {s:ChangeSpec} {W W':World} {args:Array Value} {ds:List (DataW H)} {p:List MemPlace} {b:TypeId} (hl:laidOutB P=true) (hc:(f.params.toList.all fun t=>P.readableRec t&&decide (t<P.types.size))=true)
  (hv:s.vars=[]) (hW:DataW.Whole enc P f.params.toList s.vars false W args.toList ds [] (p++[])) (hA:DataW.TrodAll enc P W 0 (fun _=>true) true f.params.toList args.toList ds p)
  (hs:s.fn H (ds++[])= {results:=[.lit (.bool true)],args:=ds}) (hr:f.resultTypes=#[b]) (hbt:P.underlying b=some .bool) (hb:Below W.heap.size W W'):
  s.post enc P f false true false false W args (.bool true) W':=by
 have hlt: ∀x∈p,x.block<W.heap.size:=fun x hx=>hW.lt x (List.mem_append_left _ hx)
 refine⟨ds,[],p++[],[],p,[],hW,?_,?_,?_,hb.frame _,fun h=>by cases h⟩
 ·rw[hs,hr]
  exact trodAll_mk1 (shut_bool hbt true)
 ·rw[hs]
  exact trodAll_below hl hb _ _ _ _ hc hA hlt
 ·rw[hs,hv];rfl
end
theorem law_end {P:Program} {f:FuncId} {args:List Value} {W:World} {Q:Value→World→Prop} (h:Cs P f args W fun r W'=>r=.bool true∧Only [] W W') (hq: ∀W',Below W.heap.size W W'→Q (.bool true) W'):
  Cs P f args W Q:=h.mono fun r W' ⟨e,ho⟩=>by rw[e];exact hq W' (ho.below (by simp))
end Go.Proofs.YteiildhelefodaaGreat
end
section
namespace Go.Proofs.YteiildhelefodaaGreat
open Go.ChangeShapes Go.WideShapes Go.ChangeAt Go.RowKit Go.Deep
theorem Tryz.own:ownKnob Tryz.prog.godebug=none:=by kernel_rfl
theorem Tryz.laidOut:laidOutB Tryz.prog=true:=by kernel_rfl
end Go.Proofs.YteiildhelefodaaGreat
end
section
namespace Go.Proofs.YteiildhelefodaaGreat
open Go.ChangeShapes Go.WideShapes Go.ChangeAt Go.RowKit Go.Deep
set_option maxRecDepth 100000
theorem choose_lt12 {α:Type} [Inhabited α] {n:Nat} {p:Nat→α→Prop} (h: ∀i,i<n→ ∃x,p i x): ∃F:Nat→α,∀i,i<n→p i (F i):=by
 refine⟨fun i=>if hi:i<n then Classical.choose (h i hi)else default,fun i hi=>?_⟩
 simp only[hi,dif_pos]
 exact Classical.choose_spec (h i hi)
theorem open_u8 {H:Type} {enc:TypeId×Value→H} {w:World} {base:Nat} {spare:Nat→Bool} {held:Bool} {n:Nat} {cs:List Value} {x:DataW H×List MemPlace} (h:DataW.trod enc Tryz.prog w base spare held n 5 cs=some x): ∃k:Nat,cs=[u8V k]∧k<256:=by
 obtain⟨k,e,_,hw⟩:=DataW.trod_int Tryz.underlying5 h
 have hb:=bounds_u8 hw
 exact⟨k.toNat,by rw[e];unfold u8V;rw[Int.toNat_of_nonneg hb.1],by omega⟩
theorem Tryz.cells12u8:Tryz.prog.cellsOf 5=1:=by kernel_rfl
theorem open_u8l {H:Type} {enc:TypeId×Value→H} {W:World} {m:Nat} {st:TypeId} {cs:List Value} {x:DataW H×List MemPlace} (hs:Tryz.prog.underlying st=some (.slice 5)) (h:DataW.trod enc Tryz.prog W 0 (fun _=>true) true m st cs=some x):
  ∃(v:Value) (len:Nat) (f:Nat→Nat→Nat),cs=[v]∧U8At W.heap.size W v len 1 f:=by
 rcases open_slice1 hs Tryz.cells12u8 h with⟨e,_⟩|⟨a,len,cap,m',n',V,D,Pl,e,_,hle,hcap,hm,_,hel⟩
 ·exact⟨_,0,fun _ _=>0,e,none,0,rfl,fun _ _=>by dsimp only;omega,fun i hi=>by omega⟩
 ·rw[if_pos rfl]at hm
  obtain⟨F,hF⟩:=choose_lt12 (α:=Nat) (n:=len) (p:=fun i k=>W.cell? (a.add i)=some (u8V k)∧k<256) fun i hi=>by
   obtain⟨h1,h2⟩:=hel i (by omega)
   obtain⟨k,e2,hk⟩:=open_u8 h2
   simp only[List.cons.injEq,and_true]at e2
   exact⟨k,by rw[h1,e2],hk⟩
  refine⟨_,len,fun i _=>if i<len then F i else 0,e,some a,cap,rfl,fun i j=>?_,fun i hi=>⟨a,rfl,?_,fun j hj=>?_⟩⟩
  ·dsimp only
   split
   ·rename_i hc;exact(hF i hc).2
   ·omega
  ·have:=cell_lt (hF i hi).1
   rwa[add_block]at this
  ·obtain rfl:j=0:=by omega
   dsimp only;rw[if_pos hi,Nat.mul_one];exact(hF i hi).1
theorem open_u8v {H:Type} {enc:TypeId×Value→H} {W:World} {v:Value} {d:DataW H} {ps:List MemPlace} {r:Reach} {b0:Nat} (hval:Value.okWide Tryz.prog W r b0 5 v) (h:DataW.Trod enc Tryz.prog W 0 (fun _=>true) true 5 v d ps): ∃k:Nat,v=.int .u8 (k:Int)∧k<256:=by
 obtain⟨n,rfl,_,_,hw⟩:=open_int Tryz.underlying5 hval h
 have hb:=bounds_u8 hw
 exact⟨n.toNat,by rw[Int.toNat_of_nonneg hb.1],by omega⟩
theorem open_u8sv {H:Type} {enc:TypeId×Value→H} {W:World} {v:Value} {d:DataW H} {ps:List MemPlace} {r:Reach} {b0:Nat} (hval:Value.okWide Tryz.prog W r b0 22 v) (h:DataW.Trod enc Tryz.prog W 0 (fun _=>true) true 22 v d ps): ∃(n:Nat) (f:Nat→Nat→Nat),U8At W.heap.size W v n 1 f:=by
 obtain⟨a0,len0,cap0,rfl⟩:=okWide_slice Tryz.underlying22 hval
 obtain⟨fuel,h⟩:=h
 obtain⟨v',n,f,e,hu⟩:=open_u8l Tryz.underlying22 h
 simp only[Value.cells,List.cons.injEq,and_true]at e
 rw[←e]at hu
 exact⟨n,f,hu⟩
end Go.Proofs.YteiildhelefodaaGreat
end
section
namespace Go.Proofs.YteiildhelefodaaGreat
open Go.ChangeShapes Go.WideShapes Go.ChangeAt Go.RowKit
set_option maxRecDepth 100000 in
theorem finalOldest_lifted (os:Os) (started:os.Started) (H:Type) (enc:TypeId×Value→H):
  ReturnsInHanded {} Tryz.checked os 3 .any (Rows.finalOldestSpec.pre6 enc Tryz.prog Tryz.f3 Rows.finalOldestRow.domain false) (Rows.finalOldestSpec.post enc Tryz.prog Tryz.f3 false true false false):=by
 refine returnsInHanded_of_change (C:=Tryz.checked) Tryz.own started (by kernel_rfl) Tryz.func3
  (ChangeSpec.witness6 (enc:=enc) (C:=Tryz.checked) false ⟨#[],#[.slice none 0 0,.int .u8 0],[]⟩ 8 (by kernel_rfl) (by kernel_rfl) (by kernel_rfl) (by kernel_rfl)) ?_
 intro W base args ds gs before hval0 hW hcnd _
 have hval: ∀(j:Nat) t v,Tryz.f3.params[j]? =some t→args[j]? =some v→Value.okWide Tryz.prog W .any base t v:=hval0
 have hW':=hW
 obtain⟨p,q,hA0,hV,rfl,hfz,hnd⟩:=hW
 have hA:DataW.TrodAll enc Tryz.prog W 0 (fun _=>true) true Tryz.f3.params.toList args.toList ds p:=hA0
 have hA1:=hA
 obtain⟨rfl,rfl⟩:=trodVars_none hV
 rw[Tryz.params3]at hA hval
 obtain⟨v0,vs0,d0,ds0,p0,q0,hargs,rfl,rfl,h0,r0⟩:=trodAll_cons hA
 obtain⟨v1,vs1,d1,ds1,p1,q1,rfl,rfl,rfl,h1,r1⟩:=trodAll_cons r0
 obtain⟨rfl,rfl,rfl⟩:=trodAll_nil r1
 obtain⟨args⟩:=args
 simp only at hargs
 subst hargs
 obtain⟨n0,f0,hl0⟩:=open_u8sv (hval 0 22 v0 rfl rfl) h0
 obtain⟨x1,rfl,hx1⟩:=open_u8v (hval 1 5 v1 rfl rfl) h1
 exact law_end (fin_oldest hl0 x1 hx1) fun W' hb=>law_post (b:=4) Tryz.laidOut (by kernel_rfl) rfl hW' hA1 rfl (by kernel_rfl) Tryz.underlying4 hb
theorem YteiildhelefodaaGreatFinalOldest:Rows.FinalOldestSaid:=
 OpenClaim.holds_of_wide 3 Tryz.f3 rfl rfl rfl rfl rfl rfl rfl ⟨rfl,rfl,rfl,rfl,rfl⟩ rfl rfl rfl rfl rfl (by kernel_rfl) Tryz.func3 (by kernel_rfl)
  (of_decide_eq_true (by kernel_rfl)) (by unfold Func.isWrapper;first|(rw[if_pos (by decide+kernel)];kernel_rfl)|(rw[if_neg (by decide+kernel)];exact⟨rfl,rfl⟩))
  (fun os started H enc _=>finalOldest_lifted os started H enc)
end Go.Proofs.YteiildhelefodaaGreat
end
