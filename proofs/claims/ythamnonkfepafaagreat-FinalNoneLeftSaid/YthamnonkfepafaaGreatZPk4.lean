import Derived.Test.YthamnonkfepafaaGreatZPk3
import Derived.Test.YthamnonkfepafaaGreatZCode
import Derived.Test.YthamnonkfepafaaGreatZCodeD
import Derived.Test.YthamnonkfepafaaGreatZCode
import Derived.Test.YthamnonkfepafaaGreatZCodeD
import Derived.Test.YthamnonkfepafaaGreatZCodeD
import Derived.Test.YthamnonkfepafaaGreatZCode
import Derived.Test.YthamnonkfepafaaGreatZCodeD
set_option linter.unusedSimpArgs false
set_option linter.unusedVariables false
namespace Go.Proofs.YthamnonkfepafaaGreat
set_option maxRecDepth 100000
section
set_option maxRecDepth 8000
variable {s:HL} {a:Int} {K L:List Int} {cs:List Value} {mk q vb:Nat} {c0:Value} {w:World}
theorem Q1 (b:At w q [.pointer (some ⟨vb,0,none⟩)]) (d:At w vb (c0::.map (some mk)::cs)) (j:MB w mk K) (x:Int):
  Cs Tryz.prog 261 [.int .i64 x,.pointer (some ⟨q,0,none⟩)] w fun v w'=>v=.bool (decide (x∈K))∧ae [] w w':=by
 refine en [] ?_;refine aZ b.cell d.cell ?_;refine pR Tryz.underlying130 Tryz.underlying3 (Tryz.zeroValue4 _) j ?_;rw[dw];refine gO ?_;exact ae.refl _ _
theorem MU {y:Value} (b:At w q [.pointer (some ⟨vb,0,none⟩)]) (d:At w vb (c0::.map (some mk)::cs)) (j:MB w mk K) (x:Int):
  Cs Tryz.prog 263 [.int .i64 x,y,.pointer (some ⟨q,0,none⟩)] w fun v w'=>v=.bool (decide (x∈K))∧ae [] w w':=by
 refine en [] ?_;refine aZ b.cell d.cell ?_;refine pR Tryz.underlying130 Tryz.underlying3 (Tryz.zeroValue4 _) j ?_;rw[dw];refine gO ?_;exact ae.refl _ _
def jC (s:HL) (L K:List Int):List Int:=(ki s L).filter fun x=>!decide (x∈K)
theorem Gg (b:s.Inv) {k:Int} (h:ui s k=some a):cI s a:=by
 unfold ui at h;cases e:getM s.pl k with
 |none=>rw[e]at h;cases h
 |some v=>
  obtain⟨i,d,rfl,_⟩:=b.pm.b k v e;rw[e]at h;cases h;exact⟨i,rfl,d⟩
theorem jQ (b:s.Inv) (h:a∈ki s L):cI s a:=by
 obtain⟨k,_,e⟩:=List.mem_filterMap.1 h;exact Gg b e
set_option maxHeartbeats 1000000 in
theorem Q2 {b:Nat} {hp:Addr} {ar:Option Addr} {fl fp fr:List Nat} {R:Rt.MS} (h:RG w b hp ar L fl) (hl:L.length≤500) (hr:HR w (some hp) fp (some s)) (hi:s.Inv) (hR:Rt.PR w ar fr (some R)) (GM:iP true s R) (qs:s.aj.length≤2000) (GO:(Rt.bz (some R)).length≤500) (IZ:zl s.abs):
  Cs Tryz.prog 85 [.pointer (some ⟨b,0,none⟩)] w fun v w'=>ae [] w w'∧ ∃vb mk I vd fd K S,v=.tuple #[.pointer (some ⟨vb,0,none⟩),.int .i64 0]∧At w' vb [.pointer (some hp),.map (some mk),.map (some I),vd]∧MB w' mk K∧MB w' I (S.filter fun x=>!decide (x∈K))∧
   Sl w' 1 vd (jC s L K).length (ints (jC s L K)) fd∧uu s (Rt.bz (some R)) K∧uu s (Rt.bz (some R)++jC s L K) S∧w.heap.size≤vb∧w.heap.size≤mk∧w.heap.size≤I∧(∀y,y∈fd→w.heap.size≤y)∧vb≠mk∧vb≠I∧mk≠I∧vb∉fd∧mk∉fd∧I∉fd:=by
 have hs:=hi.ok;have Z8: ∀x,x∈Rt.bz (some R)→0≤x∧x≤4096:=fun x hx=>(zq GM.2 hx).le hs;obtain⟨v0,h1,h2,h3⟩:=id h;refine en [2,6,8,11,14,17,20,23,26,29,32,35,40,41,44,0,2,5,8,11,14,17,20,23,26,30,33,35,38,41,44,47,52,0,2,5,11,9,15,17,20,25,0,2,5,8,11,14,17,20,23,26,32,35,38,41,30,45,48,50,53,56,59,62,67,0] ?_;refine gO ?_;refine aW [b] ?_;have od:=ae.drew [] w;have Ck:=h1.ab od;have lt1: ∀z,z∈[b]→z<w.drew.heap.size∧z∉([]:List Nat):=fun z d=>by simp only[aK]at d;subst d;exact⟨Ck.lt,by simp⟩
 refine gO ?_;refine ks (BY (h.ab od)) (.inr (SB.refl _ _)) ?_;refine aQ Ck.cell ?_;refine jr (yE (hr.ab od) hs (hR.ab od) GM qs (by omega)) (.inl rfl) fun w2 jq=>?_;refine gO ?_;have o2:=od.nil jq;have SE:=h1.ab o2;refine aQ SE.cell ?_;rw[ag rfl rfl];refine gO ?_;refine bp fun vb w3 hvb qt lS gJ=>?_;refine gO ?_;refine bp fun q w4 hq pk iH iV=>?_;refine gO ?_;refine fJ iH (by simp) rfl fun w5 qm ky jv=>?_;have o5:ae [] w w5:=((o2.nil gJ).nil iV).trans jv fun y M=>by have:=o2.size;simp only[aK]at M;exact .inr (by omega)
 have hv5:=(lS.ab iV).keep jv (by simp;omega);have ZH:At w5 q [.pointer (some ⟨vb,0,none⟩)]:=ky;have NI:=h1.ab o5;refine gO ?_;refine aW [q,b] ?_;have Tm:=ae.drew [] w5;have qd:=ZH.ab Tm;have bd:=NI.ab Tm;have Z9:=hv5.ab Tm;have Z':=o5.nil Tm;have W0: ∀z,z∈[q,b]→z<w5.drew.heap.size:=fun z d=>by
  simp only[List.mem_cons,List.not_mem_nil,or_false]at d;rcases d with rfl|rfl
  ·exact qd.lt
  ·exact bd.lt
 refine aZ qd.cell bd.cell ?_;refine bI (Rt.xe (hR.ab Z')) ?_;rintro vl w6 ⟨H,f6,hl6,_⟩;refine⟨.inr ((SB.refl _ _).only H fun z d=>⟨W0 z d,by simp⟩),?_⟩;have o6:=Z'.nil H;refine gO ?_;refine bI (BX (hr.ab o6) hs IZ hl6 (by omega) (fun x hx=>by have:=Z8 x hx;omega) qs) ?_;rintro _ w7 ⟨kB,mk,K,n7,rfl,hK7,gmk,lx⟩;refine⟨.inr (((SB.refl _ _).only H fun z d=>⟨W0 z d,by simp⟩).only kB fun z d=>⟨Nat.lt_of_lt_of_le (W0 z d) H.size,by simp⟩),?_⟩;have o7:=o6.nil kB;have hv7:=(Z9.ab H).ab kB;refine gO ?_;refine Ee hv7 (by simp) rfl fun w8 Bu nK k9=>⟨.inl rfl,?_⟩;have hv8:At w8 vb [.pointer (some hp),.map (some mk),.map none,.slice none 0 0]:=nK;have z2:=o2.size;have z6:=o6.size;have vbw:w.heap.size≤vb:=by omega
 have vb6:vb<w6.heap.size:=by have:=Z9.lt;have:=H.size;omega
 have qw:w.heap.size≤q:=by omega
 have qv:q≠vb:=by omega
 have W1: ∀y,y∈[vb]→y∈([]:List Nat)∨w.heap.size≤y:=fun y M=>by simp only[aK]at M;subst M;exact .inr vbw
 have o8:ae [] w w8:=o7.trans k9 W1;have Ia:=((qd.ab H).ab kB).keep k9 (by simpa using qv);have W2:MB w8 mk K:=hK7.keep k9 (by simp;omega);have Vc:=h1.ab o8;refine gO ?_;refine aW [q] ?_;have N:=ae.drew [] w8;have P:=o8.nil N;have Tn:=Ia.ab N;have W3:=hv8.ab N;refine aQ Tn.cell ?_;refine bI (JB (h.ab P) (by omega) (hr.ab P) hi) ?_;rintro vA w9 ⟨u,f9,hA9,g9⟩;have O: ∀z,z∈[q]→z<w8.drew.heap.size:=fun z d=>by simp only[aK]at d;subst d;exact Tn.lt
 refine⟨.inr ((SB.refl _ _).only u fun z d=>⟨O z d,by simp⟩),?_⟩;have o9:=P.nil u;have Lp:=qY s L;have k: ∀z,z<w8.drew.heap.size→z∉f9:=fun z d e=>by have:=g9 z e;omega
 have W4:vb<w8.drew.heap.size:=W3.lt;have W5:mk<w8.drew.heap.size:=cz.lt (W2.ab N);refine gO ?_;refine bI (lu (p:=fun x=>decide (x∈K)) (F:=261) (caps:=#[.pointer (some ⟨q,0,none⟩)]) hA9 (by kernel_rfl) (by omega) fun w' x ho hx=>?_) ?_
 ·exact Q1 ((Tn.ab u).keep ho (k q (O q (by simp)))) ((W3.ab u).keep ho (k vb W4)) (((W2.ab N).ab u).keep ho (k mk W5)) x
 rintro vD rS ⟨C,Q3⟩;refine⟨.inr (((SB.refl _ _).only u fun z d=>⟨O z d,by simp⟩).only C fun z d=>⟨Nat.lt_of_lt_of_le (O z d) u.size,k z (O z d)⟩),?_⟩;have o10:ae [] w rS:=o9.trans C fun y M=>.inr (by have:=g9 y M;have:=P.size;omega);have Q4:=(Tn.ab u).keep C (k q (O q (by simp)));have W6:=(W3.ab u).keep C (k vb W4);have L1:=((W2.ab N).ab u).keep C (k mk W5);refine gO ?_;refine Ee W6 (by simp) Q3.jH fun m uz E9 J=>⟨.inl rfl,?_⟩;have MV:At m vb [.pointer (some hp),.map (some mk),.map none,vD]:=E9;have Ge:ae [] w m:=o10.trans J W1;have MW:=Q4.keep J (by simpa using qv);have Q5:MB m mk K:=L1.keep J (by simp;omega);have W7:=Q3.keep J fun z d e=>k vb W4 (by simp only[aK]at e;exact e▸d);have W8:=h1.ab Ge;obtain⟨D,Q⟩: ∃D,D=jC s L K:=⟨_,rfl⟩;have W9:Sl m 1 vD D.length (ints D) f9:=by rw[Q];exact W7
 have TQ:D.length≤L.length:=by rw[Q];exact Nat.le_trans (List.length_filter_le _ _) Lp
 refine gO ?_;refine aW [q,b,vb] ?_;have l:=ae.drew [] m;have T:=Ge.nil l;have U:=MW.ab l;have V:=MV.ab l;have Q6:=W8.ab l;have o: ∀z,z∈[q,b,vb]→z<m.drew.heap.size:=fun z d=>by
  simp only[List.mem_cons,List.not_mem_nil,or_false]at d;rcases d with rfl|rfl|rfl
  ·exact U.lt
  ·exact Q6.lt
  ·exact V.lt
 refine cT U.cell Q6.cell V.cell ?_;refine bI (Rt.xe (hR.ab T)) ?_;rintro vl2 wN ⟨j,f12,Xa,g12⟩;refine⟨.inr ((SB.refl _ _).only j fun z d=>⟨o z d,by simp⟩),?_⟩;refine gO ?_;refine rN Xa ((W9.ab l).ab j).src bR (by omega) (by omega) ?_;intro v13 W f13 yG aba r _;have t: ∀z,z<m.drew.heap.size→z∉f12:=fun z d e=>by have:=g12 z e;omega
 have Q7:SB [q,b,vb] m.drew W:=((SB.refl _ _).only j fun z d=>⟨o z d,by simp⟩).only r fun z d=>⟨Nat.lt_of_lt_of_le (o z d) j.size,t z (o z d)⟩;refine⟨.inr Q7,?_⟩;have Ap:ae [] w W:=(T.nil j).trans r fun y M=>.inr (by have:=g12 y M;have:=T.size;omega);have E':Sl W 1 v13 (Rt.bz (some R)++D).length (ints (Rt.bz (some R)++D)) f13:=by rw[cH,ba];exact yG
 have OD: ∀x,x∈D→x≤4096:=fun x hx=>by
  rw[Q]at hx;obtain⟨i,rfl,hk⟩:=jQ hi (List.mem_filter.1 hx).1;have:=gy hs hk;omega
 refine gO ?_;refine bI (BX (hr.ab Ap) hs IZ E' (by simp only[cH];omega) (fun x hx=>by
  rcases List.mem_append.1 hx with e|e
  ·have:=Z8 x e;omega
  ·have:=OD x e;omega) qs) ?_
 rintro _ E2 ⟨B,I,S,n14,rfl,Xb,gms,kz⟩;have z13:m.drew.heap.size≤W.heap.size:=Nat.le_trans j.size r.size;refine⟨.inr (Q7.only B fun z d=>⟨Nat.lt_of_lt_of_le (o z d) z13,by simp⟩),?_⟩;have Jx:=Ap.nil B;have Xc:=o vb (by simp);have Xd:=((V.ab j).keep r (t vb Xc)).ab B;refine gO ?_;refine Ee Xd (by simp) rfl fun zG H6 yI E=>⟨.inl rfl,?_⟩;have X:At zG vb [.pointer (some hp),.map (some mk),.map (some I),vD]:=yI;have abb:W.heap.size≤I:=gms;have Y:vb≠I:=by omega
 have DC:ae [] w zG:=Jx.trans E W1;have Xe:mk<m.drew.heap.size:=cz.lt (Q5.ab l);have Q8:MB zG mk K:=((((Q5.ab l).ab j).keep r (t mk Xe)).ab B).keep E (by simp;omega);have Xf:MB zG I S:=Xb.keep E (by simp;omega);have Xg:=o q (by simp);have Z:=(((U.ab j).keep r (t q Xg)).ab B).keep E (by simpa using qv);have Q': ∀z,z∈f9→z<m.drew.heap.size:=fun z d=>W9.lt z d;have Ra:vb∉f9:=fun e=>by have:=g9 vb e;have:w8.drew.heap.size=w8.heap.size:=rfl;omega
 have Xh:=(((((W9.ab l).ab j).keep r fun z d=>t z (Q' z d)).ab B)).keep E fun z d e=>Ra (by simp only[aK]at e;exact e▸d);refine aZ Z.cell X.cell ?_;refine aw (zs (p:=fun x=>decide (x∈K)) (F:=263) (caps:=#[.pointer (some ⟨q,0,none⟩)]) Xf (by kernel_rfl) fun w' x ho hx=>?_) ?_
 ·exact MU (Z.keep ho (by simp;omega)) (X.keep ho (by simpa using Y)) (Q8.keep ho (by simp;omega)) x
 rintro _ Nz ⟨G,Xi⟩;have o16:ae [] w Nz:=DC.trans G fun y M=>by simp only[aK]at M;subst M;have:=Ap.size;exact .inr (by omega)
 have MX:=Z.keep G (by simp;omega);refine aQ MX.cell ?_;have Rb:I∉f9:=fun e=>by have:=Q' I e;omega
 have Xj:mk∉f9:=fun e=>k mk W5 e;refine⟨o16,vb,mk,I,vD,f9,K,S,rfl,X.keep G (by simpa using Y),Q8.keep G (by simp;omega),Xi,?_,lx,?_,vbw,?_,?_,?_,?_,Y,?_,Ra,Xj,Rb⟩
 ·rw[←Q];exact Xh.keep G fun z d e=>Rb (by simp only[aK]at e;exact e▸d)
 ·rw[←Q];exact kz
 ·omega
 ·have:=Ap.size;omega
 ·intro y M;have:=g9 y M;have:=P.size;omega
 ·omega
 ·omega
end
section
set_option maxRecDepth 8000
variable {fp:List Nat} {xs:List Value} {n sz:Nat} {v:Value} {w w':World}
theorem ql.keep {S:List Nat} (h:ql w sz v n xs fp) (k:ae S w w') (j: ∀x,x∈fp→x∉S):ql w' sz v n xs fp:=by
 refine⟨h.1,h.2.elim .inl fun⟨g,cap,pre,ys,post,T,l,b,d,m,o⟩=>.inr ⟨g,cap,pre,ys,post,T,l,b,?_,m,o⟩⟩;rw[k.block g ((Array.getElem?_eq_some_iff.1 d).1) (j g (by simp[b]))];exact d
theorem ql.ab (h:ql w sz v n xs fp) (k:ae [] w w'):ql w' sz v n xs fp:=h.keep k (by simp)
theorem ql.val (h:ql w sz v n xs fp): ∃(a:Option Addr) (cap:Nat),v=.slice a n cap:=by
 rcases h.2 with⟨rfl,rfl,_⟩|⟨g,cap,pre,ys,post,T,rfl,_⟩
 ·exact⟨_,_,rfl⟩
 ·exact⟨_,_,rfl⟩
theorem ql.rd {xs:List Int} (h:ql w 1 v xs.length (ints xs) fp):DA w fp v xs:=by
 rcases h.2 with⟨rfl,d,rfl⟩|⟨g,cap,pre,ys,post,T,rfl,rfl,j,l,m⟩
 ·exact⟨none,0,by rw[d],fun i b=>by omega⟩
 ·refine⟨_,cap,rfl,fun i b=>⟨_,rfl,by simp,?_⟩⟩;rw[bQ];simp only[World.cell?,j];have k:(ints xs).length=xs.length:=by simp[ints]
  simp[List.getElem?_append_right,List.getElem?_append_left,k,b,ints]
theorem ql.tail {a:Option Addr} {cap:Nat} {x:Int} {xs:List Int} {k:IntKind} (h:ql w 1 (.slice a n cap) (x::xs).length (ints (x::xs)) fp) (t:n=(x::xs).length):
  ∃o,iD 1 (.slice a n cap) (some (.int k 1)) none=some o∧ql w 1 o xs.length (ints xs) fp:=by
 subst t;rcases h.2 with⟨_,u,_⟩|⟨g,q,pre,ys,post,T,z,rfl,d,r,j⟩
 ·simp at u
 ·injection z with B _ C;subst B;subst C;have D:ints (x::xs)=.int .i64 x::ints xs:=rfl;rw[D]at d r;by_cases E:1<cap
  ·refine⟨_,As (l:=1) (by simp) E,by simp[ints],.inr ⟨g,cap-1,pre++[.int .i64 x],ys,post,T,?_,rfl,?_,?_,?_⟩⟩
   ·simp[bQ]
   ·rw[d];simp
   ·simp only[cH,List.length_cons]at r⊢;omega
   ·simp only[List.length_cons]at j;omega
  ·have b:cap=1:=by simp only[List.length_cons]at j;omega
   subst b;have m:xs=[]:=by
    cases xs with
    |nil=>rfl
    |cons y ys=>simp only[List.length_cons]at j;omega
   subst m;refine⟨_,yK (l:=1) rfl,by simp[ints],.inr ⟨g,0,pre,[],.int .i64 x::ys++post,T,rfl,rfl,?_,?_,by simp⟩⟩
   ·rw[d];simp[ints]
   ·simp[ints]
end
section
set_option maxRecDepth 8000
variable {s:HL} {x y:Int} {K T:List Int} {R:Rt.MS}
theorem rJ (d:s.Ok) (b:iP true s R) (r:y∈aY (some s) x):cI s y:=by
 obtain⟨j,l,m,t,_⟩:=iB.1 r;by_cases c:(aV (some s) x).2=0
 ·obtain⟨k,rfl,o⟩:=oL d c;rw[kO d o]at l m;have:=b.ref o l;unfold HL.RF at this;rw[←m]at this;rcases this with e|⟨_,e⟩
  ·exact absurd e t
  ·exact e
 ·exfalso;have:(dS (some s) x).length=0:=by
   unfold dS;rw[List.length_map,List.length_range];unfold aV at c⊢;cases q:bE (some s) x with
   |true=>simp[cK,q]at c
   |false=>simp[cK,q]
  omega
structure MY (s:HL) (x:Int) (K:List Int):Prop where
 nd:K.Nodup
 e9: ∀y,y∈K→cI s y
 a: ∀y,y∈aY (some s) x→y∈K
 c: ∀y z,y∈K→z∈aY (some s) y→z∈K
 i: ∀P:Int→Prop,(∀y,y∈aY (some s) x→P y)→(∀y z,P y→z∈aY (some s) y→P z)→ ∀y,y∈K→P y
structure xA (s:HL) (x:Int) (K T:List Int):Prop where
 nd:K.Nodup
 e9: ∀y,y∈K→cI s y
 lt: ∀y,y∈T→cI s y
 a: ∀y,y∈aY (some s) x→y∈K∨y∈T
 c: ∀y z,y∈K→z∈aY (some s) y→z∈K∨z∈T
 i: ∀P:Int→Prop,(∀y,y∈aY (some s) x→P y)→(∀y z,P y→z∈aY (some s) y→P z)→ ∀y,y∈K∨y∈T→P y
theorem xA.done (h:xA s x K []):MY s x K:=
 ⟨h.nd,h.e9,fun y b=>(h.a y b).resolve_right (by simp),fun y z b d=>(h.c y z b d).resolve_right (by simp),fun P j k y b=>h.i P j k y (.inl b)⟩
theorem xA.skip (h:xA s x K (y::T)) (d:y∈K):xA s x K T:=
 ⟨h.nd,h.e9,fun z b=>h.lt z (List.mem_cons_of_mem _ b),fun z b=>(h.a z b).elim .inl fun e=>(List.mem_cons.1 e).elim (fun e=>.inl (e▸d)) .inr,fun u z j b=>(h.c u z j b).elim .inl fun e=>(List.mem_cons.1 e).elim (fun e=>.inl (e▸d)) .inr,fun P k l z b=>h.i P k l z (b.imp_right (List.mem_cons_of_mem _))⟩
theorem xA.step (q:s.Ok) (l:iP true s R) (h:xA s x K (y::T)) (r:y∉K):xA s x (K++[y]) (T++aY (some s) y):=by
 refine⟨?_,fun z d=>?_,fun z d=>?_,fun z d=>?_,fun u z t d=>?_,fun P m k z d=>?_⟩
 ·rw[List.nodup_append];exact⟨h.nd,by simp,fun a w b o e=>r (by simp only[aK]at o;rw[←o,←e];exact w)⟩
 ·rcases List.mem_append.1 d with e|e
  ·exact h.e9 z e
  ·simp only[aK]at e;rw[e];exact h.lt y (by simp)
 ·rcases List.mem_append.1 d with e|e
  ·exact h.lt z (List.mem_cons_of_mem _ e)
  ·exact rJ q l e
 ·rcases h.a z d with e|e
  ·exact .inl (List.mem_append_left _ e)
  ·rcases List.mem_cons.1 e with e|e
   ·exact .inl (by rw[e];simp)
   ·exact .inr (List.mem_append_left _ e)
 ·rcases List.mem_append.1 t with e|e
  ·rcases h.c u z e d with e|e
   ·exact .inl (List.mem_append_left _ e)
   ·rcases List.mem_cons.1 e with e|e
    ·exact .inl (by rw[e];simp)
    ·exact .inr (List.mem_append_left _ e)
  ·simp only[aK]at e;rw[e]at d;exact .inr (List.mem_append_right _ d)
 ·have j:P y:=h.i P m k y (.inr (by simp));rcases d with e|e
  ·rcases List.mem_append.1 e with e|e
   ·exact h.i P m k z (.inl e)
   ·simp only[aK]at e;rw[e];exact j
  ·rcases List.mem_append.1 e with e|e
   ·exact h.i P m k z (.inr (List.mem_cons_of_mem _ e))
   ·exact k y z j e
def zu (v:Value):Nat:=match v with
 |.slice _ n _=>n
 |_=>0
theorem MZ {w:World} {vb:Nat} {hp:Addr} {cs:List Value} {fp:List Nat} (hv:At w vb (.pointer (some hp)::cs)) (hr:HR w (some hp) fp (some s)) (r:s.Ok) (t:iP true s R) (qs:s.aj.length≤2000) (x:Int) (hx:cI s x):
  Cs Tryz.prog 265 [.pointer (some ⟨vb,0,none⟩),.int .i64 x] w fun v w'=>ae [] w w'∧ ∃d K,v=.map (some d)∧MB w' d K∧MY s x K∧w.heap.size≤d:=by
 have Tb:=hx.le r;refine en [] ?_;refine gO ?_;refine Ay fun d X Tk pf Xk l=>?_;(repeat(first|with_reducible(first|refine nx ?_|refine bA rfl ?_)|simp only[go_sem,(hv.ab l).cell]));refine aw (xw (hr.ab l) r x (by omega)) ?_;rintro v0 w2 ⟨E,f2,SN,g2⟩;have o2:=l.nil E;have C: ∀y,(aY (some s) y).length≤15:=fun y=>Nat.le_trans kh (pe r y);have f2b:d∉f2:=fun e=>by have:=g2 d e;omega
 refine gO ?_;refine az (6::7::15::16::17::18::19::20::21::22::23::24::25::26::27::28::29::30::31::32::33::34::35::36::[]) (fun g w'=> ∃(T K:List Int) (H:List Nat),ql w' 1 (g 6) T.length (ints T) H∧T.length≤16+16*K.length∧MB w' d K∧xA s x K T∧ae [d] X w'∧d∉H∧ ∀y,y∈H→X.heap.size≤y) (fun g w'=>16*(2000-qX w' d)+zu (g 6))
  ⟨aY (some s) x,[],f2,by simp only[go_sem];exact SN.N3,by have:=C x;simp;omega,Xk.ab E,?_,E.of_nil,f2b,g2⟩ fun g Y hI m=>?_
 ·exact⟨List.nodup_nil,fun y j=>absurd j (by simp),fun y j=>rJ r t j,fun y j=>.inr j,fun y z j=>absurd j (by simp),fun P h1 _ y j=>h1 y (j.resolve_left (by simp))⟩
 obtain⟨T,K,H,Z,u,I,b,F,B,gt⟩:=hI;have WO:K.length≤2000:=Nat.le_trans (eN b.nd b.e9) qs;have o3:ae [] w Y:=l.trans F fun y j=>by simp only[aK]at j;subst j;exact .inr (by omega)
 generalize J:g 6=v6 at Z;obtain⟨a6,c6,rfl⟩:=Z.val;cases T with
 |nil=>
  refine cT J (show decide ((0:Int)<((0:Nat):Int))=false from rfl) (show decide ((0:Int)<((([]:List Int).length:Nat):Int))=false from rfl) ?_;exact⟨o3,d,K,rfl,I,b.done,by omega⟩
 |cons y T=>
 have hml:=I.len;obtain⟨p,hp6,OK⟩:=Z.rd.get (i:=0) (by simp);subst hp6;obtain⟨v',L,G⟩:=Z.tail (k:=.i64) rfl;simp only[List.length_cons]at L J;have M:Y.cell? (p.add 0)=some (.int .i64 y):=OK;have hyl:cI s y:=b.lt y (by simp);refine Dx J (aU (show(0:Int)<((T.length+1:Nat):Int) by omega)) (eq_true (show(0:Int)<((T.length+1:Nat):Int) by omega)) M (show Y.cell? p=some (.int .i64 y)from M) L @Int.toNat_zero @Nat.zero_mul (show(0:Int).toNat*1=0 from rfl) ?_;refine pR Tryz.underlying130 Tryz.underlying3 (Tryz.zeroValue4 _) I ?_;rw[dw];obtain⟨a',c',e'⟩:=G.val;by_cases c:y∈K
 ·rw[aU c];refine gO ?_;refine m _ Y ⟨T,K,H,by simp only[go_sem];exact G,by simp only[List.length_cons]at u;omega,I,b.skip c,F,B,gt⟩ ?_
  ·simp only[go_sem,J];rw[e'];simp only[zu,List.length_cons];omega
 rw[aX c];refine gO ?_;refine Fy Tryz.underlying130 Tryz.underlying3 I fun w4 pk N O=>?_;rw[zo c]at N;have Q:MB w4 d (K++[y]):=N;have o4:ae [d] X w4:=F.trans O fun z o=>.inl o;have S:ae [] w w4:=l.trans o4 fun z o=>by simp only[aK]at o;subst o;exact .inr (by omega)
 have hT4:=G.keep O fun z o e=>B (by simp only[aK]at e;exact e▸o);subst e';(repeat(first|with_reducible(first|refine nx ?_|refine bA rfl ?_)|simp only[go_sem,(hv.ab S).cell]));refine aw (xw (hr.ab S) r y (by have:=hyl.le r;omega)) ?_;rintro v5 w5 ⟨q,f5,hl5,g5⟩;have sy:=C y;have hn4:=eN (s:=s) (K:=K++[y]) (b.step r t c).nd (b.step r t c).e9;simp only[cH,List.length_singleton]at hn4;have hT5:=hT4.ab q;refine gO ?_;refine Od hT5 hl5.src bR (by simp only[List.length_cons]at u;omega) (by simp only[List.length_cons]at u;omega) ?_;intro v6 w6 f6 oO U V _;have z4:=o4.size;have z5:=q.size;have o6:ae [d] X w6:=(o4.nil q).trans V fun z o=>.inr (gt z o);have W:=(Q.ab q).keep V (by exact B);have abc:d<w5.heap.size:=cz.lt (Q.ab q);have D:ql w6 1 v6 (T++aY (some s) y).length (ints (T++aY (some s) y)) f6:=by rw[cH,ba];exact oO
 obtain⟨a7,c7,e7⟩:=D.val;refine gO ?_;refine m _ w6 ⟨T++aY (some s) y,K++[y],f6,by simp only[go_sem];exact D,?_,W,b.step r t c,o6,?_,?_⟩ ?_
 ·simp only[cH,List.length_cons,List.length_nil]at u⊢;omega
 ·rcases U with rfl|rfl
  ·exact B
  ·simp only[aK];omega
 ·intro z o;rcases U with rfl|rfl
  ·exact gt z o
  ·simp only[aK]at o;omega
 ·rw[W.len];simp only[go_sem,J];rw[e7];simp only[zu,cH,List.length_cons,List.length_nil]at hml⊢;omega
end
section
set_option maxRecDepth 8000
variable {g i:Nat}
theorem Dl {n cap:Nat} (h:i<n) (b:n≤cap):xS 1 (.slice (some ⟨g,0,none⟩) n cap) (.int .i64 (i:Int)) (.int .i64 ((i+1:Nat):Int)) (.int .i64 (n:Int))=some (.slice (some ⟨g,i,none⟩) 1 (n-i)):=by
 unfold xS;simp only;rw[if_pos ⟨by omega,by omega,by omega,by omega⟩];simp only[c9];rw[if_neg (by omega),Option.map_some,bQ,Nat.zero_add,Nat.mul_one,show i+1-i=1 by omega]
theorem I0 {w:World} {D:Value} {xs:List Int} (E:Sl w 1 D xs.length (ints xs) [g]) (Q:i<xs.length) (hl:xs.length≤4000):
  Cs Tryz.prog 270 [D,.int .i64 (i:Int),.int .i64 ((i+1:Nat):Int)] w fun v w'=>ae [g] w w'∧Sl w' 1 v (xs.eraseIdx i).length (ints (xs.eraseIdx i)) [g]:=by
 obtain⟨cap,ys,rfl,q,t⟩: ∃cap ys,D=.slice (some ⟨g,0,none⟩) xs.length cap∧At w g (ints xs++ys)∧(ints xs++ys).length=cap:=by
  rcases E.2 with⟨_,R,_⟩|⟨U,d,ys,T,u,S,F,G,V⟩
  ·omega
  ·cases S;exact⟨d,ys,u,⟨T,F⟩,by simpa using G⟩
 have j:xs.length≤cap:=by rw[cH,ax]at t;omega
 have z:(xs.eraseIdx i).length=xs.length-1:=List.length_eraseIdx_of_lt Q;have H:xs.eraseIdx i=xs.take i++xs.drop (i+1):=List.eraseIdx_eq_take_drop_succ xs i;refine en [0] ?_;have W:((i:Int)==((i+1:Nat):Int))=false:=cU (by omega);(repeat(first|with_reducible(first|refine nx ?_|refine bA rfl ?_)|simp only[go_sem,Dl Q j,W]));rw[Aa (show i≤cap by omega)];have I:Sl w.drew 1 (.slice (some ⟨g,0,none⟩) i cap) i (ints (xs.take i)) [g]:=by
  have u:At w.drew g (ints (xs.take i)++(ints (xs.drop i)++ys)):=by
   rw[←List.append_assoc,←ba,List.take_append_drop];exact q.ab (ae.drew [] w)
  exact Sl.wH u (by rw[ax,List.length_take];omega) (by rw[←t];simp only[cH,ax,List.length_take,List.length_drop];omega)
 obtain⟨J,X,K⟩: ∃J,iD 1 (.slice (some ⟨g,0,none⟩) xs.length cap) (some (.int .i64 ((i+1:Nat):Int))) none=some J∧bn w.drew 1 J (xs.length-(i+1)) (ints (xs.drop (i+1))):=by
  have k:(ints (xs.drop (i+1))).length=(xs.length-(i+1))*1:=by rw[ax,List.length_drop,Nat.mul_one]
  by_cases c:i+1<cap
  ·refine⟨_,As (l:=i+1) (by omega) c,k,.inr ⟨_,_,rfl,?_⟩⟩;rw[bQ,Nat.zero_add,Nat.mul_one,ay (q.ab (ae.drew [] w)) (i+1) _ (by rw[cH,ax];omega)];congr 1;rw[List.drop_append_of_le_length (by rw[ax];omega),List.take_append_of_le_length (by rw[List.length_drop,ax];omega)];rw[List.take_of_length_le (by rw[List.length_drop,ax];omega)];simp[ints,List.map_drop]
  ·have Y:i+1=xs.length:=by omega
   have Z:cap=xs.length:=by omega
   rw[Z];refine⟨_,yK (l:=i+1) Y,k,?_⟩;rw[show xs.length-(i+1)=0 by omega];refine .inr ⟨_,0,rfl,?_⟩;rw[ay (q.ab (ae.drew [] w)) 0 _ (by simp),List.drop_eq_nil_of_le (show xs.length≤i+1 by omega)];simp[ints]
 refine aQ X ?_;refine eM I K bR (by omega) (by omega) ?_;intro v1 L f1 B _ M N;obtain⟨rfl,rfl⟩:=N.2 _ _ rfl (by omega);have en:i+(xs.length-(i+1))=xs.length-1:=by omega
 rw[←ba,←H,en]at B;rw[en];obtain⟨r,C,m⟩: ∃r,At L g (ints (xs.eraseIdx i)++r)∧(ints (xs.eraseIdx i)++r).length=cap:=by
  rcases B.2 with⟨R,_⟩|⟨U,d,r,T,u,S,F,G,V⟩
  ·cases R
  ·cases u;exact⟨r,⟨T,F⟩,by simpa using G⟩
 have o1:ae [g] w L:=((ae.drew [] w).of_nil).trans M fun y O=>.inl O;refine gO ?_;rw[sD (show xs.length-1≤xs.length by omega) j (by omega)];refine eZ @bQ @Nat.zero_add @Nat.mul_one (show xs.length-(xs.length-1)=1 by omega) ?_;refine AK Tryz.underlying35 (Tryz.zeroValue3 L) rfl C (by omega) fun w2 yJ o P=>?_;refine gO ?_;refine⟨o1.trans P fun y O=>.inl O,?_⟩;have b:(ints (xs.eraseIdx i)).length=xs.length-1:=by rw[ax,z]
 rw[List.take_left' b,List.append_assoc]at o;rw[z];refine Sl.wH o b ?_;rw[←m];simp only[cH,b,List.length_replicate,List.length_drop];have:(ints (xs.eraseIdx i)++r).length=cap:=m;rw[cH,b]at this;omega
end
section
set_option maxRecDepth 8000
inductive Rs (s:HL) (x:Int):Int→Prop
 |one {y:Int}:y∈aY (some s) x→Rs s x y
 |more {y z:Int}:Rs s x y→z∈aY (some s) y→Rs s x z
theorem Rs.trans {s:HL} {x y z:Int} (h:Rs s x y) (k:Rs s y z):Rs s x z:=by
 induction k with
 |one e=>exact .more h e
 |more _ e b=>exact .more b e
theorem MY.iff {s:HL} {x:Int} {K:List Int} (h:MY s x K) (y:Int):y∈K↔Rs s x y:=by
 refine⟨fun b=>h.i (Rs s x) (fun _=>.one) (fun _ _=>.more) y b,fun b=>?_⟩
 induction b with
 |one e=>exact h.a _ e
 |more _ e d=>exact h.c _ _ d e
open Classical in
noncomputable def vG (s:HL) (x y:Int):Bool:=decide (Rs s x y)&&!decide (Rs s y x)
theorem sI {s:HL} {x y:Int}:vG s x y=true↔Rs s x y∧ ¬Rs s y x:=by simp[vG]
theorem Dm {s:HL} {x y z:Int} (h:vG s x y=true) (k:vG s y z=true):vG s x z=true:=by
 rw[sI]at*;exact⟨h.1.trans k.1,fun e=>k.2 (e.trans h.1)⟩
theorem BZ (s:HL) (x:Int):vG s x x=false:=by
 rw[Bool.eq_false_iff];intro h;rw[sI]at h;exact h.2 h.1
theorem vH (s:HL): ∀l:List Int,l≠ []→ ∃y,y∈l∧l.any (fun x=>vG s x y)=false
 | [],h=>absurd rfl h
 | [a],_=>⟨a,by simp,by simp[BZ]⟩
 |a::b::l,_=>by
  obtain⟨y,m,d⟩:=vH s (b::l) (by simp)
  by_cases c:vG s a y=true
  ·refine⟨a,by simp,?_⟩
   rw[List.any_eq_false]at d⊢
   intro x j k
   rcases List.mem_cons.1 j with rfl|j
   ·rw[BZ]at k;cases k
   ·exact d x j (Dm k c)
  ·refine⟨y,List.mem_cons_of_mem _ m,?_⟩
   rw[List.any_cons,d,Bool.or_false]
   simpa using c
inductive xB (s:HL):List Int→List Int→Prop
 |nil:xB s [] []
 |cons {l o:List Int} {i:Nat}:i<l.length→(∀j,j<i→l.any (fun x=>vG s x (l.getD j 0))=true)→l.any (fun x=>vG s x (l.getD i 0))=false→xB s (l.eraseIdx i) o→xB s l (l.getD i 0::o)
def RM (w:World) (s:HL) (d N:Nat) (D:List Int):Prop:=d<N∧ ∃m,cz w d m∧ ∀x,x∈D→ ∃b K,b<N∧b≠d∧getM m x=some (.map (some b))∧MB w b K∧MY s x K
theorem RM.keep {w w':World} {s:HL} {b N:Nat} {D:List Int} {S:List Nat} (h:RM w s b N D) (k:ae S w w') (d: ∀z,z∈S→N≤z):RM w' s b N D:=by
 obtain⟨j,m,l,o⟩:=h;refine⟨j,m,l.keep k fun e=>by have:=d _ e;omega,fun x q=>?_⟩;obtain⟨r,K,t,u,y,B,C⟩:=o x q;exact⟨r,K,t,u,y,B.keep k fun e=>by have:=d _ e;omega,C⟩
theorem RM.ab {w w':World} {s:HL} {b N:Nat} {D:List Int} (h:RM w s b N D) (k:ae [] w w'):RM w' s b N D:=h.keep k (by simp)
open Classical in
theorem Xl {w:World} {d j k N:Nat} {s:HL} {D:List Int} {x y:Int} (l:At w d [.map (some k)]) (b:At w j [.int .i64 y]) (h:RM w s k N D) (r:x∈D) (t:y∈D):
  Cs Tryz.prog 269 [.int .i64 x,.pointer (some ⟨d,0,none⟩),.pointer (some ⟨j,0,none⟩)] w fun v w'=>v=.bool (vG s x y)∧ae [] w w':=by
 obtain⟨_,m,o,q⟩:=h;obtain⟨K,u,_,_,z,mx,B⟩:=q x r;obtain⟨C,E,_,_,F,G,H⟩:=q y t;refine en [] ?_;have I:decide (y∈u)=decide (Rs s x y):=by rw[decide_eq_decide];exact B.iff y
 have J:decide (x∈E)=decide (Rs s y x):=by rw[decide_eq_decide];exact H.iff x
 refine aZ l.cell b.cell ?_;refine pR Tryz.underlying257 Tryz.underlying3 (Tryz.zeroValue130 _) o ?_;rw[z];refine aQ b.cell ?_;refine pR Tryz.underlying130 Tryz.underlying3 (Tryz.zeroValue4 _) mx ?_;rw[dw,I];by_cases c:Rs s x y
 ·rw[aU c];refine aZ l.cell b.cell ?_;refine pR Tryz.underlying257 Tryz.underlying3 (Tryz.zeroValue130 _) o ?_;rw[F];refine aQ b.cell ?_;refine pR Tryz.underlying130 Tryz.underlying3 (Tryz.zeroValue4 _) G ?_;rw[dw,J];refine gO ?_;exact⟨by rw[vG,aU c,Bool.true_and],ae.refl _ _⟩
 ·rw[aX c];refine gO ?_;exact⟨by rw[vG,aX c,Bool.false_and],ae.refl _ _⟩
theorem M0 {w:World} {u j z N:Nat} {s:HL} {D l:List Int} {B:Value} {fl:List Nat} {y:Int} (G:At w u [B]) (C:Sl w 1 B l.length (ints l) fl) (k:l.length≤1000) (H:At w j [.map (some z)]) (h:RM w s z N D) (I: ∀x,x∈l→x∈D) (J:y∈D):
  Cs Tryz.prog 267 [.int .i64 y,.pointer (some ⟨u,0,none⟩),.pointer (some ⟨j,0,none⟩)] w fun v w'=>v=.bool (!(l.any fun x=>vG s x y))∧ae [] w w':=by
 obtain⟨M,O,rfl⟩:=C.val;refine en [] ?_;refine gO ?_;refine bp fun q P Q K d b=>?_;(repeat(first|with_reducible(first|refine nx ?_|refine bA rfl ?_)|simp only[go_sem,(G.ab b).cell]));refine aw (lA (p:=fun x=>vG s x y) (F:=269) (caps:=#[.pointer (some ⟨j,0,none⟩),.pointer (some ⟨q,0,none⟩)]) (fun m=>?_) (by kernel_rfl) k fun w' x o L=>?_) ?_
 ·obtain⟨g,E,ys,e,r,_⟩:=(C.ab b).pos (List.length_pos_iff.2 m);cases e;exact⟨g,ys,rfl,r⟩
 ·exact Xl ((H.ab b).ab o) (d.ab o) ((h.ab b).ab o) (I x L) J
 rintro _ R ⟨rfl,t⟩;refine gO ?_;exact b.nil t
end
section
section
variable {P:Program} {t kt et:TypeId} {w:World} {b:Nat} {m:IM} {k:Int} {d:Option Nat} {rest:XT} {ρ:Env} {C:Env→World→Prop} {fl:Bool} {L:List Nat} {w0:World}
theorem Rc (r:P.underlying t=some (.map kt et)) (u:P.underlying kt=some (.int .i64)) {v:Value} (h:cz w b m) (j: ∀w',w'.heap.size=w.heap.size→cz w' b (dG m k v)→ae [b] w w'→(fl=true∨SB L w0 w')∧VT P L w0 rest (bo ρ d undef) w' C):
  Bi P fl L w0 (Instr.mapUpdate t (.map (some b)) (.int .i64 k) v) d rest ρ w C:=by
 obtain⟨w',y,l,o,q⟩:=Bz (k:=k) r u h v;exact Oq y (j w' l o q).1 (j w' l o q).2
end
theorem RM.put {w j k:World} {s:HL} {d:Nat} {D:List Int} {x:Int} {m:IM} {b:Nat} {K:List Int} (B:cz w d m) (l:cz k d (dG m x (.map (some b)))) (C: ∀y,y∈D→ ∃b K,b<w.heap.size∧b≠d∧getM m y=some (.map (some b))∧MB w b K∧MY s y K)
  (t:ae [] w j) (u:MB j b K) (o:MY s x K) (L:w.heap.size≤b) (q:ae [d] j k):RM k s d k.heap.size (D++[x]):=by
 have E:=B.lt;have M:=t.size;have N:=q.size;have F:b<j.heap.size:=cz.lt u;refine⟨by omega,_,l,fun y G=>?_⟩;rw[qV];by_cases c:y=x
 ·rw[if_pos c,c];exact⟨b,K,by omega,by omega,rfl,u.keep q (by simp;omega),o⟩
 ·rw[if_neg c];obtain⟨r,K',O,z,H,I,J⟩:=C y ((List.mem_append.1 G).resolve_right (by simpa using c));exact⟨r,K',by omega,z,H,(I.ab t).keep q (by simpa using z),J⟩
set_option maxHeartbeats 1000000 in
theorem M1 {w:World} {vb:Nat} {hp:Addr} {c1 c2 vd:Value} {fd fp:List Nat} {s:HL} {R:Rt.MS} {D:List Int} (hv:At w vb [.pointer (some hp),c1,c2,vd]) (hD:Sl w 1 vd D.length (ints D) fd) (TQ:D.length≤500) (H5: ∀x,x∈D→cI s x) (hr:HR w (some hp) fp (some s)) (hs:s.Ok) (GM:iP true s R) (qs:s.aj.length≤2000):
  Cs Tryz.prog 89 [.pointer (some ⟨vb,0,none⟩)] w fun v w'=>ae [] w w'∧ ∃o W,xB s D o∧Sl w' 1 v o.length (ints o) W∧ ∀y,y∈W→w.heap.size≤y:=by
 obtain⟨ad,cd,rfl⟩:=hD.val;refine en [2,5,8,11,15,19,0] ?_;refine gO ?_;refine Ay fun rm w1 hrm pf Xk ja=>?_;refine gO ?_;refine bp fun qR w2 hqR yJ I1 jq=>?_;refine gO ?_;refine fJ I1 (by simp) rfl fun w3 qt lS gJ=>?_;have S':At w3 qR [.map (some rm)]:=lS;have To:cz w3 rm []:=(Xk.ab jq).keep gJ (by simp;omega);have o3:ae [] w w3:=(ja.nil jq).trans gJ fun y b=>by simp only[aK]at b;subst b;exact .inr (by omega)
 (repeat(first|with_reducible(first|refine nx ?_|refine bA rfl ?_)|simp only[go_sem,(hv.ab o3).cell]));refine az (5::15::16::17::18::19::20::21::22::23::24::[]) (fun g w'=> ∃i:Nat,g 15=.int .i64 (i:Int)∧i≤D.length∧ae [rm] w3 w'∧RM w' s rm w'.heap.size (D.take i)) (fun g _=>bw D.length 15 g)
  ⟨0,by simp only[go_sem];rfl,by omega,ae.refl _ _,To.lt,[],To,fun x hx=>absurd hx (by simp)⟩ fun g S hI t=>?_
 obtain⟨i,T,hi,iV,Xm,m,H0,OE⟩:=hI;have o4:ae [] w S:=o3.trans iV fun y b=>by simp only[aK]at b;subst b;exact .inr (by omega)
 have GS:=S'.keep iV (by simp;omega);by_cases c:i<D.length
 ·obtain⟨gd,_,yd,ed,Xn,_,_⟩:=(hD.ab o4).pos (by omega);cases ed;have ci:(0:Int)≤(i:Int)∧(i:Int)<(D.length:Int):=by omega
  have vr:S.cell? ⟨gd,i,none⟩=some (.int .i64 (D.getD i 0)):=by rw[Xn.cell];exact aG yd c
  refine k0 T (aU ci.2) (eq_true ci) @Int.toNat_natCast @Nat.mul_one vr ?_;refine aW [qR] ?_;have od:=ae.drew [] S;have hRd:=GS.ab od;have o4d:=o4.nil od;have Tl:cI s (D.getD i 0):=H5 _ (by simp[c]);refine aQ hRd.cell ?_;refine bI (MZ (hv.ab o4d) (hr.ab o4d) hs GM qs (D.getD i 0) Tl) ?_;rintro _ w5 ⟨q,bm,K,rfl,hK,hre,Tk⟩;refine⟨.inr ((SB.refl _ _).only q fun z d=>⟨by simp only[aK]at d;subst d;exact hRd.lt,by simp⟩),?_⟩;refine gO ?_;refine Rc Tryz.underlying257 Tryz.underlying3 ((H0.ab od).ab q) fun w6 oO Re B=>⟨.inl rfl,?_⟩;refine aZ T (au i (by omega)) ?_;refine t _ w6 ⟨i+1,?_,by omega,((iV.nil od).nil q).trans B fun y b=>.inl b,?_⟩ ?_
  ·simp only[go_sem]
  ·have:=RM.put (w:=S) H0 Re OE (od.nil q) hK hre Tk B;rw[List.take_succ_eq_append_getElem c];simpa[c]using this
  ·exact aJ T
 have hiD:i=D.length:=by omega
 subst hiD;rw[List.take_length]at OE;have hRM:RM S s rm S.heap.size D:=⟨Xm,m,H0,OE⟩;(repeat(first|with_reducible(first|refine nx ?_|refine bA rfl ?_)|simp only[go_sem,T,aX (show¬((D.length:Nat):Int)<(D.length:Int) by omega),(hv.ab o4).cell]));refine aw (xa (hD.ab o4).src bR (by omega)) ?_;rintro vl w5 ⟨q,X,Ly,gc⟩;refine gO ?_;refine bp fun C w6 hqL oO kP B=>?_;refine gO ?_;refine fJ kP (by simp) Ly.jH fun w7 uw jz kB=>?_;have Xo:At w7 C [vl]:=jz;have z4:=o4.size;have z5:=q.size;have o7:ae [] w w7:=((o4.nil q).nil B).trans kB fun y b=>by simp only[aK]at b;subst b;exact .inr (by omega)
 have Nw:ae [] S w7:=(q.nil B).trans kB fun y b=>by simp only[aK]at b;subst b;exact .inr (by omega)
 have H:C∉X:=fun e=>by have:=Ly.lt C e;omega
 have Xp:Sl w7 1 vl D.length (ints D) X:=(Ly.ab B).keep kB fun z d e=>H (by simp only[aK]at e;exact e▸d);have hR7:=GS.ab Nw;have Xq:=hRM.ab Nw;have abd:qR<S.heap.size:=GS.lt;have fw: ∀z,z∈C::X→S.heap.size≤z:=fun z d=>by
  rcases List.mem_cons.1 d with rfl|d
  ·omega
  ·exact gc z d
 have fw0: ∀z,z∈C::X→z∈([]:List Nat)∨w.heap.size≤z:=fun z d=>.inr (Nat.le_trans z4 (fw z d));refine gO ?_;refine az (6::8::30::31::32::33::34::35::36::37::38::39::40::41::42::43::44::45::46::47::[]) (fun g w'=> ∃(l o:List Int) (vl:Value) (W:List Nat),At w' C [vl]∧Sl w' 1 vl l.length (ints l) X∧l.length+o.length≤D.length∧(∀x,x∈l→x∈D)∧(∀O,xB s l O→xB s D (o++O))∧ae (C::X) w7 w'∧Sl w' 1 (g 6) o.length (ints o) W∧ ∀y,y∈W→w7.heap.size≤y) (fun _ w'=>match w'.cell? ⟨C,0,none⟩with|some v=>zu v|none=>0)
  ⟨D,[],vl,[],Xo,Xp,by simp,fun _ h=>h,fun O hO=>hO,ae.refl _ _,by simp only[go_sem];exact Sl.iW _,fun y b=>absurd b (by simp)⟩ fun g w8 hI t=>?_
 obtain⟨l,o,vl8,W,E,I,hlo,U,hO,J,Ia,V⟩:=hI;obtain⟨al,cl,rfl⟩:=I.val;have o8:ae [] w w8:=o7.trans J fw0;cases l with
 |nil=>
  refine aZ E.cell (show decide ((0:Int)<((0:Nat):Int))=false from rfl) ?_;refine⟨o8,o,W,?_,Ia,fun y b=>by have:=V y b;have:=o7.size;omega⟩;have:=hO [] .nil;simpa using this
 |cons l0 l1=>
 obtain⟨l,hl⟩: ∃l,l=l0::l1:=⟨_,rfl⟩;rw[←hl]at I hlo U hO E;have MG:0<l.length:=by rw[hl];simp
 obtain⟨gl,_,yl,el,Y,hfc,_⟩:=I.pos MG;cases el;have Ny:=hR7.keep J fun e=>by have:=fw qR e;omega
 have Xr:=Xq.keep J fw;refine aZ E.cell (aU (show(0:Int)<(l.length:Int) by omega)) ?_;refine aw (t' (p:=fun y=>!(l.any fun x=>vG s x y)) (F:=267) (caps:=#[.pointer (some ⟨C,0,none⟩),.pointer (some ⟨qR,0,none⟩)]) (fun _=>⟨gl,yl,rfl,Y⟩) (by kernel_rfl) (by omega) fun w' x ho hx=>?_) ?_
 ·exact M0 (E.ab ho) (I.ab ho) (by omega) (Ny.ab ho) (Xr.ab ho) U (U x hx)
 rintro _ w9 ⟨⟨k,rfl,hk⟩,G⟩;obtain⟨i,rfl,hi,hpi,hbf⟩: ∃i:Nat,k=(i:Int)∧i<l.length∧l.any (fun x=>vG s x (l.getD i 0))=false∧(l.take i).any (fun y=>!(l.any fun x=>vG s x y))=false:=by
  rcases hk with⟨_,hn⟩|⟨i,h1,h2,h3,h4⟩
  ·obtain⟨y,b,hyn⟩:=vH s l (by intro e;rw[e]at MG;cases MG);have:=List.any_eq_false.1 hn y b;simp[hyn]at this
  ·exact⟨i,h1,h2,by simpa using h3,h4⟩
 have hL9:=E.ab G;have ci:(0:Int)≤(i:Int)∧(i:Int)<(l.length:Int):=by omega
 have vr:w9.cell? ⟨gl,i,none⟩=some (.int .i64 (l.getD i 0)):=by rw[(Y.ab G).cell];exact aG yl hi
 refine lY hL9.cell (eq_true ci) @Int.toNat_natCast @Nat.mul_one vr ?_;rw[ag rfl rfl];refine gO ?_;refine eJ fun q10 rS Q4 Ah yv r=>?_;refine gO ?_;refine eM ((Ia.ab G).ab r) (bn.at (us:=[.int .i64 (l.getD i 0)]) yv rfl) (by simp[bh]) (by omega) (by omega) ?_;intro v11 qx f11 uz Z L _;have z7:=J.size;have z8:=G.size;have z9:=r.size;have M: ∀z,z∈C::X→z∉W:=fun z d e=>by
  have:=V z e;rcases List.mem_cons.1 d with rfl|d
  ·have:=Xo.lt;omega
  ·have:=Xp.lt z d;omega
 have Rf:=(hL9.ab r).keep L (M C (by simp));have Iv:=((I.ab G).ab r).keep L fun z d=>M z (List.mem_cons_of_mem _ d);rw[hfc]at Iv;refine aZ Rf.cell (au i (by omega)) ?_;refine aw (I0 Iv hi (by omega)) ?_;rintro v12 wN ⟨u,N⟩;rw[←hfc]at u N;have P: ∀z,z∈C::X→z∉f11:=fun z d e=>by
  rcases Z with rfl|rfl
  ·exact M z d e
  ·simp only[aK]at e;rcases List.mem_cons.1 d with rfl|d
   ·have:=Xo.lt;omega
   ·have:=Xp.lt z d;omega
 have Xs:=Rf.keep u H;refine gO ?_;refine fJ Xs (by simp) N.jH fun uy yG yH Q=>?_;have Rg:At uy C [v12]:=yH;have Rh:=N.keep Q fun z d e=>H (by simp only[aK]at e;exact e▸d);have Xt:=(uz.keep u fun z d e=>P z (List.mem_cons_of_mem _ e) d).keep Q fun z d e=>P z (by simp only[aK]at e;rw[e];simp) d;obtain⟨a13,c13,e13⟩:=Rh.val;have hel:(l.eraseIdx i).length=l.length-1:=List.length_eraseIdx_of_lt hi;refine gO ?_;refine t _ uy ⟨l.eraseIdx i,o++[l.getD i 0],v12,f11,Rg,Rh,?_,fun x hx=>U x (List.mem_of_mem_eraseIdx hx),fun O hO'=>?_,?_,?_,?_⟩ ?_
 ·rw[hel,cH,List.length_singleton];omega
 ·have:=hO (l.getD i 0::O) (.cons hi (fun j hj=>?_) hpi hO')
  ·simpa using this
  ·have:=List.any_eq_false.1 hbf (l.getD j 0) (by
    have hjl:j<l.length:=by omega
    rw[List.mem_take_iff_getElem];exact⟨j,by omega,by simp[hjl]⟩)
   simpa using this
 ·exact((((J.nil G).nil r).trans L fun y b=>.inr (V y b)).trans u fun y b=>.inl (List.mem_cons_of_mem _ b)).trans Q fun y b=>.inl (by simp only[aK]at b;rw[b];simp)
 ·simp only[go_sem];rw[cH,ba];exact Xt
 ·intro y b;rcases Z with rfl|rfl
  ·exact V y b
  ·simp only[aK]at b;omega
 ·rw[Rg.cell,E.cell,e13];simp only[List.getElem?_cons_zero,zu];omega
end
section
set_option maxRecDepth 8000
variable {K:List Int} {cs:List Value} {mk q vb:Nat} {c0:Value} {w:World}
theorem M2 (b:At w q [.pointer (some ⟨vb,0,none⟩)]) (d:At w vb (c0::.map (some mk)::cs)) (j:MB w mk K) (x:Int):
  Cs Tryz.prog 87 [.int .i64 x,.pointer (some ⟨q,0,none⟩)] w fun v w'=>v=.bool (decide (x∈K))∧ae [] w w':=by
 refine en [] ?_;refine aZ b.cell d.cell ?_;refine pR Tryz.underlying130 Tryz.underlying3 (Tryz.zeroValue4 _) j ?_;rw[dw];refine gO ?_;exact ae.refl _ _
theorem Gh {b:Nat} {S:List Int} (d:At w q [.pointer (some ⟨vb,0,none⟩)]) (j:At w vb (c0::.map (some mk)::.map (some b)::cs)) (k:MB w mk K) (l:MB w b S) (x:Int):
  Cs Tryz.prog 88 [.int .i64 x,.pointer (some ⟨q,0,none⟩)] w fun v w'=>v=.bool (decide (x∈K)||decide (x∈S))∧ae [] w w':=by
 refine en [] ?_;refine aZ d.cell j.cell ?_;refine pR Tryz.underlying130 Tryz.underlying3 (Tryz.zeroValue4 _) k ?_;rw[dw];by_cases c:x∈K
 ·rw[aU c];refine gO ?_;exact ae.refl _ _
 rw[aX c];refine aZ d.cell j.cell ?_;refine pR Tryz.underlying130 Tryz.underlying3 (Tryz.zeroValue4 _) l ?_;rw[dw];refine gO ?_;exact ae.refl _ _
theorem M3 {k:Int} (b:At w q [.int .i64 k]) (x:Int):
  Cs Tryz.prog 94 [.int .i64 x,.pointer (some ⟨q,0,none⟩)] w fun v w'=>v=.bool (x==k)∧ae [] w w':=by
 refine en [] ?_;refine aQ b.cell ?_;exact ae.refl _ _
theorem Gi {a:Option Addr} {fp:List Nat} {m:HO} (h:HR w a fp m) (x:Int) (z:x≤4611686018427387904):
  Cs Tryz.prog 272 [.pointer a,.int .i64 x] w fun v w'=>v=.int .i64 (aE (aV m x).1)∧ae [] w w':=by
 refine en [] ?_;refine gO ?_;refine aw (ju h x z) ?_;rintro _ E ⟨rfl,j⟩;refine gO ?_;refine bp fun q F G B d k=>?_;refine gO ?_;refine dF (cs:=bS (aV m x).1) d rfl (by simp[bS]) (dm _) fun l C b o=>?_;rw[dz]at b;have D:ae [] w l:=j.nil (k.trans o fun y u=>by simp only[aK]at u;subst u;exact .inr (by omega));have r:aC l ⟨q,0,none⟩ 3=some (bS (aV m x).1):=by
  rw[ay b 0 3 (by simp[bS])];rfl
 refine aQ r ?_;refine aw (tr l (aV m x).1) ?_;rintro _ H ⟨rfl,t⟩;refine gO ?_;exact D.nil t
theorem Fa {b:Nat} {q:Addr} {k:Option Addr} {L:List Int} {fl fr:List Nat} {m:Rt.MO} (h:RG w b q k L fl) (r:Rt.PR w k fr m):
  Cs Tryz.prog 22 [.pointer (some ⟨b,0,none⟩)] w fun v w'=>v=.tuple #[.int .i64 (Rt.qC m).1.1,.int .i64 (Rt.qC m).1.2]∧ae fr w w'∧((Rt.qC m).1.2≠0→ae [] w w')∧ ∃d,Rt.PR w' k d (Rt.qC m).2∧ ∀x,x∈d→x∈fr∨w.heap.size≤x:=by
 refine en [] ?_;refine gO ?_;refine aH (BY h) ?_;obtain⟨z,t,B,C⟩:=id h;refine aQ t.cell ?_;refine aw (Rt.P8 r) ?_;rintro _ D ⟨rfl,l,j,u,o,y⟩;refine gO ?_;exact⟨l,j,u,o,y⟩
end
section
variable {caps:Array Value} {m:HO} {kept:Int→Bool} {fp:List Nat} {F n:Nat} {a:Option Addr} {w:World}
def iZ (m:HO) (x kd:Int):Nat→HO×Nat
 |0=>(m,0)
 |i+1=>if(dE (iZ m x kd i).1 x (i:Int)).1≠0∧bM kd i=true then(bj (iZ m x kd i).1 x (i:Int) 0,(iZ m x kd i).2+1)else iZ m x kd i
theorem B0 (m:HO) (x kd:Int): ∀i,(iZ m x kd i).2≤i
 |0=>Nat.le_refl _
 |i+1=>by
  have:=B0 m x kd i
  unfold iZ
  split
  ·simp only;omega
  ·omega
def fW (m:HO) (x:Int) (kept:Int→Bool):HO×Nat:=
 if(aV m x).1.2.2≠1∧(aV m x).1.2.2≠2 then(m,0)else if(dE m x 0).1≠0∧kept (dE m x 0).1=true then(m,0)else iZ m x (aV m x).1.2.2 (aV m x).1.1.toNat
theorem Gj (h:HR w a fp m) (x:Int) (V:x≤4611686018427387904) (Y:(aV m x).1.1=(n:Int)) (abe:n≤15) (Z:okF Tryz.prog F=true)
  (hF: ∀w' y,ae [] w w'→Cs Tryz.prog F ([.int .i64 y]++caps.toList) w' fun v H=>v=.bool (kept y)∧ae [] w' H):
  Cs Tryz.prog 271 [.pointer a,.int .i64 x,.func (.func F) #[] caps] w fun v w'=>v=.int .i64 (fW m x kept).2∧HR w' a fp (fW m x kept).1∧ae fp w w':=by
 refine en [] ?_;refine gO ?_;refine aw (ju h x V) ?_;rintro _ w1 ⟨rfl,O⟩;refine gO ?_;refine bp fun q w2 hq yJ P jq=>?_;refine gO ?_;refine dF (cs:=bS (aV m x).1) P rfl (by simp[bS]) (dm _) fun M qt u gJ=>?_;rw[dz]at u;have I:ae [] w M:=O.nil (jq.trans gJ fun y N=>by simp only[aK]at N;subst N;exact .inr (by omega));unfold fW;rw[Y,c9];obtain⟨kd,J⟩: ∃kd,kd=(aV m x).1.2.2:=⟨_,rfl⟩;have c30:M.cell? ⟨q,0,none⟩=some (.int .i64 (n:Int)):=by rw[u.cell,←Y];rfl
 have K:M.cell? ⟨q,2,none⟩=some (.int .i64 kd):=by rw[u.cell,J];rfl
 rw[←J];have qfp:q∉fp:=fun e=>by have:=h.lt q e;have:=O.size;omega
 simp only[go_sem];refine run_seq ?_;refine bH (21::22::23::24::25::26::27::28::[]) (fun _ w'=>w'=M∧(kd=1∨kd=2)) (fun kk z=>?_) (fun g4 w4 hJ=>?_)
 ·by_cases Q:kd=1
  ·refine aZ K (dg Q) ?_;refine z _ M ⟨rfl,.inl Q⟩
  by_cases W:kd=2
  ·refine cT K (eE Q) (dg W) ?_;refine z _ M ⟨rfl,.inr W⟩
  refine cT K (eE Q) (eE W) ?_;rw[if_pos ⟨Q,W⟩];exact⟨rfl,h.ab I,I.of_nil⟩
 obtain⟨rfl,ck⟩:=hJ;rw[if_neg (show¬(kd≠1∧kd≠2) by omega)];obtain⟨R,k⟩: ∃R,R=(if(dE m x 0).1≠0∧kept (dE m x 0).1=true then(m,0)else iZ m x kd n):=⟨_,rfl⟩;rw[←k];refine run_seq ?_;refine bH (9::10::29::30::31::32::33::34::35::36::37::38::39::40::41::[]) (fun _ w'=>ae [] w4 w'∧ ¬((dE m x 0).1≠0∧kept (dE m x 0).1=true)) (fun kk z=>?_) (fun g5 L hJ=>?_)
 ·refine gO ?_;refine aw (rR (h.ab I) x 0 V) ?_;rintro _ L ⟨rfl,l⟩;by_cases D:(dE m x 0).1=0
  ·refine aQ (dg D) ?_;refine z _ L ⟨l,fun e=>e.1 D⟩
  refine aQ (eE D) ?_;have zI:Cs Tryz.prog F ((#[]:Array Value).toList++[.int .i64 (dE m x 0).1]++caps.toList) L fun v H=>v=.bool (kept (dE m x 0).1)∧ae [] L H:=by
   have:=hF L (dE m x 0).1 (I.nil l);simpa using this
  refine fI (cQ F #[] [.int .i64 (dE m x 0).1] caps) Z zI ?_;rintro _ X ⟨rfl,d⟩;cases S:kept (dE m x 0).1 with
  |true=>
   refine gO ?_;rw[if_pos ⟨D,S⟩]at k;rw[k];exact⟨rfl,h.ab ((I.nil l).nil d),((I.nil l).nil d).of_nil⟩
  |false=>
   refine gO ?_;refine z _ X ⟨l.nil d,fun e=>by rw[S]at e;cases e.2⟩
 obtain⟨l,cc⟩:=hJ;rw[if_neg cc]at k;rw[k];have o5:=I.nil l;have E:=u.ab l;have c50:L.cell? ⟨q,0,none⟩=some (.int .i64 (n:Int)):=by rw[E.cell,←Y];rfl
 refine aQ c50 ?_;refine az (11::12::13::14::44::45::46::47::48::49::50::51::52::53::54::55::56::57::58::59::60::61::62::63::64::65::66::67::68::[]) (fun g w'=> ∃i:Nat,g 44=.int .i64 (i:Int)∧g 11=.int .i64 ((iZ m x kd i).2:Int)∧i≤n∧HR w' a fp (iZ m x kd i).1∧ae fp L w') (fun g _=>bw n 44 g)
  ⟨0,by simp only[go_sem];rfl,by simp only[go_sem];rfl,by omega,h.ab o5,ae.refl _ _⟩ fun g6 X hI r=>?_
 obtain⟨i,b,B,hi,C,d⟩:=hI;have o6:ae fp w X:=(o5.of_nil).trans d fun y N=>.inl N;by_cases c:i<n;rotate_left
 ·refine cT b B (aX (show¬(i:Int)<(n:Int) by omega)) ?_;have:i=n:=by omega
  subst this;exact⟨rfl,C,o6⟩
 have T:=E.keep d qfp;have c62: ∀G,ae [] X G→G.cell? ⟨q,2,none⟩=some (.int .i64 kd):=fun G o=>by rw[(T.ab o).cell,J];rfl
 have hle:=B0 m x kd i;have j:iZ m x kd (i+1)=if(dE (iZ m x kd i).1 x (i:Int)).1≠0∧bM kd i=true then(bj (iZ m x kd i).1 x (i:Int) 0,(iZ m x kd i).2+1)else iZ m x kd i:=rfl
 refine aZ b (aU (show(i:Int)<(n:Int) by omega)) ?_;refine aw (rR C x (i:Int) V) ?_;rintro _ G ⟨rfl,t⟩;by_cases D:(dE (iZ m x kd i).1 x (i:Int)).1=0
 ·refine cT (dg D) b (au i (by omega)) ?_;rw[if_neg (fun e=>e.1 D)]at j;refine r _ G ⟨i+1,?_,?_,by omega,by rw[j];exact C.ab t,d.nil t⟩ ?_
  ·simp only[go_sem]
  ·simp only[go_sem,B];rw[j]
  ·exact aJ b
 refine cT (eE D) (c62 G t) b ?_;refine aH (JQ G kd i) ?_;cases U:bM kd i with
 |false=>
  refine aZ b (au i (by omega)) ?_;rw[if_neg (fun e=>by rw[U]at e;cases e.2)]at j;refine r _ G ⟨i+1,?_,?_,by omega,by rw[j];exact C.ab t,d.nil t⟩ ?_
  ·simp only[go_sem]
  ·simp only[go_sem,B];rw[j]
  ·exact aJ b
 |true=>
  refine aZ b B ?_;refine aw (po (C.ab t) x (i:Int) 0 V (by omega)) ?_;rintro _ w8 ⟨rfl,EO,k9⟩;refine eZ b B (au i (by omega)) (au (iZ m x kd i).2 (by omega)) ?_;rw[if_pos ⟨D,U⟩]at j;refine r _ w8 ⟨i+1,?_,?_,by omega,by rw[j];exact EO,(d.nil t).trans k9 fun y N=>.inl N⟩ ?_
  ·simp only[go_sem]
  ·simp only[go_sem];rw[j]
  ·exact aJ b
theorem Gk (h:HR w a fp m) (x:Int) (o:x≤4611686018427387904) (q:(aV m x).1.1=(n:Int)) (b:n≤15) (d:okF Tryz.prog F=true)
  (r: ∀w' y,ae [] w w'→Cs Tryz.prog F ([.int .i64 y]++caps.toList) w' fun v j=>v=.bool (kept y)∧ae [] w' j):
  Cs Tryz.prog 90 [.pointer a,.int .i64 x,.func (.func F) #[] caps] w fun v w'=>v=.bool (decide (0<(fW m x kept).2))∧HR w' a fp (fW m x kept).1∧ae fp w w':=by
 refine en [] ?_;refine gO ?_;refine aw (Gj h x o q b d r) ?_;rintro _ t ⟨rfl,k,l⟩;have e:decide ((0:Int)<((fW m x kept).2:Int))=decide (0<(fW m x kept).2):=by rw[decide_eq_decide];omega
 refine aQ e ?_;exact⟨k,l⟩
end
def Dn (keep:Int→Bool) (r:HO×Int×Int) (x:Int):HO×Int×Int:=if keep x then r else(dh r.1 x,IntKind.i64.wrap (r.2.1+1),IntKind.i64.wrap (r.2.2+aE (aV r.1 x).1))
theorem ua {α b:Type} (f:α→b→α) (a:α) (l:List b) (d:b) {i:Nat} (h:i<l.length):(l.take (i+1)).foldl f a=f ((l.take i).foldl f a) (l.getD i d):=by
 rw[List.take_succ_eq_append_getElem h,List.foldl_append];simp[h]
set_option maxHeartbeats 1000000 in
theorem Ri {w:World} {a:Option Addr} {fp:List Nat} {m:HO} {F j:Nat} {caps:Array Value} {keep:Int→Bool} {C b:Int} {J K:Value} {ys:List Value} (h:HR w a fp m) (hA: ∀x,x∈dX m→x≤4611686018427387904) (hl:(dX m).length≤5000) (L:At w j (J::K::.int .i64 C::.int .i64 b::ys)) (Z:j∉fp) (xH:okF Tryz.prog F=true)
  (hF: ∀w' y,ae (j::fp) w w'→Cs Tryz.prog F ([.int .i64 y]++caps.toList) w' fun v G=>v=.bool (keep y)∧ae [] w' G):
  Cs Tryz.prog 95 [.pointer a,.func (.func F) #[] caps,.pointer (some ⟨j,0,none⟩)] w fun _ w'=>At w' j (J::K::.int .i64 ((dX m).foldl (Dn keep) (m,C,b)).2.1::.int .i64 ((dX m).foldl (Dn keep) (m,C,b)).2.2::ys)∧HR w' a fp ((dX m).foldl (Dn keep) (m,C,b)).1∧ae (j::fp) w w':=by
 refine en [2,5,8,11,14,17,21,23,26,29,34,0] ?_;refine gO ?_;refine aw (wL h) ?_;rintro v w1 ⟨H,fA,I,gA⟩;obtain⟨A,hAe⟩: ∃A,A=dX m:=⟨_,rfl⟩;rw[←hAe]at I hA hl⊢;obtain⟨aA,cA,rfl⟩:=I.val;have dA: ∀z,z∈j::fp→z∉fA:=fun z d e=>by
  have:=gA z e;rcases List.mem_cons.1 d with rfl|d
  ·have:=L.lt;omega
  ·have:=h.lt z d;omega
 refine gO ?_;refine az (7::11::12::13::14::15::16::17::18::19::20::21::22::23::24::25::26::27::28::29::30::31::32::33::34::35::36::37::38::39::[]) (fun g w'=> ∃i:Nat,g 11=.int .i64 (i:Int)∧i≤A.length∧At w' j (J::K::.int .i64 ((A.take i).foldl (Dn keep) (m,C,b)).2.1::.int .i64 ((A.take i).foldl (Dn keep) (m,C,b)).2.2::ys)∧HR w' a fp ((A.take i).foldl (Dn keep) (m,C,b)).1∧ae (j::fp) w1 w') (fun g _=>bw A.length 11 g)
  ⟨0,by simp only[go_sem];rfl,by omega,L.ab H,h.ab H,ae.refl _ _⟩ fun g M hI q=>?_
 obtain⟨i,l,hi,t,u,D⟩:=hI;have o2:ae (j::fp) w M:=(H.of_nil).trans D fun y hy=>.inl hy;by_cases c:i<A.length;rotate_left
 ·refine aZ l (aX (show¬(i:Int)<(A.length:Int) by omega)) ?_;rw[List.take_of_length_le (by omega)]at t u;exact⟨t,u,o2⟩
 obtain⟨gl,_,yl,el,N,_,_⟩:=(I.keep D fun z d e=>dA z e d).pos (by omega);cases el;have ci:(0:Int)≤(i:Int)∧(i:Int)<(A.length:Int):=by omega
 have vr:M.cell? ⟨gl,i,none⟩=some (.int .i64 (A.getD i 0)):=by rw[N.cell];exact aG yl c
 have k:=ua (Dn keep) (m,C,b) A 0 c;obtain⟨r,hr⟩: ∃r,r=(A.take i).foldl (Dn keep) (m,C,b):=⟨_,rfl⟩;rw[←hr]at t u k;have O:=hA (A.getD i 0) (by simp[c]);refine k0 l (aU ci.2) (eq_true ci) @Int.toNat_natCast @Nat.mul_one vr ?_;have zI:Cs Tryz.prog F ((#[]:Array Value).toList++[.int .i64 (A.getD i 0)]++caps.toList) M fun v G=>v=.bool (keep (A.getD i 0))∧ae [] M G:=by
  have:=hF M (A.getD i 0) o2;simpa using this
 refine fI (cQ F #[] [.int .i64 (A.getD i 0)] caps) xH zI ?_;rintro _ w3 ⟨rfl,o⟩;have W:Dn keep r (A.getD i 0)=if keep (A.getD i 0)then r else(dh r.1 (A.getD i 0),IntKind.i64.wrap (r.2.1+1),IntKind.i64.wrap (r.2.2+aE (aV r.1 (A.getD i 0)).1)):=rfl
 by_cases X:keep (A.getD i 0)=true
 ·rw[if_pos X]at W;rw[W]at k;refine cT X l (au i (by omega)) ?_;refine q _ w3 ⟨i+1,?_,by omega,?_,?_,D.nil o⟩ ?_
  ·simp only[go_sem]
  ·rw[k];exact t.ab o
  ·rw[k];exact u.ab o
  ·exact aJ l
 ·rw[if_neg X]at W;rw[W]at k;have ck':keep (A.getD i 0)=false:=by simpa using X
  have P:=t.ab o;refine aZ ck' P.cell ?_;refine fJ P (by simp) rfl fun w4 pk Q R=>?_;have S:=(u.ab o).keep R fun z d e=>Z (by simp only[aK]at e;exact e▸d);have GU:At w4 j (J::K::.int .i64 (IntKind.i64.wrap (r.2.1+1))::.int .i64 r.2.2::ys):=Q;refine gO ?_;refine aW [j] ?_;have Y:=ae.drew [] w4;have B:=GU.ab Y;refine aQ B.cell ?_;refine bI (Gi (S.ab Y) (A.getD i 0) O) ?_;rintro _ w5 ⟨rfl,E⟩;refine⟨.inr ((SB.refl _ _).only E fun z d=>⟨by simp only[aK]at d;subst d;exact B.lt,by simp⟩),?_⟩;have NI:=B.ab E;refine gO ?_;refine Ee NI (by simp) rfl fun w6 oO T U=>⟨.inl rfl,?_⟩;have hr6:=((S.ab Y).ab E).keep U fun z d e=>Z (by simp only[aK]at e;exact e▸d);have VD:At w6 j (J::K::.int .i64 (IntKind.i64.wrap (r.2.1+1))::.int .i64 (IntKind.i64.wrap (r.2.2+aE (aV r.1 (A.getD i 0)).1))::ys):=T;refine gO ?_;refine aw (EW hr6 (A.getD i 0) O) ?_;rintro _ w7 ⟨rfl,TW,V⟩;have PA:=VD.keep V Z;have one: ∀z,z∈[j]→z∈j::fp∨w1.heap.size≤z:=fun z d=>.inl (by simp only[aK]at d;rw[d];simp);have o7:ae (j::fp) w1 w7:=(((((D.nil o).trans R one).nil Y).nil E).trans U one).trans V fun z d=>.inl (List.mem_cons_of_mem _ d);refine aZ l (au i (by omega)) ?_;refine q _ w7 ⟨i+1,?_,by omega,?_,?_,o7⟩ ?_
  ·simp only[go_sem]
  ·rw[k];exact PA
  ·rw[k];exact TW
  ·exact aJ l
def Gl (s:HL) (b:Int) (x:Int):Int:=IntKind.i64.wrap (b+s.size x.toNat)
theorem Js {w:World} {E:Addr} {fp:List Nat} {s:HL} (h:HR w (some E) fp (some s)) (z:s.aj.length≤5000):
  Cs Tryz.prog 104 [.pointer (some E)] w fun v w'=>v=.int .i64 ((dX (some s)).foldl (Gl s) 0)∧ae [] w w':=by
 refine en [] ?_;refine gO ?_;refine aw (wL h) ?_;rintro v H ⟨t,T,l,U⟩;obtain⟨A,m⟩: ∃A,A=dX (some s):=⟨_,rfl⟩;have V:A.length≤5000:=by rw[m,fu];exact z
 have B: ∀x,x∈A→cI s x:=fun x I=>dK.1 (by rw[←m];exact I);rw[←m]at l⊢;obtain⟨W,X,rfl⟩:=l.val;obtain⟨b,e,Y,Z,cB,cW,yB,yW,sb,sg,pb,pg,bl,bf,h2,J⟩:=id h;cases e;refine gO ?_;refine az (3::5::9::10::11::12::13::14::15::16::17::18::[]) (fun g w'=> ∃i:Nat,g 9=.int .i64 (i:Int)∧i≤A.length∧g 3=.int .i64 ((A.take i).foldl (Gl s) 0)∧ae [] H w') (fun g _=>bw A.length 9 g)
  ⟨0,by simp only[go_sem];rfl,by omega,by simp only[go_sem];rfl,ae.refl _ _⟩ fun g K L o=>?_
 obtain⟨i,y,hi,d,j⟩:=L;by_cases c:i<A.length;rotate_left
 ·refine cT y d (aX (show¬(i:Int)<(A.length:Int) by omega)) ?_;rw[List.take_of_length_le (by omega)];exact⟨rfl,t.nil j⟩
 obtain⟨M,_,N,O,u,_,_⟩:=(l.ab j).pos (by omega);cases O;have F:(0:Int)≤(i:Int)∧(i:Int)<(A.length:Int):=by omega
 obtain⟨k,G,C⟩:=B (A.getD i 0) (by simp[c]);have P:K.cell? ⟨M,i,none⟩=some (.int .i64 ((2*k:Nat):Int)):=by rw[u.cell,←G];exact aG N c
 have q:=ua (Gl s) 0 A 0 c;rw[G]at q;obtain⟨r,Q⟩: ∃r,r=(A.take i).foldl (Gl s) 0:=⟨_,rfl⟩;rw[←Q]at q d;have R:Gl s r ((2*k:Nat):Int)=IntKind.i64.wrap (r+s.size (2*k)):=by unfold Gl;rw[c9]
 refine k7 y d (aU F.2) (eq_true F) @Int.toNat_natCast @Nat.mul_one P ?_;refine aw (JG (J.ab (t.nil j)) C) ?_;rintro _ S ⟨rfl,D⟩;refine cT y d (au i (by omega)) ?_;refine o _ S ⟨i+1,?_,by omega,?_,j.nil D⟩ ?_
 ·simp only[go_sem]
 ·simp only[go_sem];rw[q,R]
 ·exact aJ y
set_option maxRecDepth 8000
theorem Rj {w:World} {F:Addr} {fp:List Nat} {s:HL} {d:Nat} {J K G H L:Value} {ys:List Value} (h:HR w (some F) fp (some s)) (r:s.aj.length≤5000) (t:At w d (J::K::G::H::L::ys)):
  Cs Tryz.prog 97 [.pointer (some F),.slice none 0 0,.pointer (some ⟨d,0,none⟩)] w fun _ w'=>At w' d (.int .i64 (s.aj.length:Int)::.int .i64 ((dX (some s)).foldl (Gl s) 0)::G::H::.int .i64 0::ys)∧ae [d] w w':=by
 refine en [2,5,8,11,14,17,20,24,26,29,32,37,0] ?_;refine gO ?_;refine aw (wL h) ?_;rintro v R ⟨b,S,j,T⟩;rw[fu]at j;obtain⟨U,V,rfl⟩:=j.val;refine gO ?_;refine aw (Js (h.ab b) r) ?_;rintro _ W ⟨rfl,k⟩;have u:=t.ab (b.nil k);refine gO ?_;refine fJ u (by simp) rfl fun X M l z=>?_;refine gO ?_;refine fJ l (by simp) rfl fun Y N m B=>?_;refine gO ?_;refine fJ m (by simp) rfl fun I O o C=>?_;have P:ae [d] w I:=((((b.nil k).of_nil).trans z fun y q=>.inl q).trans B fun y q=>.inl q).trans C fun y q=>.inl q;refine gO ?_;refine az (7::26::27::28::29::30::31::32::33::34::35::36::37::38::39::40::41::[]) (fun g w'=>g 26=.int .i64 0∧w'=I) (fun _ _=>0) ⟨by simp only[go_sem],rfl⟩ fun g Z Q D=>?_;obtain⟨E,rfl⟩:=Q;refine aZ E (show decide ((0:Int)<((0:Nat):Int))=false from rfl) ?_;exact⟨o,P⟩
def pr (s:HL) (k:Nat):Int:=if k=0 then 1 else if(s.B.getD k (0,0)).1≠1∧(s.B.getD k (0,0)).1≠2 then 5 else 0
theorem Rk {w:World} {b:Nat} {s:HL} {q r t cW:Nat} {yB yW:List Value} {u y z B C D:Nat} (h:rv w b s q r t cW yB yW u y z B C D) (k:Nat) (E:k<s.B.length):
  Cs Tryz.prog 383 [.pointer (some ⟨b,0,none⟩),.int .i64 (k:Int),.bool true] w fun v w'=>v=.int .i64 (pr s k)∧w'=w:=by
 have F:=h.ok.jd;have get:(cG s.B++yB)[k*2]? =some (.int .i64 (s.B.getD k (0,0)).1):=by
  rw[List.getElem?_append_left (by rw[bJ];omega),Nat.mul_comm];exact(jG E).1
 have l:(0:Int)≤(k:Int)∧(k:Int)<(s.B.length:Int):=⟨by omega,by omega⟩;refine en [] ?_;refine gO ?_;refine aH (FD h) ?_;refine gO ?_;refine aH (FA (HR.intro h) (k:Int)) ?_;unfold pr;by_cases m:k=0
 ·have d:iK (some s) (k:Int)=false:=by simp[iK,m]
  refine aQ d ?_;rw[if_pos m]
 have d:iK (some s) (k:Int)=true:=by simp only[iK,Bool.and_eq_true,decide_eq_true_eq];omega
 rw[if_neg m];by_cases j:(s.B.getD k (0,0)).1=1
 ·refine k7 d h.hb.cell h.hB.cell (eq_true l) @Int.toNat_natCast @get (dg j) ?_;rw[if_neg (by omega)]
 by_cases o:(s.B.getD k (0,0)).1=2
 ·refine xG d h.hb.cell h.hB.cell (eq_true l) @Int.toNat_natCast @get (eE j) (dg o) ?_;rw[if_neg (by omega)]
 refine xG d h.hb.cell h.hB.cell (eq_true l) @Int.toNat_natCast @get (eE j) (eE o) ?_;rw[if_pos ⟨j,o⟩]
section
variable {s s':HL} {x:Int}
def iG (s s':HL):Prop:= ∃W,s'= {s with W:=W}
theorem iG.refl (s:HL):iG s s:=⟨s.W,rfl⟩
theorem iG.trans {a b c:HL} (h:iG a b) (k:iG b c):iG a c:=by
 obtain⟨W,rfl⟩:=h;obtain⟨V,rfl⟩:=k;exact⟨V,rfl⟩
theorem iG.st (h:iG s s'):s'.st=s.st:=by obtain⟨W,rfl⟩:=h;rfl
theorem iG.B (h:iG s s'):s'.B=s.B:=by obtain⟨W,rfl⟩:=h;rfl
theorem iG.born (h:iG s s'):s'.born=s.born:=by obtain⟨W,rfl⟩:=h;rfl
theorem iG.aj (h:iG s s'):s'.aj=s.aj:=by unfold HL.aj;rw[h.st]
theorem tp {i to:Int} (e:bj (some s) x i to=some s'):iG s s':=by
 unfold bj at e;by_cases c:cf (some s) x i to=0
 ·simp only[if_pos c,Option.some.injEq]at e;exact⟨_,e.symm⟩
 ·simp only[if_neg c,Option.some.injEq]at e;exact e▸iG.refl s
def gQ (kd:Int) (m:Nat) (rf:List Int):List Int:=(List.range rf.length).map fun j=>if j<m∧bM kd j=true then 0 else rf.getD j 0
theorem bx (kd:Int) (m:Nat) (rf:List Int):(gQ kd m rf).length=rf.length:=by simp[gQ]
theorem dc {kd:Int} {m:Nat} {rf:List Int} {j:Nat} (h:j<rf.length):(gQ kd m rf).getD j 0=if j<m∧bM kd j=true then 0 else rf.getD j 0:=by
 unfold gQ;rw[tT h]
theorem tn (kd:Int) (rf:List Int):gQ kd 0 rf=rf:=by
 refine List.gX 0 (bx _ _ _) fun i b=>?_;rw[bx]at b;rw[dc b,if_neg (by omega)]
def lM (kd:Int) (rf:List Int) (i:Nat):Nat:=((List.range i).filter fun j=>bM kd j&&(rf.getD j 0 !=0)).length
theorem nJ (kd:Int) (rf:List Int) (i:Nat):lM kd rf (i+1)=lM kd rf i+if bM kd i=true∧rf.getD i 0≠0 then 1 else 0:=by
 unfold lM;rw[List.range_succ,List.filter_append,cH];congr 1;by_cases c:bM kd i=true∧rf.getD i 0≠0
 ·rw[if_pos c,List.filter_cons_of_pos (by rw[c.1,eE c.2];rfl)];rfl
 ·rw[if_neg c,List.filter_cons_of_neg]
  ·rfl
  ·intro e;simp only[Bool.and_eq_true,bne_iff_ne]at e;exact c e
theorem vI {s:HL} (h:s.Inv) {k:Nat} (D:s.st.getD k 0=1) (kd:Int): ∀i,i≤(s.ai k).rf.length→ ∃s',(iZ (some s) ((2*k:Nat):Int) kd i).1=some s'∧s'.Inv∧iG s s'∧
  (∀j,s.st.getD j 0=1→s'.ai j=if j=k then {s.ai k with rf:=gQ kd i (s.ai k).rf}else s.ai j)∧(iZ (some s) ((2*k:Nat):Int) kd i).2=lM kd (s.ai k).rf i
 |0,_=>⟨s,rfl,h,iG.refl s,fun j _=>by
   by_cases c:j=k
   ·subst c;rw[if_pos rfl,tn]
   ·rw[if_neg c],rfl⟩
 |i+1,N=>by
  obtain⟨w,G,o,y,E,H⟩:=vI h D kd i (by omega)
  have q:w.st.getD k 0=1:=by rw[y.st];exact D
  have z:=E k D
  rw[if_pos rfl]at z
  have K:(w.ai k).rf.length=(s.ai k).rf.length:=by rw[z];exact bx _ _ _
  have L:dE (some w) ((2*k:Nat):Int) (i:Int)=((s.ai k).rf.getD i 0,0):=by
   rw[jt o.ok q (by omega),z];simp only;rw[dc (by omega),if_neg (by omega)]
  have b:iZ (some s) ((2*k:Nat):Int) kd (i+1)=if(dE (iZ (some s) ((2*k:Nat):Int) kd i).1 ((2*k:Nat):Int) (i:Int)).1≠0∧bM kd i=true then(bj (iZ (some s) ((2*k:Nat):Int) kd i).1 ((2*k:Nat):Int) (i:Int) 0,(iZ (some s) ((2*k:Nat):Int) kd i).2+1)else iZ (some s) ((2*k:Nat):Int) kd i:=rfl
  rw[G,L]at b;simp only at b;rw[nJ];by_cases c:(s.ai k).rf.getD i 0≠0∧bM kd i=true
  ·rw[if_pos c]at b;rw[b,if_pos ⟨c.2,c.1⟩];obtain⟨M,r, -⟩:=gV o.ok ((2*k:Nat):Int) (i:Int) 0;have u:=qu o.ok r;refine⟨M,r,o.wM r u,y.trans (tp r),fun j B=>?_,by simp only;rw[H]⟩;rw[ri o.ok u q (by omega) (.inl rfl) r j (by rw[y.st];exact B)];by_cases d:j=k
   ·rw[if_pos d,if_pos d,z];have F:(gQ kd i (s.ai k).rf).set i 0=gQ kd (i+1) (s.ai k).rf:=by
     refine List.gX 0 (by rw[List.length_set,bx,bx]) fun t m=>?_;rw[List.length_set,bx]at m;rw[dc m];by_cases I:i=t
     ·subst I;rw[a8 (by rw[bx];omega),if_pos ⟨by omega,c.2⟩]
     ·rw[aI I,dc m];by_cases l:t<i∧bM kd t=true
      ·rw[if_pos l,if_pos ⟨by omega,l.2⟩]
      ·rw[if_neg l,if_neg (fun e=>l ⟨by omega,e.2⟩)]
    rw[←F]
   ·rw[if_neg d,if_neg d,E j B,if_neg d]
  ·rw[if_neg c]at b;rw[b,if_neg (fun e=>c ⟨e.2,e.1⟩)];refine⟨w,G,o,y,fun j B=>?_,by rw[H];rfl⟩;rw[E j B];by_cases d:j=k
   ·rw[if_pos d,if_pos d];have F:gQ kd i (s.ai k).rf=gQ kd (i+1) (s.ai k).rf:=by
     refine List.gX 0 (by rw[bx,bx]) fun t m=>?_;rw[bx]at m;rw[dc m,dc m];by_cases l:t<i∧bM kd t=true
     ·rw[if_pos l,if_pos ⟨by omega,l.2⟩]
     ·rw[if_neg l];by_cases C:t<i+1∧bM kd t=true
      ·rw[if_pos C];have:t=i:=by
        rcases Nat.lt_or_ge t i with J|J
        ·exact absurd ⟨J,C.2⟩ l
        ·omega
       subst this;exact Decidable.byContradiction fun e=>c ⟨e,C.2⟩
      ·rw[if_neg C]
    rw[←F]
   ·rw[if_neg d,if_neg d]
def stays (keep:Int→Bool) (o:Ob):Prop:=(o.sh.2.2≠1∧o.sh.2.2≠2)∨(o.rf.getD 0 0≠0∧keep (o.rf.getD 0 0)=true)
instance (keep:Int→Bool) (o:Ob):Decidable (stays keep o):=by unfold stays;infer_instance
def fZ (keep:Int→Bool) (o:Ob):Ob:=if stays keep o then o else {o with rf:=gQ o.sh.2.2 o.rf.length o.rf}
def lT (keep:Int→Bool) (o:Ob):Nat:=if stays keep o then 0 else lM o.sh.2.2 o.rf o.rf.length
theorem zv (h:s.Inv) {k:Nat} (l:s.st.getD k 0=1) (keep:Int→Bool): ∃s',(fW (some s) ((2*k:Nat):Int) keep).1=some s'∧s'.Inv∧iG s s'∧
  (∀j,s.st.getD j 0=1→s'.ai j=if j=k then fZ keep (s.ai k)else s.ai j)∧(fW (some s) ((2*k:Nat):Int) keep).2=lT keep (s.ai k):=by
 obtain⟨E,F,u⟩:=cX h.ok l;have b:stays keep (s.ai k)→fW (some s) ((2*k:Nat):Int) keep=(some s,0)→ ∃s',(fW (some s) ((2*k:Nat):Int) keep).1=some s'∧s'.Inv∧iG s s'∧(∀j,s.st.getD j 0=1→s'.ai j=if j=k then fZ keep (s.ai k)else s.ai j)∧(fW (some s) ((2*k:Nat):Int) keep).2=lT keep (s.ai k):=fun r e=>by
  rw[e];refine⟨s,rfl,h,iG.refl s,fun j _=>?_,by unfold lT;rw[if_pos r]⟩;by_cases c:j=k
  ·subst c;rw[if_pos rfl];unfold fZ;rw[if_pos r]
  ·rw[if_neg c]
 unfold fW at b⊢;rw[dB h.ok l]at b⊢;simp only at b⊢;by_cases m:(s.ai k).sh.2.2≠1∧(s.ai k).sh.2.2≠2
 ·exact b (.inl m) (by rw[if_pos m])
 rw[if_neg m]at b⊢;have q:0<(s.ai k).rf.length:=by
  simp only[aS,Bool.and_eq_true,Bool.or_eq_true,decide_eq_true_eq]at u;omega
 have t:=jt h.ok l q;rw[show((0:Nat):Int)=0 from rfl]at t;rw[t]at b⊢;simp only at b⊢;by_cases o:(s.ai k).rf.getD 0 0≠0∧keep ((s.ai k).rf.getD 0 0)=true
 ·exact b (.inr o) (by rw[if_pos o])
 rw[if_neg o]at b⊢;have d: ¬stays keep (s.ai k):=fun e=>e.elim m o;have en:(s.ai k).sh.1.toNat=(s.ai k).rf.length:=by omega
 rw[en];obtain⟨s',w,y,z,B,C⟩:=vI h l (s.ai k).sh.2.2 (s.ai k).rf.length (Nat.le_refl _);refine⟨s',w,y,z,fun j D=>?_,by rw[C];unfold lT;rw[if_neg d]⟩;rw[B j D];unfold fZ;rw[if_neg d]
structure iX (s s':HL) (C:List Int) (keep:Int→Bool):Prop where
 inv:s'.Inv
 jR:iG s s'
 ob: ∀i,s.st.getD i 0=1→s'.ai i=if((2*i:Nat):Int)∈C then fZ keep (s.ai i)else s.ai i
theorem iX.none (h:s.Inv) (keep:Int→Bool):iX s s [] keep:=⟨h,iG.refl s,fun i _=>by rw[if_neg (by simp)]⟩
theorem iX.step {b:HL} {C C':List Int} {keep:Int→Bool} (h:iX s b C keep) (t:cI s x) (u:x∉C) (l: ∀y,y∈C'↔y=x∨y∈C): ∃d k,x=((2*k:Nat):Int)∧s.st.getD k 0=1∧(fW (some b) x keep).1=some d∧iX s d C' keep∧(fW (some b) x keep).2=lT keep (s.ai k):=by
 obtain⟨k,rfl,m⟩:=t;have o:b.st.getD k 0=1:=by rw[h.jR.st];exact m
 obtain⟨d,w,z,B,D,E⟩:=zv h.inv o keep;have q:b.ai k=s.ai k:=by rw[h.ob k m,if_neg u]
 refine⟨d,k,rfl,m,w,⟨z,h.jR.trans B,fun i r=>?_⟩,by rw[E,q]⟩;rw[D i (by rw[h.jR.st];exact r),q];by_cases c:i=k
 ·subst c;rw[if_pos rfl,if_pos ((l _).2 (.inl rfl))]
 ·rw[if_neg c,h.ob i r];by_cases j:((2*i:Nat):Int)∈C
  ·rw[if_pos j,if_pos ((l _).2 (.inr j))]
  ·rw[if_neg j,if_neg (fun e=>((l _).1 e).elim (fun e=>c (by omega)) j)]
end
section
set_option maxRecDepth 8000
variable {s:HL} {k:Nat}
theorem uY (h:s.Inv) (B:s.st.getD k 0=1): ∃s',dh (some s) ((2*k:Nat):Int)=some s'∧s'.Inv∧s'.B=s.B∧s'.born=s.born∧
  (∀i,s'.st.getD i 0=1↔i≠k∧s.st.getD i 0=1)∧(∀i,i≠k→s.st.getD i 0=1→s'.ai i=s.ai i)∧s'.aj=s.aj.filter (fun i=>i !=k):=by
 obtain⟨s',b,R,o,O,P⟩:=tU h.ok ((2*k:Nat):Int);have w:=j5 h.ok B;have D:s'≠s:=by
  intro e;subst e;unfold dh at b;simp only[w,if_true]at b;have E:=Option.some.inj b;have q:=congrArg HL.st E;simp only[c9,Nat.mul_div_cancel_left k (show 0<2 by omega)]at q;have d:k<s'.st.length:=(h.ok.start B).1;rw[←q,a8 d]at B;omega
 obtain⟨i,r,S,u,L,C⟩:=P.resolve_left D;have F:i=k:=by
  unfold dh at b;simp only[w,if_true]at b;have E:=Option.some.inj b;have q:=congrArg HL.st E;simp only[c9,Nat.mul_div_cancel_left k (show 0<2 by omega)]at q;rw[u]at q;have d:k<s.st.length:=(h.ok.start B).1;have M:i<s.st.length:=(h.ok.start r).1;refine Decidable.byContradiction fun c=>?_;have Q:(s.st.set k 0).getD k 0=(s.st.set i 0).getD k 0:=by rw[q]
  rw[a8 d,aI c]at Q;omega
 subst F;obtain⟨T,U,V,_⟩:=h.ok.sz r;have G:2*i+(s.size (2*i)).toNat≤s.W.length:=by omega
 have H:s'.Ok:=by
  have:=h.ok.kill r (pn:=s.pn.set i 0) (pl:=iv s.pl (s.W.getD (2*i) 0)) (by rw[List.length_set];exact h.ok.pl);refine⟨by rw[o];exact h.ok.b2,by rw[o];exact h.ok.jd,by rw[C,o];exact this.wl,by rw[u,o];exact this.sl,by rw[L,o];exact this.pl,fun j y=>?_,fun j l y N I=>?_⟩
  ·rw[u]at y;rw[C];exact this.fit j y
  ·rw[u]at y N;have:=this.dj j l y N I;unfold HL.size at this⊢;rw[C];exact this
 have J: ∀j,s'.st.getD j 0=1↔j≠i∧s.st.getD j 0=1:=fun j=>by
  rw[u];by_cases c:j=i
  ·subst c;rw[a8 (h.ok.start r).1];simp
  ·rw[aI (Ne.symm c)];exact⟨fun e=>⟨c,e⟩,fun e=>e.2⟩
 refine⟨s',b,h.kill b H,o,O,J,fun j K m=>?_,?_⟩
 ·refine lH h.ok m (fun t W X=>?_) (by rw[L];exact aI (Ne.symm K));rw[C,kZ G,if_neg];rcases Nat.lt_or_ge i j with z|z
  ·have:=h.ok.dj i j r m z;omega
  ·have:=h.ok.dj j i m r (by omega);omega
 ·unfold HL.aj;rw[u,List.length_set];exact vu (by omega)
structure xC (s s':HL) (D:Nat→Bool):Prop where
 inv:s'.Inv
 B:s'.B=s.B
 born:s'.born=s.born
 st: ∀i,s'.st.getD i 0=1↔D i=false∧s.st.getD i 0=1
 ob: ∀i,D i=false→s.st.getD i 0=1→s'.ai i=s.ai i
 aj:s'.aj=s.aj.filter fun i=>!D i
theorem xC.none (h:s.Inv) {D:Nat→Bool} (b: ∀i,D i=false):xC s s D:=
 ⟨h,rfl,rfl,fun i=>by simp[b],fun _ _ _=>rfl,by
  rw[show(fun i=>!D i)=fun _=>true from funext fun i=>by rw[b];rfl,List.filter_eq_self.2 fun _ _=>rfl]⟩
theorem xC.step {b:HL} {D D':Nat→Bool} (h:xC s b D) (o:s.st.getD k 0=1) (q:D k=false) (m: ∀i,D' i=(D i||decide (i=k))): ∃l,dh (some b) ((2*k:Nat):Int)=some l∧xC s l D'∧b.ai k=s.ai k∧b.st.getD k 0=1:=by
 have d:b.st.getD k 0=1:=(h.st k).2 ⟨q,o⟩;obtain⟨l,t,u,w,y,z,C,E⟩:=uY h.inv d;refine⟨l,t,⟨u,w.trans h.B,y.trans h.born,fun i=>?_,fun i j r=>?_,?_⟩,h.ob k q o,d⟩
 ·rw[z,h.st,m];by_cases c:i=k
  ·simp[c]
  ·simp[c]
 ·rw[m]at j;simp only[Bool.or_eq_false_iff,decide_eq_false_iff_not]at j;rw[C i j.2 ((h.st i).2 ⟨j.1,r⟩),h.ob i j.1 r]
 ·rw[E,h.aj,List.filter_filter];refine List.filter_congr fun i _=>?_;rw[m];by_cases c:i=k
  ·simp[c]
  ·simp[c]
def ea (s:HL) (l:List Nat):Int:=(l.map fun i=>aE (s.ai i).sh).sum
theorem qz (s:HL) (l:List Nat) (i:Nat):ea s (l++[i])=ea s l+aE (s.ai i).sh:=by unfold ea;simp
theorem su (s:HL): ∀l:List Nat,0≤ea s l∧ea s l≤218*l.length
 | []=>⟨Int.le_refl _,Int.le_refl _⟩
 |i::l=>by
  have h:=su s l
  have b:=je (s.ai i).sh
  have e:ea s (i::l)=aE (s.ai i).sh+ea s l:=by unfold ea;simp
  rw[e,List.length_cons]
  omega
def mR (keep:Int→Bool) (l:List Nat) (i:Nat):Bool:=decide (i∈l)&&!keep ((2*i:Nat):Int)
theorem vJ {s:HL} (h:s.Inv) (keep:Int→Bool): ∀n,n≤s.aj.length→ ∃s',(fj (s.aj.take n)).foldl (Dn keep) (some s,0,0)=(some s',(((s.aj.take n).filter fun i=>!keep ((2*i:Nat):Int)).length:Int),ea s ((s.aj.take n).filter fun i=>!keep ((2*i:Nat):Int)))∧xC s s' (mR keep (s.aj.take n))
 |0,_=>⟨s,rfl,xC.none h fun i=>by simp[mR]⟩
 |n+1,w=>by
  obtain⟨y,z,o⟩:=vJ h keep n (by omega)
  have b:n<s.aj.length:=w
  obtain⟨k,r⟩: ∃k,k=s.aj[n]:=⟨_,rfl⟩
  have q:s.st.getD k 0=1:=bq.1 (by rw[r];exact List.getElem_mem b)
  have t:s.aj.take (n+1)=s.aj.take n++[k]:=by rw[List.take_succ_eq_append_getElem b,r]
  have I:s.aj.length≤2048:=by
   have:=kR s.st 0 s.st.length;have:=h.ok.sl;have:=h.ok.jd;unfold HL.aj;omega
  rw[t,rE,List.foldl_append,z,List.filter_append];show∃s',Dn keep _ _=_∧_;have d:=List.length_filter_le (fun i=>!keep ((2*i:Nat):Int)) (s.aj.take n);rw[List.length_take]at d;have j:k∉s.aj.take n:=by
   intro e;have u:=fQ s;rw[←List.take_append_drop (n+1) s.aj,t]at u;have B:=(List.nodup_append.1 (List.nodup_append.1 u).1).2.2;exact B k e k (by simp) rfl
  unfold Dn;by_cases l:keep ((2*k:Nat):Int)=true
  ·rw[if_pos l,List.filter_cons_of_neg (by simp only[l,Bool.not_true,Bool.false_eq_true,not_false_eq_true]),List.filter_nil,List.append_nil];refine⟨y,rfl,?_⟩;have:mR keep (s.aj.take n++[k])=mR keep (s.aj.take n):=by
    funext i;unfold mR;by_cases c:i=k
    ·subst c;simp only[l,Bool.not_true,Bool.and_false]
    ·simp[c]
   rw[this];exact o
  ·have m:keep ((2*k:Nat):Int)=false:=by simpa using l
   obtain⟨C,D,E,F,G⟩:=o.step (D':=mR keep (s.aj.take n++[k])) q (by simp[mR,j]) fun i=>by
    unfold mR;by_cases c:i=k
    ·subst c;simp only[m,Bool.not_false,Bool.and_true,List.mem_append,aK,or_true,decide_true,j,decide_false,Bool.or_true]
    ·simp[c]
   rw[if_neg l,List.filter_cons_of_pos (by simp only[m,Bool.not_false]),List.filter_nil];refine⟨C,?_,E⟩;simp only;rw[D,dB o.inv.ok G,F,qz,cH,List.length_singleton];have J:=su s ((s.aj.take n).filter fun i=>!keep ((2*i:Nat):Int));have H:=je (s.ai k).sh;simp only;rw[IntWalk.i64_in _ (by omega),IntWalk.i64_in _ (by omega)];rfl
theorem Gm (h:s.Inv) (keep:Int→Bool): ∃s',(dX (some s)).foldl (Dn keep) (some s,0,0)=(some s',((s.aj.filter fun i=>!keep ((2*i:Nat):Int)).length:Int),ea s (s.aj.filter fun i=>!keep ((2*i:Nat):Int)))∧xC s s' fun i=>!keep ((2*i:Nat):Int):=by
 obtain⟨s',k,b⟩:=vJ h keep s.aj.length (Nat.le_refl _);rw[List.take_length]at k b;refine⟨s',k,b.inv,b.B,b.born,fun i=>?_,fun i j d=>b.ob i (by unfold mR;rw[j];simp) d,?_⟩
 ·rw[b.st];unfold mR;constructor
  ·rintro⟨j,d⟩;refine⟨?_,d⟩;simpa[bq.2 d]using j
  ·rintro⟨j,d⟩;exact⟨by rw[j];simp,d⟩
 ·rw[b.aj];refine List.filter_congr fun i l=>?_;unfold mR;simp[l]
theorem uZ (h:s.Inv):(dX (some s)).foldl (Gl s) 0=ea s s.aj:=by
 have key: ∀n,n≤s.aj.length→(fj (s.aj.take n)).foldl (Gl s) 0=ea s (s.aj.take n):=by
  intro n
  induction n with
  |zero=>intro _;rfl
  |succ n m=>
   intro o;have b:n<s.aj.length:=o;obtain⟨k,l⟩: ∃k,k=s.aj[n]:=⟨_,rfl⟩;have j:s.st.getD k 0=1:=bq.1 (by rw[l];exact List.getElem_mem b);have z:s.aj.length≤2048:=by
    have:=kR s.st 0 s.st.length;have:=h.ok.sl;have:=h.ok.jd;unfold HL.aj;omega
   rw[List.take_succ_eq_append_getElem b,←l,rE,List.foldl_append,m (by omega),qz];show Gl s _ ((2*k:Nat):Int)=_;unfold Gl;rw[c9];obtain⟨r,d,q,B,C,t,u,D,E⟩:=eX h.ok j;rw[t,u];have w:=su s (s.aj.take n);have y:=je ((r:Int),(d:Int),(q:Int));rw[List.length_take]at w;rw[IntWalk.i64_in _ (by omega)]
 have:=key s.aj.length (Nat.le_refl _);rwa[List.take_length]at this
end
section
variable {hp:Addr} {s:HL} {fp:List Nat} {w:World}
def bZ (s:HL) (k:Nat):List Nat:=bk s.st (32*k) (32*(k+1))
theorem yC {b:Nat} {j l m cW:Nat} {yB yW:List Value} {o q r t u z:Nat} (h:rv w b s j l m cW yB yW o q r t u z) (k:Nat) (G:k<s.B.length):
  Cs Tryz.prog 285 [.pointer (some ⟨b,0,none⟩),.int .i64 (k:Int)] w fun v w'=>ae [] w w'∧ ∃d,Sl w' 1 v (bZ s k).length (ints (fj (bZ s k))) d∧ ∀y,y∈d→w.heap.size≤y:=by
 have H:=h.ok.jd;have B:IntKind.i64.wrap ((k:Int)*64)=((2*(32*k):Nat):Int):=by rw[IntWalk.i64_in _ (by omega)];omega
 have C:IntKind.i64.wrap (((k+1:Nat):Int)*64)=((2*(32*(k+1)):Nat):Int):=by rw[IntWalk.i64_in _ (by omega)];omega
 refine en [] ?_;refine gO ?_;refine aH (FD h) ?_;refine k0 (aX (show¬(k:Int)<0 by omega)) h.hb.cell (aX (show¬(s.B.length:Int)≤(k:Int) by omega)) (au k (by omega)) B C ?_;refine aw (zc h (32*k) (32*(k+1)) (by omega) (by omega)) ?_;rintro v w' ⟨D,d,E,F⟩;refine gO ?_;exact⟨D,d,E,F⟩
def pq (s:HL) (k:Nat):Int:=if pr s k≠0 then pr s k else if(bZ s k).length≠0 then 8 else 0
def mq (s:HL) (k:Nat):HL:=if pq s k=0 then {s with B:=dZ s.B k (0,0) (s.span k)}else s
theorem Gn (s:HL) (k:Nat):(mq s k).B.length=s.B.length:=by
 unfold mq;split
 ·exact b5 _ _ _ _
 ·rfl
set_option maxHeartbeats 1000000 in
theorem yD (G:HR w (some hp) fp (some s)) (k:Nat) (y:k<s.B.length):
  Cs Tryz.prog 273 [.pointer (some hp),.int .i64 (k:Int)] w fun v w'=>v=.int .i64 (pq s k)∧HR w' (some hp) fp (some (mq s k))∧ae fp w w':=by
 obtain⟨b,Y,C,J,K,cW,yB,yW,L,M,O,P,Q,R,S,h⟩:=id G;cases Y;have hB:=h.ok.jd;refine en [] ?_;refine gO ?_;refine aH (Rk h k y) ?_;by_cases o:pr s k=0;rotate_left
 ·refine aQ (eE o) ?_;have e:pq s k=pr s k:=by unfold pq;rw[if_pos o]
  refine⟨by rw[e],?_,ae.refl _ _⟩;unfold mq;rw[e,if_neg o];exact G
 refine aQ (dg o) ?_;refine aw (yC h k y) ?_;rintro v Z ⟨d,fq,H,g1⟩;obtain⟨a1,cc1,rfl⟩:=H.val;by_cases T:(bZ s k).length=0;rotate_left
 ·refine aQ (aU (show(0:Int)<((bZ s k).length:Int) by omega)) ?_;have e:pq s k=8:=by unfold pq;rw[if_neg (by simp[o]),if_pos T]
  refine⟨by rw[e],?_,d.of_nil⟩;unfold mq;rw[e,if_neg (by omega)];exact G.ab d
 have U:=h.ab d;refine aQ (aX (show¬(0:Int)<((bZ s k).length:Int) by omega)) ?_;refine aH (JH U k y) ?_;have V:pq s k=0:=by unfold pq;rw[if_neg (by simp[o]),if_neg (by simp[T])]
 have hM:mq s k= {s with B:=dZ s.B k (0,0) (s.span k)}:=by unfold mq;rw[if_pos V]
 rw[V,hM];obtain⟨N,hN⟩: ∃N,N=s.span k:=⟨_,rfl⟩;have q:=sG (s:=s) y;rw[←hN]at q⊢;refine gO ?_;refine az (6::21::22::23::24::25::26::27::28::29::30::31::32::33::34::35::36::37::38::39::40::[]) (fun g w'=> ∃n:Nat,∃B':List (Int×Int),g 6=.int .i64 (n:Int)∧n≤N∧B'.length=s.B.length∧(∀i,B'.getD i (0,0)=if k+n≤i∧i<k+N then(0,0)else s.B.getD i (0,0))∧rv w' b {s with B:=B'} C J K cW yB yW L M O P Q R∧ae [C] Z w') (fun g _=>wY 6 g)
  ⟨N,s.B,by simp only[go_sem],Nat.le_refl _,rfl,fun i=>by rw[if_neg (by omega)],U,ae.refl _ _⟩ fun g w2 hI m=>?_
 obtain⟨n,B',D,hn,W,j,E,r⟩:=hI;have t:C∈fp:=by rw[S];simp
 by_cases c3:0<n;rotate_left
 ·have n0:n=0:=by omega
  subst n0;refine aZ D (aX (show¬(0:Int)<((0:Nat):Int) by omega)) ?_;have:B'=dZ s.B k (0,0) N:=by
   refine List.gX (0,0) (by rw[W,b5]) fun i _=>?_;rw[j,gi _ _ _ _ q.1];rfl
  rw[←this];exact⟨⟨b,rfl,C,J,K,cW,yB,yW,L,M,O,P,Q,R,S,E⟩,(d.of_nil).trans r fun z X=>by simp only[aK]at X;subst X;exact .inl t⟩
 have e4:IntKind.i64.wrap (IntKind.i64.wrap ((k:Int)+(n:Int))-1)=((k+n-1:Nat):Int):=by
  rw[IntWalk.i64_in ((k:Int)+(n:Int)) (by omega),IntWalk.i64_in _ (by omega)];omega
 have e5:(0:Int)≤((k+n-1:Nat):Int)∧((k+n-1:Nat):Int)<(B'.length:Int):=⟨by omega,by omega⟩;have e6:IntKind.i64.wrap ((n:Int)-1)=((n-1:Nat):Int):=by rw[IntWalk.i64_in _ (by omega)];omega
 refine k0 D (aU (show(0:Int)<(n:Int) by omega)) E.hb.cell e4 (eq_true e5) @Int.toNat_natCast ?_;refine dF (cs:=bV (0,0)) (n:=2) (i:=(k+n-1)*2) E.hB rfl (by simp only[cH,bJ];omega) (oB _) fun w5 qm l u=>?_;have I:k+n-1<B'.length:=by omega
 rw[kV yB I]at l;refine aZ D e6 ?_;refine m _ w5 ⟨n-1,B'.set (k+n-1) (0,0),?_,by omega,by rw[List.length_set];exact W,fun i=>?_,?_,r.same u⟩ ?_
 ·simp only[go_sem]
 ·by_cases c:k+n-1=i
  ·subst c;rw[a8 (by omega),if_pos ⟨by omega,by omega⟩]
  ·rw[aI c,j];by_cases F:k+n≤i∧i<k+N
   ·rw[if_pos F,if_pos ⟨by omega,F.2⟩]
   ·rw[if_neg F,if_neg (fun e=>F ⟨by omega,e.2⟩)]
 ·have:=E.rY (B':=B'.set (k+n-1) (0,0)) (by simp) l u;exact this
 ·rw[lB D,lB (k:=.i64) (i:=((n-1:Nat):Int)) (by simp only[go_sem])];omega
def gY (s:HL) (n:Nat):HL:=(List.range n).foldl mq s
theorem j8 (s:HL) (n:Nat):gY s (n+1)=mq (gY s n) n:=by unfold gY;rw[List.range_succ,List.foldl_append];rfl
theorem oM (s:HL): ∀n,(gY s n).B.length=s.B.length
 |0=>rfl
 |n+1=>by rw[j8,Gn,oM s n]
theorem Gp (h:HR w (some hp) fp (some s)) (t:s.B.length≤64):
  Cs Tryz.prog 96 [.pointer (some hp)] w fun _ w'=>HR w' (some hp) fp (some (gY s s.B.length))∧ae fp w w':=by
 refine en [] ?_;refine gO ?_;refine aH (gC h) ?_;have o:((cJ (some s):Nat):Int)=(s.B.length:Int):=rfl;refine aQ o ?_;refine az (2::5::6::7::8::9::10::11::[]) (fun g w'=> ∃i:Nat,g 5=.int .i64 (i:Int)∧i≤s.B.length∧HR w' (some hp) fp (some (gY s i))∧ae fp w w') (fun g _=>bw s.B.length 5 g)
  ⟨0,by simp only[go_sem];rfl,by omega,h,ae.refl _ _⟩ fun g u q b=>?_
 obtain⟨i,d,y,l,m⟩:=q;by_cases c:i<s.B.length;rotate_left
 ·refine aZ d (aX (show¬(i:Int)<(s.B.length:Int) by omega)) ?_;rw[show s.B.length=i by omega];exact⟨l,m⟩
 refine aZ d (aU (show(i:Int)<(s.B.length:Int) by omega)) ?_;refine aw (yD l i (by rw[oM];exact c)) ?_;rintro _ r ⟨rfl,j,k⟩;refine aZ d (au i (by omega)) ?_;refine b _ r ⟨i+1,?_,by omega,by rw[j8];exact j,m.same k⟩ ?_
 ·simp only[go_sem]
 ·exact aJ d
end
section
def Rl (o:Option Value) (u v:Value):Option Value:=match o with|some x=>some (.tuple #[x,u,v])|none=>none
theorem Dp (x u v:Value):Rl (some x) u v=some (.tuple #[x,u,v]):=Eq.trans rfl rfl
theorem Dq (a n t u:Nat) (ρ:Env) (w:World) (R:Value→World→Prop):ku [.cN a n,.t t,.t u] ρ w R=wE (Rl (fG w n (ρ a)) (ρ t) (ρ u)) w R:=by
 unfold ku wE;simp only[uo,rO,wv];cases fG w n (ρ a)<;>rfl
attribute [go_sem] Dp Dq
section
variable {P:Program} {fl:Bool} {rest:XT} {L:List Nat} {w0 w:World} {d:Option Nat} {ρ:Env} {C:Env→World→Prop} {t kt et:TypeId} {b:Nat} {m:IM}
theorem zw (j:P.underlying t=some (.map kt et)) (h:cz w b m) (k:fl=true∨SB L w0 w) (l:VT P L w0 rest (bo ρ d (.int .i64 m.length)) w C):Cx P fl L w0 (Builtin.len_ #[t] 0 #[.map (some b)]) d rest ρ w C:=Oo (yR j h) k l
end
def kv (K:List Int) (x:Int):Bool:=decide (x∈K)
def tv (K S:List Int):List Int:=S.filter fun x=>!decide (x∈K)
def bT (K S:List Int) (x:Int):Bool:=decide (x∈K)||decide (x∈tv K S)
def l6 (s:HL) (a:Int):Int:=(dv (some s) a).1
def HL.Lv (s:HL) (x:Int):Ob:=s.ai (x.toNat/2)
def gj (s:HL) (keep:Int→Bool) (C:List Int):Nat:=(C.filter fun x=>decide (0<lT keep (s.Lv x))).length
structure cY (s:HL) (R:Rt.MS) (L:List Int) (s4:HL) (R':Rt.MS) (L' ids ic K S o:List Int) (s1 s2 s3:HL) (n:Nat):Prop where
 lx:uu s (Rt.bz (some R)) K
 kz:uu s (Rt.bz (some R)++jC s L K) S
 ord:xB s (jC s L K) o
 nn:n=min o.length (64-R.Q.length)
 c1:iX s s1 K (kv K)
 c2:iX s1 s2 (tv K S) (bT K S)
 k3:xC s2 s3 fun i=>!bT K S ((2*i:Nat):Int)
 r4:s4=gY s3 s3.B.length
 RR:R'= {R with Q:=R.Q++o.take n}
 ii:ids=(o.take n).map (l6 s)
 LL:L'=(dT s L).filter fun x=>!decide (x∈ids)
 rp:ic=[(s4.aj.length:Int),ea s4 s4.aj,((s2.aj.filter fun i=>!bT K S ((2*i:Nat):Int)).length:Int),ea s2 (s2.aj.filter fun i=>!bT K S ((2*i:Nat):Int)),0,0,((K.length+(tv K S).length:Nat):Int),((gj s (kv K) K+gj s1 (bT K S) (tv K S):Nat):Int)]
theorem zx {x:Int} {f d:Int→Bool} (l:f x=false) (m:d x=true) (j: ∀y,y≠x→d y=f y) (p:Int→Bool): ∀ {K:List Int},K.Nodup→x∈K→((K.filter d).filter p).length=((K.filter f).filter p).length+if p x=true then 1 else 0
 | [],_,k=>absurd k (by simp)
 |y::K,r,k=>by
  have b:=List.nodup_cons.1 r
  by_cases c:y=x
  ·subst c
   have t:K.filter d=K.filter f:=List.filter_congr fun z u=>j z fun e=>b.1 (e▸u)
   simp only[List.filter_cons,l,m,t,if_true,Bool.false_eq_true,if_false]
   by_cases o:p y=true
   ·simp only[o,if_true,List.length_cons]
   ·simp only[o,if_false,Nat.add_zero,Bool.false_eq_true]
  ·have q:=zx l m j p b.2 ((List.mem_cons.1 k).resolve_left (Ne.symm c))
   simp only[List.filter_cons,j y c]
   cases f y with
   |false=>simp only[Bool.false_eq_true,if_false];exact q
   |true=>
    simp only[if_true,List.filter_cons]
    cases p y with
    |false=>simp only[Bool.false_eq_true,if_false];exact q
    |true=>simp only[if_true,List.length_cons];omega
theorem vM {s:HL} {keep:Int→Bool} {K T:List Int} {x:Int} (b:K.Nodup) (d:x∈K) (j:x∈T):gj s keep (K.filter fun y=>!decide (y∈T.filter (·!=x)))=gj s keep (K.filter fun y=>!decide (y∈T))+if 0<lT keep (s.Lv x)then 1 else 0:=by
 unfold gj;rw[zx (x:=x) (f:=fun y=>!decide (y∈T)) (by simp[j]) (by simp) (fun y k=>by simp[k]) _ b d];congr 1;by_cases c:0<lT keep (s.Lv x)
 ·rw[if_pos c,if_pos (by simpa using c)]
 ·rw[if_neg c,if_neg (by simpa using c)]
theorem ss (s:HL) (keep:Int→Bool) (C:List Int):gj s keep C≤C.length:=List.length_filter_le _ _
theorem Ak (s:HL) (k:Nat):s.Lv ((2*k:Nat):Int)=s.ai k:=by unfold HL.Lv;rw[c9,Nat.mul_div_cancel_left k (by omega)]
theorem mem_left {K T:List Int} {x y:Int} (b:x∈K) (d:x∈T):y∈(K.filter fun y=>!decide (y∈T.filter (·!=x)))↔y=x∨y∈K.filter fun y=>!decide (y∈T):=by
 by_cases c:y=x
 ·subst c;simp[b]
 ·simp[c]
theorem qj (K:List Int):(K.filter fun y=>!decide (y∈K))=[]:=by
 rw[List.filter_eq_nil_iff];intro y b;simp[b]
theorem vS (K:List Int):(K.filter fun y=>!decide (y∈([]:List Int)))=K:=by
 rw[List.filter_eq_self];intro y _;simp
structure Kp (w:World) (q vb mk ms:Nat) (hp:Addr) (vd:Value) (K sv:List Int):Prop where
 q:At w q [.pointer (some ⟨vb,0,none⟩)]
 v:At w vb [.pointer (some hp),.map (some mk),.map (some ms),vd]
 k:MB w mk K
 s:MB w ms sv
theorem Kp.keep {w w':World} {q d j l:Nat} {m:Addr} {r:Value} {K t:List Int} {S:List Nat} (h:Kp w q d j l m r K t) (o:ae S w w') (b: ∀y,y∈[q,d,j,l]→y∉S):Kp w' q d j l m r K t:=
 ⟨h.q.keep o (b _ (by simp)),h.v.keep o (b _ (by simp)),h.k.keep o (b _ (by simp)),h.s.keep o (b _ (by simp))⟩
theorem Kp.ab {w w':World} {q b d j:Nat} {l:Addr} {m:Value} {K r:List Int} (h:Kp w q b d j l m K r) (o:ae [] w w'):Kp w' q b d j l m K r:=h.keep o fun _ _=>by simp
theorem Kp.lt {w:World} {q b d j:Nat} {m:Addr} {o:Value} {K r:List Int} (h:Kp w q b d j m o K r): ∀y,y∈[q,b,d,j]→y<w.heap.size:=fun y l=>by
 simp only[List.mem_cons,List.not_mem_nil,or_false]at l
 rcases l with rfl|rfl|rfl|rfl
 ·exact h.q.lt
 ·exact h.v.lt
 ·exact cz.lt h.k
 ·exact cz.lt h.s
theorem A3 {s b:HL} {C:List Int} {keep:Int→Bool} (l:s.Inv) (h:iX s b C keep) {a:Int} (m:cI s a):dv (some b) a=(l6 s a,0):=by
 obtain⟨k,rfl,d⟩:=m;have j:b.st.getD k 0=1:=by rw[h.jR.st];exact d
 unfold l6;rw[jP h.inv.ok j,jP l.ok d,h.ob k d];split
 ·unfold fZ;split<;>rfl
 ·rfl
theorem jD {s:HL} {D o:List Int} (h:xB s D o):o.Perm D:=by
 induction h with
 |nil=>exact List.Perm.nil
 |@cons l o i b _ _ _ d=>
  refine(d.cons (l.getD i 0)).trans ?_;have e:l.getD i 0=l[i]:=by simp[b]
  rw[e];rw[List.eraseIdx_eq_take_drop_succ];have j:l=l.take i++l[i]::l.drop (i+1):=by rw[List.getElem_cons_drop,List.take_append_drop]
  exact(List.perm_middle.symm).trans (List.Perm.of_eq j.symm)
theorem ub (B:List (Int×Int)) (b:Nat): ∀f n j,n≤j→j<tails B b f n→(B.getD (b+j) (0,0)).1=3
 |0,n,j,k,d=>by unfold tails at d;omega
 |f+1,n,j,k,d=>by
  unfold tails at d
  by_cases c:b+n<B.length∧(B.getD (b+n) (0,0)).1=3
  ·rw[if_pos c]at d
   by_cases e:j=n
   ·subst e;exact c.2
   ·exact ub B b f (n+1) j (by omega) d
  ·rw[if_neg c]at d;omega
theorem Dr {s:HL} {k j:Nat} (d:1≤j) (b:j<s.span k):(s.B.getD (k+j) (0,0)).1=3:=by
 unfold HL.span at b;split at b
 ·exact ub _ _ _ _ _ d b
 ·omega
theorem yz {s:HL} (h:s.Inv) {k:Nat} (r:k<s.B.length):(mq s k).Inv:=by
 unfold mq;by_cases c:pq s k=0;rotate_left
 ·rw[if_neg c];exact h
 rw[if_pos c];have t:k≠0:=fun e=>by
  subst e;unfold pq pr at c;simp at c
 have b:=sG (s:=s) r;refine h.rY (b5 _ _ _ _) (fun i _ d=>?_) ?_ ?_
 ·rw[gi _ _ _ _ b.1]at d⊢;split
  ·rfl
  ·rename_i l;rw[if_neg l]at d;by_cases m:i<s.B.length
   ·exact h.bf i m d
   ·rw[List.getD_eq_getElem?_getD,List.getElem?_eq_none (by omega)];rfl
 ·rw[gi _ _ _ _ b.1,if_neg (by omega)]
 ·intro i d u;rw[gi _ _ _ _ b.1];by_cases w:k≤i/32∧i/32<k+s.span k
  ·exfalso;by_cases z:i/32=k
   ·have m:(bZ s k).length=0:=by
     unfold pq at c;by_cases o:pr s k≠0
     ·rw[if_pos o]at c;exact absurd c o
     ·rw[if_neg o]at c;refine Decidable.byContradiction fun y=>?_;rw[if_pos y]at c;cases c
    have q:i∈bZ s k:=by
     unfold bZ;rw[dL];exact⟨by omega,d⟩
    rw[List.length_eq_zero_iff.1 m]at q;cases q
   ·have:=Dr (s:=s) (k:=k) (j:=i/32-k) (by omega) (by omega);rw[show k+(i/32-k)=i/32 by omega]at this;omega
  ·rw[if_neg w];exact u
theorem yy (s:HL) (k:Nat): ∃B,mq s k= {s with B:=B}:=by
 unfold mq;split
 ·exact⟨_,rfl⟩
 ·exact⟨s.B,rfl⟩
theorem j7 {s:HL} (h:s.Inv): ∀n,n≤s.B.length→(∃B,gY s n= {s with B:=B})∧(gY s n).Inv
 |0,_=>⟨⟨s.B,rfl⟩,h⟩
 |n+1,d=>by
  obtain⟨⟨B,e⟩,i⟩:=j7 h n (by omega)
  rw[j8]
  refine⟨?_,yz i (by rw[oM];omega)⟩
  obtain⟨B',b⟩:=yy (gY s n) n
  exact⟨B',by rw[b,e]⟩
theorem iX.live {s b:HL} {C:List Int} {keep:Int→Bool} (h:iX s b C keep) {x:Int} (d:cI s x):cI b x:=by
 obtain⟨k,e,j⟩:=d;exact⟨k,e,by rw[h.jR.st];exact j⟩
end
section
set_option maxRecDepth 8000
theorem A4 {s:HL} (h:s.Ok) {i:Nat} (b:s.st.getD i 0=1):aY (some s) ((2*i:Nat):Int)=dq (s.ai i).sh.2.2 0 (s.ai i).rf:=by
 unfold aY;rw[dB h b,kO h b]
theorem iu {s:HL} (h:s.Ok) {i:Nat} (m:s.st.getD i 0=1) {y:Int}:y∈aY (some s) ((2*i:Nat):Int)↔ ∃j,j<(s.ai i).rf.length∧y=(s.ai i).rf.getD j 0∧y≠0∧bM (s.ai i).sh.2.2 j=false:=by
 rw[A4 h m,iB];constructor
 ·rintro⟨j,b,d,k,l⟩;exact⟨j,b,d,k,by rwa[Nat.zero_add]at l⟩
 ·rintro⟨j,b,d,k,l⟩;exact⟨j,b,d,k,by rwa[Nat.zero_add]⟩
theorem mw {s:HL} (h:s.Ok) {i:Nat} (b:s.st.getD i 0=1):df s ((2*i:Nat):Int)=(s.ai i).sh.2.2:=by
 unfold df;rw[dB h b]
theorem sA {s:HL} (h:s.Ok) {i:Nat} (b:s.st.getD i 0=1) (d:0<(s.ai i).rf.length):fM s ((2*i:Nat):Int)=(s.ai i).rf.getD 0 0:=by
 have:=jt h b d;unfold fM;rw[show((0:Nat):Int)=0 from rfl]at this;rw[this]
theorem px {s:HL} (h:s.Ok) {i:Nat} (b:s.st.getD i 0=1) (d:1<(s.ai i).rf.length):ez s ((2*i:Nat):Int)=(s.ai i).rf.getD 1 0:=by
 have:=jt h b d;unfold ez;rw[show((1:Nat):Int)=1 from rfl]at this;rw[this]
theorem rj {kd:Int} {j:Nat} (h:bM kd j=true):(j=0∧(kd=1∨kd=2))∨(j=1∧kd=2):=by
 unfold bM at h;simp only[Bool.or_eq_true,Bool.and_eq_true,beq_iff_eq]at h;omega
theorem sx {s:HL} {k:Nat} (h:cI s ((2*k:Nat):Int)):s.st.getD k 0=1:=by
 obtain⟨i,e,b⟩:=h;have:k=i:=by omega
 rw[this];exact b
theorem uc {s:HL} {R:Rt.MS} {F K:List Int} {keep:Int→Bool} (m:s.Inv) (o:iP true s R) (q:uu s F K) (B: ∀x,keep x=true↔x∈K) {i:Nat} (t:((2*i:Nat):Int)∈K) {r:Int} (u:r∈(fZ keep (s.ai i)).rf):r=0∨r∈K:=by
 have b:=sx (q.e9 _ t);obtain⟨H,I,J⟩:=cX m.ok b;have k: ∀j,j<(s.ai i).rf.length→bM (s.ai i).sh.2.2 j=false→(s.ai i).rf.getD j 0=0∨(s.ai i).rf.getD j 0∈K:=fun j d C=>by
  rcases o.ref b d with w|⟨_,y⟩
  ·exact .inl w
  ·by_cases c:(s.ai i).rf.getD j 0=0
   ·exact .inl c
   ·exact .inr (q.cls.g _ _ (q.e9 _ t) t ((iu m.ok b).2 ⟨j,d,rfl,c,C⟩) y)
 unfold fZ at u;by_cases cs:stays keep (s.ai i)
 ·rw[if_pos cs]at u;obtain⟨j,d,rfl⟩:=List.mem_iff_getElem.1 u;have z:(s.ai i).rf[j]=(s.ai i).rf.getD j 0:=by simp[d]
  rw[z];cases e:bM (s.ai i).sh.2.2 j with
  |false=>exact k j d e
  |true=>
   have D:=rj e;have l:(s.ai i).rf.getD 0 0≠0∧keep ((s.ai i).rf.getD 0 0)=true:=cs.resolve_left (by omega);rcases D with⟨rfl,_⟩|⟨rfl,E⟩
   ·exact .inr ((B _).1 l.2)
   ·rcases o.ref b d with w|⟨_,y⟩
    ·exact .inl w
    ·refine .inr ?_;have G:=q.cls.e _ (q.e9 _ t) t (by rw[mw m.ok b];exact E) (by rw[sA m.ok b (by omega)];exact(B _).1 l.2) (by rw[px m.ok b d];exact y);rwa[px m.ok b d]at G
 ·rw[if_neg cs]at u;obtain⟨j,d,rfl⟩:=List.mem_iff_getElem.1 u;simp only at d⊢;rw[bx]at d;have z:(gQ (s.ai i).sh.2.2 (s.ai i).rf.length (s.ai i).rf)[j]'(by rw[bx];exact d)=(gQ (s.ai i).sh.2.2 (s.ai i).rf.length (s.ai i).rf).getD j 0:=by simp[bx,d]
  rw[z,dc d];by_cases c:bM (s.ai i).sh.2.2 j=true
  ·rw[if_pos ⟨d,c⟩];exact .inl rfl
  ·rw[if_neg (fun e=>c e.2)];exact k j d (by simpa using c)
theorem A5 {k:Nat} {L:List Int} {x:Int} (b:x∈L) (d:x≠0): ∃p,(p,x)∈Rt.fl k L:=by
 obtain⟨i,j,rfl⟩:=List.mem_iff_getElem.1 b;refine⟨Rt.pl k i,?_⟩;unfold Rt.fl;refine List.mem_filter.2 ⟨?_,by simpa using d⟩;rw[List.mem_iff_getElem];exact⟨i,by simp[j],by simp⟩
theorem pw {R:Rt.MS} (h:R.Ok) {x:Int} (b:x∈R.S∨x∈R.G∨x∈R.Q) (j:x≠0):x∈Rt.bz (some R):=by
 show x∈((Rt.filled R).map (·.2)).foldl Rt.dC [];rw[iq];refine .inr (List.mem_map.2 ?_);rw[Rt.mr h];rcases b with b|b|b
 ·obtain⟨p,d⟩:=A5 (k:=0) b j;exact⟨(p,x),by simp[d],rfl⟩
 ·obtain⟨p,d⟩:=A5 (k:=1) b j;exact⟨(p,x),by simp[d],rfl⟩
 ·obtain⟨p,d⟩:=A5 (k:=2) b j;exact⟨(p,x),by simp[d],rfl⟩
theorem ud {s:HL} {F G K S:List Int} (h:uu s F K) (b:uu s G S) (d: ∀x,x∈F→x∈G): ∀x,x∈K→x∈S:=
 h.ind (· ∈S) ⟨fun x j k=>b.cls.f x (d x j) k,b.cls.g,b.cls.e⟩
theorem iP.CO {s:HL} {R:Rt.MS} (h:iP true s R) (b:s.Ok):zl s.abs:=h.1.mono fun _ d=>d.le b
section
variable {s:HL} {R:Rt.MS} {L:List Int} {s4:HL} {R':Rt.MS} {L' ids ic K S o:List Int} {s1 s2 s3:HL} {n:Nat}
theorem cY.sub (h:cY s R L s4 R' L' ids ic K S o s1 s2 s3 n): ∀x,x∈K→x∈S:=ud h.lx h.kz fun x b=>List.mem_append.2 (.inl b)
theorem cY.held (h:cY s R L s4 R' L' ids ic K S o s1 s2 s3 n) (x:Int):bT K S x=true↔x∈S:=by
 unfold bT tv;simp only[Bool.or_eq_true,decide_eq_true_eq,List.mem_filter,Bool.not_eq_true',decide_eq_false_iff_not];constructor
 ·rintro(b|b)
  ·exact h.sub x b
  ·exact b.1
 ·intro b;by_cases c:x∈K
  ·exact .inl c
  ·exact .inr ⟨b,c⟩
theorem cY.four (h:cY s R L s4 R' L' ids ic K S o s1 s2 s3 n):(∃B,s4= {s3 with B:=B})∧s4.Inv:=by
 rw[h.r4];exact j7 h.k3.inv _ (Nat.le_refl _)
theorem cY.st (h:cY s R L s4 R' L' ids ic K S o s1 s2 s3 n) (i:Nat):s4.st.getD i 0=1↔((2*i:Nat):Int)∈S:=by
 obtain⟨⟨B,e⟩,_⟩:=h.four;have d:s4.st=s3.st:=by rw[e]
 rw[d,h.k3.st,h.c2.jR.st,h.c1.jR.st];constructor
 ·rintro⟨j,k⟩;exact(h.held _).1 (by simpa using j)
 ·intro b;exact⟨by simpa using(h.held _).2 b,sx (h.kz.e9 _ b)⟩
theorem cY.live (h:cY s R L s4 R' L' ids ic K S o s1 s2 s3 n) (x:Int):cI s4 x↔x∈S:=by
 constructor
 ·rintro⟨k,rfl,d⟩;exact(h.st k).1 d
 ·intro b;obtain⟨k,rfl,_⟩:=h.kz.e9 x b;exact⟨k,rfl,(h.st k).2 b⟩
theorem cY.ob (h:cY s R L s4 R' L' ids ic K S o s1 s2 s3 n) {i:Nat} (d:((2*i:Nat):Int)∈S):s4.ai i=if((2*i:Nat):Int)∈K then fZ (kv K) (s.ai i)else fZ (bT K S) (s.ai i):=by
 obtain⟨⟨B,e⟩,_⟩:=h.four;have k:=sx (h.kz.e9 _ d);have l:(!bT K S ((2*i:Nat):Int))=false:=by simpa using(h.held _).2 d
 have m:s4.ai i=s3.ai i:=by rw[e];rfl
 have b:s1.st.getD i 0=1:=by rw[h.c1.jR.st];exact k
 have j:s2.st.getD i 0=1:=by rw[h.c2.jR.st];exact b
 rw[m,h.k3.ob i l j,h.c2.ob i b,h.c1.ob i k];by_cases c:((2*i:Nat):Int)∈K
 ·rw[if_neg (fun e=>by have:=(List.mem_filter.1 e).2;simp only[c,decide_true,Bool.not_true,Bool.false_eq_true]at this),if_pos c,if_pos c]
 ·rw[if_pos (by simp only[tv,List.mem_filter,d,c,decide_false,Bool.not_false,and_self]),if_neg c,if_neg c]
theorem cY.snd (h:cY s R L s4 R' L' ids ic K S o s1 s2 s3 n) (m:s.Inv) (j:iP true s R) (w:R.Ok):iP true s4 R':=by
 have d: ∀x,x∈R.S∨x∈R.G∨x∈R.Q→ur true s4 x:=fun x b=>by
  by_cases c:x=0
  ·exact .inl c
  ·refine .inr ⟨rfl,(h.live x).2 (h.sub x (h.lx.cls.f x (pw w b c) ?_))⟩;have:ur true s x:=by
    rcases b with b|b|b
    ·exact j.2.1 x b
    ·exact j.2.2.1 x b
    ·exact j.2.2.2 x b
   exact(this.resolve_left c).2
 refine⟨fun ob q r l=>?_,?_⟩
 ·obtain⟨i,t,rfl⟩:=List.mem_map.1 q;have k:=(h.st i).1 (bq.1 t);rw[h.ob k]at l;have key:r=0∨r∈S:=by
   split at l
   ·rename_i c;exact(uc m j h.lx (fun x=>by unfold kv;exact decide_eq_true_iff) c l).imp id (h.sub r)
   ·exact uc m j h.kz h.held k l
  exact key.imp id fun e=>⟨rfl,(h.live r).2 e⟩
 ·rw[h.RR];refine⟨fun x b=>d x (.inl b),fun x b=>d x (.inr (.inl b)),fun x b=>?_⟩;rcases List.mem_append.1 b with b|b
  ·exact d x (.inr (.inr b))
  ·have u:=(jD h.ord).mem_iff.1 (List.mem_of_mem_take b);have y:=jQ m (List.mem_filter.1 u).1;exact .inr ⟨rfl,(h.live x).2 (h.kz.cls.f x (List.mem_append.2 (.inr u)) y)⟩
theorem cY.len (h:cY s R L s4 R' L' ids ic K S o s1 s2 s3 n):s4.aj.length=S.length:=by
 have d:(fj s4.aj).Nodup:=by
  unfold fj;exact List.Pairwise.map _ (fun a b h e=>h (by omega)) (fQ s4)
 refine Nat.le_antisymm ?_ ?_
 ·rw[←pt];exact dP d fun x j=>(h.live x).1 (dK.1 (show x∈dX (some s4)from j))
 ·exact eN h.kz.nd fun x j=>(h.live x).2 j
end
end
section
variable {tb:Bool} {s:HL} {x:Int} {R l:List Int} {fp:List Nat} {v v':Value} {w w' w2:World}
structure I2 (s:HL) (tb:Bool) (F:List Int) (P:Int→Prop):Prop where
 f: ∀x,x∈F→cI s x→P x
 g: ∀x y,cI s x→P x→y∈aY (some s) x→cI s y→P y
 e:tb=true→ ∀x,cI s x→P x→df s x=2→P (fM s x)→cI s (ez s x)→P (ez s x)
structure Ff (s:HL) (tb:Bool) (F K:List Int):Prop where
 up:mz K
 e9: ∀x,x∈K→cI s x
 cls:I2 s tb F (· ∈K)
 ind: ∀P,I2 s tb F P→ ∀x,x∈K→P x
theorem mz.nodup (h:mz l):l.Nodup:=h.imp fun h e=>by omega
theorem Ff.lx {F K:List Int} (h:Ff s true F K):uu s F K:=
 ⟨h.up.nodup,h.e9,⟨h.cls.f,h.cls.g,h.cls.e rfl⟩,fun P b=>h.ind P ⟨b.f,b.g,fun _=>b.e⟩⟩
structure RT (w w':World) (s:HL) (tb:Bool) (l R:List Int) (v:Value) (fp:List Nat):Prop where
 o:ae [] w w'
 sl:Sl w' 1 v R.length (ints R) fp
 ge: ∀y,y∈fp→w.heap.size≤y
 up:mz R
 e9: ∀x,x∈R→cI s x
 ind: ∀P,I2 s tb l P→ ∀x,x∈R→P x
theorem RT.len (h:RT w w' s tb l R v fp):R.length≤s.aj.length:=h.up.IV h.e9
theorem RT.mono (h:RT w w' s tb l R v fp) (k:ae [] w' w2) (e:v'=v):RT w w2 s tb l R v' fp:=by
 subst e;exact⟨h.o.nil k,h.sl.ab k,h.ge,h.up,h.e9,h.ind⟩
theorem RT.lI {b:List Nat} (h:RT w w' s tb l R v fp) (d:s.Ok) (k:ae [] w' w2) (q:Sl w2 1 v' (lI s R x).length (ints (lI s R x)) b) (r: ∀y,y∈b→y∈fp∨w'.heap.size≤y)
  (t: ∀P,I2 s tb l P→cI s x→P x):RT w w2 s tb l (Go.Proofs.YthamnonkfepafaaGreat.lI s R x) v' b:=
 ⟨h.o.nil k,q,fun y j=>(r y j).elim (h.ge y) fun u=>by have:=h.o.size;omega,Dh x h.up,fun y j=>((iC d).1 j).elim (fun e=>e.1▸e.2) (h.e9 y),fun P m y j=>((iC d).1 j).elim (fun e=>e.1▸t P m e.2) (h.ind P m y)⟩
theorem I3 (h:s.Inv) (b:cI s x):x≠0:=by
 obtain⟨k,rfl,d⟩:=b;intro e;have:k=0:=by omega
 subst this;exact h.z0 d
def Xu:Value→Int
 |.int _ n=>n
 |_=>0
def Ds (b d:Value):Nat:=if Xu b=(QX d:Int)then 0 else 1
def ue (s:HL) (tb:Bool) (b:List Int) (i:Nat) (R:List Int):Prop:= ∀a,a<i→(∀y,y∈aY (some s) (b.getD a 0)→cI s y→y∈R)∧(tb=true→df s (b.getD a 0)=2→fM s (b.getD a 0)∈b→cI s (ez s (b.getD a 0))→ez s (b.getD a 0)∈R)
theorem ue.mono {b d:List Int} {i:Nat} (h:ue s tb b i R) (j: ∀x,x∈R→x∈d):ue s tb b i d:=fun a k=>⟨fun y l m=>j y ((h a k).1 y l m),fun o q r t=>j _ ((h a k).2 o q r t)⟩
set_option maxHeartbeats 2000000 in
theorem M4 {b:Nat} {fl:List Nat} {vl:Value} (hi:s.Inv) (hn:s.aj.length≤2000) (h:FM w b s.abs fp) (hl:Sl w 1 vl l.length (ints l) fl) (GO:l.length≤5000):
  Cs Tryz.prog 116 [.pointer (some ⟨b,0,none⟩),vl,.bool tb] w fun v w'=>ae [] w w'∧ ∃R DV,Sl w' 1 v R.length (ints R) DV∧(∀y,y∈DV→w.heap.size≤y)∧Ff s tb l R:=by
 obtain⟨_,vO,_,_,_,_,L,Xv,hm⟩:=h;have X:FM w b s.abs fp:=⟨_,_,_,_,_,_,_,Xv,hm⟩;obtain⟨lL,_⟩:=hm.ob (s0:=s) rfl;obtain⟨av,cv,rfl⟩:=hm.C8;obtain⟨al,cl,rfl⟩:=hl.val;have d:=hi.ok;have C2: ∀i:Nat,i<l.length→ ∃g,al=some ⟨g,0,none⟩∧ ∀w',ae [] w w'→w'.cell? ⟨g,i,none⟩=some (.int .i64 (l.getD i 0)):=fun i hi=>by
  obtain⟨g,cap,ys,e,xc,_,_⟩:=hl.pos (by omega);cases e;exact⟨g,rfl,fun w' ho=>by rw[(xc.ab ho).cell];exact aG ys (by omega)⟩
 refine en [2,5,8,11,14,17,20,23,26,1,30,32,35,39,43,0,39,30,32,35,43,0] ?_;refine gO ?_;refine eJ fun q w1 hq pf gz ja=>?_;refine gO ?_;refine az (7::8::15::16::17::18::19::20::21::22::23::24::25::26::27::[]) (fun g w'=> ∃(i:Nat) (R:List Int) (H:List Nat),g 8=.int .i64 (i:Int)∧i≤l.length∧RT w w' s tb l R (g 7) H∧ ∀j,j<i→cI s (l.getD j 0)→l.getD j 0∈R) (fun g _=>bw l.length 8 g)
  ⟨0,[],[q],by simp only[go_sem];rfl,by omega,⟨ja,by simp only[go_sem];exact Sl.qM gz,fun y T=>by simp only[aK]at T;omega,List.Pairwise.nil,fun x N=>absurd N (by simp),fun P _ x N=>absurd N (by simp)⟩,fun j hj=>absurd hj (by omega)⟩ fun g1 w3 hI Y=>?_
 obtain⟨i,R,H,h8,Lu,B,all⟩:=hI;by_cases c1:i<l.length
 ·obtain⟨g,rfl,hc⟩:=C2 i c1;have ci:(0:Int)≤(i:Int)∧(i:Int)<(l.length:Int):=by omega
  have z1:=au i (by omega);refine k0 h8 (aU ci.2) (eq_true ci) @Int.toNat_natCast @Nat.mul_one (hc w3 B.o) ?_;refine aw (tZ (X.ab B.o) d B.sl (by have:=B.len;omega) (l.getD i 0)) ?_;rintro vR w4 ⟨iV,U,Z,Rm⟩;refine aZ h8 z1 ?_;refine Y _ w4 ⟨i+1,lI s R (l.getD i 0),U,?_,by omega,?_,fun j hj C=>?_⟩ ?_
  ·simp only[go_sem]
  ·simp only[go_sem];exact B.lI d iV Z Rm fun P hP C=>hP.f _ (by simp[c1]) C
  ·by_cases e:j=i
   ·subst e;exact(iC d).2 (.inl ⟨rfl,C⟩)
   ·exact(iC d).2 (.inr (all j (by omega) C))
  ·exact aJ h8
 have Rn: ∀x,x∈l→cI s x→x∈R:=fun x N C=>by
  obtain⟨j,hj,rfl⟩:=List.mem_iff_getElem.1 N;have:=all j (by omega);simp only[List.getD_eq_getElem?_getD,List.getElem?_eq_getElem hj,Option.getD_some]at this;exact this C
 refine aZ h8 (aX (show¬(i:Int)<(l.length:Int) by omega)) ?_;refine az (7::9::10::11::12::13::28::29::30::31::32::33::34::35::36::37::38::39::40::41::42::43::44::45::46::47::48::49::50::51::52::53::54::55::56::57::58::59::60::61::62::63::64::65::66::67::68::69::70::71::72::73::74::75::76::77::78::79::80::81::82::83::84::85::86::87::88::89::90::91::92::93::94::[]) (fun g w'=> ∃(R:List Int) (H:List Nat) (nn:Int),g 9=.int .i64 nn∧RT w w' s tb l R (g 7) H∧(∀x,x∈l→cI s x→x∈R)∧nn≤R.length∧(nn=R.length→ue s tb R R.length R)) (fun g _=>2*(2000-QX (g 7))+Ds (g 9) (g 7))
  ⟨R,H, -1,by simp only[go_sem],by simp only[go_sem];exact B,Rn,by omega,fun e=>by omega⟩ fun g2 w4 hI M5=>?_
 clear Y R H B all Rn;obtain⟨m,f0,nn,h9,r,Rn,hnn,Ro⟩:=hI;have aaa:=r.len;obtain⟨a0,c0,h7⟩:=r.sl.val;by_cases c2:nn=(m.length:Int)
 ·refine cT h9 h7 (dg c2) ?_;have hd:=Ro c2;refine⟨r.o,m,f0,by rw[←h7];exact r.sl,r.ge,r.up,r.e9,⟨Rn,fun x y N hm T hl=>?_,fun ht x N hm hk he hl=>?_⟩,r.ind⟩
  ·obtain⟨a,ha,rfl⟩:=List.mem_iff_getElem.1 hm;have e:m.getD a 0=m[a]:=by simp[ha]
   exact(hd a ha).1 y (by rw[e];exact T) hl
  ·obtain⟨a,ha,rfl⟩:=List.mem_iff_getElem.1 hm;have e:m.getD a 0=m[a]:=by simp[ha]
   have:=(hd a ha).2 ht;rw[e]at this;exact this hk he hl
 refine cT h9 h7 (eE c2) ?_;refine aw (BV (by rw[←h7];exact r.sl.src) (by omega)) ?_;rintro vF w5 ⟨jv,fF,hF,gF⟩;obtain⟨aF,cF,rfl⟩:=hF.val;have Rp: ∀i:Nat,i<m.length→ ∃g,aF=some ⟨g,0,none⟩∧g<w5.heap.size∧ ∀w',ae [] w5 w'→w'.cell? ⟨g,i,none⟩=some (.int .i64 (m.getD i 0)):=fun i hi=>by
  obtain⟨g,cap,ys,e,xc,_,_⟩:=hF.pos (by omega);cases e;exact⟨g,rfl,xc.lt,fun w' ho=>by rw[(xc.ab ho).cell];exact aG ys (by omega)⟩
 refine gO ?_;refine az (7::11::12::13::36::37::38::39::40::41::42::43::44::45::46::47::48::49::50::51::52::53::54::55::56::57::58::59::60::61::62::63::64::65::66::67::68::69::70::71::72::73::74::75::76::77::78::79::80::81::82::83::84::85::86::87::88::89::90::91::92::93::94::[]) (fun g w'=> ∃(i:Nat) (R:List Int) (H:List Nat),g 11=.int .i64 (i:Int)∧i≤m.length∧ae [] w5 w'∧RT w w' s tb l R (g 7) H∧(∀x,x∈m→x∈R)∧ue s tb m i R)
  (fun g _=>bw m.length 11 g) ⟨0,m,f0,by simp only[go_sem];rfl,by omega,ae.refl _ _,by simp only[go_sem];exact r.mono jv rfl,fun _ h=>h,fun a ha=>absurd ha (by omega)⟩ fun g3 Q hI E=>?_
 obtain⟨i,R,H,F,Lu,lZ,B,sub,done⟩:=hI;have Tf:=B.len;by_cases c1:i<m.length;rotate_left
 ·have hle:m.length≤R.length:=dP r.up.nodup sub;obtain⟨a7,c7,e7⟩:=B.sl.val;refine aZ F (aX (show¬(i:Int)<(m.length:Int) by omega)) ?_;refine M5 _ Q ⟨R,H,(m.length:Int),?_,?_,fun x N C=>sub x (Rn x N C),by omega,fun e=>?_⟩ ?_
  ·simp only[go_sem]
  ·simp only[go_sem];exact B
  ·have JS:=zp r.up.nodup sub (by omega);have hlen:R.length=m.length:=by omega
   intro a ha;have Ir:R.getD a 0∈m:=JS _ (by simp[ha]);obtain⟨a',TA,e'⟩:=List.mem_iff_getElem.1 Ir;have:=done a' (by omega);have ee:m.getD a' 0=R.getD a 0:=by rw[←e'];simp[TA]
   rw[ee]at this;exact⟨this.1,fun h1 h2 h3 h4=>this.2 h1 h2 (JS _ h3) h4⟩
  ·simp only[go_sem,h9,h7,e7];show 2*(2000-R.length)+Ds (.int .i64 (m.length:Int)) (.slice a7 R.length c7)<2*(2000-m.length)+Ds (.int .i64 nn) (.slice a0 m.length c0);have n1:Ds (.int .i64 nn) (.slice a0 m.length c0)=1:=by unfold Ds;rw[if_neg];exact c2
   rw[n1];unfold Ds;show 2*(2000-R.length)+(if(m.length:Int)=(R.length:Int)then 0 else 1)<_;split<;>omega
 obtain⟨Xw,rfl,abf,hcF⟩:=Rp i c1;have ci:(0:Int)≤(i:Int)∧(i:Int)<(m.length:Int):=by omega
 obtain⟨k,NP,I⟩:=r.e9 (m.getD i 0) (by simp[c1]);obtain⟨q',Xx,Xy⟩:=jO I;obtain⟨gc,cr,cp,gr,vd,e1,e2,ovd,see⟩:=hm.WK Xx;cases e1;rw[Xy]at e2 see;have Rq:=B.o.nil (ae.drew [] Q);have Re:=hm.ab Rq;obtain⟨s6c,_⟩:=see _ Rq;have cq:(0:Int)≤(q':Int)∧(q':Int)<(L.length:Int):=by omega
 have abg:=uW d I;have obl: ∀u,u∈wQ (s.ai k) (.slice cr (s.ai k).rf.length cp) vd→bh u=true:=by
  intro u hu;simp only[wQ,List.mem_cons,List.not_mem_nil,or_false]at hu;rcases hu with rfl|rfl|rfl|rfl|rfl|rfl|rfl|rfl<;>first|rfl|exact ovd
 refine aZ F (aU ci.2) ?_;refine bH (12::42::43::44::45::46::47::48::49::50::51::52::53::[]) (fun g w'=> ∃q,g 12=.pointer (some ⟨q,0,none⟩)∧At w' q (wQ (s.ai k) (.slice cr (s.ai k).rf.length cp) vd)∧Q.heap.size≤q∧ae [] Q w') (fun kk jS=>?_) (fun g7 w7 hJ=>?_)
 ·refine aW [b,Xw,gc] ?_;have blt:=Re.hb.lt;have Xz: ∀z,z∈[b,Xw,gc]→z<Q.drew.heap.size∧z∉([]:List Nat):=fun z hz=>by
   refine⟨?_,by simp⟩;have:Q.drew.heap.size=Q.heap.size:=rfl;have:=lZ.size;simp only[List.mem_cons,List.not_mem_nil,or_false]at hz;rcases hz with rfl|rfl|rfl
   ·exact blt
   ·omega
   ·obtain⟨g',_,_,e',XA,_,_⟩:=Re.row (by omega);cases e';exact XA.lt
  have CT:SB [b,Xw,gc] Q.drew Q.drew:=SB.refl _ _;refine k0 F Re.hb.cell (eq_true ci) @Int.toNat_natCast @Nat.mul_one (hcF _ (lZ.nil (ae.drew [] Q))) ?_;refine⟨?_,?_⟩
  ·refine ks (lG (X.ab Rq) (m.getD i 0)) (.inr CT) ?_;rw[NP,oK Xx Xy];refine eZ (show AO (some q')=(q':Int)from rfl) (eq_true cq) @Int.toNat_natCast s6c ?_;refine nw fun q w7 hq uw jz G=>⟨.inr (CT.only G Xz),?_⟩;refine gO ?_;refine pB jz rfl (by simp) obl fun D Bu nK t=>⟨.inl rfl,?_⟩;refine gO ?_;have z6:Q.drew.heap.size=Q.heap.size:=rfl;refine jS _ D ⟨q,?_,nK,by omega,((ae.drew [] Q).nil G).trans t fun y T=>by simp only[aK]at T;exact .inr (by omega)⟩
   ·simp only[go_sem]
  ·refine nw fun q w7 hq uw jz G=>⟨.inr (CT.only G Xz),?_⟩;refine gO ?_;refine ks (lG (X.ab (Rq.nil G)) (m.getD i 0)) (.inr (CT.only G Xz)) ?_;rw[NP,oK Xx Xy];obtain⟨s7c,_⟩:=see _ (Rq.nil G);refine lY (show AO (some q')=(q':Int)from rfl) (eq_true cq) @Int.toNat_natCast s6c s7c ?_;refine pB jz rfl (by simp) obl fun D Bu nK t=>⟨.inl rfl,?_⟩;refine gO ?_;have z6:Q.drew.heap.size=Q.heap.size:=rfl;refine jS _ D ⟨q,?_,nK,by omega,((ae.drew [] Q).nil G).trans t fun y T=>by simp only[aK]at T;exact .inr (by omega)⟩
   ·simp only[go_sem]
 obtain⟨q,V,Ag,gq,G⟩:=hJ;have rk:s.RF k=fun j=>(s.ai k).rf.getD j 0:=rfl;have c5: ∀w',ae [] w7 w'→w'.cell? ⟨q,5,none⟩=some (.slice cr (s.ai k).rf.length cp):=fun w' o=>by rw[(Ag.ab o).cell];rfl
 have c4: ∀w',ae [] w7 w'→w'.cell? ⟨q,4,none⟩=some (.int .i64 (s.ai k).sh.2.2):=fun w' o=>by rw[(Ag.ab o).cell];rfl
 have c2s: ∀w',ae [] w7 w'→aC w' ⟨q,2,none⟩ 3=some (bS (s.ai k).sh):=fun w' o=>by rw[ay (Ag.ab o) 2 3 (by simp[wQ])];rfl
 have Tp:((2*k:Nat):Int)∈m:=by rw[←NP];simp[c1]
 refine gO ?_;refine az (7::13::54::55::56::57::58::59::60::61::62::63::64::65::66::67::68::69::70::71::72::[]) (fun g w'=> ∃(j:Nat) (R:List Int) (H:List Nat),g 13=.int .i64 (j:Int)∧j≤(s.ai k).rf.length∧ae [] w7 w'∧RT w w' s tb l R (g 7) H∧(∀x,x∈m→x∈R)∧ue s tb m i R∧ ∀W,W<j→bM (s.ai k).sh.2.2 W=false→cI s (s.RF k W)→s.RF k W∈R)
  (fun g _=>bw (s.ai k).rf.length 13 g) ⟨0,R,H,by simp only[go_sem];rfl,by omega,ae.refl _ _,by simp only[go_sem];exact B.mono G rfl,sub,done,fun W hj=>absurd hj (by omega)⟩ fun g8 D hI J=>?_
 clear R H B sub done Tf;obtain⟨j,R,H,K,hj,t,B,sub,done,S⟩:=hI;have Tf:=B.len;obtain⟨_,srf⟩:=see D B.o;have o68:ae [] w5 D:=(lZ.nil G).nil t;by_cases c2:j<(s.ai k).rf.length
 ·have cj:(0:Int)≤(j:Int)∧(j:Int)<((s.ai k).rf.length:Int):=by omega
  have z1:=au j (by omega);obtain rfl:=e2 (by omega);refine lY K V (c5 D t) (aU cj.2) (c2s D t) ?_;refine aw (IX D (s.ai k).sh j) ?_;rintro _ w9 ⟨rfl,M⟩;have tj:w9.cell? ⟨gr,j,none⟩=some (.int .i64 (s.RF k j)):=(see w9 (B.o.nil M)).2 j c2;cases hsf:bM (s.ai k).sh.2.2 j with
  |true=>
   refine aZ K z1 ?_;refine J _ w9 ⟨j+1,R,H,?_,by omega,t.nil M,?_,sub,done,fun W hj' J7 C=>?_⟩ ?_
   ·simp only[go_sem]
   ·simp only[go_sem];exact B.mono M rfl
   ·by_cases e:W=j
    ·subst e;rw[hsf]at J7;cases J7
    ·exact S W (by omega) J7 C
   ·exact aJ K
  |false=>
   refine k7 K V (c5 w9 (t.nil M)) (eq_true cj) @Int.toNat_natCast @Nat.mul_one tj ?_;refine aw (tZ (X.ab (B.o.nil M)) d (B.sl.ab M) (by omega) (s.RF k j)) ?_;rintro vR rS ⟨O,U,Z,Rm⟩;refine aZ K z1 ?_;have XC: ∀y,y∈U→y∈H∨D.heap.size≤y:=fun y T=>(Rm y T).imp id fun h'=>by have:=M.size;omega
   have up: ∀x,x∈R→x∈lI s R (s.RF k j):=fun x N=>(iC d).2 (.inr N);refine J _ rS ⟨j+1,lI s R (s.RF k j),U,?_,by omega,(t.nil M).nil O,?_,fun x N=>up x (sub x N),done.mono up,fun W hj' J7 C=>?_⟩ ?_
   ·simp only[go_sem]
   ·simp only[go_sem];exact B.lI d (M.nil O) Z XC fun P hP C=>hP.g _ _ (r.e9 _ Tp) (r.ind P hP _ Tp) ((iu d I).2 ⟨j,c2,rfl,I3 hi C,hsf⟩) C
   ·by_cases e:W=j
    ·subst e;exact(iC d).2 (.inl ⟨rfl,C⟩)
    ·exact up _ (S W (by omega) J7 C)
   ·exact aJ K
 clear J;have jn:j=(s.ai k).rf.length:=by omega
 subst jn;have M6: ∀y,y∈aY (some s) ((2*k:Nat):Int)→cI s y→y∈R:=fun y T C=>by
  obtain⟨W,h1,h2,h3,h4⟩:=(iu d I).1 T;rw[h2]at C⊢;exact S W h1 h4 C
 have fin: ∀(g9:Env) (w9:World) (R':List Int) (XD:List Nat),ae [] D w9→RT w w9 s tb l R' (g9 7) XD→(∀x,x∈R→x∈R')→(tb=true→(s.ai k).sh.2.2=2→fM s ((2*k:Nat):Int)∈m→cI s (ez s ((2*k:Nat):Int))→ez s ((2*k:Nat):Int)∈R')→g9 11=.int .i64 ((i+1:Nat):Int)→
   ∃(i:Nat) (R:List Int) (H:List Nat),g9 11=.int .i64 (i:Int)∧i≤m.length∧ae [] w5 w9∧RT w w9 s tb l R (g9 7) H∧(∀x,x∈m→x∈R)∧ue s tb m i R:=fun g9 w9 R' XD o9 rt' up hep XE=>⟨i+1,R',XD,XE,by omega,o68.nil o9,rt',fun x N=>up x (sub x N),fun a ha=>by
  by_cases e:a=i
  ·subst e;rw[NP];exact⟨fun y T C=>up y (M6 y T C),fun h1 h2 h3 h4=>hep h1 (by rw[mw d I]at h2;exact h2) h3 h4⟩
  ·have:=(done.mono up) a (by omega);exact this⟩
 have z1:=au i (by omega);obtain⟨l1,_,lv⟩:=cX d I;cases tb with
 |false=>
  refine k0 K V (c5 D t) (aX (show¬((s.ai k).rf.length:Int)<((s.ai k).rf.length:Int) by omega)) F z1 ?_;refine E _ D (fin _ D R H (ae.refl _ _) ?_ (fun _ h=>h) (fun e=>by cases e) ?_) ?_
  ·simp only[go_sem];exact B
  ·simp only[go_sem]
  ·exact aJ F
 |true=>
 by_cases k2:(s.ai k).sh.2.2=2;rotate_left
 ·refine xG K V (c5 D t) (aX (show¬((s.ai k).rf.length:Int)<((s.ai k).rf.length:Int) by omega)) F z1 (c4 D t) (cU k2) ?_;refine E _ D (fin _ D R H (ae.refl _ _) ?_ (fun _ h=>h) (fun _ e=>absurd e k2) ?_) ?_
  ·simp only[go_sem];exact B
  ·simp only[go_sem]
  ·exact aJ F
 have rl2:2≤(s.ai k).rf.length:=by
  simp only[aS,Bool.and_eq_true,Bool.or_eq_true,decide_eq_true_eq]at lv;omega
 obtain rfl:=e2 (by omega);have cz0:(0:Int)≤0∧(0:Int)<((s.ai k).rf.length:Int):=by omega
 have cz1:(0:Int)≤1∧(1:Int)<((s.ai k).rf.length:Int):=by omega
 have t0:D.cell? ⟨gr,0,none⟩=some (.int .i64 (s.RF k 0)):=srf 0 (by omega);have t1:D.cell? ⟨gr,1,none⟩=some (.int .i64 (s.RF k 1)):=srf 1 (by omega);have tn0:((0:Int)).toNat=0:=rfl;have tn1:((1:Int)).toNat=1:=rfl;have eK:fM s ((2*k:Nat):Int)=s.RF k 0:=sA d I (by omega);have eV:ez s ((2*k:Nat):Int)=s.RF k 1:=px d I (by omega);refine uq K V (c5 D t) (aX (show¬((s.ai k).rf.length:Int)<((s.ai k).rf.length:Int) by omega)) (c4 D t) (cZ k2) (eq_true cz0) (eq_true cz0.2) tn0 @Nat.zero_mul t0 ?_;refine aH (Mf B.sl.rd (by omega) (s.RF k 0)) ?_;cases XF:R.contains (s.RF k 0)with
 |false=>
  refine aZ F z1 ?_;refine E _ D (fin _ D R H (ae.refl _ _) ?_ (fun _ h=>h) (fun _ _ e=>?_) ?_) ?_
  ·simp only[go_sem];exact B
  ·rw[eK]at e;rw[List.contains_iff_mem.2 (sub _ e)]at XF;cases XF
  ·simp only[go_sem]
  ·exact aJ F
 |true=>
  have Ir:=List.contains_iff_mem.1 XF;refine k7 V (c5 D t) (eq_true cz1) (eq_true cz1.2) tn1 @Nat.one_mul t1 ?_;refine aw (tZ (X.ab B.o) d B.sl (by omega) (s.RF k 1)) ?_;rintro vR rS ⟨O,U,Z,Rm⟩;refine aZ F z1 ?_;have up: ∀x,x∈R→x∈lI s R (s.RF k 1):=fun x N=>(iC d).2 (.inr N);refine E _ rS (fin _ rS (lI s R (s.RF k 1)) U O ?_ up (fun _ _ _ C=>?_) ?_) ?_
  ·simp only[go_sem];exact B.lI d O Z Rm fun P hP C=>by
    have:=hP.e rfl _ (r.e9 _ Tp) (r.ind P hP _ Tp) (by rw[mw d I];exact k2) (by rw[eK];exact B.ind P hP _ Ir) (by rw[eV];exact C);rwa[eV]at this
  ·rw[eV]at C⊢;exact(iC d).2 (.inl ⟨rfl,C⟩)
  ·simp only[go_sem]
  ·exact aJ F
end
section
set_option maxRecDepth 8000
variable {j:Nat}
theorem mS {l:List Int} (b:j<l.length):ints (l.take j)++[Value.int .i64 (l.getD j 0)]=ints (l.take (j+1)):=by
 have e:l.getD j 0=l[j]:=by simp[b]
 rw[List.take_succ_eq_append_getElem b,e];unfold ints;rw[List.map_append];rfl
theorem uf {B:List (Int×Int)} (b:j<B.length):cG (B.take j)++[Value.int .i64 (B.getD j (0,0)).1,Value.int .i64 (B.getD j (0,0)).2]=cG (B.take (j+1)):=by
 rw[List.take_succ_eq_append_getElem b,mM];simp[cG,b]
theorem Gq {l:List Nat} {i:Nat} (h:i<l.length):(fj l).getD i 0=((2*l.getD i 0:Nat):Int):=by simp[fj,h]
theorem Fj {w:World} {hb:Nat} {s:HL} {fh:List Nat} (h:HR w (some ⟨hb,0,none⟩) fh (some s)) (hi:s.Inv):Cs Tryz.prog 20 [.pointer (some ⟨hb,0,none⟩)] w fun v w'=>ae [] w w'∧ ∃b fp,v=.pointer (some ⟨b,0,none⟩)∧FM w' b s.abs fp∧ ∀x,x∈fp→w.heap.size≤x:=by
 have q:=hi.ok;have abh:=q.jd;refine en [2,5,8,11,14,17,20,23,26,1,30,32,36,40,0,36,30,32,40,0] ?_;refine gO ?_;refine aH (IH h) ?_;have hbo:JN (some s)=s.born:=rfl;rw[hbo];refine gO ?_;rw[ag rfl rfl];refine gO ?_;refine bp fun qb w1 NN pf gz ja=>?_;simp only[go_sem];refine run_seq ?_;refine bH (4::5::22::23::24::25::26::27::28::29::30::31::32::33::34::35::36::37::38::39::40::41::42::43::44::[]) (fun _ w'=> ∃vB fB,At w' qb [vB,.slice none 0 0,.slice none 0 0,.int .i64 (s.born:Int)]∧Sl w' 2 vB s.B.length (cG s.B) fB∧(∀x,x∈fB→w1.heap.size≤x)∧ae [] w w') (fun kk jS=>?_) (fun g1 w2 hJ=>?_)
 ·refine gO ?_;refine az (4::5::22::23::24::25::26::27::28::29::30::31::32::33::34::35::36::37::38::39::40::41::42::43::44::[]) (fun g w'=> ∃(i:Nat) (vB:Value) (fB:List Nat),g 4=.int .i64 (i:Int)∧i≤s.B.length∧At w' qb [vB,.slice none 0 0,.slice none 0 0,.int .i64 (s.born:Int)]∧Sl w' 2 vB i (cG (s.B.take i)) fB∧(∀x,x∈fB→w1.heap.size≤x)∧ae [] w w') (fun g _=>bw s.B.length 4 g)
   ⟨0,.slice none 0 0,[],by simp only[go_sem];rfl,by omega,gz,Sl.ME _,by simp,ja⟩ fun g w' hI Q=>?_
  obtain⟨i,vB,fB,h4,Lu,R,EZ,G,Z⟩:=hI;have H:=h.ab Z;have Rr:((cJ (some s):Nat):Int)=(s.B.length:Int):=rfl;by_cases c1:i<s.B.length;rotate_left
  ·refine aQ h4 ?_;refine aH (gC H) ?_;refine cT h4 Rr (aX (show¬(i:Int)<(s.B.length:Int) by omega)) ?_;obtain rfl:i=s.B.length:=by omega
   rw[List.take_length]at EZ;refine jS _ w' ⟨vB,fB,R,EZ,G,Z⟩
  refine aQ h4 ?_;refine aH (gC H) ?_;refine eZ h4 Rr (aU (show(i:Int)<(s.B.length:Int) by omega)) R.cell ?_;refine aH (qy H (i:Int)) ?_;refine aQ h4 ?_;refine aH (Mb H (i:Int)) ?_;have e1:jB (some s) (i:Int)=(s.B.getD i (0,0)).1:=by
   show(if 0≤(i:Int)∧(i:Int)<(s.B.length:Int)then(s.b (i:Int)).1 else-1)=_;rw[if_pos (by omega)];rfl
  have e2:pS (some s) (i:Int)=(s.B.getD i (0,0)).2:=by
   show(if 0≤(i:Int)∧(i:Int)<(s.B.length:Int)then(s.b (i:Int)).2 else-1)=_;rw[if_pos (by omega)];rfl
  rw[e1,e2];refine gO ?_;rw[ag rfl rfl,ag rfl rfl];refine gO ?_;rw[kY (n:=2) rfl rfl];refine gO ?_;refine eJ fun q4 w4 H3 pk iH S=>?_;refine gO ?_;refine eM (sz:=2) (m:=1) (us:=[.int .i64 (s.B.getD i (0,0)).1,.int .i64 (s.B.getD i (0,0)).2]) (EZ.ab S) (bn.at iH rfl) (by simp[bh]) (by omega) (by omega) ?_;intro v5 w5 f5 qm JL l _;rw[uf c1]at qm;have hz:=Z.size;have Ic:=ja.size;have Jw:=S.size;have hqf:qb∉fB:=fun d=>by have:=G qb d;omega
  have ky:=(R.ab S).keep l hqf;have Ru: ∀x,x∈f5→w1.heap.size≤x:=fun x d=>by
   rcases JL with rfl|rfl
   ·exact G x d
   ·simp only[aK]at d;have:=R.lt;omega
  have o5:ae [] w w5:=(Z.nil S).trans l fun x d=>.inr (by have:=G x d;omega);refine gO ?_;refine fJ ky (by simp) qm.jH fun w6 oO W t=>?_;simp only[List.set_cons_zero,List.set_cons_succ]at W;refine aZ h4 (au i (by omega)) ?_;refine Q _ w6 ⟨i+1,v5,f5,?_,by omega,W,qm.keep t fun x d=>bg (by have:=Ru x d;omega),Ru,o5.trans t fun x d=>by simp only[aK]at d;subst d;exact .inr (by omega)⟩ ?_
  ·simp only[go_sem]
  ·exact aJ h4
 obtain⟨vB,fB,I1,XG,G,jq⟩:=hJ;refine gO ?_;refine aw (wL (h.ab jq)) ?_;rintro vA w3 ⟨gJ,fq,Rv,SM⟩;have hA:dX (some s)=fj s.aj:=rfl;rw[hA]at Rv;have Lp:(fj s.aj).length=s.aj.length:=pt _;rw[Lp]at Rv;obtain⟨aA,cA,rfl⟩:=Rv.val;have Qw:s.aj.length≤2048:=by
  have:=kR s.st 0 s.st.length;have hl:s.aj.length≤s.st.length:=this;have:=q.sl;omega
 have Ic:=ja.size;have JI:=jq.size;have P5:=gJ.size;have NH:=I1.lt;have Rw:=XG.lt;have XH:=Rv.lt;have oo3:=jq.nil gJ;refine gO ?_;refine az (7::8::9::10::11::12::13::14::15::16::17::47::48::49::50::51::52::53::54::55::56::57::58::59::60::61::62::63::64::65::66::67::68::69::70::71::72::73::74::75::76::77::78::79::80::81::82::83::84::85::86::87::88::89::90::91::92::93::94::95::96::97::98::99::100::101::102::103::104::105::106::107::108::109::110::111::112::113::114::115::116::117::118::119::120::121::122::123::124::125::126::127::128::129::130::131::132::133::134::[]) (fun g w'=> ∃(i:Nat) (vO:Value) (fO:List Nat) (L:List OM),g 7=.int .i64 (i:Int)∧i≤s.aj.length∧At w' qb [vB,vO,.slice none 0 0,.int .i64 (s.born:Int)]∧Sl w' 8 vO i (gS L) fO∧L.map OM.o=(s.aj.take i).map s.ai∧(∀m,m∈L→m.ok w')∧(fO++eF L).Nodup∧(∀x,x∈fO++eF L→w3.heap.size≤x)∧ae [qb] w3 w') (fun g _=>bw s.aj.length 7 g)
  ⟨0,.slice none 0 0,[],[],by simp only[go_sem];rfl,by omega,I1.ab gJ,Sl.IN _,by simp,by simp,by simp[eF],by simp[eF],ae.refl _ _⟩ fun g w' hI Q=>?_
 obtain⟨i,vO,fO,L,h7,Lu,R,hO,Nv,X,Jp,tA,Z⟩:=hI;have oo:ae [] w w':=oo3.trans Z fun x d=>by simp only[aK]at d;subst d;exact .inr (by omega)
 have SY:L.length=i:=by have:=congrArg List.length Nv;simp only[List.length_map,List.length_take]at this;omega
 by_cases c1:i<s.aj.length;rotate_left
 ·refine aZ h7 (aX (show¬(i:Int)<(s.aj.length:Int) by omega)) ?_;obtain rfl:i=s.aj.length:=by omega
  rw[List.take_length]at Nv;have E:=List.nodup_append.1 Jp;have U: ∀x,x∈fO→w3.heap.size≤x:=fun x d=>tA x (by simp[d]);have NQ: ∀x,x∈eF L→w3.heap.size≤x:=fun x d=>tA x (by simp[d]);have hB3:=(XG.ab gJ).keep Z fun x d=>bg (by have:=G x d;omega);refine⟨oo,qb,qb::(fB++(fO++([]++eF L))),rfl,⟨vB,vO,.slice none 0 0,fB,fO,[],L,rfl,⟨⟨?_,?_,?_,?_⟩,R,hB3,?_,⟨rfl,.inl ⟨rfl,rfl,rfl⟩⟩,?_,X,AQ ?_ ?_ ?_ ?_ E.2.1 E.1 XG.nodup (by simp)⟩⟩,?_⟩
  ·exact q.b2
  ·exact q.jd
  ·show(s.aj.map s.ai).length≤2048;rw[List.length_map];exact Qw
  ·exact fun o Z=>MP q o Z
  ·rw[SY];exact hO
  ·exact Nv.symm
  ·rintro y (hy|hy|hy|hy)
   ·have:=G y hy;omega
   ·have:=U y hy;omega
   ·simp at hy
   ·have:=NQ y hy;omega
  ·exact fun y hy=>⟨fun h=>by have:=U y h;have:=Rw y hy;omega,by simp,fun h=>by have:=NQ y h;have:=Rw y hy;omega⟩
  ·exact fun y hy=>⟨by simp,fun h=>E.2.2 y hy y h rfl⟩
  ·simp
  ·intro x d;simp only[List.mem_cons,List.mem_append,List.nil_append]at d;rcases d with rfl|d|d|d
   ·omega
   ·have:=G x d;omega
   ·have:=U x d;omega
   ·have:=NQ x d;omega
 refine aZ h7 (aU (show(i:Int)<(s.aj.length:Int) by omega)) ?_;obtain⟨k,hk⟩: ∃k,k=s.aj.getD i 0:=⟨_,rfl⟩;have MF:k∈s.aj:=by rw[hk];simp[c1]
 have I:=bq.1 MF;have Tl:((2*k:Nat):Int)≤4096:=by have:=(q.start I).1;have:=q.sl;omega
 obtain⟨Nt,OC,hvs⟩:=cX q I;have H:=h.ab oo
 obtain⟨gA,Zb,yA,eA,Rx,rfl,hcA⟩:=Rv.pos (by omega);cases eA;have hgA:gA<w3.heap.size:=XH gA (by simp);have XJ:gA≠qb:=by have:=SM gA (by simp);omega
 have Ry:=Rx.keep Z (bg XJ);have hAc:(ints (fj s.aj)++yA)[i]? =some (.int .i64 ((2*k:Nat):Int)):=by
  rw[hk,←Gq c1];exact aG yA (by omega)
 have ci:(0:Int)≤(i:Int)∧(i:Int)<(s.aj.length:Int):=by omega
 refine bH (8::53::54::55::56::57::58::59::60::61::62::63::[]) (fun Fc w4=> ∃u,Fc 8=.pointer (some ⟨u,0,none⟩)∧At w4 u [.int .i64 ((2*k:Nat):Int),.int .i64 0,.int .i64 0,.int .i64 0,.int .i64 0,.slice none 0 0,.slice none 0 0,.bool (s.ai k).pin]∧w'.heap.size≤u∧ae [] w' w4) (fun kk jS=>?_) (fun g4 w4 hJ=>?_)
 ·have hwd:=H.ab (ae.drew [] w');have hgd:gA<w'.drew.heap.size:=Ry.lt;have NR: ∀z,z∈[gA]→z<w'.drew.heap.size∧z∉([]:List Nat):=fun z hz=>⟨by simp only[aK]at hz;subst hz;exact hgd,by simp⟩;have Rz:sQ (dQ [Value.int .i64 0,.int .i64 0,.int .i64 0,.int .i64 0,.int .i64 0,.slice none 0 0,.slice none 0 0,.bool false] [(0,1,.int .i64 ((2*k:Nat):Int)),(7,1,.bool (s.ai k).pin)])=some (.agg ⟨[.int .i64 ((2*k:Nat):Int),.int .i64 0,.int .i64 0,.int .i64 0,.int .i64 0,.slice none 0 0,.slice none 0 0,.bool (s.ai k).pin]⟩):=by
   rw[ag rfl rfl,ag rfl rfl];rfl
  have RA: ∀u,u∈[Value.int .i64 ((2*k:Nat):Int),.int .i64 0,.int .i64 0,.int .i64 0,.int .i64 0,.slice none 0 0,.slice none 0 0,.bool (s.ai k).pin]→bh u=true:=by simp[bh]
  refine aW [gA] ?_;refine k0 h7 Ry.drew.cell (eq_true ci) @Int.toNat_natCast @Nat.mul_one hAc ?_;refine⟨?_,?_⟩
  ·refine jr (BI hwd ((2*k:Nat):Int) (by omega)) (.inr ⟨SB.refl _ _,NR⟩) fun w5 l=>?_;rw[vE q I];refine aQ Rz ?_;refine nw fun u w6 hu oO W t=>⟨.inr (((SB.refl _ _).only l NR).only t fun z hz=>⟨by have:=(NR z hz).1;have:=l.size;omega,by simp⟩),?_⟩;refine gO ?_;refine pB W rfl (by simp) RA fun w7 uw jz kB=>⟨.inl rfl,?_⟩;refine gO ?_;have UQ:w'.heap.size≤w5.heap.size:=l.size;refine jS _ w7 ⟨u,?_,jz,by omega,((((ae.drew [] w').nil l).nil t).trans kB fun x d=>by simp only[aK]at d;subst d;exact .inr (by omega))⟩
   ·simp only[go_sem]
  ·refine nw fun u w5 hu qm ky l=>⟨.inr ((SB.refl _ _).only l NR),?_⟩;refine gO ?_;refine jr (BI (hwd.ab l) ((2*k:Nat):Int) (by omega)) (.inr ⟨(SB.refl _ _).only l NR,fun z hz=>⟨by have:=(NR z hz).1;have:=l.size;omega,by simp⟩⟩) fun w6 t=>?_;rw[vE q I];refine aQ Rz ?_;refine pB (ky.ab t) rfl (by simp) RA fun w7 uw jz kB=>⟨.inl rfl,?_⟩;refine gO ?_;have UQ:u=w'.heap.size:=hu;refine jS _ w7 ⟨u,?_,jz,by omega,((((ae.drew [] w').nil l).nil t).trans kB fun x d=>by simp only[aK]at d;subst d;exact .inr (by omega))⟩
   ·simp only[go_sem]
 obtain⟨u,h8,hu4,Td,S⟩:=hJ;have hw4:=H.ab S;have XK:=jP q I;have hsh:=dB q I;have IZ: ∀j,j<(s.ai k).rf.length→dE (some s) ((2*k:Nat):Int) (j:Int)=((s.ai k).rf.getD j 0,0):=fun j hj=>jt q I hj;have hdt: ∀j,j<(s.ai k).dt.length→tQ (some s) ((2*k:Nat):Int) (j:Int)=((s.ai k).dt.getD j 0,0):=fun j hj=>IW q I hj;have hoa:(s.ai k).a=((2*k:Nat):Int):=rfl;refine aZ h8 hu4.cell ?_;refine aM (AL hw4 ((2*k:Nat):Int) (by omega)) fun w5 l=>?_;rw[XK];refine aQ h8 ?_;refine fJ (hu4.ab l) (by simp) rfl fun w6 oO PJ t=>?_;simp only[List.set_cons_zero,List.set_cons_succ]at PJ;have XL:u∉fh:=fun d=>by have:=h.lt u d;have:=oo.size;omega
 have TV:=(hw4.ab l).keep t fun x d=>bg (fun e=>XL (e▸d));refine aZ h8 PJ.cell ?_;refine aM (ju TV ((2*k:Nat):Int) (by omega)) fun w7 kB=>?_;rw[hsh];refine aQ h8 ?_;refine dF (cs:=bS (s.ai k).sh) (PJ.ab kB) rfl (by simp[bS]) (dm _) fun w8 Bu Tq k9=>?_;have Tq:At w8 u [.int .i64 ((2*k:Nat):Int),.int .i64 (s.ai k).id,.int .i64 (s.ai k).sh.1,.int .i64 (s.ai k).sh.2.1,.int .i64 (s.ai k).sh.2.2,.slice none 0 0,.slice none 0 0,.bool (s.ai k).pin]:=Tq;have o8:ae [] w' w8:=((((S.nil l).of_nil (T:=[u])).same t).nil kB|>.same k9).mono fun x d=>by simp only[aK]at d;subst d;exact .inr Td
 have hw8:=H.ab o8;have abi:=Tq.lt;have hz8:=o8.size;have hzw:=Z.size;have XM:=hvs;simp only[aS,Bool.and_eq_true,decide_eq_true_eq]at XM;have ux: ∀ {w9 rS:World},ae [] w8 w9→True:=fun _=>trivial;clear ux;refine gO ?_;refine az (9::10::11::12::80::81::82::83::84::85::86::87::88::89::90::91::92::93::94::95::96::97::98::99::100::101::[]) (fun g w'=> ∃(j:Nat) (vr:Value) (fr:List Nat),g 9=.int .i64 (j:Int)∧j≤(s.ai k).rf.length∧At w' u [.int .i64 ((2*k:Nat):Int),.int .i64 (s.ai k).id,.int .i64 (s.ai k).sh.1,.int .i64 (s.ai k).sh.2.1,.int .i64 (s.ai k).sh.2.2,vr,.slice none 0 0,.bool (s.ai k).pin]∧Sl w' 1 vr j (ints ((s.ai k).rf.take j)) fr∧(∀x,x∈fr→w8.heap.size≤x)∧ae [u] w8 w') (fun g _=>bw (s.ai k).rf.length 9 g)
  ⟨0,.slice none 0 0,[],by simp only[go_sem];rfl,by omega,Tq,Sl.iW _,by simp,ae.refl _ _⟩ fun g9 w9 hI9 M7=>?_
 obtain⟨j,vr,fr,h9,hjl,Ts,Am,J,kC⟩:=hI9;have hw9:=hw8.keep kC fun x d=>bg (fun e=>XL (e▸d));by_cases c2:j<(s.ai k).rf.length
 ·refine eZ h8 h9 Ts.cell (aU (show(j:Int)<(s.ai k).sh.1 by omega)) ?_;refine aM (rR hw9 ((2*k:Nat):Int) (j:Int) (by omega)) fun rS r=>?_;rw[IZ j c2];have K:=Ts.ab r;refine aZ h8 K.cell ?_;rw[ag rfl rfl];refine gO ?_;refine eJ fun Xg qx MW uz V B=>?_;refine gO ?_;refine eM (sz:=1) (m:=1) (us:=[.int .i64 ((s.ai k).rf.getD j 0)]) ((Am.ab r).ab B) (bn.at V rfl) (by simp[bh]) (by omega) (by omega) ?_;intro v12 wN f12 C M8 M _;rw[mS c2]at C;have z9:=kC.size;have SR:=r.size;have D: ∀x,x∈f12→w8.heap.size≤x:=fun x d=>by
   rcases M8 with rfl|rfl
   ·exact J x d
   ·simp only[aK]at d;omega
  have M9:=(K.ab B).keep M fun d=>by have:=J u d;omega
  have L2:ae [u] w8 wN:=((kC.nil r).nil B).trans M fun x d=>.inr (J x d);refine aQ h8 ?_;refine fJ M9 (by simp) C.jH fun uy yG N O=>?_;simp only[List.set_cons_zero,List.set_cons_succ]at N;refine aZ h9 (au j (by omega)) ?_;refine M7 _ uy ⟨j+1,v12,f12,?_,by omega,N,C.keep O fun x d=>bg (by have:=D x d;omega),D,L2.same O⟩ ?_
  ·simp only[go_sem]
  ·exact aJ h9
 obtain rfl:j=(s.ai k).rf.length:=by omega
 rw[List.take_length]at Am;have RB:=Am.lt;refine eZ h8 h9 Ts.cell (aX (show¬(((s.ai k).rf.length:Nat):Int)<(s.ai k).sh.1 by omega)) ?_;refine az (13::14::15::16::102::103::104::105::106::107::108::109::110::111::112::113::114::115::116::117::118::119::120::121::122::123::[]) (fun g w'=> ∃(j:Nat) (vd:Value) (fd:List Nat),g 13=.int .i64 (j:Int)∧j≤(s.ai k).dt.length∧At w' u [.int .i64 ((2*k:Nat):Int),.int .i64 (s.ai k).id,.int .i64 (s.ai k).sh.1,.int .i64 (s.ai k).sh.2.1,.int .i64 (s.ai k).sh.2.2,vr,vd,.bool (s.ai k).pin]∧Sl w' 1 vd j (ints ((s.ai k).dt.take j)) fd∧(∀x,x∈fd→w9.heap.size≤x)∧ae [u] w9 w') (fun g _=>bw (s.ai k).dt.length 13 g)
  ⟨0,.slice none 0 0,[],by simp only[go_sem];rfl,by omega,Ts,Sl.iW _,by simp,ae.refl _ _⟩ fun gA wA WA Na=>?_
 obtain⟨j,vd,fd,Y,abj,Tt,RC,P,NS⟩:=WA;have hwA:=hw9.keep NS fun x d=>bg (fun e=>XL (e▸d));have z9:=kC.size;by_cases c3:j<(s.ai k).dt.length
 ·refine eZ h8 Y Tt.cell (aU (show(j:Int)<(s.ai k).sh.2.1 by omega)) ?_;refine aM (Qp hwA ((2*k:Nat):Int) (j:Int) (by omega)) fun rS r=>?_;rw[hdt j c3];have K:=Tt.ab r;refine aZ h8 K.cell ?_;rw[ag rfl rfl];refine gO ?_;refine eJ fun Xg qx MW uz V B=>?_;refine gO ?_;refine eM (sz:=1) (m:=1) (us:=[.int .i64 ((s.ai k).dt.getD j 0)]) ((RC.ab r).ab B) (bn.at V rfl) (by simp[bh]) (by omega) (by omega) ?_;intro v12 wN f12 C M8 M _;rw[mS c3]at C;have zA:=NS.size;have SR:=r.size;have D: ∀x,x∈f12→w9.heap.size≤x:=fun x d=>by
   rcases M8 with rfl|rfl
   ·exact P x d
   ·simp only[aK]at d;omega
  have M9:=(K.ab B).keep M fun d=>by have:=P u d;omega
  have L2:ae [u] w9 wN:=((NS.nil r).nil B).trans M fun x d=>.inr (P x d);refine aQ h8 ?_;refine fJ M9 (by simp) C.jH fun uy yG N O=>?_;simp only[List.set_cons_zero,List.set_cons_succ]at N;refine aZ Y (au j (by omega)) ?_;refine Na _ uy ⟨j+1,v12,f12,?_,by omega,N,C.keep O fun x d=>bg (by have:=D x d;omega),D,L2.same O⟩ ?_
  ·simp only[go_sem]
  ·exact aJ Y
 obtain rfl:j=(s.ai k).dt.length:=by omega
 rw[List.take_length]at RC;have XN:=RC.lt;have oA:ae [] w' wA:=o8.trans (kC.trans NS fun x d=>.inl d) fun x d=>by simp only[aK]at d;subst d;exact .inr Td
 have hqu:qb≠u:=by have:=Z.size;omega
 have JT:=R.ab oA;have EP:aC wA ⟨u,0,none⟩ 8=some [.int .i64 ((2*k:Nat):Int),.int .i64 (s.ai k).id,.int .i64 (s.ai k).sh.1,.int .i64 (s.ai k).sh.2.1,.int .i64 (s.ai k).sh.2.2,vr,vd,.bool (s.ai k).pin]:=ay Tt 0 8 (by simp);refine k0 h8 Y Tt.cell (aX (show¬(((s.ai k).dt.length:Nat):Int)<(s.ai k).sh.2.1 by omega)) JT.cell EP ?_;rw[kY (n:=8) rfl rfl];refine gO ?_;refine eJ fun qB wB hqB hsB Mz RD=>?_;refine gO ?_;have Te:OM.ok wA ⟨s.ai k,vr,vd,fr,fd⟩:=⟨Am.keep NS fun x d=>bg (by have:=J x d;omega),RC⟩;have RE:At wB qB (OM.V ⟨s.ai k,vr,vd,fr,fd⟩):=Mz;refine eM (sz:=8) ((hO.ab oA).ab RD) (bn.at (m:=1) RE rfl) (FY Te) (by omega) (by omega) ?_;intro vC wC fC RH hfC XP _;have zA:=oA.size;have zB:=RD.size;have U: ∀x,x∈fO→w3.heap.size≤x:=fun x d=>tA x (by simp[d]);have NQ: ∀x,x∈eF L→w3.heap.size≤x:=fun x d=>tA x (by simp[d]);have RI: ∀x,x∈fC→w3.heap.size≤x:=fun x d=>by
  rcases hfC with rfl|rfl
  ·exact U x d
  ·simp only[aK]at d;omega
 have XQ:=(JT.ab RD).keep XP fun d=>by have:=U qb d;omega
 refine gO ?_;refine fJ XQ (by simp) RH.jH fun wD hsD RJ XS=>?_;simp only[List.set_cons_zero,List.set_cons_succ]at RJ;refine aZ h7 (au i (by omega)) ?_;have oC:ae [] w' wB:=oA.nil RD;have oD:ae [qb] w3 wD:=(((Z.nil oC).trans XP fun x d=>.inr (U x d))).same XS;have hmD: ∀m:OM,m.ok wB→(∀x,x∈m.fr++m.fd→w3.heap.size≤x∧x∉fO)→m.ok wD:=fun m hm d=>(hm.keep XP fun x XU=>(d x (List.mem_append.2 XU)).2).keep XS fun x XU=>bg (by have:=(d x (List.mem_append.2 XU)).1;omega);have E:=List.nodup_append.1 Jp;have hLO: ∀x,x∈eF L→x∉fO:=fun x h1 h2=>E.2.2 x h2 x h1 rfl;have hOl:=hO.lt;have RK: ∀x,x∈eF L→x<w'.heap.size:=fun x d=>by
  simp only[eF,List.mem_flatMap,List.mem_append]at d;obtain⟨m,hm,d⟩:=d;rcases d with d|d
  ·exact(X m hm).r.lt x d
  ·exact(X m hm).d.lt x d
 have F: ∀x,x∈fr++fd→w8.heap.size≤x∧x<wA.heap.size:=fun x d=>by
  rcases List.mem_append.1 d with h|h
  ·have:=J x h;have:=RB x h;have:=NS.size;omega
  ·have:=P x h;have:=XN x h;omega
 have XV:(fr++fd).Nodup:=by
  rw[List.nodup_append];exact⟨Am.nodup,RC.nodup,fun x h1 y h2 e=>by have:=RB x h1;have:=P y h2;omega⟩
 have heF:eF (L++[⟨s.ai k,vr,vd,fr,fd⟩])=eF L++(fr++fd):=by rw[fU];simp[eF]
 have RN: ∀x,x∈fC→x∉eF L∧x∉fr++fd:=fun x d=>by
  rcases hfC with rfl|rfl
  ·exact⟨fun h=>hLO x h d,fun h=>by have:=F x h;have:=hOl x d;omega⟩
  ·simp only[aK]at d;exact⟨fun h=>by have:=RK x h;omega,fun h=>by have:=F x h;omega⟩
 refine Q _ wD ⟨i+1,vC,fC,L++[⟨s.ai k,vr,vd,fr,fd⟩],?_,by omega,RJ,?_,?_,?_,?_,?_,oD⟩ ?_
 ·simp only[go_sem]
 ·have e1:gS [(⟨s.ai k,vr,vd,fr,fd⟩:OM)]=OM.V ⟨s.ai k,vr,vd,fr,fd⟩:=by simp[gS]
  rw[lF,e1];exact RH.keep XS fun x d=>bg (by have:=RI x d;omega)
 ·rw[List.map_append,Nv,List.take_succ_eq_append_getElem c1,List.map_append];have:s.aj[i]=k:=by rw[hk];simp[c1]
  rw[this];rfl
 ·intro m hm;rcases List.mem_append.1 hm with hm|hm
  ·exact hmD m (((X m hm).ab oC)) fun x d=>by
    have:=ig hm (List.mem_append.1 d);exact⟨NQ x this,hLO x this⟩
  ·simp only[aK]at hm;subst hm;exact hmD _ (Te.ab RD) fun x d=>⟨by have:=(F x d).1;omega,fun h=>by have:=(F x d).1;have:=hOl x h;omega⟩
 ·rw[heF,List.nodup_append,List.nodup_append];refine⟨RH.nodup,⟨E.2.1,XV,fun x h1 y h2 e=>by subst e;have:=RK x h1;have:=F x h2;omega⟩,fun x h1 y h2 e=>?_⟩;subst e;rcases List.mem_append.1 h2 with h|h
  ·exact(RN x h1).1 h
  ·exact(RN x h1).2 h
 ·intro x d;rw[heF]at d;rcases List.mem_append.1 d with h|h
  ·exact RI x h
  rcases List.mem_append.1 h with h|h
  ·exact NQ x h
  ·have:=(F x h).1;omega
 ·exact aJ h7
end
section
set_option maxRecDepth 8000
variable {j:Nat} {R r:Rt.MS}
theorem XW (h:r.M=R.M) (j:Nat):Rt.pj r j=Rt.pj R j:=by unfold Rt.pj;rw[h]
theorem Gr (h:r.M=R.M) (j:Nat):Rt.rZ r j=Rt.rZ R j:=by unfold Rt.rZ;rw[h]
theorem Bp (h:R.Ok) (b:j<16*R.M+16+R.Q.length):Rt.lV (some R) (Rt.pj R j)=(R.V.getD j 0,0):=by
 unfold Rt.lV;simp only[Rt.xf b,Rt.xg h b]
theorem I4 (o:r.Ok) (b:r.M=R.M) (d:r.Q.length=R.Q.length) (k:j<16*R.M+16+R.Q.length) {y:Int} (q:0<y):Rt.gm (some r) (Rt.pj R j) y=(0,some (r.wr (Rt.rZ R j) y)):=by
 have l:Rt.iY r (Rt.pj R j)=some (Rt.rZ R j):=by rw[←XW b,←Gr b];exact Rt.xf (by rw[b,d];exact k)
 have m:Rt.ny (Rt.pj R j) y=false:=by
  unfold Rt.ny;rw[aX (show¬y<0 by omega),aX (show¬y=0 by omega)];rfl
 unfold Rt.gm;simp only[l,m,Bool.false_eq_true,if_false]
theorem A6 {w:World} {rb:Nat} {fr:List Nat} (h:Rt.PR w (some ⟨rb,0,none⟩) fr (some R)) (hp: ∀x,x∈R.V→0≤x):
  Cs Tryz.prog 46 [.pointer (some ⟨rb,0,none⟩)] w fun v w'=>ae [] w w'∧ ∃b fp,v=.pointer (some ⟨b,0,none⟩)∧Rt.RR w' (some ⟨b,0,none⟩) fp (some R)∧ ∀x,x∈fp→w.heap.size≤x:=by
 have d:R.Ok:=by obtain⟨_,_,_,_,_,_,_,_,_,XX⟩:=h;exact XX.ok
 have m1:=d.m1;have m4:=d.m4;obtain⟨N,hN⟩: ∃N,N=16*R.M+16+R.Q.length:=⟨_,rfl⟩;refine en [] ?_;refine gO ?_;refine aH (Rt.oG h) ?_;have em:Rt.uv (some R)=(R.M:Int):=rfl;have en:Rt.fm (R.M:Int)=some ⟨R.M,List.replicate (16*R.M) 0,List.replicate 16 0,[]⟩:=by
  unfold Rt.fm;rw[if_pos (by omega),c9]
 rw[em];refine gO ?_;refine aw (Rt.Qk w (R.M:Int)) ?_;rintro _ w1 ⟨E,a,fp1,rfl,Y,_,g1⟩;rw[en]at Y;have F:(Rt.fm (R.M:Int)).isSome=true:=by rw[en];rfl
 obtain⟨b,rfl,vs,vg,vq,fs,rows,fg,fq,rfl,G⟩:=Y;refine aZ F (dg (rfl:(0:Int)=0)) ?_;refine aw (Rt.wT (h.ab E)) ?_;rintro vQ w2 ⟨H,f2,yJ,g2⟩;refine gO ?_;refine aw (BV yJ.src (by have:=d.lq;show R.Q.length≤_;omega)) ?_;rintro vC w3 ⟨I,f3,J,g3⟩;have eq:Rt.lz (some R)=R.Q:=rfl;rw[eq]at J;have Z:=H.nil I;have To:=G.ab Z;refine gO ?_;refine fJ (i:=2) To.hb (by simp) J.jH fun w4 pk iH K=>?_;have XY: ∀x,x∈b::(fs++(rows.map (·.1)++(fg++fq)))→x<w1.heap.size:=(show Rt.RM w1 b _ _ from⟨_,_,_,_,_,_,_,rfl,G⟩).lt;have z2:=H.size;have z3:=I.size;have Ck:=XY b (by simp);have RH:=J.keep K fun y k e=>by simp only[aK]at e;have:=g3 y k;omega
 have L:=Rt.uD.FG (q:=R.Q) (vq':=vC) G d.lq RH iH ((Z.of_nil (T:=b::fq)).trans K fun y k=>.inl (by simp only[aK]at k;rw[k];simp)) fun y k=>.inr (by have:=g3 y k;omega);obtain⟨fp,M⟩: ∃fp,fp=b::(fs++(rows.map (·.1)++(fg++f3))):=⟨_,rfl⟩;rw[←M]at L;have z1:=E.size;have u: ∀x,x∈fp→w.heap.size≤x:=fun x o=>by
  rw[M]at o;simp only[List.mem_cons,List.mem_append]at o;rcases o with rfl|o|o|o|o
  ·exact g1 _ (by simp)
  ·exact g1 x (by simp[o])
  ·exact g1 x (by simp only[List.mem_cons,List.mem_append];exact .inr (.inr (.inl o)))
  ·exact g1 x (by simp[o])
  ·have:=g3 x o;omega
 have o4:ae [] w w4:=((E.nil H).nil I).trans K fun y k=>.inr (by simp only[aK]at k;exact u y (by rw[M,k];simp));refine gO ?_;refine aw (Rt.yt (h.ab o4)) ?_;rintro vP w5 ⟨O,f5,z,g5⟩;have B:=Rt.jx d;obtain⟨ap,cp,rfl⟩:=z.val;rw[B];rw[B]at z;have o5:=o4.nil O;have z5:=O.size;have lt4:=L.lt;have Lu:=Rt.jy (s:=R);have hV:=Rt.eP d;have hd5: ∀y,y∈f5→y∉fp:=fun y k e=>by have:=g5 y k;have:=lt4 y e;omega
 have r0V:(({(⟨R.M,List.replicate (16*R.M) 0,List.replicate 16 0,[]⟩:Rt.MS)with Q:=R.Q}:Rt.MS)).V=List.replicate (16*R.M) 0++List.replicate 16 0++R.Q:=rfl;refine gO ?_;refine az (6::7::8::27::28::29::30::31::32::33::34::35::36::37::38::39::40::41::42::43::44::45::46::47::48::[]) (fun g w'=> ∃(i:Nat) (r:Rt.MS),g 6=.int .i64 (i:Int)∧i≤(Rt.idx R).length∧Rt.RR w' (some ⟨b,0,none⟩) fp (some r)∧r.Ok∧r.M=R.M∧r.Q.length=R.Q.length∧(∀j,r.V.getD j 0=R.V.getD j 0∨(r.V.getD j 0=0∧j∉(Rt.idx R).take i))∧ae fp w5 w') (fun g _=>bw (Rt.idx R).length 6 g)
  ⟨0,{(⟨R.M,List.replicate (16*R.M) 0,List.replicate 16 0,[]⟩:Rt.MS)with Q:=R.Q},by simp only[go_sem];rfl,by omega,⟨b,rfl,L.ab O⟩,⟨m1,m4,by simp,by simp,d.lq⟩,rfl,rfl,fun j=>?_,ae.refl _ _⟩ fun g6 w6 hI P=>?_
 ·rw[r0V];by_cases c:j<16*R.M+16
  ·refine .inr ⟨?_,by simp⟩;rw[List.getD_eq_getElem?_getD,List.getElem?_append_left (by simp;omega),List.replicate_append_replicate,List.getElem?_replicate,if_pos (by omega)];rfl
  ·refine .inl ?_;have h1:=d.ls;have h2:=d.lg;unfold Rt.MS.V;rw[List.getD_eq_getElem?_getD,List.getD_eq_getElem?_getD,List.getElem?_append_right (by simp;omega),List.getElem?_append_right (by simp;omega)];simp[h1,h2]
 obtain⟨i,r,h6,hi,S,l,C,X,rV,t⟩:=hI;by_cases c1:i<(Rt.idx R).length;rotate_left
 ·refine aZ h6 (aX (show¬(i:Int)<((Rt.idx R).length:Int) by omega)) ?_;have er:r=R:=by
   refine Rt.MS.Ql l d C (List.gX 0 (by rw[Rt.eP l,hV,C,X]) fun j hj=>?_);rcases rV j with e|⟨e,hn⟩
   ·exact e
   ·rw[List.take_of_length_le (by omega)]at hn;rw[e];refine Decidable.byContradiction fun c=>hn (Rt.Iy ?_ (fun e2=>c e2.symm));rw[Rt.eP l,C,X]at hj;exact hj
  rw[er]at S;exact⟨o5.trans t fun y k=>.inr (u y k),b,fp,rfl,S,u⟩
 have ci:(0:Int)≤(i:Int)∧(i:Int)<((Rt.idx R).length:Int):=by omega
 obtain⟨gp,YN,ep,U,gpf⟩:=(z.keep t hd5).place (i:=i) (by omega);rw[B]at ep;cases ep;rw[Rt.j6 d c1]at U;obtain⟨m,V⟩: ∃m,m=(Rt.idx R).getD i 0:=⟨_,rfl⟩;obtain⟨jl,YO⟩:=Rt.Af c1;rw[←V]at U jl YO;have hy0:0<R.V.getD m 0:=by
  have:R.V.getD m 0∈R.V:=by
   rw[List.getD_eq_getElem?_getD,List.getElem?_eq_getElem (by omega)];exact List.getElem_mem _
  have:=hp _ this;omega
 refine lY h6 (aU ci.2) (eq_true ci) @Int.toNat_natCast U ?_;have XZ:Rt.PR w6 (some ⟨rb,0,none⟩) fr (some R):=(h.ab o5).keep t fun y k e=>by have:=h.lt y k;have:=u y e;omega
 refine aw (Rt.uV XZ (Rt.pj R m)) ?_;rintro _ w7 ⟨rfl,W⟩;rw[Bp d jl];have X0:aC w7 ⟨gp,i*3,none⟩ 3=some (Rt.eD (Rt.pj R m)):=by
  obtain⟨gp',YN,ep,D,_⟩:=((z.keep t hd5).ab W).place (i:=i) (by omega);rw[B]at ep;cases ep;rw[Rt.j6 d c1,←V]at D;exact D
 refine eZ h6 (eq_true ci) @Int.toNat_natCast X0 ?_;refine aw (Rt.Mp (S.ab W) (Rt.pj R m) (R.V.getD m 0)) ?_;rintro _ w8 ⟨rfl,EO,k9⟩;rw[I4 l C X jl hy0]at EO;have lq:=d.lq;refine aZ h6 (au i (by omega)) ?_;refine P _ w8 ⟨i+1,r.wr (Rt.rZ R m) (R.V.getD m 0),?_,by omega,EO,l.wr _ _,by rw[Rt.VE];exact C,by rw[Rt.VF];exact X,fun j=>?_,(t.nil W).same k9⟩ ?_
 ·simp only[go_sem]
 ·rw[←Gr C,Rt.Ix l (by rw[C,X];exact jl)];by_cases e:m=j
  ·subst e;exact .inl (a8 (by rw[Rt.eP l,C,X];exact jl))
  ·rw[aI e];refine(rV j).imp id fun e2=>⟨e2.1,fun hm=>e2.2 ?_⟩;rw[List.take_succ_eq_append_getElem c1]at hm;rcases List.mem_append.1 hm with hm|hm
   ·exact hm
   ·simp only[aK]at hm;exact absurd (show m=j by rw[V,hm];simp[c1]) e
 ·exact aJ h6
end
def lJ (b d:Nat):List Value:=[.int .i64 0,.int .i64 0,.int .i64 0,.int .i64 0,.int .i64 0,.int .i64 0,.int .i64 (b:Int),.int .i64 (d:Int)]
theorem Dt (b d j k l m o q:Value):dU (lJ 0 0) 0 [b,d,j,k,l,m,o,q]=[b,d,j,k,l,m,o,q]:=rfl
set_option maxHeartbeats 4000000 in
theorem kS {w:World} {b:Nat} {hp:Addr} {ar:Option Addr} {L:List Int} {fl fp fr:List Nat} {s:HL} {R:Rt.MS} (h:RG w b hp ar L fl) (hl:L.length≤500) (hr:HR w (some hp) fp (some s)) (hi:s.Inv) (hR:Rt.PR w ar fr (some R)) (GM:iP true s R) (qs:s.aj.length≤2000) (GO:(Rt.bz (some R)).length≤500) (IZ:zl s.abs) (NT:b∉fp) (LK:b∉fr) (Ju: ∀y,y∈fp→y∉fr):
  Cs Tryz.prog 17 [.pointer (some ⟨b,0,none⟩)] w fun v w'=> ∃s4 R' L' ids ic K S o Z s2 s3 n pv H LN GR,cY s R L s4 R' L' ids ic K S o Z s2 s3 n∧v=.tuple #[.agg ⟨ints ic⟩,pv,.int .i64 0]∧
   HR w' (some hp) fp (some s4)∧Rt.PR w' ar GR (some R')∧RG w' b hp ar L' LN∧Sl w' 1 pv ids.length (ints ids) H∧ae (b::(fp++fr)) w w'∧(∀y,y∈GR→y∈fr∨w.heap.size≤y)∧(∀y,y∈LN→w.heap.size≤y)∧(∀y,y∈LN→y∉GR)∧(∀y,y∈H→w.heap.size≤y):=by
 obtain⟨v0,g1,g2,g3⟩:=id h;have hbw:=g1.lt;have X1:R.Ok:=by
  obtain⟨_,_,_,_,_,_,_,_,_,XX⟩:=hR;exact XX.ok
 refine en [2,5,8,11,17,20,23,26,1,15,1,31,32,35,39,43,0,39,31,32,35,43,0,39,15,31,32,35,43,0] ?_;refine gO ?_;refine bp fun rt w1 hrt pf gz ja=>?_;refine gO ?_;refine aw (Q2 (h.ab ja) hl (hr.ab ja) hi (hR.ab ja) GM qs GO IZ) ?_;rintro _ w2 ⟨jq,vb,mk,ms,vd,fd,K,S,rfl,hv2,hK2,hS2,hd2,lx,kz,gvb,gmk,gms,gfd,nvk,nvs,nks,nvd,nkd,nsd⟩;obtain⟨D,Nb⟩: ∃D,D=tv K S:=⟨_,rfl⟩;have X2:MB w2 ms D:=by rw[Nb];exact hS2
 have z1:=ja.size;have z2:=jq.size;refine gO ?_;refine bp fun q w3 hq qt lS gJ=>?_;refine gO ?_;refine fJ lS (by simp) rfl fun w4 pk iH iV=>?_;have o2:ae [] w w2:=ja.nil jq;have o3:ae [] w w3:=o2.nil gJ;have o4:ae [] w w4:=o3.trans iV fun y d=>by simp only[aK]at d;exact .inr (by omega)
 have abk:=hv2.lt;have abl:=cz.lt hK2;have abm:=cz.lt hS2;have kp4:Kp w4 q vb mk ms hp vd K D:=by
  refine⟨iH,(hv2.ab gJ).keep iV ?_,(hK2.ab gJ).keep iV ?_,(X2.ab gJ).keep iV ?_⟩<;>simp<;>omega
 have GL: ∀y,y∈[q,vb,mk,ms]→w.heap.size≤y∧y<w4.heap.size:=fun y d=>⟨by
  simp only[List.mem_cons,List.not_mem_nil,or_false]at d;rcases d with rfl|rfl|rfl|rfl<;>omega,kp4.lt y d⟩
 have hD4:Sl w4 1 vd (jC s L K).length (ints (jC s L K)) fd:=(hd2.ab gJ).keep iV fun z hz e=>by
  simp only[aK]at e;have:=hd2.lt z hz;omega
 have RO:At w4 rt (lJ 0 0):=(((gz.ab jq).ab gJ).keep iV (by simp;omega));have u:w.heap.size≤rt∧rt<w4.heap.size:=⟨by omega,RO.lt⟩;refine gO ?_;refine aw (JR (h.ab o4) (by omega) (hr.ab o4) hi NT) ?_;rintro _ w5 ⟨B,Tu,jv,I5⟩;have z5:=jv.size;have z4:=o4.size;have X3: ∀y,w.heap.size≤y→y∉ [b]:=fun y d=>by simp only[aK];omega
 have kp5:=kp4.keep jv fun y d=>X3 y (GL y d).1;have o5:ae (b::(fp++fr)) w w5:=(o4.of_nil).trans jv fun y d=>.inl (by simp only[aK]at d;rw[d];simp);have hr5:=(hr.ab o4).keep jv fun y d e=>NT (by simp only[aK]at e;exact e▸d);have TU:=(hR.ab o4).keep jv fun y d e=>LK (by simp only[aK]at e;exact e▸d);have Qf:=hD4.keep jv fun y d=>X3 y (by have:=gfd y d;omega);have X4:=RO.keep jv (X3 rt u.1);have SY:=qY s L;have OC:(jC s L K).length≤500:=Nat.le_trans (List.length_filter_le _ _) (Nat.le_trans SY hl);have WO:K.length≤2000:=Nat.le_trans (eN lx.nd lx.e9) qs;have hSl:S.length≤2000:=Nat.le_trans (eN kz.nd kz.e9) qs;have abn:D.length≤2000:=by rw[Nb];exact Nat.le_trans (List.length_filter_le _ _) hSl
 have X5:D.Nodup:=by rw[Nb];exact List.Nodup.sublist List.filter_sublist kz.nd
 have X6: ∀x,x∈D→cI s x:=fun x hx=>by rw[Nb]at hx;exact kz.e9 x (List.mem_filter.1 hx).1
 have X7:IntKind.i64.wrap ((K.length:Int)+(D.length:Int))=((K.length+D.length:Nat):Int):=by rw[IntWalk.i64_in _ (by omega)];omega
 refine gO ?_;refine bH (9::31::32::33::34::35::36::37::38::39::40::41::42::[]) (fun g w'=> ∃C,g 9=.pointer (some ⟨C,0,none⟩)∧w5.heap.size≤C∧At w' C (lJ (K.length+D.length) 0)∧ae [] w5 w') (fun kk jS=>?_) (fun g6 w6 hJ=>?_)
 ·refine aW [q,vb] ?_;have od:=ae.drew [] w5;have JU:=kp5.ab od;have LU: ∀z,z∈[q,vb]→z<w5.drew.heap.size∧z∉([]:List Nat):=fun z hz=>⟨JU.lt z (by simp only[List.mem_cons,List.not_mem_nil,or_false]at hz⊢;omega),by simp⟩;refine aZ JU.q.cell JU.v.cell ?_;have CT:SB [q,vb] w5.drew w5.drew:=SB.refl _ _;refine⟨zw Tryz.underlying130 JU.k (.inr CT) ?_,nw fun C w6 EY oO kP l=>?_⟩
  ·refine gO ?_;refine⟨zw Tryz.underlying130 JU.s (.inl rfl) ?_,nw fun C w6 EY oO kP l=>?_⟩
   ·refine aZ @ec X7 ?_;rw[ag rfl rfl];refine gO ?_;refine nw fun C w6 EY oO kP l=>⟨.inr (CT.only l LU),?_⟩;refine gO ?_;refine pB (cs:=lJ (K.length+D.length) 0) kP rfl (by simp[lJ]) (by simp[lJ,bh]) fun w7 uw jz J=>⟨.inl rfl,?_⟩;refine gO ?_;refine jS _ w7 ⟨C,?_,by have:=od.size;omega,jz,(od.nil l).trans J fun y d=>by simp only[aK]at d;have:=od.size;exact .inr (by omega)⟩
    ·simp only[go_sem]
   ·refine⟨.inr (CT.only l LU),?_⟩;refine gO ?_;refine zw Tryz.underlying130 (JU.ab l).s (.inl rfl) ?_;refine aZ @ec X7 ?_;rw[ag rfl rfl];refine gO ?_;refine pB (cs:=lJ (K.length+D.length) 0) kP rfl (by simp[lJ]) (by simp[lJ,bh]) fun w7 uw jz J=>⟨.inl rfl,?_⟩;refine gO ?_;refine jS _ w7 ⟨C,?_,by have:=od.size;omega,jz,(od.nil l).trans J fun y d=>by simp only[aK]at d;have:=od.size;exact .inr (by omega)⟩
    ·simp only[go_sem]
  ·refine⟨.inr (CT.only l LU),?_⟩;refine gO ?_;refine zw Tryz.underlying130 (JU.ab l).k (.inr (CT.only l LU)) ?_;refine gO ?_;refine zw Tryz.underlying130 (JU.ab l).s (.inl rfl) ?_;refine aZ @ec X7 ?_;rw[ag rfl rfl];refine gO ?_;refine pB (cs:=lJ (K.length+D.length) 0) kP rfl (by simp[lJ]) (by simp[lJ,bh]) fun w7 uw jz J=>⟨.inl rfl,?_⟩;refine gO ?_;refine jS _ w7 ⟨C,?_,by have:=od.size;omega,jz,(od.nil l).trans J fun y d=>by simp only[aK]at d;have:=od.size;exact .inr (by omega)⟩
   ·simp only[go_sem]
 obtain⟨C,h9,grb,I6,l⟩:=hJ;have X8:=kp5.ab l;have z6:=l.size;have o6:=o5.nil l;refine aQ X8.q.cell ?_;refine aw (M1 X8.v (Qf.ab l) OC (fun x hx=>jQ hi (List.mem_filter.1 hx).1) (hr5.ab l) hi.ok GM qs) ?_;rintro vo w7 ⟨J,o,fo,hO,uw,gfo⟩;obtain⟨ao,co,rfl⟩:=uw.val;have z7:=J.size;have o7:=o6.nil J;have NU:=X8.ab J;have Qw:o.length≤500:=by rw[(jD hO).length_eq];exact OC
 have hov: ∀x,x∈o→cI s x:=fun x hx=>jQ hi (List.mem_filter.1 ((jD hO).mem_iff.1 hx)).1;refine aZ NU.q.cell NU.v.cell ?_;refine Az Tryz.underlying130 NU.k fun r w8 EO Bu X9 k9=>?_;have z8:=k9.size;have o8:=o7.nil k9;have kp8:=NU.ab k9;have OU:=((Tu.ab l).ab J).ab k9;have X':=(I6.ab J).ab k9;have Ya:=((hr5.ab l).ab J).ab k9;have Nc:C∉fp:=fun e=>by have:=hr.lt C e;omega
 have bd: ∀y,y∈[q,vb,mk,ms]→y∉C::fp:=fun y d e=>by
  have:=GL y d;rcases List.mem_cons.1 e with e|e
  ·omega
  ·have:=hr.lt y e;omega
 have RP:b∉C::fp:=fun e=>by
  rcases List.mem_cons.1 e with e|e
  ·omega
  ·exact NT e
 refine gO ?_;refine az (11::50::51::52::53::54::55::56::57::58::59::60::61::62::63::64::[]) (fun _ w'=> ∃(T:List Int) (Z:HL),hH w' r mk (cS K) (cS T)∧(∀x,x∈T→x∈K)∧iX s Z (K.filter fun y=>!decide (y∈T)) (kv K)∧HR w' (some hp) fp (some Z)∧At w' C (lJ (K.length+D.length) (gj s (kv K) (K.filter fun y=>!decide (y∈T))))∧ae (C::fp) w7 w') (fun _ w'=>tL w' r mk)
  ⟨K,s,X9,fun _ h=>h,?_,Ya,?_,k9.of_nil⟩ fun g9 w9 hI O=>?_
 ·rw[qj];exact iX.none hi _
 ·rw[qj];exact X'
 obtain⟨T,Z,RQ,RS,hC,Am,Gs,kC⟩:=hI;obtain⟨vg,gb7,gl7,gn7⟩:=id ((Tu.ab l).ab J);have gb9:=gb7.keep kC RP;have Nu:=RQ.left;refine gO ?_;refine Fz RQ (fun h0=>?_) (fun e rS LO Ah I JV RU=>?_);rotate_left
 ·obtain⟨hx,he⟩:=qi LO;obtain⟨x,v⟩:=e;simp only at hx he;obtain rfl:v=.bool true:=(Prod.mk.inj he).2;rw[mQ]at JV;have Nd:=RS x hx;have Yb:=lx.e9 x Nd;have rr: ∀y,y∈[r]→y∈C::fp∨w7.heap.size≤y:=fun y d=>by simp only[aK]at d;exact .inr (by omega)
  have nr: ∀y,y<w7.heap.size→y∉ [r]:=fun y d=>by simp only[aK];omega
  have RV:(cS (T.filter (·!=x))).length<(cS T).length:=by
   rw[ec,ec];rcases Nat.lt_or_ge (T.filter (·!=x)).length T.length with t|t
   ·exact t
   ·have:=List.filter_eq_self.1 (List.Sublist.eq_of_length_le List.filter_sublist t) x hx;simp at this
  have sT: ∀y,y∈T.filter (·!=x)→y∈K:=fun y d=>RS y (List.mem_filter.1 d).1;obtain⟨s2,k,rfl,hk,e2,U,n2⟩:=hC.step (C':=K.filter fun y=>!decide (y∈T.filter (·!=x))) Yb (by simp[hx]) fun y=>mem_left Nd hx;have Yc:=Am.keep I fun y d=>nr y (by have:=hr.lt y d;omega);have RW:=Gs.keep I (nr C (by have:=I6.lt;omega));have Yd:=gb9.keep I (nr b (by omega));have Ye:=NU.keep kC bd;have Nf:=Ye.keep I fun y d=>nr y (by have:=GL y d;omega);have Ng:((2*k:Nat):Int)≤4611686018427387904:=by have:=gy hi.ok hk;omega
  have GV:Z.st.getD k 0=1:=by rw[hC.jR.st];exact hk
  obtain⟨l1,_,_⟩:=cX hC.inv.ok GV;have ES:=uW hC.inv.ok GV;refine gO ?_;refine AA RU ?_;refine aQ Yd.cell ?_;refine aw (Gk (n:=(Z.ai k).rf.length) (kept:=kv K) (F:=87) (caps:=#[.pointer (some ⟨q,0,none⟩)]) Yc ((2*k:Nat):Int) Ng (by rw[dB hC.inv.ok GV];exact l1.symm) ES (by kernel_rfl) fun w' y ho=>?_) ?_
  ·exact M2 (Nf.ab ho).q (Nf.ab ho).v (Nf.ab ho).k y
  rintro _ qx ⟨rfl,An,M⟩;rw[e2]at An;rw[n2];have yF:=RW.keep M Nc;have Yf: ∀y,y∈fp→y∈C::fp∨w7.heap.size≤y:=fun y d=>.inl (List.mem_cons_of_mem _ d);have Ge:ae (C::fp) w7 qx:=(kC.trans I rr).trans M Yf;have Gt:hH qx r mk (cS K) (cS (T.filter (·!=((2*k:Nat):Int)))):=JV.keep M (fun e=>by have:=hr.lt r e;omega) (fun e=>by have:=hr.lt mk e;omega);have rU:=vM (s:=s) (keep:=kv K) lx.nd Nd hx;rw[Ak]at rU;by_cases cn:0<lT (kv K) (s.ai k)
  ·rw[if_pos cn]at rU;have OH:=ss s (kv K) (K.filter fun y=>!decide (y∈T));have Yg:=List.length_filter_le (fun y=>!decide (y∈T)) K;have c7:qx.cell? ⟨C,7,none⟩=some (.int .i64 (gj s (kv K) (K.filter fun y=>!decide (y∈T)):Nat)):=by rw[yF.cell];rfl
   refine eZ h9 (aU cn) c7 (au (gj s (kv K) (K.filter fun y=>!decide (y∈T))) (by omega)) ?_;refine fJ (i:=7) yF (by simp[lJ]) rfl fun wN LQ RX wP=>?_;have E1:At wN C (lJ (K.length+D.length) (gj s (kv K) (K.filter fun y=>!decide (y∈T.filter (·!=((2*k:Nat):Int)))))):=by rw[rU];exact RX
   refine gO ?_;have n1: ∀y,y∈fp→y∉ [C]:=fun y d e=>Nc (by simp only[aK]at e;exact e▸d);have JW:hH wN r mk (cS K) (cS (T.filter (·!=((2*k:Nat):Int)))):=Gt.keep wP (by simp only[aK];have:=I6.lt;omega) (by simp only[aK];have:=(GL mk (by simp)).2;omega);refine O _ wN ⟨T.filter (·!=((2*k:Nat):Int)),s2,JW,sT,U,An.keep wP n1,E1,Ge.trans wP fun y d=>by simp only[aK]at d;exact .inl (by rw[d];simp)⟩ ?_
   ·rw[Nu,JW.left];exact RV
  ·rw[if_neg cn,Nat.add_zero]at rU;rw[aX cn];refine gO ?_;refine O _ qx ⟨T.filter (·!=((2*k:Nat):Int)),s2,Gt,sT,U,An,by rw[rU];exact yF,Ge⟩ ?_
   ·rw[Nu,Gt.left];exact RV
 ·have hT:T=[]:=by cases T with
   |nil=>rfl
   |cons a T=>cases h0
  subst hT;rw[vS]at hC Gs;have z9:=kC.size;have o9:ae (b::(fp++fr)) w w9:=o7.trans kC fun y d=>by
   rcases List.mem_cons.1 d with rfl|d
   ·exact .inr (by omega)
   ·exact .inl (by simp[d])
  have Ye:=NU.keep kC bd;have V: ∀y,y∈B→w.heap.size≤y∧y<w5.heap.size:=fun y d=>by
   obtain⟨_,_,gl,_⟩:=Tu;exact⟨by have:=I5 y d;omega,gl.lt y d⟩
  have Yh: ∀y,y∈B→y∉C::fp:=fun y d e=>by
   have:=V y d;rcases List.mem_cons.1 e with e|e
   ·omega
   ·have:=hr.lt y e;omega
  have LM:RG w9 b hp ar (dT s L) B:=((Tu.ab l).ab J).keep kC RP Yh;have GP:Rt.PR w9 ar fr (some R):=((TU.ab l).ab J).keep kC fun y d e=>by
   have:=hR.lt y d;rcases List.mem_cons.1 e with e|e
   ·omega
   ·exact Ju y e d
  have Yi:Sl w9 1 (.slice ao o.length co) o.length (ints o) fo:=uw.keep kC fun y d e=>by
   have:=gfo y d;rcases List.mem_cons.1 e with e|e
   ·have:=I6.lt;omega
   ·have:=hr.lt y e;omega
  have Y1:=GP.lt;have hLt:(dT s L).length≤500:=Nat.le_trans (List.length_filter_le _ _) hl;have hX: ∀y,w.heap.size≤y→y∉B→y∉b::(B++fr):=fun y h1 h2 e=>by
   rcases List.mem_cons.1 e with e|e
   ·omega
   ·rcases List.mem_append.1 e with e|e
    ·exact h2 e
    ·have:=hR.lt y e;omega
  have hX5: ∀y,w5.heap.size≤y→y∉b::(B++fr):=fun y h1=>hX y (by omega) fun e=>by have:=V y e;omega
  obtain⟨Qn,hQn⟩: ∃Qn,Qn=R.Q.length:=⟨_,rfl⟩;obtain⟨X,Gu⟩: ∃X:Nat→List Int,X=fun n=>(o.take n).map (l6 s):=⟨_,rfl⟩;obtain⟨Lf,Tv⟩: ∃Lf:Nat→List Int,Lf=fun n=>(dT s L).filter fun x=>!decide (x∈X n):=⟨_,rfl⟩;(repeat(first|with_reducible(first|refine Er ?_|refine Es ?_|refine Et ?_|refine Eu ?_|refine bA rfl ?_|refine Jf ?_|refine Jg ?_|refine Jh ?_|refine Ji ?_)|simp only[go_sem]));refine bH (12::14::15::16::67::68::69::70::71::72::73::74::75::76::77::78::79::80::81::82::83::84::85::86::87::88::89::90::91::92::93::94::95::96::97::98::99::100::[]) (fun g w'=> ∃n P H,n=min o.length (64-R.Q.length)∧Rt.PR w' ar P (some {R with Q:=R.Q++o.take n})∧(∀y,y∈P→y∈fr∨w9.heap.size≤y)∧RG w' b hp ar (Lf n) B∧Sl w' 1 (g 12) n (ints (X n)) H∧(∀y,y∈H→w9.heap.size≤y)∧ae (b::(B++fr)) w9 w') (fun kk jS=>?_) (fun g13 uy hJ=>?_)
  ·refine gO ?_;refine az (12::14::15::16::67::68::69::70::71::72::73::74::75::76::77::78::79::80::81::82::83::84::85::86::87::88::89::90::91::92::93::94::95::96::97::98::99::100::[]) (fun g w'=> ∃i P H,g 67=.int .i64 ((i:Nat):Int)∧i≤o.length∧R.Q.length+i≤64∧Rt.PR w' ar P (some {R with Q:=R.Q++o.take i})∧(∀y,y∈P→y∈fr∨w9.heap.size≤y)∧RG w' b hp ar (Lf i) B∧Sl w' 1 (g 12) i (ints (X i)) H∧(∀y,y∈H→w9.heap.size≤y∧y∉P)∧ae (b::(B++fr)) w9 w') (fun g _=>bw o.length 67 g)
    ⟨0,fr,[],by simp only[go_sem];rfl,by omega,?_,?_,fun y d=>.inl d,?_,?_,by simp,ae.refl _ _⟩ fun g10 rS hI O=>?_
   ·have:=X1.lq;omega
   ·rw[List.take_zero,List.append_nil];exact GP
   ·have:Lf 0=dT s L:=by rw[Tv];exact List.filter_eq_self.2 fun x _=>by simp[Gu]
    rw[this];exact LM
   ·have:X 0=[]:=by rw[Gu];rfl
    rw[this];simp only[go_sem];exact Sl.iW _
   obtain⟨i,P,H,RY,hi1,hi2,Yj,E,Tw,RZ,I7,I⟩:=hI;have SR:=I.size;by_cases c:i<o.length;rotate_left
   ·refine aZ RY (aX (show¬(i:Int)<(o.length:Int) by omega)) ?_;refine jS _ rS ⟨i,P,H,by omega,Yj,E,Tw,?_,fun y d=>(I7 y d).1,I⟩
    ·simp only[go_sem];exact RZ
   obtain⟨go,_,yo,eo,Yk,_,_⟩:=(Yi.keep I fun y d=>hX5 y (by have:=gfo y d;omega)).pos (by omega);cases eo;have ci:(0:Int)≤(i:Int)∧(i:Int)<(o.length:Int):=by omega
   have vr:rS.cell? ⟨go,i,none⟩=some (.int .i64 (o.getD i 0)):=by rw[Yk.cell];exact aG yo c
   obtain⟨k,xH,hk⟩:=hov (o.getD i 0) (by simp[c]);have P':k≠0:=fun e=>hi.z0 (e▸hk);have hkl:=gy hi.ok hk;obtain⟨vgi,gbi,gli,gni⟩:=id Tw;obtain⟨agi,cgi,rfl⟩:=gli.val;have R1: ∀y,y∈P→y∉B:=fun y d e=>by
    have:=V y e;rcases E y d with t|t
    ·have:=hR.lt y t;omega
    ·omega
   have R2:b∉P:=fun e=>(E b e).elim LK fun t=>by omega
   rw[xH]at vr;refine k7 RY (aU ci.2) (eq_true ci) @Int.toNat_natCast @Nat.mul_one vr gbi.cell ?_;refine aw (Rt.FH Yj ((2*k:Nat):Int)) ?_;rintro _ qx ⟨rfl,M,JX,NV,Aq,R3⟩;by_cases c64:R.Q.length+i=64
   ·have e6:Rt.dN (some {R with Q:=R.Q++o.take i}) ((2*k:Nat):Int)=(6,some {R with Q:=R.Q++o.take i}):=by
     unfold Rt.dN;simp only;rw[if_neg (by omega),if_pos (by rw[cH,List.length_take];omega)]
    rw[e6]at JX Aq⊢;have Tx:=JX (by simp);refine gO ?_;refine jS _ qx ⟨i,P,H,by omega,Yj.ab Tx,E,Tw.ab Tx,?_,fun y d=>(I7 y d).1,I.nil Tx⟩
    ·simp only[go_sem];exact RZ.ab Tx
   have e0:Rt.dN (some {R with Q:=R.Q++o.take i}) ((2*k:Nat):Int)=(0,some {R with Q:=R.Q++o.take (i+1)}):=by
    unfold Rt.dN;simp only;rw[if_neg (by omega),if_neg (by rw[cH,List.length_take];omega),List.take_succ_eq_append_getElem c,List.append_assoc];have:o[i]=((2*k:Nat):Int):=by rw[←xH];simp[c]
    rw[this]
   rw[e0]at Aq⊢;have Gv: ∀y,y∈NV→y∈fr∨w9.heap.size≤y:=fun y d=>(R3 y d).elim (E y) fun t=>.inr (by omega);have abo:=Tw.keep M R2 fun y d e=>R1 y e d;have MV:=RZ.keep M fun y d=>(I7 y d).2;have z11:=M.size;have R6:=gbi.keep M R2;have Yl:=gli.keep M fun y d e=>R1 y e d;have Ge:ae (b::(B++fr)) w9 qx:=I.trans M fun y d=>(E y d).imp (fun t=>by simp[t]) fun t=>t;have An:HR qx (some hp) fp (some Z):=Am.keep Ge fun y d e=>by
    have:=hr.lt y d;rcases List.mem_cons.1 e with e|e
    ·exact NT (e▸d)
    ·rcases List.mem_append.1 e with e|e
     ·have:=V y e;omega
     ·exact Ju y d e
   have XK:dv (some Z) ((2*k:Nat):Int)=(l6 s ((2*k:Nat):Int),0):=A3 hi hC ⟨k,rfl,hk⟩;refine aZ RY R6.cell ?_;refine aw (AL An ((2*k:Nat):Int) (by omega)) ?_;rintro _ wN ⟨rfl,wP⟩;rw[XK];refine gO ?_;refine bp fun q2 uy NH yG yH W=>?_;refine gO ?_;refine fJ yH (by simp) rfl fun E2 LH tt xx=>?_;have Jx:ae [] qx E2:=(wP.nil W).trans xx fun y d=>by simp only[aK]at d;have:=wP.size;exact .inr (by omega)
   have Gw:At E2 q2 [.int .i64 (l6 s ((2*k:Nat):Int))]:=tt;refine aQ Gw.cell ?_;rw[ag rfl rfl];refine gO ?_;refine eJ fun q3 zG ZC H6 yI N=>?_;refine gO ?_;have DC:=Jx.nil N;refine eM (MV.ab DC) (bn.at (us:=[.int .i64 (l6 s ((2*k:Nat):Int))]) yI rfl) (by simp[bh]) (by omega) (by omega) ?_;intro v16 Nz I8 R7 R9 j _;have z12:=wP.size;have g16: ∀y,y∈I8→y∈H∨zG.heap.size≤y:=fun y d=>by
    rcases R9 with rfl|rfl
    ·exact .inl d
    ·simp only[aK]at d;exact .inr (by omega)
   have nfl: ∀y,y∈B→y∉H:=fun y d e=>by have:=V y d;have:=(I7 y e).1;omega
   have A7:=(R6.ab DC).keep j (fun e=>by have:=(I7 b e).1;omega);have Ym:=(Yl.ab DC).keep j nfl;have MX:=(Gw.ab N).keep j (fun e=>by have:=RZ.lt q2 e;omega);refine aQ A7.cell ?_;refine aw (lu (p:=fun x=>x==l6 s ((2*k:Nat):Int)) (F:=94) (caps:=#[.pointer (some ⟨q2,0,none⟩)]) Ym (by kernel_rfl) (Nat.le_trans (by rw[Tv];exact List.length_filter_le _ _) (Nat.le_trans hLt (by omega))) fun w' x ho hx=>M3 (MX.keep ho fun e=>by have:=V q2 e;omega) x) ?_;rintro vD LR ⟨m,Nh⟩;have Yn:b∉B:=fun e=>by have:=V b e;omega
   have Ni:=A7.keep m Yn;refine gO ?_;refine fJ (i:=2) Ni (by simp) Nh.jH fun Y Pf Gx G=>?_;have Sa:X (i+1)=X i++[l6 s ((2*k:Nat):Int)]:=by
    rw[Gu];simp only;rw[List.take_succ_eq_append_getElem c,List.map_append];have:o[i]=((2*k:Nat):Int):=by rw[←xH];simp[c]
    rw[this];rfl
   have hLS:(Lf i).filter (fun x=>!(x==l6 s ((2*k:Nat):Int)))=Lf (i+1):=by
    rw[Tv];simp only;rw[List.filter_filter,Sa];refine List.filter_congr fun x _=>?_;by_cases cx:x=l6 s ((2*k:Nat):Int)
    ·simp[cx]
    ·simp only[cU cx,Bool.not_false,Bool.true_and,List.mem_append,aK,cx,or_false]
   rw[hLS]at Nh;have Yo:=Nh.keep G fun y d e=>Yn (by simp only[aK]at e;exact e▸d);have Yp:RG Y b hp ar (Lf (i+1)) B:=⟨vD,Gx,Yo,Yn⟩;have Y8:=DC.size;have Y9:=j.size;have z17:=m.size;have Yq:=Aq.lt;have n16: ∀y,y∈NV→y∉H:=fun y d e=>by
    have:=RZ.lt y e;rcases R3 y d with t|t
    ·exact(I7 y e).2 t
    ·omega
   have nl2: ∀y,y∈NV→y∉B:=fun y d e=>by
    have:=V y e;rcases Gv y d with t|t
    ·have:=hR.lt y t;omega
    ·omega
   have nb2:b∉NV:=fun e=>(Gv b e).elim LK fun t=>by omega
   have Yr:=(((Aq.ab DC).keep j n16).keep m nl2).keep G fun y d e=>nb2 (by simp only[aK]at e;exact e▸d);have nv1: ∀y,y∈I8→y∉B:=fun y d e=>by
    have:=V y e;rcases g16 y d with t|t
    ·have:=(I7 y t).1;omega
    ·omega
   have nv2: ∀y,y∈I8→w9.heap.size≤y∧y∉NV:=fun y d=>by
    rcases g16 y d with t|t
    ·exact⟨(I7 y t).1,fun e=>n16 y e t⟩
    ·exact⟨by omega,fun e=>by have:=Yq y e;omega⟩
   have Sb:=(R7.keep m nv1).keep G fun y d e=>by simp only[aK]at e;have:=(nv2 y d).1;omega
   have ei:ints (X i)++[Value.int .i64 (l6 s ((2*k:Nat):Int))]=ints (X (i+1)):=by rw[Sa,ba];rfl
   rw[ei]at Sb;have NM:ae (b::(B++fr)) w9 Y:=(((Ge.nil DC).trans j fun y d=>.inr (I7 y d).1).trans m fun y d=>.inl (by simp[d])).trans G fun y d=>.inl (by simp only[aK]at d;rw[d];simp);refine aZ RY (au i (by omega)) ?_;refine O _ Y ⟨i+1,NV,I8,?_,by omega,by omega,Yr,Gv,Yp,?_,nv2,NM⟩ ?_
   ·simp only[go_sem]
   ·simp only[go_sem];exact Sb
   ·exact aJ RY
  obtain⟨n,P,H,hn,Yt,E,Sc,Yu,Nj,W⟩:=hJ;have z13:=W.size;have Gy:=Ye.keep W fun y d=>hX y (GL y d).1 fun e=>by have:=I5 y e;have:=(GL y d).2;omega
  have B1:=Gs.keep W (hX5 C grb);have Yv:=((X4.ab l).ab J).keep kC fun e=>by
   rcases List.mem_cons.1 e with e|e
   ·have:=u.2;omega
   ·have:=hr.lt rt e;have:=u.1;omega
  have Sd:=Yv.keep W (hX rt u.1 fun e=>by have:=I5 rt e;have:=u.2;omega);have Yw:HR uy (some hp) fp (some Z):=Am.keep W fun y d e=>by
   have:=hr.lt y d;rcases List.mem_cons.1 e with e|e
   ·exact NT (e▸d)
   ·rcases List.mem_append.1 e with e|e
    ·have:=V y e;omega
    ·exact Ju y d e
  have Ap:ae (b::(fp++fr)) w uy:=o9.trans W fun y d=>by
   rcases List.mem_cons.1 d with e|e
   ·exact .inl (by rw[e];simp)
   ·rcases List.mem_append.1 e with e|e
    ·exact .inr (V y e).1
    ·exact .inl (by simp[e])
  obtain⟨abp,Yx,abq,abr⟩:=id Sc;have JY: ∀x,bT K S x=(decide (x∈K)||decide (x∈D)):=fun x=>by rw[Nb];rfl
  obtain⟨N1,Yy⟩: ∃N1,N1=gj s (kv K) K:=⟨_,rfl⟩;rw[←Yy]at B1;have abt:N1≤2000:=by rw[Yy];exact Nat.le_trans (ss _ _ _) WO
  refine aZ Gy.q.cell Gy.v.cell ?_;refine Az Tryz.underlying130 Gy.s fun r2 E2 hr2 LH Se xx=>?_;have z14:=xx.size;refine gO ?_;refine az (17::106::107::108::109::110::111::112::113::114::115::116::117::118::119::120::[]) (fun _ w'=> ∃(T:List Int) (s2:HL),hH w' r2 ms (cS D) (cS T)∧(∀x,x∈T→x∈D)∧iX Z s2 (D.filter fun y=>!decide (y∈T)) (bT K S)∧HR w' (some hp) fp (some s2)∧At w' C (lJ (K.length+D.length) (N1+gj Z (bT K S) (D.filter fun y=>!decide (y∈T))))∧ae (C::fp) uy w') (fun _ w'=>tL w' r2 ms)
   ⟨D,Z,Se,fun _ h=>h,?_,Yw.ab xx,?_,xx.of_nil⟩ fun g15 zG hI O=>?_
  ·rw[qj];exact iX.none hC.inv _
  ·rw[qj];exact B1.ab xx
  obtain⟨T,s2,RQ,RS,U,Sf,Gz,N⟩:=hI;have Nk:=Yx.keep N RP;have ES:=RQ.left;refine gO ?_;refine Fz RQ (fun h0=>?_) (fun e Nz Yz R7 j JZ Sg=>?_);rotate_left
  ·obtain⟨hx,he⟩:=qi Yz;obtain⟨x,v⟩:=e;simp only at hx he;obtain rfl:v=.bool true:=(Prod.mk.inj he).2;rw[mQ]at JZ;have Nd:=RS x hx;have Yb:=hC.live (X6 x Nd);have rr: ∀y,y∈[r2]→y∈C::fp∨uy.heap.size≤y:=fun y d=>by simp only[aK]at d;exact .inr (by omega)
   have nr: ∀y,y<uy.heap.size→y∉ [r2]:=fun y d=>by simp only[aK];omega
   have RV:(cS (T.filter (·!=x))).length<(cS T).length:=by
    rw[ec,ec];rcases Nat.lt_or_ge (T.filter (·!=x)).length T.length with t|t
    ·exact t
    ·have:=List.filter_eq_self.1 (List.Sublist.eq_of_length_le List.filter_sublist t) x hx;simp at this
   have sT: ∀y,y∈T.filter (·!=x)→y∈D:=fun y d=>RS y (List.mem_filter.1 d).1;obtain⟨s3,k,rfl,hk,e2,hC3,n2⟩:=U.step (C':=D.filter fun y=>!decide (y∈T.filter (·!=x))) Yb (by simp[hx]) fun y=>mem_left Nd hx;have GA:=Sf.keep j fun y d=>nr y (by have:=hr.lt y d;omega);have zy:=Gz.keep j (nr C (B1.lt));have A7:=Nk.keep j (nr b (by omega));have Du:=Gy.keep N bd;have I9:=Du.keep j fun y d=>nr y (by have:=GL y d;omega);have Ng:((2*k:Nat):Int)≤4611686018427387904:=by have:=gy hC.inv.ok hk;omega
   have GV:s2.st.getD k 0=1:=by rw[U.jR.st];exact hk
   obtain⟨l1,_,_⟩:=cX U.inv.ok GV;have Sj:=uW U.inv.ok GV;refine gO ?_;refine AA Sg ?_;refine aQ A7.cell ?_;refine aw (Gk (n:=(s2.ai k).rf.length) (kept:=bT K S) (F:=88) (caps:=#[.pointer (some ⟨q,0,none⟩)]) GA ((2*k:Nat):Int) Ng (by rw[dB U.inv.ok GV];exact l1.symm) Sj (by kernel_rfl) fun w' y ho=>?_) ?_
   ·rw[JY];exact Gh (I9.ab ho).q (I9.ab ho).v (I9.ab ho).k (I9.ab ho).s y
   rintro _ LR ⟨rfl,A9,m⟩;rw[e2]at A9;rw[n2];have zC:=zy.keep m Nc;have Yf: ∀y,y∈fp→y∈C::fp∨uy.heap.size≤y:=fun y d=>.inl (List.mem_cons_of_mem _ d);have o17:ae (C::fp) uy LR:=(N.trans j rr).trans m Yf;have GB:hH LR r2 ms (cS D) (cS (T.filter (·!=((2*k:Nat):Int)))):=JZ.keep m (fun e=>by have:=hr.lt r2 e;omega) (fun e=>by have:=hr.lt ms e;omega);have rU:=vM (s:=Z) (keep:=bT K S) X5 Nd hx;rw[Ak]at rU;by_cases cn:0<lT (bT K S) (Z.ai k)
   ·rw[if_pos cn]at rU;have OH:=ss Z (bT K S) (D.filter fun y=>!decide (y∈T));have Yg:=List.length_filter_le (fun y=>!decide (y∈T)) D;have c7:LR.cell? ⟨C,7,none⟩=some (.int .i64 (N1+gj Z (bT K S) (D.filter fun y=>!decide (y∈T)):Nat)):=by rw[zC.cell];rfl
    refine eZ h9 (aU cn) c7 (au (N1+gj Z (bT K S) (D.filter fun y=>!decide (y∈T))) (by omega)) ?_;refine fJ (i:=7) zC (by simp[lJ]) rfl fun Y Pf Gx G=>?_;have B2:At Y C (lJ (K.length+D.length) (N1+gj Z (bT K S) (D.filter fun y=>!decide (y∈T.filter (·!=((2*k:Nat):Int)))))):=by rw[rU,←Nat.add_assoc];exact Gx
    refine gO ?_;have n1: ∀y,y∈fp→y∉ [C]:=fun y d e=>Nc (by simp only[aK]at e;exact e▸d);have J0:hH Y r2 ms (cS D) (cS (T.filter (·!=((2*k:Nat):Int)))):=GB.keep G (by simp only[aK];have:=B1.lt;omega) (by simp only[aK];have:=(GL ms (by simp)).2;omega);refine O _ Y ⟨T.filter (·!=((2*k:Nat):Int)),s3,J0,sT,hC3,A9.keep G n1,B2,o17.trans G fun y d=>by simp only[aK]at d;exact .inl (by rw[d];simp)⟩ ?_
    ·rw[ES,J0.left];exact RV
   ·rw[if_neg cn,Nat.add_zero]at rU;rw[aX cn];refine gO ?_;refine O _ LR ⟨T.filter (·!=((2*k:Nat):Int)),s3,GB,sT,hC3,A9,by rw[rU];exact zC,o17⟩ ?_
    ·rw[ES,GB.left];exact RV
  have hT:T=[]:=by cases T with
   |nil=>rfl
   |cons a T=>cases h0
  subst hT;rw[vS]at U Gz;have Y8:=N.size;have DC:ae (b::(fp++fr)) w zG:=Ap.trans N fun y d=>by
   rcases List.mem_cons.1 d with rfl|d
   ·exact .inr (by omega)
   ·exact .inl (by simp[d])
  have Du:=Gy.keep N bd;have Fb:=hi.ok.jd;have Sk:s2.aj=s.aj:=by rw[U.jR.aj,hC.jR.aj]
  obtain⟨s3,hkf,Ty⟩:=Gm U.inv (bT K S);have YA:(dX (some s2)).length≤5000:=by rw[fu,Sk];omega
  refine aZ Nk.cell h9 ?_;refine aw (Ri (keep:=bT K S) (F:=88) (caps:=#[.pointer (some ⟨q,0,none⟩)]) Sf (fun x hx=>by have:=(dK.1 hx).le U.inv.ok;omega) YA Gz Nc (by kernel_rfl) fun w' y ho=>?_) ?_
  ·rw[JY];exact Gh (Du.keep ho bd).q (Du.keep ho bd).v (Du.keep ho bd).k (Du.keep ho bd).s y
  rintro _ Nz ⟨zy,GA,j⟩;rw[hkf]at zy GA;simp only at zy GA;have A7:=Nk.keep j RP;refine aZ A7.cell h9 ?_;refine aw (Gp GA (by rw[Ty.B,U.jR.B,hC.jR.B];exact Fb)) ?_;rintro _ LR ⟨A9,m⟩;have zC:=zy.keep m Nc;have Ni:=A7.keep m NT;obtain⟨⟨B4,e4⟩,i4⟩:=j7 Ty.inv s3.B.length (Nat.le_refl _);obtain⟨s4,Sm⟩: ∃s4,s4=gY s3 s3.B.length:=⟨_,rfl⟩;rw[←Sm]at A9 i4 e4;have YB:s4.aj=s3.aj:=by rw[e4];rfl
  have Wo:s4.aj.length≤5000:=by rw[YB,Ty.aj,Sk];exact Nat.le_trans (List.length_filter_le _ _) (by omega)
  refine aZ Ni.cell h9 ?_;refine aw (Rj A9 Wo zC) ?_;rintro _ Y ⟨B2,G⟩;rw[uZ i4]at B2;have Y9:=j.size;have z17:=m.size;have z18:=G.size;have o3w:ae (C::fp) zG Y:=((j.trans m fun y d=>.inl (by simp[d])).trans G fun y d=>.inl (by simp only[aK]at d;rw[d];simp));have NM:ae (b::(fp++fr)) w Y:=DC.trans o3w fun y d=>by
   rcases List.mem_cons.1 d with rfl|d
   ·exact .inr (by omega)
   ·exact .inl (by simp[d])
  have I':ae (C::fp) uy Y:=N.same o3w;have rtn:rt∉C::fp:=fun e=>by
   rcases List.mem_cons.1 e with e|e
   ·have:=u.2;omega
   ·have:=hr.lt rt e;have:=u.1;omega
  have Sn:=Sd.keep I' rtn;have YC:aC Y ⟨C,0,none⟩ 8=some [.int .i64 (s4.aj.length:Int),.int .i64 (ea s4 s4.aj),.int .i64 ((s2.aj.filter fun i=>!bT K S ((2*i:Nat):Int)).length:Int),.int .i64 (ea s2 (s2.aj.filter fun i=>!bT K S ((2*i:Nat):Int))),.int .i64 0,.int .i64 0,.int .i64 ((K.length+D.length:Nat):Int),.int .i64 ((N1+gj Z (bT K S) D:Nat):Int)]:=by
   rw[ay B2 0 8 (by simp)];rfl
  refine aZ h9 YC ?_;refine dF (n:=8) (i:=0) Sn rfl (by simp[lJ]) (by simp[bh]) fun w19 abu J1 GC=>?_;rw[Dt]at J1;have YD:aC w19 ⟨rt,0,none⟩ 8=some [.int .i64 (s4.aj.length:Int),.int .i64 (ea s4 s4.aj),.int .i64 ((s2.aj.filter fun i=>!bT K S ((2*i:Nat):Int)).length:Int),.int .i64 (ea s2 (s2.aj.filter fun i=>!bT K S ((2*i:Nat):Int))),.int .i64 0,.int .i64 0,.int .i64 ((K.length+D.length:Nat):Int),.int .i64 ((N1+gj Z (bT K S) D:Nat):Int)]:=by
   rw[ay J1 0 8 (by simp)];rfl
  refine aQ YD ?_;have Sp: ∀y,y≠rt→y∉ [rt]:=fun y d=>by simpa using d
  have f13: ∀y,y∈B→y∉C::fp:=Yh;have frn: ∀y,y∈P→y∉C::fp:=fun y d e=>by
   rcases List.mem_cons.1 e with e|e
   ·rcases E y d with t|t
    ·have:=hR.lt y t;omega
    ·have:=Gs.lt;omega
   ·rcases E y d with t|t
    ·exact Ju y e t
    ·have:=hr.lt y e;omega
  have frt: ∀y,y∈P→y≠rt:=fun y d e=>by
   have:=u;rcases E y d with t|t
   ·have:=hR.lt y t;omega
   ·omega
  have fvn: ∀y,y∈H→y∉C::fp∧y≠rt:=fun y d=>⟨fun e=>by
   have:=Nj y d;rcases List.mem_cons.1 e with e|e
   ·have:=Gs.lt;omega
   ·have:=hr.lt y e;omega,by have:=Nj y d;have:=u.2;omega⟩
  have YE:(X n).length=n:=by
   rw[Gu];simp only[List.length_map,List.length_take];omega
  refine⟨s4,{R with Q:=R.Q++o.take n},Lf n,X n,[(s4.aj.length:Int),ea s4 s4.aj,((s2.aj.filter fun i=>!bT K S ((2*i:Nat):Int)).length:Int),ea s2 (s2.aj.filter fun i=>!bT K S ((2*i:Nat):Int)),0,0,((K.length+D.length:Nat):Int),((N1+gj Z (bT K S) D:Nat):Int)],K,S,o,Z,s2,s3,n,g13 12,H,B,P,
   ⟨lx,kz,hO,hn,hC,by rw[←Nb];exact U,Ty,Sm,rfl,by rw[Gu],by rw[Tv],by rw[Yy,Nb]⟩,rfl,?_,?_,?_,?_,?_,?_,?_,?_,?_⟩
  ·exact(A9.keep G fun y d e=>Nc (by simp only[aK]at e;exact e▸d)).keep GC fun y d=>Sp y (by have:=hr.lt y d;have:=u.1;omega)
  ·exact(Yt.keep I' frn).keep GC fun y d=>Sp y (frt y d)
  ·exact(Sc.keep I' RP Yh).keep GC (Sp b (by have:=u.1;omega)) fun y d=>Sp y (by have:=I5 y d;have:=u.2;omega)
  ·rw[YE];exact(Yu.keep I' fun y d=>(fvn y d).1).keep GC fun y d=>Sp y (fvn y d).2
  ·exact NM.trans GC fun y d=>by simp only[aK]at d;exact .inr (by have:=u.1;omega)
  ·intro y d;exact(E y d).imp id fun t=>by omega
  ·exact fun y d=>(V y d).1
  ·intro y d e;have:=V y d;rcases E y e with t|t
   ·have:=hR.lt y t;omega
   ·omega
  ·intro y d;have:=Nj y d;omega
section
variable {s s1 s2 s3 s4:HL} {x:Int} {K L' S ids o ic:List Int} {n:Nat} {R':Rt.MS}
def SO:HO:=my 4
def LI:HO:=bW SO 1 1 (1,0) (0,0)
def LJ:HO:=bK LI 64 (0,0,0)
def OS:HO:=bK LJ 66 (1,0,0)
def Nl:HO:=bj OS 66 0 64
def rA:Rt.MS:=⟨1,List.replicate 16 0,List.replicate 16 0,[]⟩
theorem OQ:bs SO 1 1 (1,0)=0∧(bC LI 64 (0,0,0)).2=0∧(bC LJ 66 (1,0,0)).2=0∧cf OS 66 0 64=0∧LI.map HL.born=some 0∧LJ.map HL.born=some 1:=by decide+kernel
theorem Sq:Nl.map (fun s=>(s.aj,ui s 1,ui s 2,l6 s 64,l6 s 66))=some ([32,33],some 64,some 66,1,2):=by decide+kernel
theorem Sr:Nl.map (fun s=>(xy s [] 64,xz s [] 64,xy s [1] 66,xz s [1] 66,dT s [1,2]))=some (0,[1],0,[1,2],[1,2]):=by decide+kernel
theorem Ss:Nl.map (fun s=>((s.ai 32).rf,(s.ai 33).rf,aY (some s) 64,aY (some s) 66))=some ([],[64],[],[64]):=by decide+kernel
theorem St:Nl.map (fun s=>s.B.length)=some 4:=by decide+kernel
theorem py:Rt.bz (some rA)=[]:=by decide+kernel
theorem Nn: ∃s,Nl=some s∧s.Inv:=by
 obtain⟨s0,b,o,_⟩:=BQ (n:=4) (by omega) (by omega);have b:SO=some s0:=b;obtain⟨s1,q,_,r,_⟩:=(vw o 1 0).2;have d:LI=some s1:=by unfold LI;rw[b];exact q
 obtain⟨s2,t,_,u,_⟩:=qW r 64 (0,0,0);have j:LJ=some s2:=by unfold LJ;rw[d];exact t
 obtain⟨s3,w,_,k,_⟩:=qW u 66 (1,0,0);have l:OS=some s3:=by unfold OS;rw[j];exact w
 obtain⟨s4,m,_⟩:=gV k.ok 66 0 64;refine⟨s4,by unfold Nl;rw[l];exact m,k.wM m (qu k.ok m)⟩
structure Su (s:HL):Prop where
 inv:s.Inv
 aj:s.aj=[32,33]
 ad1:ui s 1=some 64
 ad2:ui s 2=some 66
 id1:l6 s 64=1
 id2:l6 s 66=2
 rf1:(s.ai 32).rf=[]
 rf2:(s.ai 33).rf=[64]
 st1:aY (some s) 64=[]
 st2:aY (some s) 66=[64]
 OV:xy s [] 64=0∧xz s [] 64=[1]
 OW:xy s [1] 66=0∧xz s [1] 66=[1,2]
 td:dT s [1,2]=[1,2]
 B:s.B.length=4
theorem exA: ∃s,Nl=some s∧Su s:=by
 obtain⟨s,e,l⟩:=Nn;have b:=Sq;have d:=Sr;have j:=Ss;have k:=St;rw[e]at b d j k;simp only[Option.map_some,Option.some.injEq,Prod.mk.injEq]at b d j k;exact⟨s,e,l,b.1,b.2.1,b.2.2.1,b.2.2.2.1,b.2.2.2.2,j.1,j.2.1,j.2.2.1,j.2.2.2,⟨d.1,d.2.1⟩,⟨d.2.2.1,d.2.2.2.1⟩,d.2.2.2.2,k⟩
theorem Br {P:Int→Prop} (d:P 0):JP P rA:=⟨fun x b=>by rw[(List.mem_replicate.1 b).2];exact d,fun x b=>by rw[(List.mem_replicate.1 b).2];exact d,fun x b=>absurd b (by simp[rA])⟩
theorem Su.snd (h:Su s):iP true s rA:=by
 refine⟨fun k j r d=>?_,Br (.inl rfl)⟩;obtain⟨i,b,rfl⟩:=List.mem_map.1 j;rw[h.aj]at b;simp only[List.mem_cons,List.not_mem_nil,or_false]at b;rcases b with rfl|rfl
 ·rw[h.rf1]at d;simp at d
 ·rw[h.rf2]at d;simp only[aK]at d;subst d;exact .inr ⟨rfl,32,rfl,bq.1 (by rw[h.aj];simp)⟩
theorem ug {F:List Int} (h:uu s F K) (d: ∀x,x∈F→ ¬cI s x):K=[]:=by
 have: ∀x,x∈K→False:=h.ind (fun _=>False) ⟨fun x j k=>d x j k,fun _ _ _ b _ _=>b,fun _ _ b _ _ _=>b⟩;cases K with
 |nil=>rfl
 |cons x K=>exact absurd (List.mem_cons_self) (this x)
theorem B5 {y:Int} (h:aY (some s) x=[]): ¬Rs s x y:=by
 intro e
 induction e with
 |one e=>rw[h]at e;simp at e
 |more _ _ b=>exact b
theorem GD (h:xB s [x] o):o=[x]:=by
 have:=jD h;exact List.perm_singleton.1 this
theorem Su.first (h:Su s) (c:cY s rA [1,2] s4 R' L' ids ic K S o s1 s2 s3 n):
  s4.aj.length=2∧L'=[]∧ids=[2,1]∧R'= {rA with Q:=[66,64]}∧ic.getD 0 0=2:=by
 have w:=py;have l:cI s 64:=⟨32,rfl,bq.1 (by rw[h.aj];simp)⟩;have m:cI s 66:=⟨33,rfl,bq.1 (by rw[h.aj];simp)⟩;have D:K=[]:=ug c.lx fun x k=>by rw[w]at k;simp at k
 subst D;have y:jC s [1,2] []=[64,66]:=by
  unfold jC ki;simp[h.ad1,h.ad2]
 have b:=c.kz;rw[w,y]at b;have q:S.length=2:=by
  have r:=eN b.nd b.e9;rw[h.aj]at r;have t:([64,66]:List Int).length≤S.length:=dP (by decide) fun x k=>b.cls.f x (by simpa using k) (by
   simp only[List.mem_cons,List.not_mem_nil,or_false]at k;rcases k with rfl|rfl
   ·exact l
   ·exact m)
  simp only[List.length_cons,List.length_nil]at r t;omega
 have E:vG s 66 64=true:=sI.2 ⟨.one (by rw[h.st2];simp),B5 h.st1⟩;have H:vG s 64 66=false:=by
  rw[Bool.eq_false_iff];exact fun e=>B5 h.st1 (sI.1 e).1
 have u:o=[66,64]:=by
  have:=c.ord;rw[y]at this;cases this with
  |@cons _ I i F r t z=>
   have G:i<2:=F;have:i=1:=by
    have:i=0∨i=1:=by omega
    rcases this with rfl|rfl
    ·simp[E]at t
    ·rfl
   subst this;have e:([64,66]:List Int).eraseIdx 1=[64]:=rfl;rw[e]at z;rw[GD z];rfl
 have C:n=2:=by rw[c.nn,u];rfl
 have d:ids=[2,1]:=by rw[c.ii,u,C];simp[h.id1,h.id2]
 have j:=c.len.trans q;refine⟨j,?_,d,?_,?_⟩
 ·rw[c.LL,h.td,d];decide
 ·rw[c.RR,u,C];rfl
 ·rw[c.rp,j];rfl
theorem cY.none (s:HL) {R:Rt.MS} (c:cY s R [] s4 R' L' ids ic K S o s1 s2 s3 n) (d:Rt.bz (some R)=[]):ic.getD 2 0=(s.aj.length:Int):=by
 have j:K=[]:=ug c.lx fun x b=>by rw[d]at b;simp at b
 have k:S=[]:=ug c.kz fun x b=>by
  rw[d]at b;unfold jC ki at b;simp at b
 subst j k;rw[c.rp];show((s2.aj.filter fun i=>!bT [] [] ((2*i:Nat):Int)).length:Int)=_;rw[show(fun i:Nat=>!bT [] [] ((2*i:Nat):Int))=fun _=>true from funext fun i=>by simp[bT,tv],List.filter_eq_self.2 fun _ _=>rfl,c.c2.jR.aj,c.c1.jR.aj]
end
section
set_option maxRecDepth 20000
variable {s:HL} {a:Int} {A L:List Int} {R:Rt.MS}
theorem PL {w:World} {b H I:Nat} {P Q:Value} {S fr:List Nat} (q:At w b [.pointer (some ⟨H,0,none⟩),.pointer (some ⟨I,0,none⟩),P,Q]) (J:s.Inv) (T:s.aj.length≤2000) (U:HR w (some ⟨H,0,none⟩) S (some s)) (L:Rt.PR w (some ⟨I,0,none⟩) fr (some R)) (V: ∀x,x∈R.V→0≤x):
  Cs Tryz.prog 23 [.pointer (some ⟨b,0,none⟩)] w fun v w'=>ae [] w w'∧ ∃K m,Sl w' 1 v K.length (ints K) m∧(∀y,y∈m→w.heap.size≤y)∧Ff s true (Rt.bz (some R)) K:=by
 have d:R.Ok:=by obtain⟨_,_,_,_,_,_,_,_,_,r⟩:=L;exact r.ok
 refine en [2,5,8,11,17,20,23,26,15,31,34,37,38,0] ?_;refine gO ?_;refine aW [b] ?_;have o:=ae.drew [] w;have M:=q.ab o;have t: ∀z,z∈[b]→z<w.drew.heap.size∧z∉([]:List Nat):=fun z N=>by simp only[aK]at N;subst N;exact⟨M.lt,by simp⟩
 have u:SB [b] w.drew w.drew:=SB.refl _ _;refine aQ M.cell ?_;refine bI (Fj (U.ab o) J) ?_;rintro _ w1 ⟨j,q1,f1,rfl,B,g1⟩;refine⟨.inr (u.only j t),?_⟩;refine gO ?_;refine bI (A6 (L.ab (o.nil j)) V) ?_;rintro _ w2 ⟨k,q2,f2,rfl,C,g2⟩;refine⟨.inl rfl,?_⟩;refine gO ?_;refine bI (Rt.Mt C) ?_;rintro vl w3 ⟨l,f3,D,g3⟩;refine⟨.inl rfl,?_⟩;have E:(Rt.bz (some R)).length≤5000:=by
  have W:=Rt.dI ((Rt.filled R).map (·.2)) [];have h2:(Rt.filled R).length≤R.V.length:=by
   rw[Rt.jw d,List.length_map,Rt.eP d];exact Rt.jy
  have:=Rt.H' d;have e:Rt.bz (some R)=((Rt.filled R).map (·.2)).foldl Rt.dC []:=rfl;rw[e];simp only[List.length_nil,List.length_map]at W;omega
 refine gO ?_;refine bI (M4 (tb:=true) J T ((B.ab k).ab l) D E) ?_;rintro vK w4 ⟨F,K,m,X,Y,G⟩;refine⟨.inl rfl,?_⟩;have O:=((o.nil j).nil k).nil l;refine gO ?_;exact⟨O.nil F,K,m,X,fun y Z=>by have:=Y y Z;have:=O.size;omega,G⟩
theorem RT0 (h:iP true s R) (d:s.Ok): ∀x,x∈R.V→0≤x:=fun x b=>by
 unfold Rt.MS.V at b
 rcases List.mem_append.1 b with b|b
 ·rcases List.mem_append.1 b with b|b
  ·exact((h.2.1 x b).le d).1
  ·exact((h.2.2.1 x b).le d).1
 ·exact((h.2.2.2 x b).le d).1
structure wR (s:HL) (L A:List Int):Prop where
 e:L=A.map (l6 s)
 nd:A.Nodup
 e9: ∀a,a∈A→cI s a
theorem xD (b:s.Inv) (h:cI s a):ui s (l6 s a)=some a:=by
 obtain⟨k,rfl,d⟩:=h;have j:=b.pm.a _ d;have e:l6 s ((2*k:Nat):Int)=s.W.getD (2*k) 0:=by
  unfold l6;rw[jP b.ok d];rfl
 rw[e];unfold ui;rw[j]
theorem B6 (b:s.Inv) {c:Int} (j:cI s a) (k:cI s c) (e:l6 s a=l6 s c):a=c:=by
 have d:=xD b j;rw[e,xD b k]at d;exact(Option.some.inj d).symm
theorem wR.list (j:s.Inv) (h:wR s L A):ki s L=A:=by
 rw[h.e];unfold ki;rw[List.filterMap_map];have: ∀l:List Int,(∀a,a∈l→cI s a)→l.filterMap (ui s∘l6 s)=l:=fun l=>by
  induction l with
  |nil=>intro _;rfl
  |cons a l k=>
   intro d;rw[List.filterMap_cons_some (show(ui s∘l6 s) a=some a from xD j (d a (by simp))),k fun b m=>d b (by simp[m])]
 exact this A h.e9
theorem wR.tidy (d:s.Inv) (h:wR s L A):dT s L=L:=by
 unfold dT;refine List.filter_eq_self.2 fun x b=>?_;rw[h.e]at b;obtain⟨a,j,rfl⟩:=List.mem_map.1 b;rw[xD d (h.e9 a j)];rfl
theorem wR.mem (d:s.Inv) (h:wR s L A) (j:cI s a):l6 s a∈L↔a∈A:=by
 rw[h.e,List.mem_map];constructor
 ·rintro⟨c,b,e⟩;rw[←B6 d (h.e9 c b) j e];exact b
 ·intro b;exact⟨a,b,rfl⟩
theorem zD (b:s.Inv) (h:cI s a):dv (some s) a=(l6 s a,0):=by
 obtain⟨k,rfl,d⟩:=h;unfold l6;rw[jP b.ok d]
theorem wR.ef (b:s.Inv) (h:wR s L A) (k:A.length<64) (d:cI s a):xy s L a=(if a∈A then 8 else 0)∧xz s L a=(if a∈A then L else L++[l6 s a]):=by
 have l:L.length=A.length:=by rw[h.e,List.length_map]
 unfold xy xz;rw[zD b d,h.tidy b];simp only[ne_eq,not_true_eq_false,if_false];by_cases c:a∈A
 ·rw[if_pos c,if_pos c,if_pos ((h.mem b d).2 c),if_pos ((h.mem b d).2 c)];exact⟨rfl,rfl⟩
 ·have j:=fun e=>c ((h.mem b d).1 e);rw[if_neg c,if_neg c,if_neg j,if_neg j,if_neg (by omega),if_neg (by omega)];exact⟨rfl,rfl⟩
theorem wR.add (h:wR s L A) (j:cI s a) (k:a∉A):wR s (L++[l6 s a]) (A++[a]):=by
 refine⟨by rw[h.e,List.map_append];rfl,?_,fun c b=>?_⟩
 ·rw[List.nodup_append];refine⟨h.nd,List.pairwise_singleton _ _,fun x l y d e=>?_⟩;simp only[aK]at d;exact k (by rw[←d,←e];exact l)
 ·rcases List.mem_append.1 b with b|b
  ·exact h.e9 c b
  ·simp only[aK]at b;rw[b];exact j
end
section
set_option maxRecDepth 8000
variable {h0 h1:Nat} {w:World}
theorem Bq {y z:Value} {xs ys:List Int} {fa I:List Nat} (B:Sl w 1 y xs.length (ints xs) fa) (C:Sl w 1 z ys.length (ints ys) I) (R:xs.length≤100000):
  Cs Tryz.prog 26 [y,z] w fun v w'=>v=.bool (decide (xs=ys))∧ae [] w w':=by
 obtain⟨S,T,rfl⟩:=B.val;obtain⟨U,V,rfl⟩:=C.val;refine en [0] ?_;by_cases D:xs.length=ys.length;rotate_left
 ·refine aQ (eE (show¬(xs.length:Int)=(ys.length:Int) by omega)) ?_;exact⟨by rw[aX (fun e=>D (by rw[e]))],ae.refl _ _⟩
 refine aQ (dg (show(xs.length:Int)=(ys.length:Int) by omega)) ?_;refine az (5::11::12::13::14::15::16::17::18::19::20::21::22::23::24::25::[]) (fun g w'=> ∃i:Nat,g 5=.int .i64 (i:Int)∧i≤xs.length∧(∀j,j<i→xs.getD j 0=ys.getD j 0)∧ae [] w w') (fun g _=>bw xs.length 5 g) ⟨0,by simp only[go_sem];rfl,by omega,fun j E=>absurd E (by omega),ae.refl _ _⟩ fun g u J b=>?_;obtain⟨i,o,W,d,q⟩:=J;by_cases X:i<xs.length;rotate_left
 ·refine aZ o (aX (show¬(i:Int)<(xs.length:Int) by omega)) ?_;refine⟨?_,q⟩;rw[aU];refine List.ext_getElem D fun j h1 K=>?_;have:=d j (by omega);simpa[List.getD_eq_getElem?_getD,h1,K]using this
 obtain⟨L,_,M,N,k,_,_⟩:=(B.ab q).pos (by omega);obtain⟨O,_,P,Q,l,_,_⟩:=(C.ab q).pos (by omega);cases N;cases Q;have r:(0:Int)≤(i:Int)∧(i:Int)<(xs.length:Int):=by omega
 have m:(0:Int)≤(i:Int)∧(i:Int)<(ys.length:Int):=by omega
 have F:u.drew.cell? ⟨L,i,none⟩=some (.int .i64 (xs.getD i 0)):=by rw[k.drew.cell];exact aG M (by omega)
 have G:u.drew.cell? ⟨O,i,none⟩=some (.int .i64 (ys.getD i 0)):=by rw[l.drew.cell];exact aG P (by omega)
 have H:=q.nil (ae.drew [] u);by_cases t:xs.getD i 0=ys.getD i 0
 ·refine EM o (aU r.2) (eq_true r) (eq_true m) @Int.toNat_natCast @Nat.mul_one F G (dg t) (au i (by omega)) ?_;refine b _ _ ⟨i+1,?_,by omega,fun j E=>?_,H⟩ ?_
  ·simp only[go_sem]
  ·by_cases e:j=i
   ·rw[e];exact t
   ·exact d j (by omega)
  ·exact aJ o
 ·refine Dx o (aU r.2) (eq_true r) (eq_true m) @Int.toNat_natCast @Nat.mul_one F G (eE t) ?_;exact⟨by rw[aX (fun e=>t (by rw[e]))],H⟩
theorem lU.up {v:Value} {n sz:Nat} {f:Nat→Nat→Nat} (h:lU h0 w v n sz f) (m:h0≤h1):lU h1 w v n sz f:=by
 obtain⟨a,c,e,b,d⟩:=h;exact⟨a,c,e,b,fun i j=>by obtain⟨p,k,o,l⟩:=d i j;exact⟨p,k,by omega,l⟩⟩
theorem tz.ab {w':World} {cs:List Value} {g:BG} {k m vL q r:Value} (h:tz h0 w cs g k m vL q r) (b:h0≤w.heap.size) (j:h0≤h1) (o:ae [] w w'):tz h1 w' cs g k m vL q r:=
 ⟨h.e,h.l0,h.l1,(h.o.keep b o (by simp)).up j,(h.d.keep b o (by simp)).up j,(h.l.keep b o (by simp)).up j,(h.p.keep b o (by simp)).up j,(h.n.keep b o (by simp)).up j⟩
end
structure Bgn (g:BG) (w0 w:World) (nl b hb rb qb kb:Nat) (s:HL) (R:Rt.MS) (fh fr ff fk:List Nat) (gb:Nat) (L A:List Int) (Pn:List Nat):Prop where
 sc:nz w b hb rb qb kb s R fh fr ff fk
 rg:RG w gb ⟨hb,0,none⟩ (some ⟨rb,0,none⟩) L Pn
 ra:wR s L A
 n1:A.length≤nl
 n2:A.length≤40
 sz:Sz s 40 (2+g.bl%23)
 sn:iP true s R
 op:va g (s,R)
 ge: ∀y,y∈b::(fh++(fr++(ff++fk)))→w0.heap.size≤y
 gg:w0.heap.size≤gb
 ng:gb∉b::(fh++(fr++(ff++fk)))
 nl: ∀y,y∈Pn→y∉b::(fh++(fr++(ff++fk)))
 gl: ∀y,y∈Pn→w0.heap.size≤y
theorem GF {s:HL} {n:Nat} (h:rH s n≠0):cI s (rH s n):=((AX s n).resolve_left h).2
set_option maxHeartbeats 1000000 in
theorem Fh {w:World} {cs:List Value} {g:BG} {vO vD vL vP vN vl:Value} {nl:Nat} {fl:Nat→Nat→Nat} (h:tz w.heap.size w cs g vO vD vL vP vN) (hl:lU w.heap.size w vl nl 1 fl):
  Cs Tryz.prog 15 [.agg ⟨cs⟩,vl] w fun v w'=>ae [] w w'∧ ∃b F G P Q s R t fr B C l L A d,v=.tuple #[.pointer (some ⟨b,0,none⟩),.pointer (some ⟨l,0,none⟩)]∧Bgn g w w' nl b F G P Q s R t fr B C l L A d:=by
 have U:=h.e;refine en [2,5,8,11,14,17,20,23,28,29,32,35,38,41,0] ?_;refine gO ?_;refine bp fun q w1 hq pf V H=>?_;have Ic:=H.size;have P1:aC w1 ⟨q,0,none⟩ 7=some cs:=by rw[ay V 0 7 (by rw[U];simp),U];rfl
 have ZF:=h.ab (Nat.le_refl _) Ic H;refine aQ P1 ?_;refine aw (Fi ZF) ?_;rintro _ w2 ⟨b,rfl,s,R,fp,⟨F,G,P,Q,t,fr,B,C,rfl,D⟩,NC,W,sz,sn,op⟩;have z2:=W.size;have o2:=H.nil W;refine gO ?_;refine aW [b] ?_;have od:=ae.drew [] w2;have I:=D.ab od;refine aQ I.at_.cell ?_;have X:=D.SU;have hmu:Rt.uv (some R)≠0:=by
  have:=X.m1;show(R.M:Int)≠0;omega
 refine bI (OT I.h D.inv.ok I.r hmu) ?_;rintro _ w3 ⟨gJ,l,rfl,hg3,ggb⟩;refine⟨.inl rfl,?_⟩;have J:=od.nil gJ;have o3:=o2.nil J;have z3:=J.size;have NF:=D.ab J;have abv:w2.heap.size≤l:=ggb;obtain⟨al,cl,rfl,fb,OH⟩:=id hl;have Y:=D.lt;have K:l∉b::(t++(fr++(B++C))):=fun e=>by have:=Y l e;omega
 have Z:l∉t:=fun e=>K (by simp[e]);refine aQ (dg (rfl:(0:Int)=0)) ?_;refine az (9::10::11::34::35::36::37::38::39::40::41::42::43::44::45::46::47::48::49::50::51::52::53::54::55::56::57::58::59::60::61::62::[]) (fun g' w'=> ∃(i:Nat) (L A:List Int) (d:List Nat),g' 9=.int .i64 (i:Int)∧i≤40∧i≤nl∧wR s L A∧A.length≤i∧RG w' l ⟨F,0,none⟩ (some ⟨G,0,none⟩) L d∧(∀y,y∈d→w3.heap.size≤y)∧ae [l] w3 w') (fun g' _=>bw 40 9 g')
  ⟨0,[],[],[],by simp only[go_sem];rfl,by omega,by omega,⟨rfl,List.nodup_nil,by simp⟩,by simp,hg3,by simp,ae.refl _ _⟩ fun g4 w4 hI j=>?_
 obtain⟨i,L,A,d,u,abw,abx,T,hA,M,z,m⟩:=hI;have z4:=m.size;have N: ∀ {S:List Nat},(∀x,x∈S→x∈b::(t++(fr++(B++C))))→ ∀x,x∈S→x∉ [l]:=fun hS x hx e=>by
  simp only[aK]at e;exact K (e▸hS x hx)
 have O:nz w4 b F G P Q s R t fr B C:=NF.keep m (N fun _ h=>h);have o4:ae [] w w4:=o3.trans m fun y o=>by simp only[aK]at o;exact .inr (by omega)
 have La:Bgn g w w4 nl b F G P Q s R t fr B C l L A d:=⟨O,M,T,by omega,by omega,sz,sn,op,fun y o=>by have:=NC y o;omega,by omega,K,fun y o e=>by have:=z y o;have:=Y y e;omega,fun y o=>by have:=z y o;have:=o3.size;omega⟩;by_cases c1:i<nl;rotate_left
 ·refine aZ u (aX (show¬(i:Int)<(nl:Int) by omega)) ?_;exact⟨o4,b,F,G,P,Q,s,R,t,fr,B,C,l,L,A,d,rfl,La⟩
 by_cases c2:i<40;rotate_left
 ·refine cT u (aU (show(i:Int)<(nl:Int) by omega)) (aX (show¬(i:Int)<40 by omega)) ?_;exact⟨o4,b,F,G,P,Q,s,R,t,fr,B,C,l,L,A,d,rfl,La⟩
 have ci:(0:Int)≤(i:Int)∧(i:Int)<(nl:Int):=by omega
 obtain⟨p,rfl,JK,hp2⟩:=OH i c1;have YF:((fl i 0:Nat):Int).tmod 100=((fl i 0%100:Nat):Int):=iR _ 100;have IU:w4.cell? (p.add i)=some (gL (fl i 0)):=by
  have:=hp2 0 (by omega);rw[Nat.mul_one]at this;rw[iU (w:=w) (w':=w4) (by rw[de];exact o4.block _ JK (by simp))];exact this
 have z1:=au i (by omega);have YG:A.length<64:=by omega
 (repeat(first|with_reducible(first|refine nx ?_|refine bA rfl ?_)|simp only[go_sem,u,aU ci.2,aU (show(i:Int)<40 by omega),if_pos ci,c9,Nat.mul_one,IU,gL,eC (fl i 0) (fb i 0),YF]));refine aw (NJ O (fl i 0%100) (by omega)) ?_;rintro _ w5 ⟨rfl,k⟩;obtain⟨y,o⟩: ∃y,y=rH s (fl i 0%100):=⟨_,rfl⟩;have QY:=tW D.inv.ok (fl i 0%100);rw[←o]at QY⊢;by_cases c0:y=0
 ·refine cT (dg c0) u z1 ?_;refine j _ w5 ⟨i+1,L,A,d,?_,by omega,by omega,T,by omega,M.ab k,z,m.nil k⟩ ?_
  ·simp only[go_sem]
  ·exact aJ u
 have H5:cI s y:=by rw[o]at c0⊢;exact GF c0
 refine aQ (eE c0) ?_;refine aw (qA (M.ab k) (by rw[T.e,List.length_map];omega) (O.h.ab k) D.inv Z y (by omega)) ?_;rintro _ w6 ⟨rfl,f6,r,lZ,gf6⟩;obtain⟨r1,r2⟩:=T.ef D.inv YG H5;rw[r2]at r;rw[r1];have z5:=k.size;have E: ∀y,y∈f6→w3.heap.size≤y:=fun y o=>(gf6 y o).elim (z y) fun h'=>by omega
 by_cases cm:y∈A
 ·rw[if_pos cm]at r;rw[if_pos cm];refine eZ (eE (show¬(8:Int)=0 by omega)) (dg (rfl:(8:Int)=8)) u z1 ?_;refine j _ w6 ⟨i+1,L,A,f6,?_,by omega,by omega,T,by omega,r,E,(m.nil k).same lZ⟩ ?_
  ·simp only[go_sem]
  ·exact aJ u
 ·rw[if_neg cm]at r;rw[if_neg cm];refine cT (dg (rfl:(0:Int)=0)) u z1 ?_;refine j _ w6 ⟨i+1,L++[l6 s y],A++[y],f6,?_,by omega,by omega,T.add H5 cm,by rw[cH,List.length_singleton];omega,r,E,(m.nil k).same lZ⟩ ?_
  ·simp only[go_sem]
  ·exact aJ u
section
open Classical in
end
section
section
variable {s:HL} {R:Rt.MS} {L A:List Int} {s4:HL} {R':Rt.MS} {L' ids ic K S o:List Int} {s1 s2 s3:HL} {n:Nat}
theorem cY.dead (h:cY s R L s4 R' L' ids ic K S o s1 s2 s3 n) (b:s.Inv) (d:wR s L A):o.Perm (A.filter fun x=>!decide (x∈K)):=by
 have:=jD h.ord;unfold jC at this;rwa[d.list b]at this
theorem cY.nodup (h:cY s R L s4 R' L' ids ic K S o s1 s2 s3 n) (d:s.Inv) (b:wR s L A):o.Nodup:=(h.dead d b).nodup_iff.2 (List.Nodup.sublist List.filter_sublist b.nd)
theorem cY.mem (h:cY s R L s4 R' L' ids ic K S o s1 s2 s3 n) (b:s.Inv) (d:wR s L A) {x:Int}:x∈o↔x∈A∧x∉K:=by
 rw[(h.dead b d).mem_iff,List.mem_filter];simp
theorem cY.YH (h:cY s R L s4 R' L' ids ic K S o s1 s2 s3 n) (j:s.Inv) {a:Int} (b:a∈S):l6 s4 a=l6 s a:=by
 obtain⟨k,rfl,l⟩:=h.kz.e9 a b;have d:=(h.st k).2 b;unfold l6;rw[jP h.four.2.ok d,jP j.ok l,h.ob b];split<;>(unfold fZ;split<;>rfl)
theorem cY.oS (h:cY s R L s4 R' L' ids ic K S o s1 s2 s3 n) (d:s.Inv) {x:Int} (j:x∈o):x∈S:=by
 have b:=(jD h.ord).mem_iff.1 j;exact h.kz.cls.f x (List.mem_append.2 (.inr b)) (jQ d (List.mem_filter.1 b).1)
theorem cY.UB (h:cY s R L s4 R' L' ids ic K S o s1 s2 s3 n):n≤o.length:=by have:=h.nn;omega
theorem cY.UA (h:cY s R L s4 R' L' ids ic K S o s1 s2 s3 n):ids.length=n:=by
 have:=h.UB;rw[h.ii,List.length_map,List.length_take];omega
theorem cY.Pm (h:cY s R L s4 R' L' ids ic K S o s1 s2 s3 n) (j:s.Inv) (b:wR s L A):wR s4 L' (A.filter fun a=>!decide (a∈o.take n))∧(A.filter fun a=>!decide (a∈o.take n)).length+n=A.length:=by
 have k: ∀a,a∈A→a∈S:=fun a d=>by
  by_cases c:a∈K
  ·exact h.sub a c
  ·exact h.oS j ((h.mem j b).2 ⟨d,c⟩)
 have t: ∀a,a∈A→(l6 s a∈ids↔a∈o.take n):=fun a d=>by
  rw[h.ii,List.mem_map];constructor
  ·rintro⟨c,q,e⟩;have u:c∈A:=((h.mem j b).1 (List.mem_of_mem_take q)).1;rw[←B6 j (b.e9 c u) (b.e9 a d) e];exact q
  ·intro q;exact⟨a,q,rfl⟩
 refine⟨⟨?_,List.Nodup.sublist List.filter_sublist b.nd,fun a d=>(h.live a).2 (k a (List.mem_filter.1 d).1)⟩,?_⟩
 ·rw[h.LL,b.tidy j,b.e,List.filter_map];have w:A.filter ((fun x=>!decide (x∈ids))∘l6 s)=A.filter fun a=>!decide (a∈o.take n):=by
   refine List.filter_congr fun a d=>?_;show(!decide (l6 s a∈ids))=_;rw[decide_eq_decide.2 (t a d)]
  rw[w];refine List.map_congr_left fun a d=>?_;rw[h.YH j (k a (List.mem_filter.1 d).1)]
 ·have w:=List.length_eq_countP_add_countP (l:=A) (p:=fun a=>decide (a∈o.take n));rw[List.countP_eq_length_filter,List.countP_eq_length_filter]at w;have m: ∀x,x∈o.take n→x∈A.filter fun a=>decide (a∈o.take n):=fun x r=>List.mem_filter.2 ⟨((h.mem j b).1 (List.mem_of_mem_take r)).1,by simpa using r⟩;have y:(o.take n).Nodup:=List.Nodup.sublist (List.take_sublist _ _) (h.nodup j b);have B:=dP y m;have C:=dP (List.Nodup.sublist List.filter_sublist b.nd) fun x (r:x∈A.filter fun a=>decide (a∈o.take n))=>(by simpa using(List.mem_filter.1 r).2:x∈o.take n);have D:(o.take n).length=n:=by rw[List.length_take];have:=h.UB;omega
  have z:(A.filter fun a=>!decide (a∈o.take n))=A.filter fun a=>decide (¬(decide (a∈o.take n))=true):=by
   refine List.filter_congr fun a _=>?_;by_cases c:a∈o.take n<;>simp[c]
  rw[z];omega
end
end
section
set_option maxRecDepth 8000
theorem uu.same {s:HL} {F K K':List Int} (h:uu s F K) (b:uu s F K') (x:Int):x∈K↔x∈K':=⟨ud h b (fun _ h=>h) x,ud b h (fun _ h=>h) x⟩
theorem uu.len {s:HL} {F K K':List Int} (h:uu s F K) (b:uu s F K'):K.length=K'.length:=
 Nat.le_antisymm (dP h.nd fun x d=>(h.same b x).1 d) (dP b.nd fun x d=>(h.same b x).2 d)
theorem E5 {K S:List Int} {x:Int}:x∈tv K S↔x∈S∧x∉K:=by
 unfold tv;rw[List.mem_filter];simp
section
variable {s:HL} {R:Rt.MS} {L A:List Int} {s4:HL} {R':Rt.MS} {L' ids ic K S o:List Int} {s1 s2 s3:HL} {n:Nat}
theorem cY.Uk (h:cY s R L s4 R' L' ids ic K S o s1 s2 s3 n) {i:Nat} (b:((2*i:Nat):Int)∈K):s4.ai i=fZ (kv K) (s.ai i):=by
 rw[h.ob (h.sub _ b),if_pos b]
theorem tw (keep:Int→Bool) (o:Ob):(fZ keep o).sh=o.sh∧(fZ keep o).dt=o.dt∧(fZ keep o).rf.length=o.rf.length:=by
 unfold fZ;split
 ·exact⟨rfl,rfl,rfl⟩
 ·exact⟨rfl,rfl,bx _ _ _⟩
theorem cY.Bt (h:cY s R L s4 R' L' ids ic K S o s1 s2 s3 n):(s2.aj.filter fun i=>!bT K S ((2*i:Nat):Int)).length+s4.aj.length=s.aj.length:=by
 obtain⟨⟨B,e⟩,_⟩:=h.four;have b:s4.aj=s3.aj:=by rw[e];rfl
 have d:s2.aj=s.aj:=by unfold HL.aj;rw[h.c2.jR.st,h.c1.jR.st]
 rw[b,h.k3.aj,d];have:=List.length_eq_countP_add_countP (l:=s.aj) (p:=fun i=>!bT K S ((2*i:Nat):Int));rw[List.countP_eq_length_filter,List.countP_eq_length_filter]at this;have j:(s.aj.filter fun a=>decide (¬(!bT K S ((2*a:Nat):Int))=true))=s.aj.filter fun i=>!!bT K S ((2*i:Nat):Int):=by
  refine List.filter_congr fun a _=>?_;cases bT K S ((2*a:Nat):Int)<;>rfl
 rw[j]at this;exact this.symm
end
end
section
set_option maxRecDepth 8000
variable {S:List Nat} {m:MT} {a:Option Addr} {w:World}
theorem gZ.head {b g n wd:Nat} {l:List Nat} (h:gZ w b g n wd l): ∃k cap,At w b [.int .i64 n,.int .i64 wd,.slice (some ⟨g,0,none⟩) k cap]:=by
 obtain⟨j,cap,rest,m,d,o,q⟩:=h.mem;exact⟨_,_,d⟩
theorem CK (h:iF w a S m):Cs Tryz.prog 213 [.pointer a] w fun r w'=>r=.int .i64 m.entries∧ae [] w w':=by
 refine en [] ?_;refine gO ?_;refine aH (iJ h) ?_
 match m,h with
 |none,h=>
  (repeat(first|with_reducible(first|refine nx ?_|refine bA rfl ?_)|simp only[go_sem,Option.isSome_none]));exact⟨rfl,ae.refl _ _⟩
 |some (wd,l),⟨b,g,d,q,j⟩=>
  subst d;obtain⟨k,cap,o⟩:=j.head;(repeat(first|with_reducible(first|refine nx ?_|refine bA rfl ?_)|simp only[go_sem,o.cell,Option.isSome_some]));exact⟨rfl,ae.refl _ _⟩
theorem H4 (h:iF w a S m):Cs Tryz.prog 352 [.pointer a] w fun r w'=>r=.int .i64 m.width∧ae [] w w':=by
 refine en [] ?_;refine gO ?_;refine aH (iJ h) ?_
 match m,h with
 |none,h=>
  (repeat(first|with_reducible(first|refine nx ?_|refine bA rfl ?_)|simp only[go_sem,Option.isSome_none]));exact⟨rfl,ae.refl _ _⟩
 |some (wd,l),⟨b,g,d,q,j⟩=>
  subst d;obtain⟨k,cap,o⟩:=j.head;(repeat(first|with_reducible(first|refine nx ?_|refine bA rfl ?_)|simp only[go_sem,o.cell,Option.isSome_some]));exact⟨rfl,ae.refl _ _⟩
theorem No (h:iF w a S m) (i d v:Int):Cs Tryz.prog 429 [.pointer a,.int .i64 i,.int .i64 d,.int .i64 v] w fun r w'=>r=.tuple #[.bool (m.mG i d v),.int .i64 (m.check i [d,v])]∧iF w' a S (m.ve i d v)∧ae S w w':=by
 refine en [] ?_;refine gO ?_;rw[ag rfl rfl,ag rfl rfl];refine gO ?_;refine eJ fun q M N H B u=>?_;refine gO ?_;refine aM (Fw (h.ab u) i B rfl) fun O j=>?_
 match m,h with
 |none,h=>
  refine aQ @MT.tI ?_;exact⟨rfl,h.ab (u.same j),(u.same j).of_nil⟩
 |some (wd,l),⟨b,g,I,J,z⟩=>
  subst I J;have z:=(z.keep u (by simp) (by simp)).keep j (by simp) (by simp);rcases MT.ru (wd:=wd) (l:=l) (i:=i) (vs:=[d,v])with⟨e,F,C⟩|⟨e,F⟩
  ·obtain⟨k,rfl,G⟩:=tH F;have C:pQ wd d=true∧pQ wd v=true:=by simpa using C
   obtain⟨x,rfl,K⟩:=yN C.2;refine aQ e ?_;refine aM (sE z G) fun P o=>?_;refine gO ?_;refine cu (fun D=>?_) (fun D=>?_)
   ·refine gO ?_;have y: ¬((l.getD k 0:Nat):Int)=d:=by simpa using D
    have t:MT.mG (some (wd,l)) (k:Int) d (x:Int)=false:=by simp only[MT.mG,c9,y,decide_false,Bool.and_false]
    exact⟨by rw[t],by simp only[MT.ve,t];exact .mk (z.keep o (by simp) (by simp)),((u.same j).same o).of_nil⟩
   ·have y:((l.getD k 0:Nat):Int)=d:=by simpa using D
    have t:MT.mG (some (wd,l)) (k:Int) d (x:Int)=true:=by simp only[MT.mG,c9,y,e,decide_true,Bool.and_true]
    refine gO ?_;refine aw (Bw (z.keep o (by simp) (by simp)) G K) ?_;rintro r Q ⟨rfl,L,E⟩;refine gO ?_;exact⟨by rw[t],by simp only[MT.ve,t,if_true,c9];exact .mk L,((u.same j).same o).of_nil.same E.g⟩
  ·refine aQ e ?_;have t:MT.mG (some (wd,l)) i d v=false:=by simp[MT.mG,e]
   exact⟨by rw[t],by simp only[MT.ve,t];exact .mk z,(u.same j).of_nil⟩
end
section
variable {s:HL} {x:Int} {K:List Int} {S fp:List Nat} {i k n:Nat} {a p:Option Addr} {w:World}
def dY (kd:Int):Nat:=if kd=1 then 1 else if kd=2 then 2 else 0
theorem kQ {kd:Int}:bM kd i=true↔i<dY kd:=by
 unfold bM dY;simp only[Bool.or_eq_true,Bool.and_eq_true,beq_iff_eq];split
 ·omega
 ·split<;>omega
theorem ET (w:World) (d:Sh):Cs Tryz.prog 282 [.agg ⟨bS d⟩] w fun v w'=>v=.int .i64 ((dY d.2.2:Nat):Int)∧ae [] w w':=by
 refine en [] ?_;refine gO ?_;refine bp fun q o t r j b=>?_;have m:o.cell? ⟨q,2,none⟩=some (.int .i64 d.2.2):=by rw[j.cell];rfl
 unfold dY;by_cases k:d.2.2=1
 ·rw[if_pos k];refine aZ m (cZ k) ?_;exact⟨rfl,b⟩
 rw[if_neg k];by_cases l:d.2.2=2
 ·rw[if_pos l];refine cT m (cU k) (cZ l) ?_;exact⟨rfl,b⟩
 rw[if_neg l];refine cT m (cU k) (cU l) ?_;exact⟨rfl,b⟩
def dV (s:HL) (x:Int):List Int:=(dS (some s) x).drop (dY (df s x))
theorem rh (h:s.Ok) {y:Int} (m:cI s y) (z0:s.st.getD 0 0≠1):y∈dV s x↔y∈aY (some s) x:=by
 have o:y≠0:=by
  obtain⟨k,rfl,q⟩:=m;intro e;have:k=0:=by omega
  subst this;exact z0 q
 unfold dV aY df;rw[iB,List.mem_drop_iff_getElem];constructor
 ·rintro⟨j,d,rfl⟩;have b:dY (aV (some s) x).1.2.2+j<(dS (some s) x).length:=by omega
  refine⟨dY (aV (some s) x).1.2.2+j,b,by simp[List.getD_eq_getElem?_getD,b],o,?_⟩;cases e:bM (aV (some s) x).1.2.2 (0+(dY (aV (some s) x).1.2.2+j))with
  |false=>rfl
  |true=>have:=kQ.1 e;omega
 ·rintro⟨j,d,rfl,_,l⟩;have: ¬j<dY (aV (some s) x).1.2.2:=fun c=>by
   have:=kQ.2 c;rw[Nat.zero_add]at l;rw[l]at this;cases this
  refine⟨j-dY (aV (some s) x).1.2.2,by omega,?_⟩;have e:dY (aV (some s) x).1.2.2+(j-dY (aV (some s) x).1.2.2)=j:=by omega
  simp only[e,List.getD_eq_getElem?_getD,List.getElem?_eq_getElem d,Option.getD_some]
theorem Ja {l:List Int} {d:Nat} (j:d≤i) (b:i<l.length):(l.take (i+1)).drop d=(l.take i).drop d++[l.getD i 0]:=by
 rw[List.take_succ_eq_append_getElem b,List.drop_append_of_le_length (by rw[List.length_take];omega)];simp[b]
theorem Dv (h:i<(dS (some s) x).length):(dS (some s) x).getD i 0=(dE (some s) x (i:Int)).1:=by
 unfold dS at h⊢;rw[List.length_map]at h;simp only[List.getD_eq_getElem?_getD,List.getElem?_map,List.getElem?_eq_getElem h,Option.map_some,Option.getD_some,List.getElem_range]
set_option maxHeartbeats 1000000 in
theorem HZ (h:HR w a fp (some s)) (o:s.Ok) (x:Int) (hx:x≤4611686018427387904) (hv:cI s x):
  Cs Tryz.prog 432 [.pointer a,.int .i64 x] w fun v w'=>ae [] w w'∧ ∃r,Sl w' 1 v (dV s x).length (ints (dV s x)) r∧ ∀y,y∈r→w.heap.size≤y:=by
 have E:=pe o x;have F:(aV (some s) x).1.1=((dS (some s) x).length:Int):=by
  obtain⟨k,rfl,t⟩:=hv;rw[dB o t,kO o t];exact((cX o t).1).symm
 have M:dY (df s x)≤(dS (some s) x).length:=by
  obtain⟨k,rfl,t⟩:=hv;rw[kO o t];obtain⟨l1,l2,l3⟩:=cX o t;have ek:df s ((2*k:Nat):Int)=(s.ai k).sh.2.2:=by unfold df;rw[dB o t]
  rw[ek];simp only[aS,Bool.and_eq_true,Bool.or_eq_true,decide_eq_true_eq]at l3;unfold dY;split
  ·omega
  ·split<;>omega
 refine en [] ?_;refine gO ?_;refine aw (ju h x hx) ?_;rintro _ w1 ⟨rfl,N⟩;refine gO ?_;refine bp fun q w2 hq yJ G O=>?_;refine gO ?_;refine dF (cs:=bS (aV (some s) x).1) G rfl (by simp[bS]) (dm _) fun P qt j Q=>?_;rw[dz]at j;have o3:ae [] w P:=N.nil (O.trans Q fun y b=>by simp only[aK]at b;subst b;exact .inr (by omega));have R:aC P ⟨q,0,none⟩ 3=some (bS (aV (some s) x).1):=ay j 0 3 (by simp[bS]);refine aQ R ?_;refine aw (ET P (aV (some s) x).1) ?_;rintro _ S ⟨rfl,H⟩;show _;unfold dV;have T:df s x=(aV (some s) x).1.2.2:=rfl;rw[←T];obtain⟨d,U⟩: ∃d,d=dY (df s x):=⟨_,rfl⟩;obtain⟨l,hl⟩: ∃l,l=dS (some s) x:=⟨_,rfl⟩;rw[←U]at M⊢;rw[←hl]at M E F⊢;have V:=o3.nil H;have I:=j.ab H;refine gO ?_;refine az (7::8::9::10::19::20::21::22::23::24::25::26::27::28::29::30::31::32::33::34::35::[]) (fun g w'=> ∃(i:Nat) (r:List Nat),g 8=.int .i64 (i:Int)∧d≤i∧i≤l.length∧ae [] S w'∧Sl w' 1 (g 7) ((l.take i).drop d).length (ints ((l.take i).drop d)) r∧ ∀y,y∈r→S.heap.size≤y) (fun g _=>bw l.length 8 g)
  ⟨d,[],by simp only[go_sem],Nat.le_refl _,M,ae.refl _ _,by simp only[go_sem];rw[List.drop_eq_nil_of_le (by rw[List.length_take];omega)];exact Sl.iW _,fun y b=>absurd b (by simp)⟩ fun g w5 hI u=>?_
 obtain⟨i,r,J,W,hi,m,z,B⟩:=hI;have K:w5.cell? ⟨q,0,none⟩=some (.int .i64 (l.length:Int)):=by rw[(I.ab m).cell,←F];rfl
 by_cases X:i<l.length;rotate_left
 ·refine cT J K (aX (show¬(i:Int)<(l.length:Int) by omega)) ?_;rw[List.take_of_length_le (by omega)]at z;exact⟨V.nil m,r,z,fun y b=>by have:=B y b;have:=V.size;omega⟩
 refine cT J K (aU (show(i:Int)<(l.length:Int) by omega)) ?_;refine aw (rR (h.ab (V.nil m)) x (i:Int) hx) ?_;rintro _ w6 ⟨rfl,C⟩;have Y:(dE (some s) x (i:Int)).1=l.getD i 0:=by rw[hl]at X⊢;exact(Dv X).symm
 rw[Y];refine aQ J ?_;rw[ag rfl rfl];refine gO ?_;refine eJ fun q7 w7 Uz uw L D=>?_;refine gO ?_;refine eM (z.ab (C.nil D)) (bn.at (us:=[.int .i64 (l.getD i 0)]) L rfl) (by simp[bh]) (by simp only[List.length_drop,List.length_take];omega) (by simp only[List.length_drop,List.length_take];omega) ?_;intro v8 w8 f8 Z Jm k9 _;have o58:ae [] S w8:=(m.nil (C.nil D)).trans k9 fun y b=>.inr (B y b);have z5:=m.size;have z6:=C.size;have z7:=D.size;refine aZ J (au i (by omega)) ?_;refine u _ w8 ⟨i+1,f8,?_,by omega,by omega,o58,?_,?_⟩ ?_
 ·simp only[go_sem]
 ·simp only[go_sem];rw[Ja W X,cH,ba];exact Z
 ·intro y b;rcases Jm with e|e<;>rw[e]at b
  ·exact B y b
  ·simp only[aK]at b;omega
 ·exact aJ J
theorem Ls {b:Option Addr} {fr:List Nat} {m:HO} {r:Rt.MO} (h:HR w a fp m) (d:Rt.PR w b fr r):Cs Tryz.prog 274 [.pointer a,.pointer b] w fun v w'=>v=.bool (decide (0<cJ m)&&decide (0<Rt.uv r))∧w'=w:=by
 refine en [] ?_;refine gO ?_;refine aH (gC h) ?_;by_cases c:0<cJ m
 ·refine aZ (aU (show(0:Int)<((cJ m:Nat):Int) by omega)) (aU c) ?_;refine aH (Rt.oG d) ?_;refine gO ?_;simp
 ·refine aZ (aX (show¬(0:Int)<((cJ m:Nat):Int) by omega)) (aX c) ?_;simp
def nB (n:Nat) (K:List Int):MT:=some (1,(List.range n).map fun k=>if((2*k:Nat):Int)∈K then 1 else 0)
theorem Jb (b:k<n):(nB n K).get (k:Int)=if((2*k:Nat):Int)∈K then 1 else 0:=by
 simp only[nB,MT.get];rw[if_pos (nc (by simpa using b))];simp only[c9,List.getD_eq_getElem?_getD,List.getElem?_map,List.getElem?_range b,Option.map_some,Option.getD_some];split<;>rfl
theorem Jc (n:Nat) (b:1≤n) (d:n≤4096):tK (n:Int) 1=nB n []:=by
 unfold tK nB;rw[if_pos ⟨by omega,by omega,by decide⟩];congr 2;refine List.ext_getElem (by simp) fun i b d=>by simp
theorem zE (d:k<n):(nB n K).mG (k:Int) 0 1=decide (((2*k:Nat):Int)∉K)∧(nB n K).ve (k:Int) 0 1=nB n (if((2*k:Nat):Int)∉K then K++[((2*k:Nat):Int)]else K):=by
 have l:((List.range n).map fun k=>if((2*k:Nat):Int)∈K then 1 else 0).getD k 0=if((2*k:Nat):Int)∈K then 1 else 0:=by
  simp only[List.getD_eq_getElem?_getD,List.getElem?_map,List.getElem?_range d,Option.map_some,Option.getD_some]
 have j:(nB n K).check (k:Int) [0,1]=0:=by
  simp only[nB,MT.check];rw[if_pos];simp only[Bool.and_eq_true];exact⟨nc (by simpa using d),by decide⟩
 have b:(nB n K).mG (k:Int) 0 1=decide (((2*k:Nat):Int)∉K):=by
  unfold MT.mG;have:(nB n K)=some (1,(List.range n).map fun k=>if((2*k:Nat):Int)∈K then 1 else 0):=rfl;rw[this]at j⊢;simp only[j,c9,l];by_cases c:((2*k:Nat):Int)∈K
  ·simp[c]
  ·simp[c]
 refine⟨b,?_⟩;have:(nB n K)=some (1,(List.range n).map fun k=>if((2*k:Nat):Int)∈K then 1 else 0):=rfl;unfold MT.ve;rw[this]at b⊢;simp only[b,c9];by_cases c:((2*k:Nat):Int)∈K
 ·rw[if_neg (by rw[aX (fun h=>h c)];simp),if_neg (fun h=>h c)];rfl
 ·rw[if_pos (by rw[aU c]),if_pos c];unfold nB;congr 2;refine List.ext_getElem (by simp) fun i m o=>?_;rw[List.getElem_set];simp only[List.getElem_map,List.getElem_range,List.mem_append,aK];by_cases e:k=i
  ·subst e;simp
  ·rw[if_neg e];have: ¬((2*i:Nat):Int)=((2*k:Nat):Int):=by omega
   simp only[this,or_false]
theorem Lt (h:HR w a fp (some s)) (b:s.Ok):Cs Tryz.prog 275 [.pointer a] w fun v w'=> ∃p S,v=.pointer p∧Aw w.heap.size w' p S (nB (32*s.B.length) [])∧ae [] w w':=by
 have q:=b.b2;have j:=b.jd;refine en [] ?_;refine gO ?_;refine aH (gC h) ?_;have k:IntKind.i64.wrap (((s.B.length:Nat):Int)*64)=((64*s.B.length:Nat):Int):=by rw[IntWalk.i64_in _ (by omega)];omega
 have l:(((64*s.B.length:Nat):Int)).tdiv 2=((32*s.B.length:Nat):Int):=by rw[Int.tdiv_eq_ediv_of_nonneg (by omega)];omega
 have m:IntKind.i64.wrap ((32*s.B.length:Nat):Int)=((32*s.B.length:Nat):Int):=IntWalk.i64_in _ (by omega);refine eZ (show cJ (some s)=s.B.length from rfl) k l m ?_;refine aw (u' w ((32*s.B.length:Nat):Int) 1) ?_;rintro _ r ⟨p,S,rfl,d,o⟩;rw[Jc _ (by omega) (by omega)]at d⊢;refine gO ?_;exact⟨p,S,rfl,d,o⟩
theorem sq (h:HR w a fp (some s)) (j:s.Ok) (m:iF w p S (nB (32*s.B.length) K)) (x:Int) (o:x≤4611686018427387904):
  Cs Tryz.prog 283 [.pointer a,.pointer p,.int .i64 x] w fun v w'=>v=.bool (bE (some s) x&&decide (x∈K))∧ae [] w w':=by
 refine en [] ?_;refine gO ?_;refine aM (yS h x o) fun u b=>?_;cases q:bE (some s) x with
 |false=>
  refine gO ?_;exact⟨by simp,b⟩
 |true=>
  obtain⟨k,rfl,r⟩:=(dH j).1 q;have l:k<32*s.B.length:=by have:=(j.start r).1;have:=j.sl;omega
  have t:(((2*k:Nat):Int)).tdiv 2=((k:Nat):Int):=by rw[Int.tdiv_eq_ediv_of_nonneg (by omega)];omega
  refine aZ t (IntWalk.i64_in ((k:Nat):Int) (by omega)) ?_;refine aM (uV (m.keep b fun _ _=>by simp) ((k:Nat):Int)) fun y d=>?_;rw[Jb l];by_cases c:((2*k:Nat):Int)∈K
  ·refine aQ (eq_true c) ?_
   try rw[aU c]
   exact⟨rfl,b.nil d⟩
  ·refine aQ (eq_false c) ?_
   try rw[aX c]
   exact⟨rfl,b.nil d⟩
theorem Sv (h:HR w a fp (some s)) (m:s.Ok) (q:iF w p S (nB (32*s.B.length) K)) (x:Int) (r:x≤4611686018427387904):
  Cs Tryz.prog 385 [.pointer a,.pointer p,.int .i64 x] w fun v w'=>v=.bool (bE (some s) x&&decide (x∉K))∧iF w' p S (nB (32*s.B.length) (if bE (some s) x=true∧x∉K then K++[x]else K))∧ae S w w':=by
 refine en [] ?_;refine gO ?_;refine aM (yS h x r) fun z b=>?_;have d:=q.keep b fun _ _=>by simp
 cases t:bE (some s) x with
 |false=>
  refine gO ?_;refine⟨by simp,?_,b.mono (by simp)⟩;rw[if_neg (by simp)];exact d
 |true=>
  obtain⟨k,rfl,u⟩:=(dH m).1 t;have j:k<32*s.B.length:=by have:=(m.start u).1;have:=m.sl;omega
  have y:(((2*k:Nat):Int)).tdiv 2=((k:Nat):Int):=by rw[Int.tdiv_eq_ediv_of_nonneg (by omega)];omega
  refine aZ y (IntWalk.i64_in ((k:Nat):Int) (by omega)) ?_;refine aw (No d ((k:Nat):Int) 0 1) ?_;rintro _ B ⟨rfl,l,o⟩;rw[(zE j).1];rw[(zE j).2]at l;refine gO ?_;refine⟨by simp,?_,(b.of_nil).same o⟩;simpa using l
end
section
set_option maxRecDepth 8000
theorem YI {w:World} {b o:Nat} {cs:List Value} {vL:Value} {L:List Int} {k:List Nat} (x:Int) (j:At w b cs) (M:o<cs.length) (N:cs[o]? =some vL) (D:Sl w 1 vL L.length (ints L) k) (G:b∉k) (W:L.length≤4096):
  Cs Tryz.prog 386 [.pointer (some ⟨b,o,none⟩),.int .i64 x] w fun _ w'=>ae (b::k) w w'∧ ∃H l,At w' b (cs.set o H)∧Sl w' 1 H (L++[x]).length (ints (L++[x])) l∧ ∀y,y∈l→y∈k∨w.heap.size≤y:=by
 obtain⟨O,P,rfl⟩:=D.val;have Q:w.cell? ⟨b,o,none⟩=some (.slice O L.length P):=by rw[j.cell];exact N
 refine en [] ?_;refine aQ Q ?_;rw[ag rfl rfl];refine gO ?_;refine eJ fun q X Y R m r=>?_;refine gO ?_;refine eM (D.ab r) (bn.at (us:=[.int .i64 x]) m rfl) (by simp[bh]) (by omega) (by omega) ?_;intro I S J t u E _;have T:=D.lt;have U:=j.lt;have K:ae k w S:=(r.of_nil).trans E fun y d=>.inl d;have z:b∉J:=fun h=>by
  rcases u with e|e<;>rw[e]at h
  ·exact G h
  ·simp only[aK]at h;omega
 have F:bh I=true:=by obtain⟨Z,c2,rfl⟩:=t.val;rfl
 refine gO ?_;refine fJ (j.keep K G) M F fun w3 V B C=>?_;refine gO ?_;refine⟨(K.jV fun y d=>by simp[d]).same (C.jV (by simp)),I,J,B,?_,fun y d=>?_⟩
 ·rw[cH,ba];exact t.keep C fun y d e=>by simp only[aK]at e;subst e;exact z d
 ·rcases u with e|e<;>rw[e]at d
  ·exact .inl d
  ·simp only[aK]at d;right;omega
structure rQ (w:World) (mb:Nat) (hp:Addr) (p:Option Addr) (T:List Nat) (nb:Nat) (K L:List Int) (n:Nat) (fL:List Nat):Prop where
 m: ∃vL rd dp,At w mb [.pointer (some hp),.pointer p,vL,.int .i64 0,.int .i64 4096,.bool false,.int .i64 (n:Int),.int .i64 0,.int .i64 0,.int .i64 rd,.int .i64 dp]∧Sl w 1 vL L.length (ints L) fL
 Bo:iF w p T (nB nb K)
 d1:mb∉T
 d2:mb∉fL
 d3: ∀y,y∈T→y∉fL
section
variable {w w':World} {mb nb n:Nat} {hp:Addr} {p:Option Addr} {T fL:List Nat} {K L:List Int}
theorem rQ.keep {S:List Nat} (h:rQ w mb hp p T nb K L n fL) (o:ae S w w') (b: ∀y,y∈mb::(T++fL)→y∉S):rQ w' mb hp p T nb K L n fL:=by
 obtain⟨vL,rd,j,k,l⟩:=h.m;exact⟨⟨vL,rd,j,k.keep o (b _ (by simp)),l.keep o fun y d=>b y (by simp[d])⟩,h.Bo.keep o fun y d=>b y (by simp[d]),h.d1,h.d2,h.d3⟩
theorem rQ.ab (h:rQ w mb hp p T nb K L n fL) (o:ae [] w w'):rQ w' mb hp p T nb K L n fL:=h.keep o fun _ _=>by simp
theorem rQ.lt (h:rQ w mb hp p T nb K L n fL): ∀y,y∈mb::(T++fL)→y<w.heap.size:=by
 obtain⟨vL,rd,k,d,j⟩:=h.m;intro y b;simp only[List.mem_cons,List.mem_append]at b;rcases b with rfl|b|b
 ·exact d.lt
 ·exact h.Bo.lt y b
 ·exact j.lt y b
end
def yn (s:HL) (x:Int) (K:List Int):List Int:=if bE (some s) x=true∧x∉K then K++[x]else K
def wI (s:HL) (x:Int) (K L:List Int):List Int:=if bE (some s) x=true∧x∉K then L++[x]else L
theorem Ac {w:World} {k n:Nat} {I:Addr} {p:Option Addr} {T l U:List Nat} {K L:List Int} {s:HL} (W:HR w (some I) U (some s)) (X:s.Ok) (h:rQ w k I p T (32*s.B.length) K L n l) (hd: ∀y,y∈U→y∉k::(T++l)) (x:Int) (Y:x≤4611686018427387904) (hl:L.length≤4000):
  Cs Tryz.prog 276 [.pointer (some ⟨k,0,none⟩),.int .i64 x] w fun v w'=>v=.bool (bE (some s) x&&decide (x∉K))∧ae (k::(T++l)) w w'∧
   ∃C,rQ w' k I p T (32*s.B.length) (yn s x K) (wI s x K L) n C∧ ∀y,y∈C→y∈l∨w.heap.size≤y:=by
 have D:=h.lt;obtain⟨vL,rd,Z,J,h2⟩:=h.m;have M:=J.drew;refine en [0,0,0] ?_;refine aZ M.cell J.cell ?_;refine aw (Sv (W.ab (ae.drew [] w)) X (h.Bo.keep (ae.drew [] w) fun _ _=>by simp) x Y) ?_;rintro _ r ⟨rfl,E,N⟩;have F:ae T w r:=((ae.drew T w)).same N;have t:=J.keep F h.d1;have u:=h2.keep F fun y b O=>h.d3 y O b;by_cases c:bE (some s) x=true∧x∉K;rotate_left
 ·have e:(bE (some s) x&&decide (x∉K))=false:=by
   cases e1:bE (some s) x with
   |false=>rfl
   |true=>rw[aX fun e2=>c ⟨e1,e2⟩];rfl
  rw[e];refine gO ?_;refine⟨F.mono fun y b=>.inl (by simp[b]),l,⟨⟨vL,rd,Z,t,?_⟩,?_,h.d1,h.d2,h.d3⟩,fun y b=>.inl b⟩
  ·unfold wI;rw[if_neg c];exact u
  ·exact E
 have e:(bE (some s) x&&decide (x∉K))=true:=by rw[c.1,aU c.2];rfl
 rw[e];have m:=t.drew;obtain⟨a0,c0,rfl⟩:=u.val;refine cT m.cell t.cell (cU (show¬((L.length:Nat):Int)=4096 by omega)) ?_;refine aw (YI x m (by simp) (vL:=.slice a0 L.length c0) rfl (u.ab (ae.drew [] r)) h.d2 (by omega)) ?_;rintro _ P ⟨z,v2,Q,o,G,R⟩;have z1:=F.size;have z2:=z.size;have d: ∀y,y∈Q→y∈l∨w.heap.size≤y:=fun y b=>(R y b).imp id fun h=>by have:r.drew.heap.size=r.heap.size:=rfl;omega
 have q:k∉Q:=fun b=>(d k b).elim h.d2 fun h=>by have:=D k (by simp);omega
 obtain⟨a2,c2,rfl⟩:=G.val;have j:=o.drew;refine aZ j.cell o.cell ?_;refine fJ j (by simp) rfl fun V qt H B=>?_;refine gO ?_;have S:ae (k::(T++l)) w V:=(F.mono fun y b=>.inl (by simp[b])).same (((ae.drew _ r).same (z.mono fun y b=>.inl (by simp only[List.mem_cons]at b⊢;rcases b with b|b<;>simp[b]))).same ((ae.drew _ P).same (B.jV (by simp))));refine⟨S,Q,⟨⟨_,_,_,H,?_⟩,?_,h.d1,q,?_⟩,d⟩
 ·unfold wI;rw[if_pos c];exact(G.ab (ae.drew [] P)).keep B fun y b e=>by simp only[aK]at e;subst e;exact q b
 ·unfold yn;have o3:ae (k::l) r V:=((ae.drew _ r).same z).same ((ae.drew _ P).same (B.jV (by simp)));exact E.keep o3 fun y b e=>by
   rcases List.mem_cons.1 e with e|e
   ·subst e;exact h.d1 b
   ·exact h.d3 y b e
 ·intro y b e;rcases d y e with e|e
  ·exact h.d3 y b e
  ·have:=D y (by simp[b]);omega
end
end Go.Proofs.YthamnonkfepafaaGreat
