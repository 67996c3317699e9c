/- The law FinalNoneLeft: whatever comes in, it returns true, and what came in reads as it did. -/
import Derived.Test.YthamnonkfepafaaGreatZPk4
import Derived.ProofKit
import Derived.Deep.Slices
import Derived.Lib.SmallJoins
import Derived.Test.YthamnonkfepafaaGreatRows
import Derived.OpenShut
import Derived.Deep.Strs
import Derived.Test.YthamnonkfepafaaGreatChecked
import Derived.JoinedOf
import Derived.KernelRfl
set_option linter.unusedSimpArgs false
set_option linter.unusedVariables false
namespace Go.Proofs.YthamnonkfepafaaGreat
set_option maxRecDepth 100000
section
set_option maxRecDepth 8000
variable {s:HL} {x:Int} {K L:List Int} {fL:List Nat} {R:Rt.MS} {w:World}
theorem HY {b o:Nat} {cs:List Value} {vL:Value} (t:At w b cs) (J:o<cs.length) (C:cs[o]? =some vL) (F:Sl w 1 vL (L++[x]).length (ints (L++[x])) fL) (K:b∉fL) (V:L.length≤4096):
  Cs Tryz.prog 430 [.pointer (some ⟨b,o,none⟩)] w fun r w'=>r=.int .i64 x∧ae [b] w w'∧ ∃G,At w' b (cs.set o G)∧Sl w' 1 G L.length (ints L) fL:=by
 rw[cH,List.length_singleton]at F;obtain⟨g,l,ys,rfl,m,D,d⟩: ∃g l ys,vL=.slice (some ⟨g,0,none⟩) (L.length+1) l∧At w g (ints (L++[x])++ys)∧fL=[g]∧(ints (L++[x])++ys).length=l:=by
  rcases F.2 with⟨_,W,_⟩|⟨g,H,ys,T,M,N,O,P,X⟩
  ·omega
  ·cases M;exact⟨g,_,ys,rfl,⟨T,O⟩,N,by simpa using P⟩
 subst D;have E:L.length+1≤l:=by rw[←d,cH,ax,cH];simp
 have Q:w.cell? ⟨b,o,none⟩=some (.slice (some ⟨g,0,none⟩) (L.length+1) l):=by rw[t.cell];exact C
 have q:=t.drew;have u:w.drew.cell? ⟨b,o,none⟩=some (.slice (some ⟨g,0,none⟩) (L.length+1) l):=by rw[q.cell];exact C
 have R:w.drew.cell? ⟨g,L.length,none⟩=some (.int .i64 x):=by
  rw[m.drew.cell,ba,List.append_assoc,List.getElem?_append_right (by rw[ax];omega),ax,Nat.sub_self];rfl
 have I:IntKind.i64.wrap (((L.length+1:Nat):Int)-1)=(L.length:Int):=by rw[IntWalk.i64_in _ (by omega)];omega
 have S:(0:Int)≤(L.length:Int)∧(L.length:Int)<((L.length+1:Nat):Int):=by omega
 refine en [0,0] ?_;refine k7 u Q I (eq_true S) @Int.toNat_natCast @Nat.mul_one R ?_;have j:=q.drew;have y:w.drew.drew.cell? ⟨b,o,none⟩=some (.slice (some ⟨g,0,none⟩) (L.length+1) l):=by rw[j.cell];exact C
 refine cT y u I ?_;rw[Aa (show L.length≤l by omega)];refine gO ?_;refine fJ j J rfl fun Y U z B=>?_;refine gO ?_;refine⟨((ae.drew _ w).same (ae.drew _ _)).same B,_,z,?_⟩;have k:=(m.drew.drew).keep B fun e=>by simp only[aK]at e;subst e;exact K (by simp)
 rw[ba,List.append_assoc]at k d;exact Sl.wH k (by rw[ax]) d
def pc (s:HL):List Int→List Int×List Int→List Int×List Int
 | [],q=>q
 |y::Y,q=>pc s Y (yn s y q.1,wI s y q.1 q.2)
theorem jc (s:HL) (y:Int): ∀(Y:List Int) (q:List Int×List Int),pc s (Y++[y]) q=(yn s y (pc s Y q).1,wI s y (pc s Y q).1 (pc s Y q).2)
 | [],_=>rfl
 |z::Y,q=>by simp only[List.cons_append,pc];exact jc s y Y _
structure wJ (s:HL) (Y K L M:List Int):Prop where
 e:pc s Y (K,L)=(K++M,L++M)
 m: ∀y,y∈M→y∈Y∧cI s y∧y∉K
 nd:M.Nodup
 c: ∀y,y∈Y→cI s y→y∈K++M
theorem kN (h:s.Ok):bE (some s) x=true↔cI s x:=dH h
theorem pd {s:HL} (h:s.Ok) (K L:List Int): ∀(n:Nat) (Y:List Int),Y.length=n→ ∃M,wJ s Y K L M
 |0,Y,k=>⟨[],by
  have:Y=[]:=List.length_eq_zero_iff.1 k
  subst this
  exact⟨by simp[pc],fun y m=>absurd m (by simp),List.nodup_nil,fun y m=>absurd m (by simp)⟩⟩
 |n+1,Y,k=>by
  obtain⟨o,y,rfl⟩: ∃o y,Y=o++[y]:=by
   rcases List.eq_nil_or_concat Y with e|⟨a,b,e⟩
   ·subst e;simp at k
   ·exact⟨a,b,by simpa using e⟩
  obtain⟨M,q,r,t,u⟩:=pd h K L n o (by simpa using k);by_cases c:bE (some s) y=true∧y∉K++M
  ·refine⟨M++[y],?_,?_,?_,?_⟩
   ·rw[jc,q];unfold yn wI;simp only;rw[if_pos c,if_pos c,List.append_assoc,List.append_assoc]
   ·intro z j;rcases List.mem_append.1 j with j|j
    ·obtain⟨a,b,d⟩:=r z j;exact⟨by simp[a],b,d⟩
    ·simp only[aK]at j;subst j;exact⟨by simp,(kN h).1 c.1,fun e=>c.2 (by simp[e])⟩
   ·rw[List.nodup_append];refine⟨t,by simp,fun a B b w e=>?_⟩;simp only[aK]at w;subst w;subst e;exact c.2 (by simp[B])
   ·intro z j l;rcases List.mem_append.1 j with j|j
    ·have:=u z j l;rw[←List.append_assoc];exact List.mem_append.2 (.inl this)
    ·rw[←List.append_assoc];exact List.mem_append.2 (.inr j)
  ·refine⟨M,?_,fun z j=>?_,t,fun z j l=>?_⟩
   ·rw[jc,q];unfold yn wI;simp only;rw[if_neg c,if_neg c]
   ·obtain⟨a,b,d⟩:=r z j;exact⟨by simp[a],b,d⟩
   ·rcases List.mem_append.1 j with j|j
    ·exact u z j l
    ·simp only[aK]at j;subst j;exact Decidable.byContradiction fun e=>c ⟨(kN h).2 l,e⟩
theorem wJ.le {Y M:List Int} (h:wJ s Y K L M) (j:K.Nodup) (k: ∀x,x∈K→cI s x):(K++M).length≤s.aj.length:=by
 refine eN ?_ fun x d=>(List.mem_append.1 d).elim (k x) fun d=>(h.m x d).2.1;rw[List.nodup_append];exact⟨j,h.nd,fun a l b o e=>(h.m b o).2.2 (e▸l)⟩
theorem Ab (b:s.Ok) (x:Int):(dV s x).length≤15:=by
 have:=pe b x;unfold dV;rw[List.length_drop];omega
theorem yp (m:s.Ok) (b:iP true s R) (r:cI s x): ∀y,y∈dV s x→0≤y∧y≤4096:=by
 intro y d;obtain⟨k,rfl,o⟩:=r;unfold dV at d;rw[kO m o]at d;have l:=List.mem_of_mem_drop d;obtain⟨j,q,rfl⟩:=List.mem_iff_getElem.1 l;have:=b.ref o q;have e:s.RF k j=(s.ai k).rf[j]:=by unfold HL.RF;simp[q]
 rw[e]at this;exact this.le m
set_option maxHeartbeats 1000000 in
theorem Ox {d n:Nat} {C:Addr} {p:Option Addr} {T H:List Nat} (I:HR w (some C) H (some s)) (B:s.Ok) (J:iP true s R) (h:rQ w d C p T (32*s.B.length) K L n fL) (N: ∀y,y∈H→y∉d::(T++fL)) (x:Int) (O:cI s x) (hn:K.Nodup) (hl: ∀y,y∈K→cI s y) (hle:L.length≤K.length) (qs:s.aj.length≤2000) (hn2:n≤4000):
  Cs Tryz.prog 388 [.pointer (some ⟨d,0,none⟩),.int .i64 x] w fun _ w'=>ae (d::(T++fL)) w w'∧
   ∃D,rQ w' d C p T (32*s.B.length) (pc s (dV s x) (K,L)).1 (pc s (dV s x) (K,L)).2 (n+1) D∧ ∀y,y∈D→y∈fL∨w.heap.size≤y:=by
 have P:=h.lt;have Q:=I.lt;have hx:x≤4611686018427387904:=by obtain⟨k,rfl,hk⟩:=O;have:=gy B hk;omega
 obtain⟨vL,rd,dp,h1,h2⟩:=h.m;refine en [] ?_;refine aZ h1.cell (au n (by omega)) ?_;refine fJ h1 (by simp) rfl fun w1 pf r j=>?_;have S:rQ w1 d C p T (32*s.B.length) K L (n+1) fL:=⟨⟨vL,rd,dp,r,h2.keep j fun y b e=>by simp only[aK]at e;subst e;exact h.d2 b⟩,h.Bo.keep j fun y b e=>by simp only[aK]at e;subst e;exact h.d1 b,h.d1,h.d2,h.d3⟩;have U:=I.keep j fun y b e=>by simp only[aK]at e;subst e;exact N _ b (by simp)
 refine aQ r.cell ?_;refine aw (HZ U B x hx O) ?_;rintro v V ⟨t,fr,E,W⟩;have hYl:=Ab B x;have X:=yp B J O;generalize dV s x=Y at*;obtain⟨ar,cr,rfl⟩:=E.val;refine gO ?_;have z1:=j.size;have z2:=t.size;refine az (5::22::23::24::25::26::27::28::29::[]) (fun g w'=> ∃(i:Nat) (F:List Nat),g 22=.int .i64 (i:Int)∧i≤Y.length∧ae (d::(T++fL)) V w'∧rQ w' d C p T (32*s.B.length) (pc s (Y.take i) (K,L)).1 (pc s (Y.take i) (K,L)).2 (n+1) F∧ ∀y,y∈F→y∈fL∨V.heap.size≤y) (fun g _=>bw Y.length 22 g)
  ⟨0,fL,by simp only[go_sem];rfl,by omega,ae.refl _ _,S.ab t,fun y b=>.inl b⟩ fun g w3 hI u=>?_
 obtain⟨i,F,l,hi,m,z,o⟩:=hI;have o3:ae (d::(T++fL)) w w3:=((j.jV (by simp)).nil t).same m;by_cases Z:i<Y.length;rotate_left
 ·refine aZ l (aX (show¬(i:Int)<(Y.length:Int) by omega)) ?_;rw[List.take_of_length_le (by omega)]at z;exact⟨o3,F,z,fun y b=>(o y b).imp id fun h=>by omega⟩
 have TI: ∀y,y∈fr→y∉d::(T++fL):=fun y b e=>by have:=W y b;have:=P y e;omega
 obtain⟨gr,_,yr,er,G,_,_⟩:=(E.keep m TI).pos (by omega);cases er;have ci:(0:Int)≤(i:Int)∧(i:Int)<(Y.length:Int):=by omega
 have vr:w3.cell? ⟨gr,i,none⟩=some (.int .i64 (Y.getD i 0)):=by rw[G.cell];exact aG yr (by omega)
 have hYi:Y.getD i 0∈Y:=by simp[Z]
 have hb:=X _ hYi;refine k0 l (aU ci.2) (eq_true ci) @Int.toNat_natCast @Nat.mul_one vr ?_;obtain⟨M,hM⟩:=pd B K L (Y.take i).length (Y.take i) rfl;have Oy:=hM.le hn hl;have SI: ∀y,y∈H→y∉d::(T++F):=fun y b e=>by
  simp only[List.mem_cons,List.mem_append]at e;have q:=N y b;simp only[List.mem_cons,List.mem_append,not_or]at q;rcases e with e|e|e
  ·exact q.1 e
  ·exact q.2.1 e
  ·rcases o y e with e|e
   ·exact q.2.2 e
   ·have:=Q y b;omega
 refine aw (Ac (I.keep o3 N) B z SI (Y.getD i 0) (by omega) ?_) ?_
 ·rw[hM.e];simp only[cH]at Oy⊢;omega
 rintro _ w4 ⟨rfl,iV,f4,H0,Jj⟩;have z3:=m.size;have o34:ae (d::(T++fL)) V w4:=m.trans iV fun y b=>by
  simp only[List.mem_cons,List.mem_append]at b;rcases b with b|b|b
  ·exact .inl (by simp[b])
  ·exact .inl (by simp[b])
  ·exact(o y b).imp (fun h=>by simp[h]) id
 refine aZ l (au i (by omega)) ?_;refine u _ w4 ⟨i+1,f4,?_,by omega,o34,?_,fun y b=>(Jj y b).elim (o y) fun h=>.inr (by omega)⟩ ?_
 ·simp only[go_sem]
 ·rw[List.take_succ_eq_append_getElem Z,jc];have e:Y[i]=Y.getD i 0:=by simp[Z]
  rw[e];exact H0
 ·exact aJ l
end
section
variable {hp:Addr} {s:HL} {F K K0 L M O:List Int} {T fL Ln fh:List Nat} {mb:Nat} {p:Option Addr} {R:Rt.MS} {w w0:World}
structure Mk (s:HL) (F K O:List Int):Prop where
 nd:K.Nodup
 e9: ∀x,x∈K→cI s x
 sub: ∀x,x∈O→x∈K
 Ad: ∀x,x∈K→x∉O→ ∀y,y∈aY (some s) x→cI s y→y∈K
 ind: ∀P,Ns s F P→ ∀x,x∈K→P x
theorem Mk.none (s:HL) (F:List Int):Mk s F [] []:=⟨List.nodup_nil,fun _ h=>absurd h (by simp),fun _ h=>absurd h (by simp),fun _ h=>absurd h (by simp),fun _ _ _ h=>absurd h (by simp)⟩
theorem Mk.len (h:Mk s F K O):K.length≤s.aj.length:=eN h.nd h.e9
theorem Mk.reach {Y:List Int} (h:Mk s F K O) (j:wJ s Y K O M) (m: ∀P,Ns s F P→ ∀y,y∈Y→cI s y→P y):Mk s F (K++M) (O++M) where
 nd:=by rw[List.nodup_append];exact⟨h.nd,j.nd,fun a o b q e=>(j.m b q).2.2 (e▸o)⟩
 e9:=fun x d=>(List.mem_append.1 d).elim (h.e9 x) fun d=>(j.m x d).2.1
 sub:=fun x d=>List.mem_append.2 ((List.mem_append.1 d).imp (h.sub x) id)
 Ad:=fun x d k y r t=>by
  rcases List.mem_append.1 d with d|d
  ·exact List.mem_append.2 (.inl (h.Ad x d (fun e=>k (List.mem_append.2 (.inl e))) y r t))
  ·exact absurd (List.mem_append.2 (.inr d)) k
 ind:=fun P l x d=>(List.mem_append.1 d).elim (h.ind P l x) fun d=>m P l x (j.m x d).1 (j.m x d).2.1
theorem Mk.scan {x:Int} (o:s.Ok) (z0:s.st.getD 0 0≠1) (h:Mk s F K (O++[x])) (k:wJ s (dV s x) K O M):Mk s F (K++M) (O++M) where
 nd:=by rw[List.nodup_append];exact⟨h.nd,k.nd,fun a t b u e=>(k.m b u).2.2 (e▸t)⟩
 e9:=fun x j=>(List.mem_append.1 j).elim (h.e9 x) fun j=>(k.m x j).2.1
 sub:=fun x j=>List.mem_append.2 ((List.mem_append.1 j).imp (fun e=>h.sub x (by simp[e])) id)
 Ad:=fun z d q y r l=>by
  rcases List.mem_append.1 d with d|d
  ·by_cases c:z=x
   ·subst c;exact k.c y ((rh o l z0).2 r) l
   ·exact List.mem_append.2 (.inl (h.Ad z d (fun e=>(List.mem_append.1 e).elim (fun e=>q (List.mem_append.2 (.inl e))) fun e=>c (by simpa using e)) y r l))
  ·exact absurd (List.mem_append.2 (.inr d)) q
 ind:=fun P m z d=>(List.mem_append.1 d).elim (h.ind P m z) fun d=>by
  have j:=h.sub x (by simp)
  exact m.g x z (h.e9 x j) (h.ind P m x j) ((rh o (k.m z d).2.1 z0).1 (k.m z d).1) (k.m z d).2.1
def Jk (w:World) (mb:Nat):Nat:=match w.cell? ⟨mb,6,none⟩with
 |some (.int _ i)=>i.toNat
 |_=>0
theorem rQ.n {b n:Nat} (h:rQ w mb hp p T b K L n fL):Jk w mb=n:=by
 obtain⟨vL,rd,j,d,k⟩:=h.m;unfold Jk;rw[d.cell];show(Int.toNat (n:Int))=n;omega
structure Dy (w0 w:World) (mb:Nat) (hp:Addr) (p:Option Addr) (T Ln:List Nat) (s:HL) (F K0 K L:List Int) (n:Nat) (fL:List Nat):Prop where
 m:rQ w mb hp p T (32*s.B.length) K L n fL
 k:Mk s F K L
 c:n+L.length=K.length
 sub: ∀x,x∈K0→x∈K
 o:ae (mb::(T++Ln)) w0 w
 f: ∀y,y∈fL→y∈Ln∨w0.heap.size≤y
theorem Dy.hd {n:Nat} (h:Dy w0 w mb hp p T Ln s F K0 K L n fL) (hd: ∀y,y∈fh→y∉mb::(T++Ln)) (j: ∀y,y∈fh→y<w0.heap.size): ∀y,y∈fh→y∉mb::(T++fL):=fun y d e=>by
 simp only[List.mem_cons,List.mem_append]at e
 have b:=hd y d
 simp only[List.mem_cons,List.mem_append,not_or]at b
 rcases e with e|e|e
 ·exact b.1 e
 ·exact b.2.1 e
 ·rcases h.f y e with e|e
  ·exact b.2.2 e
  ·have:=j y d;omega
theorem Dy.up {w':World} {n j:Nat} {d:List Nat} {K' L':List Int} (h:Dy w0 w mb hp p T Ln s F K0 K L n fL) (m:rQ w' mb hp p T (32*s.B.length) K' L' j d) (k:Mk s F K' L') (c:j+L'.length=K'.length) (sub: ∀x,x∈K→x∈K') (o:ae (mb::(T++fL)) w w') (f: ∀y,y∈d→y∈fL∨w.heap.size≤y):Dy w0 w' mb hp p T Ln s F K0 K' L' j d:=by
 have z:=h.o.size;refine⟨m,k,c,fun x l=>sub x (h.sub x l),h.o.trans o fun y b=>?_,fun y b=>(f y b).elim (h.f y) fun e=>.inr (by omega)⟩;simp only[List.mem_cons,List.mem_append]at b;rcases b with b|b|b
 ·exact .inl (by simp[b])
 ·exact .inl (by simp[b])
 ·exact(h.f y b).imp (fun e=>by simp[e]) id
set_option maxHeartbeats 1000000 in
theorem Lo {n:Nat} (V:HR w (some hp) fh (some s)) (W:s.Inv) (B:iP true s R) (X: ∀y,y∈fh→y∉mb::(T++fL)) (C:s.aj.length≤2000) (h0:Dy w w mb hp p T fL s F K K L n fL):
  Cs Tryz.prog 387 [.pointer (some ⟨mb,0,none⟩)] w fun _ w'=> ∃K' D E,Dy w w' mb hp p T fL s F K K' [] D E:=by
 have G:=W.ok;have H:=V.lt;refine en [] ?_;refine jb ?_;refine az (2::3::4::5::6::7::8::9::10::11::12::13::14::15::16::17::18::19::20::21::22::23::24::25::[]) (fun _ w'=> ∃K' L' D fq,Dy w w' mb hp p T fL s F K K' L' D fq) (fun _ w'=>s.aj.length-Jk w' mb)
  ⟨K,L,n,fL,h0⟩ fun g w1 hI l=>?_
 obtain⟨I,o,Y,Z,d⟩:=hI;have j:=d.m;obtain⟨vL,rd,dp,J,h2⟩:=j.m;have hlen:=d.k.len;have hc:=d.c;obtain⟨a1,c1,rfl⟩:=h2.val;by_cases cL:0<o.length;rotate_left
 ·have e:o=[]:=List.length_eq_zero_iff.1 (by omega);subst e;(repeat(first|with_reducible(first|refine nx ?_|refine bA rfl ?_)|simp only[go_sem,J.cell,List.length_nil,aX (show¬(0:Int)<((0:Nat):Int) by omega)]));exact⟨I,Y,Z,d⟩
 refine aZ J.cell (aU (show(0:Int)<(o.length:Int) by omega)) ?_;obtain⟨q,x,rfl⟩: ∃q x,o=q++[x]:=by
  rcases List.eq_nil_or_concat o with e|⟨a,b,e⟩
  ·subst e;simp at cL
  ·exact⟨a,b,by simpa using e⟩
 have hx:=d.k.e9 x (d.k.sub x (by simp));simp only[cH,List.length_singleton]at hc;refine aw (HY (x:=x) J (by simp) (vL:=.slice a1 (q++[x]).length c1) rfl h2 j.d2 (by omega)) ?_;rintro _ w2 ⟨rfl,k,v2,r,N⟩;refine gO ?_;have O:rQ w2 mb hp p T (32*s.B.length) I q Y Z:=⟨⟨v2,rd,dp,r,N⟩,j.Bo.keep k fun y m e=>by simp only[aK]at e;subst e;exact j.d1 m,j.d1,j.d2,j.d3⟩;have t:=d.hd X H;have P:=V.keep d.o X;have Q:=P.keep k fun y m e=>by simp only[aK]at e;subst e;exact t _ m (by simp)
 obtain⟨M,hM⟩:=pd G I q (dV s x).length (dV s x) rfl;refine aw (Ox Q G B O t x hx d.k.nd d.k.e9 (by omega) C (by omega)) ?_;rintro _ w3 ⟨S,f3,u,U⟩;rw[hM.e]at u;have k3:=d.k.scan G W.z0 hM;have z2:=k.size;have z:=d.up u k3 (by simp only[cH];omega) (fun y m=>by simp[m]) ((k.jV (by simp)).same S) fun y m=>(U y m).imp id fun e=>by omega
 refine gO ?_;refine l _ w3 ⟨_,_,_,f3,z⟩ ?_
 ·show s.aj.length-Jk w3 mb<s.aj.length-Jk w1 mb;rw[z.m.n,d.m.n];omega
theorem Oz {n:Nat} (m:HR w (some hp) fh (some s)) (o:s.Inv) (d:iP true s R) (q: ∀y,y∈fh→y∉mb::(T++fL)) (j:s.aj.length≤2000) (r:Dy w w mb hp p T fL s F K K L n fL):
  Cs Tryz.prog 277 [.pointer (some ⟨mb,0,none⟩)] w fun _ w'=> ∃K' t k,Dy w w' mb hp p T fL s F K K' [] t k:=by
 refine en [2,5,8,11,14,17,20,23,32,28,29,0] ?_;refine gO ?_;refine aw (Lo m o d q j r) ?_;rintro _ u ⟨z,B,C,b⟩;obtain⟨vL,rd,G,D,H⟩:=b.m.m;refine gO ?_;refine az (3::6::7::8::9::10::11::12::13::14::15::16::17::18::19::20::21::22::23::24::25::26::27::28::29::30::31::32::33::34::35::36::37::38::39::40::41::[]) (fun _ w'=>w'=u) (fun _ _=>0) rfl fun g I E l=>?_;subst E;refine aQ D.cell ?_;exact⟨z,B,C,b⟩
end
section
set_option maxRecDepth 8000
variable {hp:Addr} {s:HL} {K:List Int} {S fp:List Nat} {p:Option Addr} {R:Rt.MS} {w:World}
theorem wK (b:s.Ok) (m:iP true s R) {x:Int} (t:cI s x) (i:Nat):0≤(dE (some s) x (i:Int)).1∧(dE (some s) x (i:Int)).1≤4096:=by
 obtain⟨k,rfl,j⟩:=t;by_cases l:i<(s.ai k).rf.length
 ·rw[jt b j l];exact(m.ref j l).le b
 ·have:(br (some s) ((2*k:Nat):Int) (i:Int) false).2≠0:=by
   obtain⟨r,d,u,t,o,y,z,w,B⟩:=eX b j;have q:s.dy ((2*k:Nat):Int)=((r:Int),(d:Int),(u:Int)):=o;rw[w]at l;simp only[List.length_map,List.length_range]at l;unfold br;simp only[j5 b j,ne_eq,not_true_eq_false,if_false,cond_false,q];rw[if_pos (by omega)]
   decide
  unfold dE;simp only[if_neg this];omega
theorem OA {d j:Nat} (h:HR w (some hp) fp (some s)) (k:s.Ok) (l:iF w p S (nB (32*s.B.length) K)) (m:At w d [.pointer (some hp)]) (o:At w j [.pointer p]) (x:Int) (q:x≤4611686018427387904):
  Cs Tryz.prog 390 [.int .i64 x,.pointer (some ⟨d,0,none⟩),.pointer (some ⟨j,0,none⟩)] w fun v w'=>v=.bool (!(bE (some s) x&&decide (x∈K)))∧ae [] w w':=by
 refine en [] ?_;refine aZ m.cell o.cell ?_;refine aM (sq h k l x q) fun r b=>?_;refine gO ?_;exact b
theorem OB (h:HR w (some hp) fp (some s)) (D:s.Ok) (M:iF w p S (nB (32*s.B.length) K)) (N:s.aj.length≤2000) (Z: ∀x,x∈K→cI s x):
  Cs Tryz.prog 281 [.pointer (some hp),.pointer p] w fun v w'=>ae [] w w'∧ ∃o,Sl w' 1 v ((dX (some s)).filter fun x=>decide (x∈K)).length (ints ((dX (some s)).filter fun x=>decide (x∈K))) o∧ ∀y,y∈o→w.heap.size≤y:=by
 have E:=h.lt;have G:=M.lt;refine en [] ?_;refine gO ?_;refine bp fun O w1 P Q q r=>?_;refine gO ?_;refine bp fun R T U V t d=>?_;have b:=q.ab d;refine aQ b.cell ?_;refine aw (wL (h.ab (r.nil d))) ?_;rintro v w3 ⟨j,o,u,m⟩;obtain⟨a3,c3,rfl⟩:=u.val;have H:=(r.nil d).nil j;refine gO ?_;have z2:=d.size;have z3:=j.size;have W:=fu s;refine aw (lu (p:=fun x=>!(bE (some s) x&&decide (x∈K))) (F:=390) (caps:=#[.pointer (some ⟨O,0,none⟩),.pointer (some ⟨R,0,none⟩)]) u (by kernel_rfl) (by omega) fun w' x B I=>?_) ?_
 ·have C: ∀y,y<T.heap.size→y∉o:=fun y l e=>by have:=m y e;omega
  have X:=dK.1 I;have J:x≤4611686018427387904:=by obtain⟨k,rfl,Y⟩:=X;have:=gy D Y;omega
  exact OA ((h.ab H).keep B fun y l=>C y (by have:=E y l;omega)) D ((M.keep H fun _ _=>by simp).keep B fun y l=>C y (by have:=G y l;omega)) ((b.ab j).keep B (C _ (by omega))) ((t.ab j).keep B (C _ (by omega))) x J
 rintro v w4 ⟨L,z⟩;refine gO ?_;have e:((dX (some s)).filter fun x=>!(fun x=>!(bE (some s) x&&decide (x∈K))) x)=(dX (some s)).filter fun x=>decide (x∈K):=by
  refine List.filter_congr fun x I=>?_;have:=(kN D).2 (dK.1 I);simp[this]
 rw[e]at z;exact⟨H.trans L fun y l=>.inr (by have:=m y l;omega),o,z,fun y l=>by have:=m y l;omega⟩
def nI (s:HL) (K:List Int):List Int→List Int
 | []=>[]
 |x::l=>(if df s x=2∧fM s x∈K then [ez s x]else [])++nI s K l
theorem uS (s:HL) (K:List Int) (x:Int): ∀l,nI s K (l++[x])=nI s K l++(if df s x=2∧fM s x∈K then [ez s x]else [])
 | []=>by simp[nI]
 |y::l=>by simp only[List.cons_append,nI];rw[uS s K x l,List.append_assoc]
theorem yq {s:HL} {K:List Int} {y:Int}: ∀ {l:List Int},y∈nI s K l↔ ∃x,x∈l∧df s x=2∧fM s x∈K∧y=ez s x
 | []=>by simp[nI]
 |z::l=>by
  simp only[nI,List.mem_append,yq (l:=l),List.mem_cons]
  constructor
  ·rintro(h|⟨x,b,d⟩)
   ·split at h
    ·rename_i c
     simp only[aK]at h
     exact⟨z,.inl rfl,c.1,c.2,h⟩
    ·cases h
   ·exact⟨x,.inr b,d⟩
  ·rintro⟨x,b|b,d,j,k⟩
   ·subst b;left;rw[if_pos ⟨d,j⟩];simp[k]
   ·exact .inr ⟨x,b,d,j,k⟩
theorem tl (s:HL) (K:List Int): ∀l,(nI s K l).length≤l.length
 | []=>Nat.le_refl _
 |x::l=>by
  have:=tl s K l
  simp only[nI,cH,List.length_cons]
  split<;>simp<;>omega
set_option maxHeartbeats 1000000 in
theorem TJ (h:HR w (some hp) fp (some s)) (I:s.Ok) (J:iP true s R) (ht:iF w p S (nB (32*s.B.length) K)) (qs:s.aj.length≤2000) (Y: ∀x,x∈K→cI s x):
  Cs Tryz.prog 389 [.pointer (some hp),.pointer p] w fun v w'=>ae [] w w'∧ ∃D B,Sl w' 1 v D.length (ints D) B∧(∀y,y∈B→w.heap.size≤y)∧D.length≤2000∧ ∀y,y∈D↔ ∃x,x∈K∧df s x=2∧fM s x∈K∧y=ez s x:=by
 refine en [] ?_;refine gO ?_;refine aw (OB h I ht qs Y) ?_;rintro v w1 ⟨l,fa,F,YL⟩;obtain⟨A,hA⟩: ∃A,A=(dX (some s)).filter fun x=>decide (x∈K):=⟨_,rfl⟩;rw[←hA]at F;have G: ∀x,x∈A↔x∈K:=fun x=>by
  rw[hA,List.mem_filter];exact⟨fun h=>by simpa using h.2,fun h=>⟨dK.2 (Y x h),by simpa using h⟩⟩
 have Lp:A.length≤2000:=by
  rw[hA];have:=List.length_filter_le (fun x=>decide (x∈K)) (dX (some s));rw[fu]at this;omega
 obtain⟨aa,ca,rfl⟩:=F.val;refine gO ?_;refine az (5::7::8::9::10::11::12::13::18::19::20::21::22::23::24::25::26::27::28::29::30::31::32::33::34::35::36::37::38::39::40::41::42::43::44::45::46::47::48::49::50::51::52::53::[]) (fun g w'=> ∃(i:Nat) (B:List Nat),g 18=.int .i64 (i:Int)∧i≤A.length∧ae [] w1 w'∧Sl w' 1 (g 5) (nI s K (A.take i)).length (ints (nI s K (A.take i))) B∧ ∀y,y∈B→w1.heap.size≤y) (fun g _=>bw A.length 18 g)
  ⟨0,[],by simp only[go_sem];rfl,by omega,ae.refl _ _,by simp only[go_sem];exact Sl.iW _,fun y o=>absurd o (by simp)⟩ fun g w2 hI m=>?_
 obtain⟨i,B,j,hi,d,r,t⟩:=hI;by_cases c1:i<A.length;rotate_left
 ·refine aZ j (aX (show¬(i:Int)<(A.length:Int) by omega)) ?_;rw[List.take_of_length_le (by omega)]at r;have:=tl s K A;refine⟨l.nil d,nI s K A,B,r,fun y o=>by have:=t y o;have:=l.size;omega,by omega,fun y=>?_⟩;rw[yq];exact⟨fun⟨x,a,b⟩=>⟨x,(G x).1 a,b⟩,fun⟨x,a,b⟩=>⟨x,(G x).2 a,b⟩⟩
 obtain⟨gr,_,yr,er,L,_,_⟩:=(F.ab d).pos (by omega);cases er;have ci:(0:Int)≤(i:Int)∧(i:Int)<(A.length:Int):=by omega
 have vr:w2.cell? ⟨gr,i,none⟩=some (.int .i64 (A.getD i 0)):=by rw[L.cell];exact aG yr (by omega)
 have hv:cI s (A.getD i 0):=Y _ ((G _).1 (by simp[c1]));have u:nI s K (A.take (i+1))=nI s K (A.take i)++(if df s (A.getD i 0)=2∧fM s (A.getD i 0)∈K then [ez s (A.getD i 0)]else []):=by
  rw[List.take_succ_eq_append_getElem c1,uS];simp[c1]
 have OC:=tl s K (A.take i);rw[List.length_take]at OC;generalize A.getD i 0=x at*;have hx:x≤4611686018427387904:=by obtain⟨k,rfl,hk⟩:=hv;have:=gy I hk;omega
 have TK:=wK I J hv 0;have hr1:=wK I J hv 1;refine k0 j (aU ci.2) (eq_true ci) @Int.toNat_natCast @Nat.mul_one vr ?_;refine aw (ju (h.ab (l.nil d)) x hx) ?_;rintro _ w3 ⟨rfl,M⟩;refine gO ?_;refine bp fun q w4 hq pk N iV=>?_;refine gO ?_;refine dF (cs:=bS (aV (some s) x).1) N rfl (by simp[bS]) (dm _) fun w5 qm E jv=>?_;rw[dz]at E;have z3:=M.size;have z2:=d.size;have O:ae [] w2 w5:=M.nil (iV.trans jv fun y o=>by simp only[aK]at o;subst o;exact .inr (by omega));refine gO ?_;refine aw (rR (h.ab ((l.nil d).nil O)) x 0 hx) ?_;rintro _ w6 ⟨rfl,P⟩;have Q:w6.cell? ⟨q,2,none⟩=some (.int .i64 (df s x)):=by rw[(E.ab P).cell];rfl
 have zz:=au i (by omega);have z:=O.nil P;by_cases Z:df s x=2;rotate_left
 ·refine eZ Q (cU Z) j zz ?_;refine m _ w6 ⟨i+1,B,?_,by omega,d.nil z,?_,t⟩ ?_
  ·simp only[go_sem]
  ·simp only[go_sem];rw[u,if_neg (fun e=>Z e.1),List.append_nil];exact r.ab z
  ·exact aJ j
 have ek:(dE (some s) x 0).1=fM s x:=rfl;have ev:(dE (some s) x 1).1=ez s x:=rfl;refine cT Q (cZ Z) ek ?_;refine aM (sq (h.ab ((l.nil d).nil z)) I (ht.keep ((l.nil d).nil z) fun _ _=>by simp) (fM s x) (by rw[←ek];exact Int.le_trans TK.2 (by omega))) fun w7 kB=>?_;have C:=z.nil kB;have em:(bE (some s) (fM s x)&&decide (fM s x∈K))=decide (fM s x∈K):=by
  by_cases c:fM s x∈K
  ·rw[(kN I).2 (Y _ c)];rfl
  ·rw[aX c,Bool.and_false]
 rw[em];by_cases cm:fM s x∈K;rotate_left
 ·refine cT (aX cm) j zz ?_;refine m _ w7 ⟨i+1,B,?_,by omega,d.nil C,?_,t⟩ ?_
  ·simp only[go_sem]
  ·simp only[go_sem];rw[u,if_neg (fun e=>cm e.2),List.append_nil];exact r.ab C
  ·exact aJ j
 refine aQ (aU cm) ?_;refine aw (rR (h.ab ((l.nil d).nil C)) x 1 hx) ?_;rintro _ w8 ⟨rfl,k9⟩;(repeat(first|with_reducible(first|refine nx ?_|refine bA rfl ?_)|simp only[go_sem,ev]));rw[ag rfl rfl];refine gO ?_;refine eJ fun q9 w9 TM Dz T kC=>?_;refine gO ?_;have H:=(C.nil k9).nil kC;refine eM (r.ab H) (bn.at (us:=[.int .i64 (ez s x)]) T rfl) (by simp[bh]) (by omega) (by omega) ?_;intro v10 U f10 V W X _;have z9:=H.size;have oF:ae [] w1 U:=(d.nil H).trans X fun y o=>.inr (t y o);refine aZ j zz ?_;refine m _ U ⟨i+1,f10,?_,by omega,oF,?_,?_⟩ ?_
 ·simp only[go_sem]
 ·simp only[go_sem];rw[u,if_pos ⟨Z,cm⟩,cH,ba];exact V
 ·intro y o;rcases W with e|e<;>rw[e]at o
  ·exact t y o
  ·simp only[aK]at o;omega
 ·exact aJ j
end
section
variable {s:HL} {R:Rt.MS}
set_option maxHeartbeats 1000000 in
theorem Lq {w:World} {k n:Nat} {J:Addr} {p:Option Addr} {T m fh:List Nat} {K:List Int} (hh:HR w (some J) fh (some s)) (hs:s.Ok) (L:iP true s R) (h:rQ w k J p T (32*s.B.length) K [] n m) (hd: ∀y,y∈fh→y∉k::(T++m)) (qs:s.aj.length≤2000) (hn:K.Nodup) (hK: ∀x,x∈K→cI s x):
  Cs Tryz.prog 278 [.pointer (some ⟨k,0,none⟩)] w fun v w'=> ∃(b:Bool) (D M:List Int) (N:List Nat),v=.bool b∧(b=false↔M=[])∧wJ s D K [] M∧(∀y,y∈D↔ ∃x,x∈K∧df s x=2∧fM s x∈K∧y=ez s x)∧
   rQ w' k J p T (32*s.B.length) (K++M) M n N∧ae (k::(T++m)) w w'∧ ∀y,y∈N→y∈m∨w.heap.size≤y:=by
 have wg:=h.lt;have hhl:=hh.lt;obtain⟨vL,rd,dp,h1,h2⟩:=h.m;refine en [2,5,8,11,14,17,20,23,32,28,29,0] ?_;refine aQ h1.cell ?_;refine fJ h1 (by simp) rfl fun I pf B q=>?_;have O:rQ I k J p T (32*s.B.length) K [] n m:=⟨⟨vL,_,dp,B,h2.keep q fun y d e=>by simp only[aK]at e;subst e;exact h.d2 d⟩,h.Bo.keep q fun y d e=>by simp only[aK]at e;subst e;exact h.d1 d,h.d1,h.d2,h.d3⟩;have hh1:=hh.keep q fun y d e=>by simp only[aK]at e;subst e;exact hd _ d (by simp)
 have E:=B.drew;refine gO ?_;refine aW [k] ?_;refine aQ E.cell ?_;refine bI (TJ (hh1.ab (ae.drew [] I)) hs L (O.Bo.keep (ae.drew [] I) fun _ _=>by simp) qs hK) ?_;rintro v P ⟨Q,D,fr,S,hfr,TQ,hD⟩;refine⟨.inl rfl,?_⟩;have F:ae [] I P:=(ae.drew [] I).same Q;obtain⟨ar,cr,rfl⟩:=S.val;refine gO ?_;have z1:=q.size;have z2:=F.size;have U: ∀y,y∈fr→I.heap.size≤y:=hfr;have OD: ∀y,y∈D→y≤4611686018427387904:=fun y d=>by
  obtain⟨x,hx,_,_,rfl⟩:=(hD y).1 d;have:=wK hs L (hK x hx) 1;unfold ez;rw[show((1:Nat):Int)=1 from rfl]at this;omega
 refine az (3::5::25::26::27::28::29::30::31::32::33::34::35::[]) (fun g w'=> ∃(i:Nat) (b:Bool) (M:List Int) (V:List Nat),g 25=.int .i64 (i:Int)∧g 3=.bool b∧i≤D.length∧ae (k::(T++m)) P w'∧wJ s (D.take i) K [] M∧(b=false↔M=[])∧rQ w' k J p T (32*s.B.length) (K++M) M n V∧ ∀y,y∈V→y∈m∨P.heap.size≤y) (fun g _=>bw D.length 25 g)
  ⟨0,false,[],m,by simp only[go_sem];rfl,by simp only[go_sem],by omega,ae.refl _ _,⟨by simp[pc],fun y d=>absurd d (by simp),List.nodup_nil,fun y d=>absurd d (by simp)⟩,by simp,by rw[List.append_nil];exact O.ab F,fun y d=>.inl d⟩ fun g w3 hI r=>?_
 obtain⟨i,b,M,V,l,h3,hi,t,hM,hb,W,u⟩:=hI;have o3:ae (k::(T++m)) w w3:=((q.jV (by simp)).nil F).same t;by_cases c1:i<D.length;rotate_left
 ·refine cT l h3 (aX (show¬(i:Int)<(D.length:Int) by omega)) ?_;rw[List.take_of_length_le (by omega)]at hM;exact⟨b,D,M,V,rfl,hb,hM,hD,W,o3,fun y d=>(u y d).imp id fun h=>by omega⟩
 have TI: ∀y,y∈fr→y∉k::(T++m):=fun y d e=>by have:=U y d;have:=wg y e;omega
 obtain⟨gr,_,yr,er,X,_,_⟩:=(S.keep t TI).pos (by omega);cases er;have ci:(0:Int)≤(i:Int)∧(i:Int)<(D.length:Int):=by omega
 have vr:w3.cell? ⟨gr,i,none⟩=some (.int .i64 (D.getD i 0)):=by rw[X.cell];exact aG yr (by omega)
 have OE:D.getD i 0∈D:=by simp[c1]
 have hbx:=OD _ OE;refine k0 l (aU ci.2) (eq_true ci) @Int.toNat_natCast @Nat.mul_one vr ?_;have Oy:=hM.le hn hK;have SI: ∀y,y∈fh→y∉k::(T++V):=fun y d e=>by
  simp only[List.mem_cons,List.mem_append]at e;have z:=hd y d;simp only[List.mem_cons,List.mem_append,not_or]at z;rcases e with e|e|e
  ·exact z.1 e
  ·exact z.2.1 e
  ·rcases u y e with e|e
   ·exact z.2.2 e
   ·have:=hhl y d;omega
 refine aw (Ac (hh.keep o3 hd) hs W SI (D.getD i 0) hbx (by simp only[cH]at Oy;omega)) ?_;rintro _ w4 ⟨rfl,iV,f4,j,Jj⟩;have z3:=t.size;have Y:ae (k::(T++m)) P w4:=t.trans iV fun y d=>by
  simp only[List.mem_cons,List.mem_append]at d;rcases d with d|d|d
  ·exact .inl (by simp[d])
  ·exact .inl (by simp[d])
  ·exact(u y d).imp (fun h=>by simp[h]) id
 have C: ∀y,y∈f4→y∈m∨P.heap.size≤y:=fun y d=>(Jj y d).elim (u y) fun h=>.inr (by omega);obtain⟨M',G⟩:=pd hs K [] (D.take (i+1)).length (D.take (i+1)) rfl;have e1:D.take (i+1)=D.take i++[D.getD i 0]:=by rw[List.take_succ_eq_append_getElem c1];simp[c1]
 have o:=G.e;rw[e1,jc,hM.e]at o;simp only[List.nil_append]at o;have zz:=au i (by omega);by_cases H:bE (some s) (D.getD i 0)=true∧D.getD i 0∉K++M
 ·have ev:(bE (some s) (D.getD i 0)&&decide (D.getD i 0∉K++M))=true:=by rw[H.1,aU H.2];rfl
  unfold yn wI at j o;rw[if_pos H]at j o;rw[if_pos H]at j o;have Z:M'=M++[D.getD i 0]:=((Prod.mk.inj o).2).symm;rw[ev];refine cT l h3 zz ?_;refine r _ w4 ⟨i+1,true,M',f4,?_,?_,by omega,Y,G,?_,?_,C⟩ ?_
  ·simp only[go_sem]
  ·simp only[go_sem]
  ·rw[Z];simp
  ·rw[Z,←List.append_assoc];exact j
  ·exact aJ l
 ·have ev:(bE (some s) (D.getD i 0)&&decide (D.getD i 0∉K++M))=false:=by
   cases e:bE (some s) (D.getD i 0)with
   |false=>rfl
   |true=>rw[aX fun o=>H ⟨e,o⟩];rfl
  unfold yn wI at j o;rw[if_neg H]at j o;rw[if_neg H]at j o;have Z:M'=M:=((Prod.mk.inj o).2).symm;rw[ev];refine cT l h3 zz ?_;refine r _ w4 ⟨i+1,b,M',f4,?_,?_,by omega,Y,G,?_,?_,C⟩ ?_
  ·simp only[go_sem]
  ·simp only[go_sem,h3]
  ·rw[Z];exact hb
  ·rw[Z];exact j
  ·exact aJ l
def tm (R:Rt.MS):List Int:=(Rt.idx R).map fun j=>R.V.getD j 0
theorem uU (h:R.Ok) (x:Int):x∈tm R↔x∈Rt.bz (some R):=by
 show _↔x∈((Rt.filled R).map (·.2)).foldl Rt.dC [];rw[iq,Rt.jw h,List.map_map];simp[tm]
theorem EN (l:s.Ok) (b:iP true s R) (x:Int) (k:x∈tm R):x≤4096:=by
 unfold tm at k;obtain⟨j,o,rfl⟩:=List.mem_map.1 k;by_cases c:j<R.V.length
 ·have m:R.V.getD j 0∈R.V:=by simp[c]
  have:ur true s (R.V.getD j 0):=by
   have d:R.V.getD j 0∈R.S++R.G++R.Q:=m;simp only[List.mem_append]at d;rcases d with(h|h)|h
   ·exact b.2.1 _ h
   ·exact b.2.2.1 _ h
   ·exact b.2.2.2 _ h
  exact(this.le l).2
 ·rw[List.getD_eq_getElem?_getD,List.getElem?_eq_none (by omega)];simp
def Jl (u:Value) (o:Option Value) (v:Value):Option Value:=match o with|some x=>some (.tuple #[u,x,v])|none=>none
theorem Ae (u x v:Value):Jl u (some x) v=some (.tuple #[u,x,v]):=Eq.trans rfl rfl
theorem CJ (t a n u:Nat) (ρ:Env) (w:World) (R:Value→World→Prop):ku [.t t,.cN a n,.t u] ρ w R=wE (Jl (ρ t) (fG w n (ρ a)) (ρ u)) w R:=by
 unfold ku wE;simp only[uo,rO,wv];cases fG w n (ρ a)<;>rfl
attribute [go_sem] Ae CJ
end
section
variable {s:HL}
structure OF (w0 w:World) (s:HL) (R:Rt.MS) (p:Option Addr) (T:List Nat) (K:List Int):Prop where
 Bo:iF w p T (nB (32*s.B.length) K)
 new: ∀y,y∈T→w0.heap.size≤y
 lx:uu s (Rt.bz (some R)) K
theorem Mk.lx {F K D:List Int} (h:Mk s F K []) (k: ∀x,x∈F→cI s x→x∈K) (l:wJ s D K [] []) (m: ∀y,y∈D↔ ∃x,x∈K∧df s x=2∧fM s x∈K∧y=ez s x):uu s F K:=
 ⟨h.nd,h.e9,⟨k,fun x y _ d o j=>h.Ad x d (by simp) y o j,fun x _ d q b j=>by
  have:=l.c (ez s x) ((m _).2 ⟨x,d,q,b,rfl⟩) j
  simpa using this⟩,h.ind⟩
set_option maxHeartbeats 1000000 in
theorem Lr {w:World} {hp:Addr} {ar:Option Addr} {fh fr:List Nat} {R:Rt.MS} (hh:HR w (some hp) fh (some s)) (hi:s.Inv) (hR:Rt.PR w ar fr (some R)) (l:R.Ok) (C:iP true s R) (U:s.aj.length≤2000):
  Cs Tryz.prog 98 [.pointer (some hp),.pointer ar,.int .i64 0,.int .i64 4096] w fun v w'=>ae [] w w'∧ ∃p T K rd dp,v=.tuple #[.pointer p,.agg ⟨[.int .i64 ((K.length:Nat):Int),.int .i64 0,.int .i64 0,.int .i64 rd,.int .i64 dp]⟩,.int .i64 0]∧OF w w' s R p T K:=by
 have hs:=hi.ok;have SE:=hs.b2;have E:=hh.lt;have m1:=l.m1;refine en [0] ?_;refine gO ?_;refine bp fun q w1 hq pf gz B=>?_;refine gO ?_;refine aH (Ls (hh.ab B) (hR.ab B)) ?_;have eg:(decide (0<cJ (some s))&&decide (0<Rt.uv (some R)))=true:=by
  rw[aU (show 0<cJ (some s) by show 0<s.B.length;omega),aU (show(0:Int)<Rt.uv (some R) by show(0:Int)<(R.M:Int);omega)];rfl
 rw[eg];refine gO ?_;refine aw (Lt (hh.ab B) hs) ?_;rintro _ w2 ⟨p,T,rfl,W,X⟩;refine gO ?_;rw[ag rfl rfl,ag rfl rfl,ag rfl rfl,ag rfl rfl];refine gO ?_;refine bp fun o w3 hmb qt lS F=>?_;have z1:=B.size;have z2:=X.size;have z3:=F.size;have TR:=W.Bo.lt;have m3:rQ w3 o hp p T (32*s.B.length) [] [] 0 []:=⟨⟨.slice none 0 0,0,0,lS,Sl.iW _⟩,W.Bo.keep F fun _ _=>by simp,fun e=>by have:=TR o e;omega,by simp,fun _ _=>by simp⟩;have o3:=(B.nil X).nil F;refine gO ?_;refine aw (Rt.yt (hR.ab o3)) ?_;rintro vP Y ⟨G,f4,pk,g4⟩;have H2:=Rt.jx l;have Lu:=Rt.jy (s:=R);have hVl:=Rt.eP l;obtain⟨aP,cP,rfl⟩:=pk.val;rw[H2];have z4:=G.size;have m4:=m3.ab G;have hT: ∀y,y∈T→w1.heap.size≤y:=W.new;have t: ∀y,y∈o::(T++([]:List Nat))→w1.heap.size≤y:=fun y d=>by
  simp only[List.mem_cons,List.append_nil]at d;rcases d with rfl|d
  ·omega
  ·exact hT y d
 have GL: ∀y,y∈fh→y∉o::(T++([]:List Nat)):=fun y d e=>by have:=E y d;have:=t y e;omega
 have Nt:=hR.lt;have TS: ∀y,y∈fr→y∉o::(T++([]:List Nat)):=fun y d e=>by have:=Nt y d;have:=t y e;omega
 have o4:=o3.nil G;have start:Dy Y Y o hp p T [] s (Rt.bz (some R)) [] [] [] 0 []:=⟨m4,Mk.none _ _,rfl,fun _ h=>h,ae.refl _ _,fun _ h=>absurd h (by simp)⟩;refine gO ?_;obtain⟨V,hV⟩: ∃V,V=tm R:=⟨_,rfl⟩;have TT:V.length=(Rt.idx R).length:=by rw[hV];unfold tm;rw[List.length_map]
 have hq:=l.lq;have H0:=l.m4;refine az (13::14::15::47::48::49::50::51::52::53::54::55::56::57::58::59::60::[]) (fun g w'=> ∃(i:Nat) (M Z:List _),g 47=.int .i64 (i:Int)∧i≤V.length∧ae (o::(T++([]:List Nat))) Y w'∧wJ s (V.take i) [] [] M∧rQ w' o hp p T (32*s.B.length) M M 0 Z∧ ∀y,y∈Z→Y.heap.size≤y) (fun g _=>bw V.length 47 g)
  ⟨0,[],[],by simp only[go_sem];rfl,by omega,ae.refl _ _,⟨by simp[pc],fun y d=>absurd d (by simp),List.nodup_nil,fun y d=>absurd d (by simp)⟩,m4,fun y d=>absurd d (by simp)⟩ fun g w5 hI r=>?_
 obtain⟨i,M,Z,H,hi5,m,hM,m5,u⟩:=hI;have I:=(hh.ab o4).keep m GL;have TU:=(hR.ab o4).keep m TS;have YM: ∀(y:Nat) (f:List Nat),(∀z,z∈f→Y.heap.size≤z)→y∈fh→y∉o::(T++f):=fun y f hf d e=>by
  have:=E y d;simp only[List.mem_cons,List.mem_append]at e;rcases e with e|e|e
  ·omega
  ·have:=hT y e;omega
  ·have:=hf y e;omega
 by_cases c1:i<V.length
 ·obtain⟨gp,YN,ep,SJ,gpf⟩:=(pk.keep m (fun y d e=>by have:=g4 y d;have:=m4.lt y e;simp only[List.mem_cons,List.append_nil]at e;rcases e with e|e;omega;have:=TR y e;omega)).place (i:=i) (by omega);cases ep;rw[Rt.j6 l (by omega)]at SJ;obtain⟨jl,YO⟩:=Rt.Af (s:=R) (i:=i) (by omega);have hVi:V.getD i 0=R.V.getD ((Rt.idx R).getD i 0) 0:=by rw[hV];unfold tm;simp[show i<(Rt.idx R).length by omega]
  have YP:V.getD i 0∈V:=by simp[c1]
  have hVb:V.getD i 0≤4096:=by rw[hV]at YP⊢;exact EN hs C _ YP
  have ci:(0:Int)≤(i:Int)∧(i:Int)<((Rt.idx R).length:Int):=by omega
  refine lY H (aU ci.2) (eq_true ci) @Int.toNat_natCast SJ ?_;refine bp fun qp w6 hqp oO kP lZ=>?_;refine gO ?_;refine dF (cs:=Rt.eD (Rt.pj R ((Rt.idx R).getD i 0))) kP rfl (by simp[Rt.eD]) (by simp[Rt.eD,bh]) fun w7 uw jz kB=>?_;have z5:=m.size;have SK:ae [] w5 w7:=lZ.trans kB fun y d=>.inr (by simp only[aK]at d;omega);have J:aC w7 ⟨qp,0,none⟩ 3=some (Rt.eD (Rt.pj R ((Rt.idx R).getD i 0))):=by
   have:=ay jz 0 3 (by simp[dU,Rt.eD]);rw[this];simp[dU,Rt.eD]
  refine aQ J ?_;refine aw (Rt.uV (TU.ab SK) (Rt.pj R ((Rt.idx R).getD i 0))) ?_;rintro _ w8 ⟨rfl,L⟩;rw[Bp l jl];have O:=SK.nil L;(repeat(first|with_reducible(first|refine nx ?_|refine bA rfl ?_)|simp only[go_sem,←hVi]));obtain⟨Oy⟩:Nonempty (([]++M).length≤s.aj.length):=⟨hM.le List.nodup_nil fun _ h=>absurd h (by simp)⟩;refine aw (Ac (I.ab O) hs (m5.ab O) (fun y d=>YM y Z u d) (V.getD i 0) (by omega) (by simp only[List.nil_append]at Oy;omega)) ?_;rintro _ w9 ⟨rfl,kC,f9,m9,OG⟩;have z8:=O.size;have o49:ae (o::(T++([]:List Nat))) Y w9:=(m.nil O).trans kC fun y d=>by
   simp only[List.mem_cons,List.mem_append]at d;rcases d with d|d|d
   ·exact .inl (by simp[d])
   ·exact .inl (by simp[d])
   ·exact .inr (u y d)
  obtain⟨M',YQ⟩:=pd hs [] [] (V.take (i+1)).length (V.take (i+1)) rfl;have e1:V.take (i+1)=V.take i++[V.getD i 0]:=by rw[List.take_succ_eq_append_getElem c1];simp[c1]
  have e2:=YQ.e;rw[e1,jc,hM.e]at e2;simp only[List.nil_append]at e2;have eK:=(Prod.mk.inj e2).1;have eL:=(Prod.mk.inj e2).2;rw[eK,eL]at m9;refine aZ H (au i (by omega)) ?_;refine r _ w9 ⟨i+1,M',f9,?_,by omega,o49,YQ,m9,fun y d=>(OG y d).elim (u y) fun h=>by omega⟩ ?_
  ·simp only[go_sem]
  ·exact aJ H
 have aan:V.length=(Rt.idx R).length:=TT;refine aZ H (aX (show¬(i:Int)<((Rt.idx R).length:Int) by omega)) ?_;rw[List.take_of_length_le (by omega)]at hM;have k5:Mk s (Rt.bz (some R)) M M:=by
  have:=(Mk.none s (Rt.bz (some R))).reach hM fun P hP y d hv=>hP.f y ((uU l y).1 (hV▸d)) hv;simpa using this
 have hF5: ∀x,x∈Rt.bz (some R)→cI s x→x∈M:=fun x Q hv=>by
  have:=hM.c x (hV▸(uU l x).2 Q) hv;simpa using this
 have d5: ∀y,y∈fh→y∉o::(T++Z):=fun y d=>YM y Z u d;refine aw (Oz I hi C d5 U ⟨m5,k5,by omega,fun _ h=>h,ae.refl _ _,fun y d=>.inl d⟩) ?_;rintro _ w6 ⟨K6,n6,f6,TV⟩;refine gO ?_;refine az (63::64::65::66::[]) (fun g w'=> ∃K n f,Dy w5 w' o hp p T Z s (Rt.bz (some R)) M K [] n f) (fun _ w'=>s.aj.length-Jk w' o)
  ⟨K6,n6,f6,TV⟩ fun g7 w7 hI r=>?_
 obtain⟨K7,n7,f7,j⟩:=hI;have d7:=j.hd d5 (fun y d=>by have:=E y d;have:=m.size;omega);have TW:=I.keep j.o d5;have J:=j.c;simp only[List.length_nil,Nat.add_zero]at J;refine gO ?_;refine aw (Lq TW hs C j.m d7 U j.k.nd j.k.e9) ?_;rintro _ w8 ⟨b,D,N,f8,rfl,hb,hN,hD,m8,L,Jm⟩;cases b with
 |true=>
  have TX:N≠ []:=fun e=>by have:=hb.2 e;cases this
  have k8:Mk s (Rt.bz (some R)) (K7++N) N:=by
   have:=j.k.reach hN fun P hP y d hv=>by
    obtain⟨x,Q,hk,TY,rfl⟩:=(hD y).1 d;exact hP.e x (j.k.e9 x Q) (j.k.ind P hP x Q) hk (j.k.ind P hP _ TY) hv
   simpa using this
  have z7:=j.o.size;have TZ:=j.up (K':=K7++N) (L':=N) m8 k8 (by simp only[cH];omega) (fun x Q=>by simp[Q]) L Jm;have EO:=I.keep TZ.o d5;have d8:=TZ.hd d5 (fun y d=>by have:=E y d;have:=m.size;omega);refine gO ?_;refine aw (Oz EO hi C d8 U ⟨m8,k8,by simp only[cH];omega,fun _ h=>h,ae.refl _ _,fun y d=>.inl d⟩) ?_;rintro _ w9 ⟨K9,n9,f9,k⟩;have w9w:=TZ.up k.m k.k k.c k.sub k.o k.f;have hc9:=k.c;have Nu:=yu k.sub k.k.nd k8.nd;have hk9:=k.k.len;have hNl:=List.length_pos_iff.2 TX;refine gO ?_;refine r _ w9 ⟨K9,n9,f9,w9w⟩ ?_
  ·show s.aj.length-Jk w9 o<s.aj.length-Jk w7 o;rw[k.m.n,j.m.n];simp only[cH,List.length_nil]at Nu hc9;omega
 |false=>
  have TX:N=[]:=hb.1 rfl;subst TX;rw[List.append_nil]at m8;have lx:=j.k.lx (fun x Q hv=>j.sub x (hF5 x Q hv)) hN hD;obtain⟨vL,rd,dp,h1,h2⟩:=m8.m;have YR:=h1.drew;have EP:aC w8.drew ⟨o,6,none⟩ 5=some [.int .i64 (n7:Int),.int .i64 0,.int .i64 0,.int .i64 rd,.int .i64 dp]:=ay YR 6 5 (by simp);have z7:=j.o.size;have YS:ae (o::(T++([]:List Nat))) Y w8:=by
   refine(m.trans j.o fun y d=>?_).trans L fun y d=>?_
   ·simp only[List.mem_cons,List.mem_append]at d;rcases d with d|d|d
    ·exact .inl (by simp[d])
    ·exact .inl (by simp[d])
    ·exact .inr (u y d)
   ·simp only[List.mem_cons,List.mem_append]at d;rcases d with d|d|d
    ·exact .inl (by simp[d])
    ·exact .inl (by simp[d])
    ·refine .inr ((j.f y d).elim (u y) fun e=>?_);have:=m.size;omega
  have H3:q∉o::(T++([]:List Nat)):=fun e=>by have:=t q e;omega
  have Ag:=(((gz.ab X).ab F).ab G).keep YS H3;refine aZ YR.cell EP ?_;refine dF (cs:=[.int .i64 (n7:Int),.int .i64 0,.int .i64 0,.int .i64 rd,.int .i64 dp]) Ag.drew rfl (by simp) (by simp[bh]) fun rS Ah yv S=>?_;have T0:aC rS ⟨q,0,none⟩ 5=some [.int .i64 (n7:Int),.int .i64 0,.int .i64 0,.int .i64 rd,.int .i64 dp]:=ay yv 0 5 (by simp[dU]);refine aQ T0 ?_;have oF:ae [] w rS:=(o4.trans YS fun y d=>.inr (by have:=t y d;omega)).trans ((ae.drew [q] w8).same S) fun y d=>.inr (by simp only[aK]at d;omega);refine⟨oF,p,T,K7,rd,dp,?_,⟨m8.Bo.keep ((ae.drew [q] w8).same S) fun y d e=>?_,fun y d=>by have:=hT y d;omega,lx⟩⟩
  ·rw[←J]
  ·simp only[aK]at e;subst e;exact H3 (by simp[d])
end
section
set_option maxRecDepth 8000
variable {s s1:HL} {kd:Int} {keep:Int→Bool} {C rf:List Int} {k:Nat}
theorem Jn {w:World} {a p:Option Addr} {fp S:List Nat} {K:List Int} (h:HR w a fp (some s)) (j:s.Ok) (k:iF w p S (nB (32*s.B.length) K)):Cs Tryz.prog 280 [.pointer a,.pointer p] w fun v w'=>v=.bool true∧ae [] w w':=by
 have y:=j.b2;have m:=j.jd;refine en [] ?_;refine gO ?_;refine aH (gC h) ?_;have l:cJ (some s)=s.B.length:=rfl;have o:IntKind.i64.wrap (((s.B.length:Nat):Int)*64)=((64*s.B.length:Nat):Int):=by rw[IntWalk.i64_in _ (by omega)];omega
 have q:(((64*s.B.length:Nat):Int)).tdiv 2=((32*s.B.length:Nat):Int):=by rw[Int.tdiv_eq_ediv_of_nonneg (by omega)];omega
 have r:IntKind.i64.wrap ((32*s.B.length:Nat):Int)=((32*s.B.length:Nat):Int):=IntWalk.i64_in _ (by omega);refine aZ l (aU (show(0:Int)<((s.B.length:Nat):Int) by omega)) ?_;refine aM (H4 k) fun z b=>?_;have t:(nB (32*s.B.length) K).width=1:=rfl;have u:(nB (32*s.B.length) K).entries=32*s.B.length:=by simp[nB,MT.entries]
 refine aZ t (cZ (show((1:Nat):Int)=1 from rfl)) ?_;refine aM (CK (k.keep b fun _ _=>by simp)) fun B d=>?_;refine gO ?_;refine aH (gC (h.ab (b.nil d))) ?_;refine k0 l o q r u (cZ (rfl:((32*s.B.length:Nat):Int)=((32*s.B.length:Nat):Int))) ?_;exact b.nil d
structure Jo (s s':HL) (k i:Nat):Prop where
 inv:s'.Inv
 jR:iG s s'
 ob: ∀j,s.st.getD j 0=1→s'.ai j=if j=k then {s.ai k with rf:=gQ (s.ai k).sh.2.2 i (s.ai k).rf}else s.ai j
theorem Jo.zero (h:s.Inv) (k:Nat):Jo s s k 0:=⟨h,iG.refl s,fun j _=>by
 by_cases c:j=k
 ·subst c;rw[if_pos rfl,tn]
 ·rw[if_neg c]⟩
theorem Jo.step {i:Nat} (h:Jo s s1 k i) (y:s.st.getD k 0=1) (C:i<(s.ai k).rf.length) (b:bM (s.ai k).sh.2.2 i=true):dE (some s1) ((2*k:Nat):Int) (i:Int)=((s.ai k).rf.getD i 0,0)∧ ∃q,bj (some s1) ((2*k:Nat):Int) (i:Int) 0=some q∧Jo s q k (i+1):=by
 have d:s1.st.getD k 0=1:=by rw[h.jR.st];exact y
 have r:=h.ob k y;rw[if_pos rfl]at r;have D:(s1.ai k).rf.length=(s.ai k).rf.length:=by rw[r];exact bx _ _ _
 refine⟨?_,?_⟩
 ·rw[jt h.inv.ok d (by omega),r];simp only;rw[dc C,if_neg (by omega)]
 obtain⟨q,l, -⟩:=gV h.inv.ok ((2*k:Nat):Int) (i:Int) 0;have m:=qu h.inv.ok l;refine⟨q,l,h.inv.wM l m,h.jR.trans (tp l),fun j z=>?_⟩;rw[ri h.inv.ok m d (by omega) (.inl rfl) l j (by rw[h.jR.st];exact z)];by_cases o:j=k
 ·rw[if_pos o,if_pos o,r];have E:(gQ (s.ai k).sh.2.2 i (s.ai k).rf).set i 0=gQ (s.ai k).sh.2.2 (i+1) (s.ai k).rf:=by
   refine List.gX 0 (by rw[List.length_set,bx,bx]) fun t w=>?_;rw[List.length_set,bx]at w;rw[dc w];by_cases B:i=t
   ·subst B;rw[a8 (by rw[bx];omega),if_pos ⟨by omega,b⟩]
   ·rw[aI B,dc w];by_cases u:t<i∧bM (s.ai k).sh.2.2 t=true
    ·rw[if_pos u,if_pos ⟨by omega,u.2⟩]
    ·rw[if_neg u,if_neg (fun e=>u ⟨by omega,e.2⟩)]
  rw[←E]
 ·rw[if_neg o,if_neg o,h.ob j z,if_neg o]
theorem Ai:gQ kd (dY kd) rf=gQ kd rf.length rf:=by
 refine List.gX 0 (by rw[bx,bx]) fun t b=>?_;rw[bx]at b;rw[dc b,dc b];by_cases c:bM kd t=true
 ·rw[if_pos ⟨kQ.1 c,c⟩,if_pos ⟨b,c⟩]
 ·rw[if_neg (fun e=>c e.2),if_neg (fun e=>c e.2)]
theorem Aj (h:dY kd≤rf.length):lM kd rf (dY kd)=lM kd rf rf.length:=by
 obtain⟨d,b⟩: ∃d,rf.length=dY kd+d:=⟨rf.length-dY kd,by omega⟩;rw[b];clear b h
 induction d with
 |zero=>rfl
 |succ d j=>
  rw[←Nat.add_assoc,nJ,←j,if_neg]
  ·rfl
  ·rintro⟨k,_⟩;have:=kQ.1 k;omega
theorem ER (b:s.Ok) (d:s.st.getD k 0=1):dY (s.ai k).sh.2.2≤(s.ai k).rf.length:=by
 obtain⟨l,m,j⟩:=cX b d;simp only[aS,Bool.and_eq_true,Bool.or_eq_true,decide_eq_true_eq]at j;unfold dY;split
 ·omega
 ·split<;>omega
theorem iX.zrd {j:HL} (h:iX s s1 C keep) (l:s.st.getD k 0=1) (o:((2*k:Nat):Int)∉C) (d: ¬stays keep (s.ai k)) (z:Jo s1 j k (dY (s.ai k).sh.2.2)):iX s j (C++[((2*k:Nat):Int)]) keep:=by
 have q:s1.st.getD k 0=1:=by rw[h.jR.st];exact l
 have r:s1.ai k=s.ai k:=by rw[h.ob k l,if_neg o]
 refine⟨z.inv,h.jR.trans z.jR,fun i m=>?_⟩;rw[z.ob i (by rw[h.jR.st];exact m),r];by_cases c:i=k
 ·subst c;rw[if_pos rfl,if_pos (by simp),Ai];unfold fZ;rw[if_neg d]
 ·rw[if_neg c,h.ob i m];by_cases b:((2*i:Nat):Int)∈C
  ·rw[if_pos b,if_pos (List.mem_append.2 (.inl b))]
  ·rw[if_neg b,if_neg (fun e=>(List.mem_append.1 e).elim b fun e=>c (by simp only[aK]at e;omega))]
theorem iX.same (h:iX s s1 C keep) (d:stays keep (s.ai k)):iX s s1 (C++[((2*k:Nat):Int)]) keep:=by
 refine⟨h.inv,h.jR,fun i j=>?_⟩;rw[h.ob i j];by_cases b:((2*i:Nat):Int)∈C
 ·rw[if_pos b,if_pos (List.mem_append.2 (.inl b))]
 ·rw[if_neg b];by_cases c:i=k
  ·subst c;rw[if_pos (by simp)];unfold fZ;rw[if_pos d]
  ·rw[if_neg (fun e=>(List.mem_append.1 e).elim b fun e=>c (by simp only[aK]at e;omega))]
theorem CL (s:HL) (keep:Int→Bool) (C:List Int) (x:Int):gj s keep (C++[x])=gj s keep C+if 0<lT keep (s.Lv x)then 1 else 0:=by
 unfold gj;rw[List.filter_append,cH];congr 1;by_cases c:0<lT keep (s.Lv x)
 ·rw[if_pos c,List.filter_cons_of_pos (by simpa using c)];rfl
 ·rw[if_neg c,List.filter_cons_of_neg (by simpa using c)];rfl
end
set_option maxHeartbeats 2000000 in
theorem Lw {w:World} {hp:Addr} {p:Option Addr} {fp S:List Nat} {s:HL} {R:Rt.MS} {K:List Int} (h:HR w (some hp) fp (some s)) (hi:s.Inv) (GM:iP true s R) (ht:iF w p S (nB (32*s.B.length) K)) (T1: ∀y,y∈S→y∉fp) (qs:s.aj.length≤2000) (hK: ∀x,x∈K→cI s x):
  Cs Tryz.prog 100 [.pointer (some hp),.pointer p] w fun v w'=> ∃t,v=.tuple #[.int .i64 ((gj s (kv K) ((dX (some s)).filter fun x=>decide (x∈K)):Nat):Int),.int .i64 0]∧HR w' (some hp) fp (some t)∧iX s t ((dX (some s)).filter fun x=>decide (x∈K)) (kv K)∧ae fp w w':=by
 have hs:=hi.ok;have wg:=h.lt;refine en [] ?_;refine gO ?_;refine aM (Jn h hs ht) fun w0 I=>?_;refine gO ?_;refine aw (OB (h.ab I) hs (ht.keep I fun _ _=>by simp) qs hK) ?_;rintro v w1 ⟨V,fa,W,YL⟩;obtain⟨A,hA⟩: ∃A,A=(dX (some s)).filter fun x=>decide (x∈K):=⟨_,rfl⟩;rw[←hA]at W⊢;have hAm: ∀x,x∈A↔x∈K:=fun x=>by
  rw[hA,List.mem_filter];exact⟨fun h=>by simpa using h.2,fun h=>⟨dK.2 (hK x h),by simpa using h⟩⟩
 have hAn:A.Nodup:=by
  rw[hA];refine List.Nodup.sublist List.filter_sublist ?_;show(fj s.aj).Nodup;unfold fj;rw[List.nodup_iff_pairwise_ne,List.pairwise_map];exact(List.nodup_iff_pairwise_ne.1 (fQ s)).imp fun hab e=>hab (by omega)
 have Lp:A.length≤2000:=by
  rw[hA];have:=List.length_filter_le (fun x=>decide (x∈K)) (dX (some s));rw[fu]at this;omega
 obtain⟨aa,ca,rfl⟩:=W.val;have z0:=I.size;have z1:=V.size;have T2: ∀y,y∈fa→w.heap.size≤y:=fun y P=>by have:=YL y P;omega
 have T3: ∀y,y∈fa→y∉fp:=fun y P e=>by have:=T2 y P;have:=wg y e;omega
 refine gO ?_;refine az (6::8::9::10::11::12::13::14::15::16::17::26::27::28::29::30::31::32::33::34::35::36::37::38::39::40::41::42::43::44::45::46::47::48::49::50::51::52::53::54::55::56::57::58::59::60::61::62::63::64::65::66::67::68::69::70::71::72::73::74::75::76::[]) (fun g w'=> ∃(i:Nat) (t:HL),g 26=.int .i64 (i:Int)∧g 6=.int .i64 ((gj s (kv K) (A.take i):Nat):Int)∧i≤A.length∧ae fp w1 w'∧HR w' (some hp) fp (some t)∧iX s t (A.take i) (kv K)) (fun g _=>bw A.length 26 g)
  ⟨0,s,by simp only[go_sem];rfl,by simp only[go_sem];rfl,by omega,ae.refl _ _,h.ab (I.nil V),iX.none hi _⟩ fun g w2 hI r=>?_
 obtain⟨i,t,d,h6,hiA,G,B,D⟩:=hI;have o2:ae fp w w2:=((I.nil V).of_nil).same G;by_cases c1:i<A.length;rotate_left
 ·refine cT d h6 (aX (show¬(i:Int)<(A.length:Int) by omega)) ?_;rw[List.take_of_length_le (by omega)]at D⊢;exact⟨t,rfl,B,D,o2⟩
 obtain⟨gr,_,yr,er,T4,_,_⟩:=(W.keep G T3).pos (by omega);cases er;have ci:(0:Int)≤(i:Int)∧(i:Int)<(A.length:Int):=by omega
 have vr:w2.cell? ⟨gr,i,none⟩=some (.int .i64 (A.getD i 0)):=by rw[T4.cell];exact aG yr (by omega)
 have hvK:A.getD i 0∈K:=(hAm _).1 (by simp[c1]);have hv:=hK _ hvK;have C:A.take (i+1)=A.take i++[A.getD i 0]:=by rw[List.take_succ_eq_append_getElem c1];simp[c1]
 have SL:A.getD i 0∉A.take i:=fun e=>by
  have Jp:=hAn;rw[←List.take_append_drop (i+1) A,C]at Jp;have:=(List.nodup_append.1 (List.nodup_append.1 Jp).1).2.2 _ e _ (List.mem_singleton.2 rfl);exact this rfl
 have l:=CL s (kv K) (A.take i) (A.getD i 0);have OH:=ss s (kv K) (A.take i);rw[List.length_take]at OH;have hxs: ∀x,x=A.getD i 0→True:=fun _ _=>trivial;generalize A.getD i 0=x at*;obtain⟨k,rfl,X⟩:=hv;have hx:((2*k:Nat):Int)≤4611686018427387904:=by have:=gy hs X;omega
 have Y:t.st.getD k 0=1:=by rw[D.jR.st];exact X
 have ok:t.ai k=s.ai k:=by rw[D.ob k X,if_neg SL]
 have T5:=ER hs X;have ES:=uW hs X;have Lx: ∀w',ae fp w w'→iF w' p S (nB (32*t.B.length) K):=fun w' o=>by
  rw[D.jR.B];exact ht.keep o T1
 rw[Ak]at l;have zz:=au i (by omega);refine k0 d (aU ci.2) (eq_true ci) @Int.toNat_natCast @Nat.mul_one vr ?_;refine aw (ju B ((2*k:Nat):Int) hx) ?_;rintro _ w3 ⟨rfl,gJ⟩;rw[dB D.inv.ok Y,ok];refine gO ?_;refine bp fun q w4 hq pk iH iV=>?_;refine gO ?_;refine dF (cs:=bS (s.ai k).sh) iH rfl (by simp[bS]) (dm _) fun w5 qm U jv=>?_;rw[dz]at U;have z3:=gJ.size;have z2:=G.size;have o25:ae [] w2 w5:=gJ.nil (iV.trans jv fun y P=>by simp only[aK]at P;subst P;exact .inr (by omega));have Ly:aC w5 ⟨q,0,none⟩ 3=some (bS (s.ai k).sh):=ay U 0 3 (by simp[bS]);refine aQ Ly ?_;refine aw (ET w5 (s.ai k).sh) ?_;rintro _ w6 ⟨rfl,lZ⟩;have Jq:=o25.nil lZ;refine gO ?_;refine aw (rR (B.ab Jq) ((2*k:Nat):Int) 0 hx) ?_;rintro _ w7 ⟨rfl,kB⟩;have J:=Jq.nil kB;obtain⟨m,hm⟩: ∃m,m=dY (s.ai k).sh.2.2:=⟨_,rfl⟩;rw[←hm]at T5⊢;by_cases cm:m=0
 ·have L:stays (kv K) (s.ai k):=by
   left;unfold dY at hm;split at hm
   ·omega
   ·split at hm
    ·omega
    ·rename_i a b;exact⟨a,b⟩
  have e0:lT (kv K) (s.ai k)=0:=by unfold lT;rw[if_pos L]
  rw[e0,if_neg (by omega),Nat.add_zero,←C]at l;refine cT (cZ (show((m:Nat):Int)=0 by omega)) d zz ?_;refine r _ w7 ⟨i+1,t,?_,?_,by omega,G.nil J,B.ab J,by rw[C];exact D.same L⟩ ?_
  ·simp only[go_sem]
  ·simp only[go_sem,h6];rw[l]
  ·exact aJ d
 have TK:dE (some t) ((2*k:Nat):Int) 0=((s.ai k).rf.getD 0 0,0):=by
  have:=jt D.inv.ok Y (show 0<(t.ai k).rf.length by rw[ok];omega);rw[show((0:Nat):Int)=0 from rfl]at this;rw[this,ok]
 have YT:=(GM.ref X (show 0<(s.ai k).rf.length by omega)).le hs;have eR:s.RF k 0=(s.ai k).rf.getD 0 0:=rfl;rw[eR]at YT;rw[TK];simp only;obtain⟨y,P⟩: ∃y,y=(s.ai k).rf.getD 0 0:=⟨_,rfl⟩;rw[←P]at YT⊢;refine aQ (cU (show¬((m:Nat):Int)=0 by omega)) ?_;refine aM (sq (B.ab J) D.inv.ok ((Lx _ o2).keep J fun _ _=>by simp) y (by omega)) fun w8 k9=>?_;have Q:=J.nil k9;have em:(bE (some t) y&&decide (y∈K))=decide (y∈K):=by
  by_cases c:y∈K
  ·rw[(kN D.inv.ok).2 (D.live (hK _ c))];rfl
  ·rw[aX c,Bool.and_false]
 rw[em];have Z:bM (s.ai k).sh.2.2 0=true:=kQ.2 (by omega);have kk: ¬((s.ai k).sh.2.2≠1∧(s.ai k).sh.2.2≠2):=fun e=>by
  have:=rj Z;omega
 by_cases cy:y∈K
 ·have L:stays (kv K) (s.ai k):=by
   right;rw[←P];refine⟨fun e=>?_,by simpa[kv]using cy⟩;obtain⟨j,hj,hj2⟩:=hK _ cy;rw[e]at hj;have:j=0:=by omega
   subst this;exact hi.z0 hj2
  have e0:lT (kv K) (s.ai k)=0:=by unfold lT;rw[if_pos L]
  rw[e0,if_neg (by omega),Nat.add_zero,←C]at l;refine cT (aU cy) d zz ?_;refine r _ w8 ⟨i+1,t,?_,?_,by omega,G.nil Q,B.ab Q,by rw[C];exact D.same L⟩ ?_
  ·simp only[go_sem]
  ·simp only[go_sem,h6];rw[l]
  ·exact aJ d
 have YU: ¬stays (kv K) (s.ai k):=fun e=>e.elim kk fun e=>cy (by have:=e.2;rw[←P]at this;simpa[kv]using this);refine aQ (aX cy) ?_;refine az (14::15::16::17::53::54::55::56::57::58::59::60::61::62::63::64::65::66::67::68::69::70::71::72::[]) (fun g w'=> ∃(j:Nat) (s2:HL),g 53=.int .i64 (j:Int)∧g 14=.bool (decide (0<lM (s.ai k).sh.2.2 (s.ai k).rf j))∧j≤m∧ae fp w8 w'∧HR w' (some hp) fp (some s2)∧Jo t s2 k j) (fun g _=>bw m 53 g)
  ⟨0,t,by simp only[go_sem];rfl,by simp only[go_sem];rfl,by omega,ae.refl _ _,B.ab Q,Jo.zero D.inv k⟩ fun g2 w9 T6 E=>?_
 obtain⟨j,s2,u,H,hjm,kC,M,hZ⟩:=T6;by_cases cj:j<m;rotate_left
 ·have T7:j=m:=by omega
  subst T7;rw[hm]at hZ H;have T8:=D.zrd X SL YU hZ;rw[←C]at T8;rw[Aj (by omega)]at H;have e0:lT (kv K) (s.ai k)=lM (s.ai k).sh.2.2 (s.ai k).rf (s.ai k).rf.length:=by unfold lT;rw[if_neg YU]
  rw[e0,←C]at l;have oF:ae fp w1 w9:=(G.nil Q).same kC;refine cT u (aX (show¬(j:Int)<(j:Int) by omega)) H ?_;by_cases cn:0<lM (s.ai k).sh.2.2 (s.ai k).rf (s.ai k).rf.length
  ·rw[if_pos cn]at l;refine lY (aU cn) h6 d zz (au (gj s (kv K) (A.take i)) (by omega)) ?_;refine r _ w9 ⟨i+1,s2,?_,?_,by omega,oF,M,T8⟩ ?_
   ·simp only[go_sem]
   ·simp only[go_sem];rw[l]
   ·exact aJ d
  ·rw[if_neg cn,Nat.add_zero]at l;refine eZ (aX cn) h6 d zz ?_;refine r _ w9 ⟨i+1,s2,?_,?_,by omega,oF,M,T8⟩ ?_
   ·simp only[go_sem]
   ·simp only[go_sem,h6];rw[l];rfl
   ·exact aJ d
 have N:bM (s.ai k).sh.2.2 j=true:=kQ.2 (by omega);obtain⟨er,s3,es,YV⟩:=hZ.step Y (by rw[ok];omega) (by rw[ok];exact N);rw[ok]at er;have sns:=nJ (s.ai k).sh.2.2 (s.ai k).rf j;refine aZ u (aU (show(j:Int)<(m:Int) by omega)) ?_;refine aw (rR M ((2*k:Nat):Int) (j:Int) hx) ?_;rintro _ rS ⟨rfl,F⟩;rw[er];simp only;have zj:=au j (by omega);obtain⟨b,hb⟩: ∃b,b=decide (0<lM (s.ai k).sh.2.2 (s.ai k).rf j):=⟨_,rfl⟩;rw[←hb]at H;have T:(b||((s.ai k).rf.getD j 0 !=0))=decide (0<lM (s.ai k).sh.2.2 (s.ai k).rf (j+1)):=by
  rw[sns,hb];by_cases c0:(s.ai k).rf.getD j 0=0
  ·rw[if_neg (fun e=>e.2 c0),dg c0,Bool.or_false,Nat.add_zero]
  ·rw[if_pos ⟨N,c0⟩,eE c0,Bool.or_true,aU (by omega)]
 cases b with
 |true=>
  rw[Bool.true_or]at T;refine aZ H u ?_;refine aw (po (M.ab F) ((2*k:Nat):Int) (j:Int) 0 hx (by omega)) ?_;rintro _ qx ⟨rfl,z,O⟩;rw[es]at z;refine aZ u zj ?_;refine E _ qx ⟨j+1,s3,?_,?_,by omega,(kC.nil F).same O,z,YV⟩ ?_
  ·simp only[go_sem]
  ·simp only[go_sem];rw[←T]
  ·exact aJ u
 |false=>
  rw[Bool.false_or]at T;refine aZ H u ?_;refine aw (po (M.ab F) ((2*k:Nat):Int) (j:Int) 0 hx (by omega)) ?_;rintro _ qx ⟨rfl,z,O⟩;rw[es]at z;refine aZ u zj ?_;refine E _ qx ⟨j+1,s3,?_,?_,by omega,(kC.nil F).same O,z,YV⟩ ?_
  ·simp only[go_sem]
  ·simp only[go_sem];rw[←T]
  ·exact aJ u
section
variable {s s1:HL} {B':List (Int×Int)} {K:List Int} {k:Nat}
def OI (B:List (Int×Int)) (k:Nat):Nat:=if(B.getD k (0,0)).1=2 then tails B k B.length 1 else 1
def uX (B:List (Int×Int)) (k:Nat):Prop:=k≠0∧((B.getD k (0,0)).1=1∨(B.getD k (0,0)).1=2)
instance (B:List (Int×Int)) (k:Nat):Decidable (uX B k):=by unfold uX;infer_instance
def yw (B:List (Int×Int)) (e:Bool) (k:Nat):List (Int×Int):=if uX B k∧e=true then dZ B k (0,0) (OI B k)else B
theorem yx (s:HL) (k:Nat):pq s k=0↔uX s.B k∧decide ((bZ s k).length=0)=true:=by
 unfold pq pr uX;rw[decide_eq_true_eq];by_cases b:k=0
 ·rw[if_pos b];simp[b]
 rw[if_neg b];by_cases j:(s.B.getD k (0,0)).1≠1∧(s.B.getD k (0,0)).1≠2
 ·rw[if_pos j,if_pos (by decide)];exact⟨fun e=>absurd e (by decide),fun e=>by omega⟩
 rw[if_neg j,if_neg (by decide)];by_cases d:(bZ s k).length=0
 ·rw[if_neg (by simp[d])];exact⟨fun _=>⟨⟨b,by omega⟩,d⟩,fun _=>rfl⟩
 ·rw[if_pos d];exact⟨fun e=>absurd e (by decide),fun e=>absurd e.2 d⟩
theorem EU (s:HL) (k:Nat):(mq s k).B=yw s.B (decide ((bZ s k).length=0)) k:=by
 unfold mq yw;by_cases c:pq s k=0
 ·rw[if_pos c,if_pos ((yx s k).1 c)];rfl
 ·rw[if_neg c,if_neg (fun e=>c ((yx s k).2 e))]
def bG (K:List Int) (i:Nat):Bool:=!kv K ((2*i:Nat):Int)
def Lz (s:HL) (K:List Int) (k:Nat):Bool:=decide (((bZ s k).filter fun i=>!bG K i).length=0)
def rT (s:HL) (K:List Int):Nat→List (Int×Int)
 |0=>s.B
 |k+1=>yw (rT s K k) (Lz s K k) k
def iQ (s:HL) (K:List Int):Nat→List Nat
 |0=>[]
 |k+1=>iQ s K k++(bZ s k).filter (bG K)
theorem mY (l:List Nat) {a b c:Nat} (m:a≤b) (j:b≤c):bk l a c=bk l a b++bk l b c:=by
 obtain⟨d,rfl⟩: ∃d,c=b+d:=⟨c-b,by omega⟩;clear j
 induction d with
 |zero=>rw[Nat.add_zero,jA,List.append_nil]
 |succ d k=>
  rw[←Nat.add_assoc,fR,fR,k,List.append_assoc];congr 2;by_cases c:l.getD (b+d) 0=1
  ·rw[if_pos ⟨by omega,c⟩,if_pos ⟨by omega,c⟩]
  ·rw[if_neg (fun e=>c e.2),if_neg (fun e=>c e.2)]
theorem tq (s:HL) (K:List Int): ∀k,iQ s K k=(bk s.st 0 (32*k)).filter (bG K)
 |0=>by rw[Nat.mul_zero,jA];rfl
 |k+1=>by
  rw[mY s.st (show 0≤32*k by omega) (show 32*k≤32*(k+1) by omega),List.filter_append,←tq s K k]
  rfl
theorem CM (h:s.Ok) (K:List Int):iQ s K s.B.length=s.aj.filter (bG K):=by
 rw[tq];unfold HL.aj;rw[h.sl]
structure Kb (s s':HL) (D:Nat→Bool) (B':List (Int×Int)):Prop where
 inv:s'.Inv
 B:s'.B=B'
 born:s'.born=s.born
 st: ∀i,s'.st.getD i 0=1↔D i=false∧s.st.getD i 0=1
 ob: ∀i,D i=false→s.st.getD i 0=1→s'.ai i=s.ai i
 aj:s'.aj=s.aj.filter fun i=>!D i
theorem Kb.none (h:s.Inv) {D:Nat→Bool} (b: ∀i,s.st.getD i 0=1→D i=false):Kb s s D s.B:=
 ⟨h,rfl,rfl,fun i=>⟨fun e=>⟨b i e,e⟩,fun e=>e.2⟩,fun _ _ _=>rfl,by
  rw[List.filter_eq_self.2 fun i d=>?_]
  rw[b i (bq.1 d)];rfl⟩
theorem Kb.congr {s':HL} {D D':Nat→Bool} (h:Kb s s' D B') (b: ∀i,s.st.getD i 0=1→D' i=D i):Kb s s' D' B':=
 ⟨h.inv,h.B,h.born,fun i=>by
  rw[h.st]
  exact⟨fun e=>⟨(b i e.2).trans e.1,e.2⟩,fun e=>⟨(b i e.2).symm.trans e.1,e.2⟩⟩,fun i j d=>h.ob i ((b i d).symm.trans j) d,by
  rw[h.aj]
  exact List.filter_congr fun i k=>by rw[b i (bq.1 k)]⟩
theorem Kb.step {D D':Nat→Bool} (h:Kb s s1 D B') (o:s.st.getD k 0=1) (q:D k=false) (l: ∀i,D' i=(D i||decide (i=k))):s1.st.getD k 0=1∧s1.ai k=s.ai k∧ ∃d,dh (some s1) ((2*k:Nat):Int)=some d∧Kb s d D' B':=by
 have b:s1.st.getD k 0=1:=(h.st k).2 ⟨q,o⟩;obtain⟨d,t,u,w,y,z,C,E⟩:=uY h.inv b;refine⟨b,h.ob k q o,d,t,⟨u,w.trans h.B,y.trans h.born,fun i=>?_,fun i j r=>?_,?_⟩⟩
 ·rw[z,h.st,l];by_cases c:i=k
  ·subst c;simp
  ·simp[c]
 ·rw[l,Bool.or_eq_false_iff]at j;have m:i≠k:=by simpa using j.2
  rw[C i m ((h.st i).2 ⟨j.1,r⟩),h.ob i j.1 r]
 ·rw[E,h.aj,List.filter_filter];refine List.filter_congr fun i _=>?_;rw[l];by_cases c:i=k
  ·simp[c]
  ·simp[c]
theorem Kb.rel {D:Nat→Bool} (h:Kb s s1 D B') (d:k<s1.B.length):Kb s (mq s1 k) D (yw B' (decide ((bZ s1 k).length=0)) k):=by
 obtain⟨B,e⟩:=yy s1 k;have b:=EU s1 k;have j:=yz h.inv d;rw[h.B]at b;refine⟨j,b,?_,fun i=>?_,fun i l m=>?_,?_⟩
 ·rw[e];exact h.born
 ·rw[e];exact h.st i
 ·rw[e];exact h.ob i l m
 ·rw[e];exact h.aj
def dW (s:HL) (K:List Int) (k j:Nat) (i:Nat):Bool:=(decide (i<32*k)||decide (i∈(bZ s k).take j))&&bG K i
theorem rn {i:Nat} (d:s.st.getD i 0=1):dW s K (k+1) 0 i=dW s K k (bZ s k).length i:=by
 unfold dW;rw[List.take_length,List.take_zero];congr 1;have:i∈bZ s k↔32*k≤i∧i<32*(k+1):=by unfold bZ;rw[dL];exact⟨fun e=>e.1,fun e=>⟨e,d⟩⟩
 by_cases c:i<32*k
 ·rw[aU c,aU (show i<32*(k+1) by omega)];rfl
 ·rw[aX c];by_cases b:i<32*(k+1)
  ·rw[aU b,aU (this.2 ⟨by omega,b⟩)];rfl
  ·rw[aX b,aX (fun e=>b (this.1 e).2)];rfl
theorem Kb.LA (h:Kb s s1 (dW s K k 0) B'):bZ s1 k=bZ s k:=by
 unfold bZ bk;refine List.filter_congr fun i b=>?_;by_cases c:32*k≤i
 ·have:(s1.st.getD i 0=1)↔(s.st.getD i 0=1):=by
   rw[h.st];refine⟨fun e=>e.2,fun e=>⟨?_,e⟩⟩;unfold dW;rw[aX (show¬i<32*k by omega),List.take_zero];simp
  simp only[this]
 ·rw[aX c];simp
theorem Kb.LB (h:Kb s s1 (dW s K k (bZ s k).length) B'):bZ s1 k=(bZ s k).filter fun i=>!bG K i:=by
 unfold bZ bk;rw[List.filter_filter];refine List.filter_congr fun i l=>?_;by_cases c:32*k≤i
 ·have d:=List.mem_range.1 l;by_cases b:s.st.getD i 0=1
  ·have m:i∈bZ s k:=by unfold bZ;rw[dL];exact⟨⟨c,d⟩,b⟩
   have e:dW s K k (bZ s k).length i=bG K i:=by
    unfold dW;rw[List.take_length,aU m,Bool.or_true,Bool.true_and]
   have:(s1.st.getD i 0=1)↔bG K i=false:=by rw[h.st,e];exact⟨fun e=>e.1,fun e=>⟨e,b⟩⟩
   rw[aU c,aU b];cases j:bG K i with
   |false=>rw[aU (this.2 j)];rfl
   |true=>rw[aX (fun e=>by rw[this.1 e]at j;cases j)];rfl
  ·have: ¬s1.st.getD i 0=1:=fun e=>b ((h.st i).1 e).2;rw[aX b,aX this];simp
 ·rw[aX c];simp
theorem Al (h:s.Inv) (d: ¬((s.B.getD k (0,0)).1=1∨(s.B.getD k (0,0)).1=2)):bZ s k=[]:=by
 refine List.eq_nil_iff_forall_not_mem.2 fun i b=>?_;unfold bZ at b;rw[dL]at b;have:=h.hd i b.2;rw[show i/32=k by omega]at this;exact d this
end
section
set_option maxRecDepth 8000
variable {s:HL} {K:List Int} {S fp:List Nat} {k rb:Nat} {a p:Option Addr} {c0 c1 c4 c5 c6 c7:Value} {w:World}
theorem LC (h:HR w a fp (some s)) (d:k<s.B.length):Cs Tryz.prog 284 [.pointer a,.int .i64 (k:Int)] w fun v w'=>v=.bool (decide ((s.B.getD k (0,0)).1=1∨(s.B.getD k (0,0)).1=2))∧w'=w:=by
 have e:jB (some s) (k:Int)=(s.B.getD k (0,0)).1:=by
  unfold jB HL.b;simp only;rw[if_pos ⟨by omega,by omega⟩,c9]
 refine en [] ?_;refine gO ?_;refine aH (qy h (k:Int)) ?_;rw[e];by_cases c1:(s.B.getD k (0,0)).1=1
 ·refine aQ (cZ c1) ?_;rw[aU (Or.inl c1)]
 refine aQ (cU c1) ?_;refine aH (qy h (k:Int)) ?_;rw[e];by_cases b:(s.B.getD k (0,0)).1=2
 ·refine aQ (cZ b) ?_;rw[aU (Or.inr b)]
 refine aQ (cU b) ?_;rw[aX (fun h=>h.elim c1 b)]
theorem EV (h:HR w a fp (some s)) (j:s.Ok) (k:iF w p S (nB (32*s.B.length) K)) (x:Int) (l:x≤4611686018427387904):
  Cs Tryz.prog 286 [.pointer a,.pointer p,.int .i64 x] w fun v w'=>v=.bool (bE (some s) x&&decide (x∈K))∧ae [] w w':=by
 refine en [] ?_;refine gO ?_;refine aM (Jn h j k) fun m b=>?_;refine gO ?_;refine aM (sq (h.ab b) j (k.keep b fun _ _=>by simp) x l) fun o d=>?_;refine gO ?_;exact b.nil d
theorem OJ {f wd x:Int} (h:At w rb [c0,c1,.int .i64 f,.int .i64 wd,c4,c5,c6,c7]):Cs Tryz.prog 103 [.int .i64 x,.pointer (some ⟨rb,0,none⟩)] w fun _ w'=>At w' rb [c0,c1,.int .i64 (IntKind.i64.wrap (f+1)),.int .i64 (IntKind.i64.wrap (wd+x)),c4,c5,c6,c7]∧ae [rb] w w':=by
 refine en [] ?_;refine aQ h.cell ?_;refine fJ h (by simp) rfl fun o l b j=>?_;refine aQ b.cell ?_;refine fJ b (by simp) rfl fun q m d k=>?_;refine gO ?_;exact⟨d,j.same k⟩
def ly (s:HL) (l:List Nat) (c0 c1 c4 c5 c6 c7:Value):List Value:=[c0,c1,.int .i64 (l.length:Int),.int .i64 (ea s l),c4,c5,c6,c7]
set_option maxHeartbeats 2000000 in
theorem LD {hp:Addr} {F:HL} (h:HR w (some hp) fp (some F)) (C:s.Inv) (o:Kb s F (dW s K k 0) (rT s K k)) (ht:iF w p S (nB (32*F.B.length) K)) (T1: ∀y,y∈S→y∉rb::fp) (P:rb∉fp) (hk:k<F.B.length) (qs:s.aj.length≤2000) (Q:At w rb (ly s (iQ s K k) c0 c1 c4 c5 c6 c7)) (W:(iQ s K k).length+(bZ s k).length≤4000):
  Cs Tryz.prog 102 [.pointer (some hp),.pointer p,.int .i64 (k:Int),.func (.func 103) #[] #[.pointer (some ⟨rb,0,none⟩)]] w fun _ w'=> ∃r,HR w' (some hp) fp (some r)∧Kb s r (dW s K (k+1) 0) (rT s K (k+1))∧At w' rb (ly s (iQ s K (k+1)) c0 c1 c4 c5 c6 c7)∧ae (rb::fp) w w':=by
 have wg:=h.lt;have eK:=o.LA;refine en [] ?_;refine gO ?_;refine aH (LC h hk) ?_;by_cases ch:(F.B.getD k (0,0)).1=1∨(F.B.getD k (0,0)).1=2;rotate_left
 ·refine aQ (aX ch) ?_;have e0:bZ s k=[]:=by rw[←eK];exact Al o.inv ch
  refine⟨F,h,?_,?_,ae.refl _ _⟩
  ·have e1:rT s K (k+1)=rT s K k:=by
    show yw (rT s K k) _ k=_;unfold yw uX;rw[←o.B,if_neg (fun e=>ch e.1.2)]
   rw[e1];refine o.congr fun i C=>?_;rw[rn C,e0];rfl
  ·show At w rb (ly s (iQ s K k++(bZ s k).filter (bG K)) c0 c1 c4 c5 c6 c7);rw[e0,List.filter_nil,List.append_nil];exact Q
 refine aQ (aU ch) ?_;obtain⟨b,eb,gB,gW,cB,cW,yB,yW,sb,sg,pb,pg,bl,bf,h2,hm⟩:=id h;cases eb;refine aw (yC hm k hk) ?_;rintro v w1 ⟨G,fq,H,SM⟩;rw[eK]at H;obtain⟨L,M⟩: ∃L,L=bZ s k:=⟨_,rfl⟩;rw[←M]at H W;have Nv: ∀i,i∈L→s.st.getD i 0=1∧32*k≤i:=fun i C=>by
  rw[M]at C;unfold bZ at C;rw[dL]at C;exact⟨C.2,C.1.1⟩
 have hLn:L.Nodup:=by rw[M];exact List.Nodup.sublist List.filter_sublist List.nodup_range
 obtain⟨aa,ca,rfl⟩:=H.val;have X:(fj L).length=L.length:=pt L;have T3: ∀y,y∈fq→y∉rb::fp:=fun y u e=>by
  have:=SM y u;rcases List.mem_cons.1 e with e|e
  ·subst e;have:=Q.lt;omega
  ·have:=wg y e;omega
 have z1:=G.size;refine gO ?_;refine az (9::10::11::20::21::22::23::24::25::26::27::28::29::30::31::32::33::34::35::36::37::38::39::40::41::42::[]) (fun g w'=> ∃(j:Nat) (r:HL),g 20=.int .i64 (j:Int)∧j≤L.length∧ae (rb::fp) w1 w'∧HR w' (some ⟨b,0,none⟩) fp (some r)∧Kb s r (dW s K k j) (rT s K k)∧At w' rb (ly s (iQ s K k++(L.take j).filter (bG K)) c0 c1 c4 c5 c6 c7)) (fun g _=>bw L.length 20 g)
  ⟨0,F,by simp only[go_sem];rfl,by omega,ae.refl _ _,h.ab G,o,by simpa using Q.ab G⟩ fun g w2 hI D=>?_
 obtain⟨j,r,z,hj,I,E,d,m⟩:=hI;have o2:ae (rb::fp) w w2:=(G.of_nil).same I;by_cases c1:j<L.length;rotate_left
 ·have ej:j=L.length:=by omega
  rw[ej,List.take_length]at m;rw[ej,M]at d;have Y:r.B.length=F.B.length:=by rw[d.B,o.B]
  refine aZ z (aX (show¬(j:Int)<(L.length:Int) by omega)) ?_;refine aw (yD E k (by omega)) ?_;rintro _ w3 ⟨rfl,GN,l⟩;refine gO ?_;have k3:=d.rel (k:=k) (by omega);rw[d.LB]at k3;refine⟨mq r k,GN,k3.congr fun i C=>rn C,?_,o2.trans l fun y u=>.inl (by simp[u])⟩;rw[M]at m;exact m.keep l P
 obtain⟨gr,_,yr,er,Z,_,_⟩:=(H.keep I T3).pos (by omega);cases er;obtain⟨i,R⟩: ∃i,i=L.getD j 0:=⟨_,rfl⟩;have hiL:i∈L:=by rw[R];simp[c1]
 obtain⟨J,aao⟩:=Nv i hiL;have cj:(0:Int)≤(j:Int)∧(j:Int)<(L.length:Int):=by omega
 have vr:w2.cell? ⟨gr,j,none⟩=some (.int .i64 ((2*i:Nat):Int)):=by
  rw[Z.cell];have:=aG (xs:=fj L) yr (i:=j) (by omega);rw[this,R];unfold fj;simp[c1]
 have B:L.take (j+1)=L.take j++[i]:=by rw[List.take_succ_eq_append_getElem c1,R];simp[c1]
 have SL:i∉L.take j:=fun e=>by
  have Jp:=hLn;rw[←List.take_append_drop (j+1) L,B]at Jp;exact(List.nodup_append.1 (List.nodup_append.1 Jp).1).2.2 _ e _ (List.mem_singleton.2 rfl) rfl
 have T:dW s K k j i=false:=by
  unfold dW;rw[←M,aX (show¬i<32*k by omega),aX SL];rfl
 have H5:=gy C.ok J;have hx:((2*i:Nat):Int)≤4611686018427387904:=by omega
 have YW:r.st.getD i 0=1:=(d.st i).2 ⟨T,J⟩;have T9:=d.ob i T J;have Y:r.B.length=F.B.length:=by rw[d.B,o.B]
 have Lx:iF w2 p S (nB (32*r.B.length) K):=by rw[Y];exact ht.keep o2 T1
 have zj:=au j (by have:=W;omega);have YX:=List.length_filter_le (bG K) (L.take j);rw[List.length_take]at YX;refine k7 z X (aU cj.2) (eq_true cj) @Int.toNat_natCast @Nat.mul_one vr ?_;refine aM (EV E d.inv.ok Lx ((2*i:Nat):Int) hx) fun w3 l=>?_;have em:(bE (some r) ((2*i:Nat):Int)&&decide (((2*i:Nat):Int)∈K))=!bG K i:=by
  rw[(kN d.inv.ok).2 ⟨i,rfl,YW⟩];unfold bG kv;simp
 rw[em];by_cases cd:bG K i=true;rotate_left
 ·have U:bG K i=false:=by simpa using cd
  refine cT U z zj ?_;refine D _ w3 ⟨j+1,r,?_,by omega,I.nil l,E.ab l,d.congr fun t _=>?_,?_⟩ ?_
  ·simp only[go_sem]
  ·unfold dW;rw[←M,B];by_cases e:t=i
   ·subst e;rw[U,Bool.and_false,Bool.and_false]
   ·simp[e]
  ·rw[B,List.filter_append,List.filter_cons_of_neg (by rw[U];simp),List.filter_nil,List.append_nil];exact m.ab l
  ·exact aJ z
 refine aQ cd ?_;refine aw (ju (E.ab l) ((2*i:Nat):Int) hx) ?_;rintro _ w4 ⟨rfl,iV⟩;rw[dB d.inv.ok YW,T9];refine gO ?_;refine bp fun q w5 hq qm ky jv=>?_;refine gO ?_;refine dF (cs:=bS (s.ai i).sh) ky rfl (by simp[bS]) (dm _) fun w6 oO N lZ=>?_;rw[dz]at N;have z3:=l.size;have z4:=iV.size;have z2:=o2.size;have Jq:ae [] w2 w6:=(l.nil iV).nil (jv.trans lZ fun y u=>by simp only[aK]at u;subst u;exact .inr (by omega));have OK:aC w6 ⟨q,0,none⟩ 3=some (bS (s.ai i).sh):=ay N 0 3 (by simp[bS]);refine aQ OK ?_;refine aw (tr w6 (s.ai i).sh) ?_;rintro _ w7 ⟨rfl,kB⟩;have V:=Jq.nil kB;have Ua:=m.ab V;refine gO ?_;refine fI (cQ 103 #[] [.int .i64 (aE (s.ai i).sh)] #[.pointer (some ⟨rb,0,none⟩)]) (by kernel_rfl) (OJ Ua) ?_;rintro _ w8 ⟨O,k9⟩;have hws:=je (s.ai i).sh;have OL:=su s (iQ s K k++(L.take j).filter (bG K));rw[cH]at OL;have ew1:IntKind.i64.wrap (((iQ s K k++(L.take j).filter (bG K)).length:Int)+1)=((iQ s K k++(L.take (j+1)).filter (bG K)).length:Int):=by
  rw[IntWalk.i64_in _ (by simp only[cH];omega),B,List.filter_append,List.filter_cons_of_pos cd,List.filter_nil];simp only[cH,List.length_singleton];omega
 have ew2:IntKind.i64.wrap (ea s (iQ s K k++(L.take j).filter (bG K))+aE (s.ai i).sh)=ea s (iQ s K k++(L.take (j+1)).filter (bG K)):=by
  rw[IntWalk.i64_in _ (by omega),B,List.filter_append,List.filter_cons_of_pos cd,List.filter_nil,←List.append_assoc,qz]
 rw[ew1,ew2]at O;have rbn: ∀y,y∈fp→y∉ [rb]:=fun y u e=>by simp only[aK]at e;subst e;exact P u
 obtain⟨_,_,s3,es3,k3⟩:=d.step (D':=dW s K k (j+1)) J T fun t=>by
  unfold dW;rw[←M,B];by_cases e:t=i
  ·subst e;simp[cd]
  ·simp[e]
 have EO:=(E.ab V).keep k9 rbn;refine gO ?_;refine aw (EW EO ((2*i:Nat):Int) hx) ?_;rintro _ w9 ⟨rfl,Am,kC⟩;rw[es3]at Am;refine aZ z zj ?_;refine D _ w9 ⟨j+1,s3,?_,by omega,?_,Am,k3,O.keep kC P⟩ ?_
 ·simp only[go_sem]
 ·exact((I.nil V).trans k9 fun y u=>.inl (by simp only[aK]at u;simp[u])).trans kC fun y u=>.inl (by simp[u])
 ·exact aJ z
end
structure LF (s:HL) (R:Rt.MS) (K:List Int) (s1 s2:HL) (ic:List Int):Prop where
 lx:uu s (Rt.bz (some R)) K
 zF:iX s s1 ((dX (some s)).filter fun x=>decide (x∈K)) (kv K)
 kb:Kb s1 s2 (bG K) (rT s1 K s1.B.length)
 ic:ic=[(s2.aj.length:Int),ea s2 s2.aj,((s1.aj.filter (bG K)).length:Int),ea s1 (s1.aj.filter (bG K)),0,0,(K.length:Int),(gj s (kv K) ((dX (some s)).filter fun x=>decide (x∈K)):Int)]
set_option maxHeartbeats 2000000 in
theorem EX {w:World} {hp:Addr} {ar:Option Addr} {G fr:List Nat} {s:HL} {R:Rt.MS} (hh:HR w (some hp) G (some s)) (H:s.Inv) (hR:Rt.PR w ar fr (some R)) (xH:R.Ok) (Y:iP true s R) (I:s.aj.length≤2000) (GO:(Rt.bz (some R)).length≤1000):
  Cs Tryz.prog 18 [.pointer (some hp),.pointer ar] w fun v w'=> ∃K b m ic,v=.tuple #[.agg ⟨ints ic⟩,.int .i64 0]∧LF s R K b m ic∧HR w' (some hp) G (some m)∧ae G w w':=by
 have hs:=H.ok;have Z:=hh.lt;refine en [] ?_;refine gO ?_;refine bp fun q w1 hq pf gz J=>?_;refine gO ?_;refine aw (Lr (hh.ab J) H (hR.ab J) xH Y I) ?_;rintro _ w2 ⟨jq,p,T,K,rd,dp,rfl,hM⟩;refine gO ?_;refine bp fun tb w3 Ub qt lS gJ=>?_;refine gO ?_;refine dF (n:=5) (cs:=[.int .i64 ((K.length:Nat):Int),.int .i64 0,.int .i64 0,.int .i64 rd,.int .i64 dp]) lS rfl (by simp) (by simp[bh]) fun w4 pk iH iV=>?_;have z1:=J.size;have z2:=jq.size;have z3:=gJ.size;have z4:=iV.size;have hT:=hM.new;have hTl:=hM.Bo.lt;have Uc:ae [] w2 w4:=gJ.trans iV fun y d=>.inr (by simp only[aK]at d;omega);have o4:ae [] w w4:=(J.nil jq).nil Uc;refine gO ?_;refine aM (yE (hh.ab o4) hs (hR.ab o4) Y I GO) fun w5 jv=>?_;have htr:w5.cell? ⟨tb,0,none⟩=some (.int .i64 ((K.length:Nat):Int)):=by rw[(iH.ab jv).cell];rfl
 refine aQ htr ?_;rw[ag rfl rfl];refine gO ?_;refine bp fun u w6 EY oO kP lZ=>?_;refine gO ?_;refine dF (n:=8) (cs:=[.int .i64 0,.int .i64 0,.int .i64 0,.int .i64 0,.int .i64 0,.int .i64 0,.int .i64 ((K.length:Nat):Int),.int .i64 0]) kP rfl (by simp) (by simp[bh]) fun w7 uw jz kB=>?_;have z5:=jv.size;have z6:=lZ.size;have z7:=kB.size;have SK:ae [] w5 w7:=lZ.trans kB fun y d=>.inr (by simp only[aK]at d;omega);have Nw:=jv.nil SK;have o7:ae [] w w7:=o4.nil Nw;have P:=(hM.Bo.ab (Uc.nil Nw));have L: ∀y,y∈T→y∉G:=fun y d e=>by have:=hT y d;have:=Z y e;omega
 have M:u∉G:=fun e=>by have:=Z u e;omega
 have Ud: ∀y,y∈T→y≠u:=fun y d e=>by have:=hTl y d;omega
 refine gO ?_;refine aw (Lw (hh.ab o7) H Y P L I hM.lx.e9) ?_;rintro _ w8 ⟨b,rfl,EO,t,z⟩;have z8:=z.size;have nK:=jz.keep z M;have Ue:=P.keep z L;refine gO ?_;refine fJ nK (by simp[dU]) rfl fun w9 Dz Q N=>?_;have Am:=EO.keep N fun y d e=>by simp only[aK]at e;subst e;exact M d
 have Uf:=Ue.keep N fun y d e=>Ud y d (by simpa using e);have O:q∉u::G:=fun e=>by
  rcases List.mem_cons.1 e with e|e
  ·omega
  ·have:=Z q e;omega
 have Jr:b.B=s.B:=t.jR.B;have aap:b.st=s.st:=t.jR.st;have LG:b.aj=s.aj:=t.jR.aj;have hB:=hs.jd;have hBs:b.B.length≤64:=by rw[Jr];exact hB
 obtain⟨cC,YY⟩: ∃cC,cC=gj s (kv K) ((dX (some s)).filter fun x=>decide (x∈K)):=⟨_,rfl⟩;rw[←YY]at Q;have ON:At w9 u (ly b (iQ b K 0) (.int .i64 0) (.int .i64 0) (.int .i64 0) (.int .i64 0) (.int .i64 (K.length:Int)) (.int .i64 (cC:Int))):=Q;refine gO ?_;refine aH (gC Am) ?_;have eb:((cJ (some b):Nat):Int)=(b.B.length:Int):=rfl;refine aQ eb ?_;have S:b.aj.length≤2000:=by rw[LG];exact I
 have oF9:ae (u::G) w w9:=((o7.of_nil).trans z fun y d=>.inl (by simp[d])).trans N fun y d=>.inl (by simp only[aK]at d;simp[d]);refine az (10::39::40::41::42::43::44::45::46::47::[]) (fun g w'=> ∃(k:Nat) (m:HL),g 39=.int .i64 (k:Int)∧k≤b.B.length∧ae (u::G) w9 w'∧HR w' (some hp) G (some m)∧Kb b m (dW b K k 0) (rT b K k)∧At w' u (ly b (iQ b K k) (.int .i64 0) (.int .i64 0) (.int .i64 0) (.int .i64 0) (.int .i64 (K.length:Int)) (.int .i64 (cC:Int)))) (fun g _=>bw b.B.length 39 g)
  ⟨0,b,by simp only[go_sem];rfl,by omega,ae.refl _ _,Am,Kb.none t.inv fun i _=>by simp[dW],ON⟩ fun g rS hI B=>?_
 obtain⟨k,m,C,hk,D,r,E,l⟩:=hI;have hlen: ∀j,j≤b.B.length→(iQ b K j).length≤2000:=fun j hj=>by
  rw[tq];refine Nat.le_trans (List.length_filter_le _ _) ?_;have EZ:=t.inv.ok.sl;have:b.aj=bk b.st 0 (32*j)++bk b.st (32*j) b.st.length:=mY _ (by omega) (by omega);have h2:=congrArg List.length this;rw[cH]at h2;omega
 have OO:(bZ b k).length≤2000:=by
  have:=kR b.st (32*k) (32*(k+1));unfold bZ;have h3:=List.length_filter_le (fun j=>decide (32*k≤j)&&decide (b.st.getD j 0=1)) (List.range (32*(k+1)));by_cases c:k<b.B.length
  ·have EZ:=t.inv.ok.sl;have e1:b.aj=bk b.st 0 (32*k)++bk b.st (32*k) b.st.length:=mY _ (by omega) (by omega);have e2:bk b.st (32*k) b.st.length=bk b.st (32*k) (32*(k+1))++bk b.st (32*(k+1)) b.st.length:=mY _ (by omega) (by omega);have h2:=congrArg List.length e1;rw[e2,cH,cH]at h2;omega
  ·have EZ:=t.inv.ok.sl;have:bk b.st (32*k) (32*(k+1))=[]:=List.eq_nil_iff_forall_not_mem.2 fun i H=>by
    rw[dL]at H;rw[List.getD_eq_getElem?_getD,List.getElem?_eq_none (by omega)]at H;simp at H
   rw[this];simp
 by_cases c1:k<b.B.length
 ·have hBl:m.B.length=b.B.length:=by
   rw[E.B];clear C B E l OO c1 hk
   induction k with
   |zero=>rfl
   |succ k ih=>
    show(yw (rT b K k) _ k).length=_;unfold yw;split
    ·rw[b5];exact ih
    ·exact ih
  have OP:iF rS p T (nB (32*m.B.length) K):=by
   rw[hBl,Jr];exact Uf.keep D fun y d e=>by
    rcases List.mem_cons.1 e with e|e
    ·exact Ud y d e
    ·exact L y d e
  refine aZ C (aU (show(k:Int)<(b.B.length:Int) by omega)) ?_;refine aw (LD r t.inv E OP (fun y d e=>by
   rcases List.mem_cons.1 e with e|e
   ·exact Ud y d e
   ·exact L y d e) M (by omega) S l (by have:=hlen k hk;omega)) ?_
  rintro _ qx ⟨s3,An,Ug,yF,o⟩;refine aZ C (au k (by omega)) ?_;refine B _ qx ⟨k+1,s3,?_,by omega,D.same o,An,Ug,yF⟩ ?_
  ·simp only[go_sem]
  ·exact aJ C
 have ek:k=b.B.length:=by omega
 rw[ek]at E l;rw[CM t.inv.ok]at l;have Uh:Kb b m (bG K) (rT b K b.B.length):=E.congr fun i H=>by
  have:=(t.inv.ok.start H).1;have EZ:=t.inv.ok.sl;unfold dW;rw[aU (show i<32*b.B.length by omega)];rfl
 have aaq:m.aj.length≤2000:=by
  rw[Uh.aj];exact Nat.le_trans (List.length_filter_le _ _) S
 refine aZ C (aX (show¬(k:Int)<(b.B.length:Int) by omega)) ?_;refine aw (wL r) ?_;rintro v qx ⟨o,fA,hsA,gA⟩;obtain⟨aA,cA,rfl⟩:=hsA.val;refine gO ?_;refine aw (Js (r.ab o) (by omega)) ?_;rintro _ wN ⟨rfl,F⟩;rw[uZ Uh.inv,fu];have E1:=l.ab (o.nil F);refine gO ?_;refine fJ E1 (by simp[ly]) rfl fun uy yG yH U=>?_;refine gO ?_;refine fJ yH (by simp[ly]) rfl fun E2 LH tt V=>?_;have W:ae (u::G) w9 E2:=((D.nil (o.nil F)).trans U fun y d=>.inl (by simp only[aK]at d;simp[d])).trans V fun y d=>.inl (by simp only[aK]at d;simp[d]);have Ui:aC E2 ⟨u,0,none⟩ 8=some [.int .i64 (m.aj.length:Int),.int .i64 (ea m m.aj),.int .i64 ((b.aj.filter (bG K)).length:Int),.int .i64 (ea b (b.aj.filter (bG K))),.int .i64 0,.int .i64 0,.int .i64 (K.length:Int),.int .i64 (cC:Int)]:=ay tt 0 8 (by simp[ly]);have Ag:At E2 q _:=((((gz.ab jq).ab Uc).ab Nw).keep z (fun e=>O (by simp[e]))).keep N (fun e=>O (by simp only[aK]at e;simp[e]))|>.keep W O
 refine aQ Ui ?_;refine dF (n:=8) (cs:=[.int .i64 (m.aj.length:Int),.int .i64 (ea m m.aj),.int .i64 ((b.aj.filter (bG K)).length:Int),.int .i64 (ea b (b.aj.filter (bG K))),.int .i64 0,.int .i64 0,.int .i64 (K.length:Int),.int .i64 (cC:Int)]) Ag rfl (by simp) (by simp[bh]) fun zG H6 yI X=>?_;have Uj:aC zG ⟨q,0,none⟩ 8=some [.int .i64 (m.aj.length:Int),.int .i64 (ea m m.aj),.int .i64 ((b.aj.filter (bG K)).length:Int),.int .i64 (ea b (b.aj.filter (bG K))),.int .i64 0,.int .i64 0,.int .i64 (K.length:Int),.int .i64 (cC:Int)]:=ay yI 0 8 (by simp[dU]);refine aQ Uj ?_;refine⟨K,b,m,_,rfl,⟨hM.lx,t,Uh,by rw[←YY]⟩,?_,?_⟩
 ·have oo:ae [q,u] wN zG:=((U.jV (by simp)).same (V.jV (by simp))).same (X.jV (by simp));exact(r.ab (o.nil F)).keep oo fun y d e=>by
   simp only[List.mem_cons,List.not_mem_nil,or_false]at e;rcases e with e|e
   ·subst e;exact O (by simp[d])
   ·subst e;exact M d
 ·refine((oF9.same W).trans X fun y d=>.inr (by simp only[aK]at d;omega)).mono fun y d=>?_;rcases List.mem_cons.1 d with e|e
  ·right;omega
  ·exact .inl e
section
section
variable {s:HL} {R:Rt.MS} {L:List Int} {s4:HL} {R':Rt.MS} {L' ids ic K S o:List Int} {s1 s2 s3:HL} {n:Nat}
theorem E3 {K K':List Int} (h: ∀x,x∈K↔x∈K'):kv K=kv K':=by
 funext x;unfold kv;rw[decide_eq_decide.2 (h x)]
theorem CN {s:HL} {keep:Int→Bool} {C C':List Int} (h:C.Perm C'):gj s keep C=gj s keep C':=by
 unfold gj;exact(h.filter _).length_eq
theorem E4 (s:HL) (keep:Int→Bool):gj s keep []=0:=rfl
theorem tu {s s':HL} {l:List Nat} (h: ∀i,i∈l→(s.ai i).sh=(s'.ai i).sh):ea s l=ea s' l:=by
 unfold ea;rw[List.map_congr_left fun i b=>by rw[h i b]]
theorem cY.swp (h:cY s R [] s4 R' L' ids ic K S o s1 s2 s3 n) (m:s.Inv) {K':List Int} {q j:HL} {u:List Int} (x:LF s R K' q j u):ids=[]∧ic=u∧s4.abs=j.abs:=by
 have z: ∀y,y∈K↔y∈K':=h.lx.same x.lx;have Y:jC s [] K=[]:=rfl;have M: ∀y,y∈S↔y∈K:=fun y=>by
  have Z:=h.kz;rw[Y,List.append_nil]at Z;exact Z.same h.lx y
 have C:tv K S=[]:=List.eq_nil_iff_forall_not_mem.2 fun y w=>by
  obtain⟨r,D⟩:=E5.1 w;exact D ((M y).1 r)
 have ho:o=[]:=by
  have:=jD h.ord;rw[Y]at this;exact this.eq_nil
 have E:ids=[]:=by rw[h.ii,ho];simp
 have N:=E3 z;have d: ∀i:Nat,(!bT K S ((2*i:Nat):Int))=bG K' i:=fun i=>by
  unfold bG;congr 1;rw[←N];unfold kv;cases e:bT K S ((2*i:Nat):Int)with
  |true=>exact(aU ((M _).1 ((h.held _).1 e))).symm
  |false=>exact(aX fun e2=>by rw[(h.held _).2 ((M _).2 e2)]at e;cases e).symm
 have t:(fun i:Nat=>!bT K S ((2*i:Nat):Int))=bG K':=funext d;have l: ∀i:Nat,bG K' i=false↔((2*i:Nat):Int)∈K:=fun i=>by
  unfold bG kv;rw[Bool.not_eq_false',decide_eq_true_eq,z]
 obtain⟨⟨B4,e4⟩,i4⟩:=h.four;have O:s2.st=s.st:=by rw[h.c2.jR.st,h.c1.jR.st]
 have F:s2.aj=s.aj:=by rw[h.c2.jR.aj,h.c1.jR.aj]
 have G:q.st=s.st:=x.zF.jR.st;have H:q.aj=s.aj:=x.zF.jR.aj;have o3:s3.aj=s.aj.filter fun i=>!bG K' i:=by rw[h.k3.aj,F];simp only[d]
 have o4:s4.aj=s3.aj:=by rw[e4];rfl
 have o5:j.aj=s.aj.filter fun i=>!bG K' i:=by rw[x.kb.aj,H]
 have P:s4.aj=j.aj:=by rw[o4,o3,o5]
 have I: ∀i,i∈j.aj→s.st.getD i 0=1∧((2*i:Nat):Int)∈K:=fun i m=>by
  rw[o5,List.mem_filter]at m;exact⟨bq.1 m.1,(l i).1 (by simpa using m.2)⟩
 have J: ∀i,i∈j.aj→s4.ai i=j.ai i:=fun i m=>by
  obtain⟨r,D⟩:=I i m;rw[h.Uk D,x.kb.ob i ((l i).2 D) (by rw[G];exact r),x.zF.ob i r,if_pos,N];rw[List.mem_filter];exact⟨dK.2 ⟨i,rfl,r⟩,by simpa using(z _).1 D⟩
 have b3:s3.B=s.B:=by rw[h.k3.B,h.c2.jR.B,h.c1.jR.B]
 have bt:q.B=s.B:=x.zF.jR.B;have L: ∀i,s3.st.getD i 0=1↔bG K' i=false∧s.st.getD i 0=1:=fun i=>by
  rw[h.k3.st,O];rw[show(!bT K S ((2*i:Nat):Int))=bG K' i from d i]
 have Q: ∀k,k≤s3.B.length→(gY s3 k).B=rT q K' k:=by
  intro k
  induction k with
  |zero=>intro _;show s3.B=q.B;rw[b3,bt]
  |succ k ih=>
   intro hk;obtain⟨⟨B,e⟩,_⟩:=j7 h.k3.inv k (by omega);have eo:bZ (gY s3 k) k=(bZ q k).filter fun i=>!bG K' i:=by
    rw[e];unfold bZ bk;rw[List.filter_filter];refine List.filter_congr fun i _=>?_;show(decide (32*k≤i)&&decide (s3.st.getD i 0=1))=(!bG K' i&&(decide (32*k≤i)&&decide (q.st.getD i 0=1)));rw[G];by_cases c:s3.st.getD i 0=1
    ·obtain⟨c1,c2⟩:=(L i).1 c;rw[c1,aU c,aU c2];simp
    ·rw[aX c,Bool.and_false];by_cases c2:s.st.getD i 0=1
     ·have:bG K' i=true:=by
       cases e:bG K' i with
       |true=>rfl
       |false=>exact absurd ((L i).2 ⟨e,c2⟩) c
      rw[this];rfl
     ·rw[aX c2];simp
   rw[j8,EU,ih (by omega),eo];rfl
 have T:s4.B=j.B:=by
  rw[h.r4,Q _ (Nat.le_refl _),x.kb.B,b3,←bt]
 have U:s4.born=j.born:=by
  have e1:s4.born=s3.born:=by rw[e4]
  rw[e1,h.k3.born,h.c2.jR.born,h.c1.jR.born,x.kb.born,x.zF.jR.born]
 have V:s4.abs=j.abs:=by
  unfold HL.abs;rw[T,U,P,List.map_congr_left J]
 refine⟨E,?_,V⟩;have W: ∀i,s.st.getD i 0=1→(s2.ai i).sh=(q.ai i).sh:=fun i r=>by
  rw[h.c2.ob i (by rw[h.c1.jR.st];exact r),h.c1.ob i r,x.zF.ob i r];have a1:=fun kp o=>(tw kp o).1;split<;>split<;>(first|split|skip)<;>simp[a1]
 rw[h.rp,x.ic,t,F,H,C,E4];have w4:ea s4 s4.aj=ea j j.aj:=by rw[P];exact tu fun i m=>by rw[J i m]
 have wk:ea s2 (s.aj.filter (bG K'))=ea q (s.aj.filter (bG K')):=tu fun i m=>W i (bq.1 (List.mem_filter.1 m).1);have kl:=h.lx.len x.lx;have pp:K.Perm ((dX (some s)).filter fun y=>decide (y∈K')):=by
  have X:((dX (some s)).filter fun y=>decide (y∈K')).Nodup:=by
   refine List.Nodup.sublist List.filter_sublist ?_;show(fj s.aj).Nodup;unfold fj;exact List.Pairwise.map _ (fun a b h e=>h (by omega)) (fQ s)
  refine(List.perm_ext_iff_of_nodup h.lx.nd X).2 fun y=>?_;rw[List.mem_filter];exact⟨fun w=>⟨dK.2 (h.lx.e9 y w),by simpa using(z y).1 w⟩,fun w=>(z y).2 (by simpa using w.2)⟩
 have cc:=CN (s:=s) (keep:=kv K) pp;rw[w4,wk,P,kl,cc,N];simp
theorem cY.again (h:cY s R L s4 R' L' ids ic K S o s1 s2 s3 n) (F:s.Inv) (GM:iP true s R) (G:R.Ok) {Q:List Int} (T:uu s4 (Rt.bz (some R')) Q): ∀x,x∈K→x∈Q:=by
 have O:=h.four.2;have d:=h.sub;have w: ∀i,((2*i:Nat):Int)∈K→ ∀y,y∈aY (some s) ((2*i:Nat):Int)→y∈aY (some s4) ((2*i:Nat):Int):=fun i B y P=>by
  have C:=sx (h.lx.e9 _ B);have r:=(h.st i).2 (d _ B);obtain⟨j,U,e,V,hs⟩:=(iu F.ok C).1 P;have H:=h.Uk B;obtain⟨a1,a2,a3⟩:=tw (kv K) (s.ai i);refine(iu O.ok r).2 ⟨j,by rw[H,a3];exact U,?_,V,by rw[H,a1];exact hs⟩;rw[H,e];unfold fZ;split
  ·rfl
  ·simp only;rw[dc U,if_neg (fun e=>by rw[hs]at e;cases e.2)]
 refine fun x B=>(h.lx.ind (fun x=>x∈K∧x∈Q) ⟨fun x B C=>?_,fun x y C u P W=>?_,fun x C u hk m W=>?_⟩ x B).2
 ·have I:=h.lx.cls.f x B C;refine⟨I,T.cls.f x ?_ ((h.live x).2 (d x I))⟩;have J:x∈((Rt.filled R).map (·.2)).foldl Rt.dC []:=B;rw[iq,Rt.mr G]at J;have X:=J.resolve_left (by simp);obtain⟨q,t,rfl⟩:=List.mem_map.1 X;have D:R'.Ok:=by rw[h.RR];exact⟨G.m1,G.m4,G.ls,G.lg,by have:=h.nn;simp only[cH,List.length_take];have:=G.lq;omega⟩
  have Y: ∀(k:Nat) (l:List Int),q∈Rt.fl k l→q.2∈l∧q.2≠0:=fun k l t=>by
   unfold Rt.fl at t;obtain⟨h1,h2⟩:=List.mem_filter.1 t;exact⟨(List.of_mem_zip h1).2,by simpa using h2⟩
  rcases List.mem_append.1 t with t|t
  ·obtain⟨a,b⟩:=Y _ _ t;exact pw D (.inl (by rw[h.RR];exact a)) b
  ·rcases List.mem_append.1 t with t|t
   ·obtain⟨a,b⟩:=Y _ _ t;exact pw D (.inr (.inl (by rw[h.RR];exact a))) b
   ·obtain⟨a,b⟩:=Y _ _ t;exact pw D (.inr (.inr (by rw[h.RR];simp[a]))) b
 ·obtain⟨i,rfl,_⟩:=C;have M:=h.lx.cls.g _ y (h.lx.e9 _ u.1) u.1 P W;exact⟨M,T.cls.g _ y ((h.live _).2 (d _ u.1)) u.2 (w i u.1 y P) ((h.live y).2 (d y M))⟩
 ·obtain⟨i,rfl,z⟩:=C;have E:=h.lx.cls.e _ (h.lx.e9 _ u.1) u.1 hk m.1 W;have r:=(h.st i).2 (d _ u.1);have H:=h.Uk u.1;have kk:(s.ai i).sh.2.2=2:=by rw[←mw F.ok z];exact hk
  obtain⟨l1,l2,l3⟩:=cX F.ok z;have SN:2≤(s.ai i).rf.length:=by
   simp only[aS,Bool.and_eq_true,Bool.or_eq_true,decide_eq_true_eq]at l3;omega
  rw[sA F.ok z (by omega)]at m;have V:(s.ai i).rf.getD 0 0≠0:=fun e=>by
   rw[e]at m;obtain⟨j,U,Z⟩:=h.lx.e9 _ m.1;have:j=0:=by omega
   subst this;exact F.z0 Z
  have N:s4.ai i=s.ai i:=by
   rw[H];unfold fZ;rw[if_pos];exact .inr ⟨V,by unfold kv;simpa using m.1⟩
  have ev:ez s4 ((2*i:Nat):Int)=ez s ((2*i:Nat):Int):=by
   rw[px O.ok r (by rw[N];omega),px F.ok z (by omega),N]
  rw[←ev]at E⊢;refine⟨E,T.cls.e _ ⟨i,rfl,r⟩ u.2 ?_ ?_ ((h.live _).2 (d _ E))⟩
  ·rw[mw O.ok r,N];exact kk
  ·rw[sA O.ok r (by rw[N];omega),N];exact m.2
end
end
set_option maxHeartbeats 2000000 in
theorem u0 (w:World):Cs Tryz.prog 25 [] w fun v w'=>v=.bool true∧ae [] w w':=by
 obtain⟨f1,f2,f3,f4,f5,f6⟩:=OQ;obtain⟨s,es,L⟩:=exA;have hi:=L.inv;refine en [] ?_;refine gO ?_;refine aw (OR w 4) ?_;rintro r w1 ⟨a,fp,rfl,h1,_,M,ja⟩;have YZ:(my 4).isSome=true:=rfl;have Y0:HR w1 a fp SO:=h1;obtain⟨hb,rfl,_⟩:=h1;refine aQ YZ ?_;refine aw (Rt.u' w1 1) ?_;rintro r w2 ⟨jq,ar,fr,rfl,SP,_,Jt⟩;have er:Rt.fm 1=some rA:=rfl;rw[er]at SP;have Y1:(Rt.fm 1).isSome=true:=rfl;obtain⟨rb,era,_⟩:=id SP;subst era;have z1:=ja.size;have z2:=jq.size;refine aQ Y1 ?_;refine aw (E6 (Y0.ab jq) 1 0 (by omega)) ?_;rintro r w3 ⟨rfl,h3,gJ⟩;rw[f1];have H:=Y0.lt;have Nt:=SP.lt;have Ju: ∀y,y∈fp→y∉fr:=fun y j e=>by have:=H y j;have:=Jt y e;omega
 have hrp: ∀y,y∈fr→y∉fp:=fun y j e=>Ju y e j;refine aQ (dg (rfl:(0:Int)=0)) ?_;have b1: ∀s,LI=some s→s.born≤4611686018427387900:=fun s h=>by rw[h]at f5;simp only[Option.map_some,Option.some.injEq]at f5;omega
 have b2: ∀s,LJ=some s→s.born≤4611686018427387900:=fun s h=>by rw[h]at f6;simp only[Option.map_some,Option.some.injEq]at f6;omega
 refine aw (E7 (m:=LI) h3 64 (0,0,0) (by omega) (by decide) b1) ?_;rintro r w4 ⟨rfl,h4,iV⟩;rw[f2];refine aQ (dg (rfl:(0:Int)=0)) ?_;rw[ag rfl rfl];refine gO ?_;refine aw (E7 (m:=LJ) h4 66 (1,0,0) (by omega) (by decide) b2) ?_;rintro r w5 ⟨rfl,h5,jv⟩;rw[f3];refine aQ (dg (rfl:(0:Int)=0)) ?_;refine aw (po (m:=OS) h5 66 0 64 (by omega) (by omega)) ?_;rintro r w6 ⟨rfl,h6,lZ⟩;rw[f4];have Ul:HR w6 (some ⟨hb,0,none⟩) fp (some s):=by rw[←es];exact h6
 have Jq:ae fp w2 w6:=((gJ.same iV).same jv).same lZ;have H7:=SP.keep Jq hrp;have o06:ae [] w w6:=(ja.nil jq).trans Jq fun x L=>.inr (M x L);refine aQ (dg (rfl:(0:Int)=0)) ?_;refine aw (OT Ul hi.ok H7 (by decide)) ?_;rintro r w7 ⟨N,b,rfl,Y2,gb⟩;have z26:=Jq.size;have z7:=N.size;have O:b∉fp:=fun e=>by have:=H b e;omega
 have LK:b∉fr:=fun e=>by have:=Nt b e;omega
 refine gO ?_;refine aw (qA Y2 (by simp) (Ul.ab N) hi O 64 (by omega)) ?_;rintro _ w8 ⟨rfl,f8,OU,k9,gf8⟩;rw[L.OV.2]at OU;rw[L.OV.1];have z8:=k9.size;have Y3: ∀y,y∈fp→y∉ [b]:=fun y j e=>O (by simp only[aK]at e;exact e▸j);have Y4: ∀y,y∈fr→y∉ [b]:=fun y j e=>LK (by simp only[aK]at e;exact e▸j);have h8:=(Ul.ab N).keep k9 Y3;have Ny:=(H7.ab N).keep k9 Y4;refine aQ (dg (rfl:(0:Int)=0)) ?_;refine aw (qA OU (by simp) h8 hi O 66 (by omega)) ?_;rintro _ w9 ⟨rfl,f9,LM,kC,gf9⟩;rw[L.OW.2]at LM;rw[L.OW.1];have h9:=h8.keep kC Y3;have GP:=Ny.keep kC Y4;have z9:=kC.size;have Y5:w.heap.size≤b:=by omega
 have ob: ∀y,y∈[b]→y∈([]:List Nat)∨w.heap.size≤y:=fun y j=>by simp only[aK]at j;exact .inr (by omega)
 have o09:ae [] w w9:=((o06.nil N).trans k9 ob).trans kC ob;refine aQ (dg (rfl:(0:Int)=0)) ?_;refine aw (kS LM (by simp) h9 hi GP L.snd (by rw[L.aj];simp) (by rw[py];simp) (L.snd.CO hi.ok) O LK Ju) ?_;rintro _ I ⟨s4,R',L',ids,ic,K,S,o,s1,s2,s3,n,pv,Y6,LN,J,SQ,rfl,Nr,CP,CQ,LO,H8,P,aar,OX,aas⟩;obtain⟨c1,c2,c3,c4,c5⟩:=L.first SQ;have E8:=SQ.snd hi L.snd (Rt.wO er);have i4:=SQ.four.2;have Um: ∃a b c d e f g i,ic=[a,b,c,d,e,f,g,i]:=⟨_,_,_,_,_,_,_,_,SQ.rp⟩;obtain⟨p0,p1,p2,p3,p4,p5,p6,p7,H9⟩:=Um;subst c2 c3 c4;have SR:=H8.size;have e0:p0=2:=by rw[H9]at c5;exact c5
 have Un:ae [] w I:=o09.trans H8 fun y j=>by
  rcases List.mem_cons.1 j with rfl|j
  ·exact .inr Y5
  ·rcases List.mem_append.1 j with j|j
   ·exact .inr (M y j)
   ·exact .inr (by have:=Jt y j;omega)
 rw[H9];refine gO ?_;refine bp fun tb qx Ub uz E9 LP=>?_;refine gO ?_;refine dF (n:=8) (i:=0) E9 (by rfl) (by simp) bR fun wN LQ l wP=>?_;have e12:dU [Value.int .i64 0,.int .i64 0,.int .i64 0,.int .i64 0,.int .i64 0,.int .i64 0,.int .i64 0,.int .i64 0] 0 (ints [p0,p1,p2,p3,p4,p5,p6,p7])=ints [p0,p1,p2,p3,p4,p5,p6,p7]:=rfl;rw[e12,e0]at l;have Uo:wN.cell? ⟨tb,0,none⟩=some (.int .i64 2):=by rw[l.cell];rfl
 have E:ae [] I wN:=LP.trans wP fun y j=>by simp only[aK]at j;exact .inr (by omega)
 have OY:=LO.ab E;refine cT Uo (dg (rfl:(0:Int)=0)) (dg (rfl:(2:Int)=2)) ?_;rw[ag rfl rfl,ag rfl rfl];refine gO ?_;refine eJ fun q uy hq yG R t=>?_;refine gO ?_;have E':Sl uy 1 (.slice (some ⟨q,0,none⟩) 2 2) ([2,1]:List Int).length (ints [2,1]) [q]:=by
  have e:ints [2,1]++[]=[Value.int .i64 2,.int .i64 1]:=rfl;rw[←e]at R;exact Sl.wH R rfl rfl
 refine aw (Bq (OY.ab t) E' (by simp)) ?_;rintro _ E2 ⟨rfl,F⟩;have k:ae [] I E2:=(E.nil t).nil F;have OZ:=CQ.ab k;have Up:=CP.ab k;refine aQ (aU (rfl:([2,1]:List Int)=[2,1])) ?_;refine aw (Fa OZ Up) ?_;rintro _ zG ⟨rfl,u,_,z,O0,B⟩;have ep1:Rt.qC (some {rA with Q:=[66,64]})=((66,0),some {rA with Q:=[64]}):=rfl;rw[ep1]at O0⊢;have O1:b<w9.heap.size:=by obtain⟨_,C,_⟩:=LM;exact C.lt
 have O2:b∉J:=fun e=>(P b e).elim LK fun C=>by omega
 have Y7: ∀y,y∈LN→y∉J:=OX;have O3:=OZ.keep u O2 Y7;refine gO ?_;refine aw (Fa O3 O0) ?_;rintro _ Nz ⟨rfl,D,_,T,O4,G⟩;have ep2:Rt.qC (some {rA with Q:=[64]})=((64,0),some rA):=rfl;rw[ep2]at O4⊢;have Y8:=u.size;have Y9:=D.size;have O5:=k.size;have flt: ∀y,y∈LN→y<I.heap.size:=fun y j=>by obtain⟨_,_,C,_⟩:=CQ;exact C.lt y j
 have U:b∉z:=fun e=>(B b e).elim O2 fun C=>by omega
 have O6: ∀y,y∈LN→y∉z:=fun y j e=>(B y e).elim (Y7 y j) fun C=>by have:=flt y j;omega
 have Uq:=O3.keep D U O6;have O7:b∉T:=fun e=>(G b e).elim U fun C=>by omega
 have Y': ∀y,y∈fp→y∉J:=fun y j e=>(P y e).elim (Ju y j) fun C=>by have:=H y j;omega
 have V: ∀y,y∈fp→y∉z:=fun y j e=>(B y e).elim (Y' y j) fun C=>by have:=H y j;omega
 have O8: ∀y,y∈fp→y∉T:=fun y j e=>(G y e).elim (V y j) fun C=>by have:=H y j;omega
 have h14:=Nr.ab k;have h16:=(h14.keep u Y').keep D V;have tbl:I.heap.size≤tb∧tb<wN.heap.size:=⟨by omega,l.lt⟩;have f14: ∀y,y∈J→y<I.heap.size:=CP.lt;have O9:tb∉J:=fun e=>by have:=f14 tb e;omega
 have O':tb∉z:=fun e=>(B tb e).elim O9 fun C=>by have:=t.size;have:=F.size;omega
 have tt:=(l.ab t).ab F;have Pa:=(tt.keep u O9).keep D O';have W:iP true s4 rA:=⟨E8.1,Br (.inl rfl)⟩;have Za: ∀y,y∈J→w.heap.size≤y:=fun y j=>(P y j).elim (fun C=>by have:=Jt y C;omega) fun C=>by omega
 have X: ∀y,y∈z→w.heap.size≤y:=fun y j=>(B y j).elim (Za y) fun C=>by omega
 have Pb: ∀y,y∈T→w.heap.size≤y:=fun y j=>(G y j).elim (X y) fun C=>by omega
 have Ur:ae [] w Nz:=((Un.nil k).trans u fun y j=>.inr (Za y j)).trans D fun y j=>.inr (X y j);refine gO ?_;refine aw (kS Uq (by simp) h16 i4 O4 W (by rw[c1];omega) (by rw[py];simp) (W.CO i4.ok) O O7 O8) ?_;rintro _ LR ⟨s5,R5,L5,aat,Us,K5,S5,o5,t1,t2,t3,n5,pv5,aau,fl5,fr5,Pc,rfl,h17,aav,aaw,aax,Pd,_,_,_,_⟩;have e5:=cY.none s4 Pc py;rw[c1]at e5;have Um: ∃a b c d e f g i,Us=[a,b,c,d,e,f,g,i]:=⟨_,_,_,_,_,_,_,_,Pc.rp⟩;obtain⟨q0,q1,q2,q3,q4,q5,q6,q7,Y⟩:=Um;have eq2:q2=2:=by rw[Y]at e5;exact e5
 have O5:=k.size;have z12:=E.size;have Pe:=Pa.keep Pd fun e=>by
  rcases List.mem_cons.1 e with e|e
  ·omega
  ·rcases List.mem_append.1 e with e|e
   ·have:=H tb e;omega
   ·exact(G tb e).elim O' fun C=>by have:=t.size;have:=F.size;omega
 rw[Y];refine gO ?_;refine dF (n:=8) (i:=0) Pe (by rfl) (by simp[ints]) bR fun w18 Pf Z Ut=>?_;have e18:dU (ints [2,p1,p2,p3,p4,p5,p6,p7]) 0 (ints [q0,q1,q2,q3,q4,q5,q6,q7])=ints [q0,q1,q2,q3,q4,q5,q6,q7]:=rfl;rw[e18,eq2]at Z;have Uu:w18.cell? ⟨tb,2,none⟩=some (.int .i64 2):=by rw[Z.cell];rfl
 refine lY Uu (cZ (rfl:(0:Int)=0)) (cZ (rfl:(66:Int)=66)) (cZ (rfl:(64:Int)=64)) (cZ (rfl:(2:Int)=2)) ?_;refine(Ur.trans Pd fun y j=>?_).trans Ut fun y j=>by simp only[aK]at j;exact .inr (by omega)
 rcases List.mem_cons.1 j with rfl|j
 ·exact .inr Y5
 ·rcases List.mem_append.1 j with j|j
  ·exact .inr (M y j)
  ·exact .inr (Pb y j)
set_option maxRecDepth 20000
theorem mZ {R:Rt.MS} (h:R.Ok):(Rt.bz (some R)).length≤144:=by
 have b:=Rt.dI ((Rt.filled R).map (·.2)) [];have d:(Rt.filled R).length≤R.V.length:=by
  rw[Rt.jw h,List.length_map,Rt.eP h];exact Rt.jy
 have:=Rt.H' h;have e:Rt.bz (some R)=((Rt.filled R).map (·.2)).foldl Rt.dC []:=rfl;rw[e];simp only[List.length_nil,List.length_map]at b;omega
set_option maxRecDepth 8000
theorem CR {w : World} {a b : Nat} {q : RL} {fa fb : List Nat} (ha : FM w a q fa) (hb : FM w b q fb) (hl : q.O.length ≤ 1000) (hn : ∀ o, o ∈ q.O → o.rf.length ≤ 1000 ∧ o.dt.length ≤ 1000) :
    Cs Tryz.prog 19 [.pointer (some ⟨a, 0, none⟩), .pointer (some ⟨b, 0, none⟩)] w fun v w' => v = .bool true ∧ ae [] w w' := by
  obtain ⟨vB, vO, vF, fB, fOb, fF, L, _, l⟩ := ha;obtain ⟨vB', vO', vF', fB', aay, fF', L', _, r⟩ := hb;obtain ⟨aB, cB, rfl⟩ := l.hB.val;obtain ⟨aB', cB', rfl⟩ := r.hB.val;obtain ⟨aOb, cO, rfl⟩ := l.hO.val;obtain ⟨aaz, cO', rfl⟩ := r.hO.val;have hLL : L.length = L'.length := by have e1 := congrArg List.length l.eq; have e2 := congrArg List.length r.eq; simp only [List.length_map] at e1 e2; omega
  have hLq : L.length = q.O.length := by have e1 := congrArg List.length l.eq; simp only [List.length_map] at e1; omega
  have Fb := l.ok;refine l7 rfl ?_;unfold kD;have od := ae.drew [] w;refine lY l.hb.drew.cell r.hb.drew.cell (dg (rfl : (q.B.length : Int) = (q.B.length : Int))) (dg (show (L.length : Int) = (L'.length : Int) by omega)) (dg (rfl : (q.born : Int) = (q.born : Int))) ?_;have aaA := l.ok.jd;refine az (5 :: 44 :: 45 :: 46 :: 47 :: 48 :: 49 :: 50 :: 51 :: 52 :: 53 :: 54 :: 55 :: 56 :: 57 :: 58 :: 59 :: 60 :: 61 :: 62 :: 63 :: 64 :: 65 :: 66 :: 67 :: []) (fun g w' => ∃ i : Nat, g 5 = .int .i64 (i : Int) ∧ i ≤ q.B.length ∧ ae [] w w') (fun g _ => bw q.B.length 5 g) ⟨0, by simp only [go_sem]; rfl, by omega, od⟩ fun g w1 hI G => ?_;obtain ⟨i, h5, hi, S⟩ := hI;have d := l.ab S;have t := r.ab S;by_cases c1 : i < q.B.length
  · obtain ⟨gb, _, yb, eb, Uv, _⟩ := d.uP;obtain ⟨gb', _, yb', eb', Pg, _⟩ := t.uP;cases eb;cases eb';have ci : (0 : Int) ≤ (i : Int) ∧ (i : Int) < (q.B.length : Int) := by omega
    have hlb := bJ q.B;have cb : aC w1.drew ⟨gb, i * 2, none⟩ 2 = some (bV (q.B.getD i (0, 0))) := by rw [ay Uv.drew (i * 2) 2 (by rw [cH]; omega), qD yb c1]
    have cb' : aC w1.drew ⟨gb', i * 2, none⟩ 2 = some (bV (q.B.getD i (0, 0))) := by rw [ay Pg.drew (i * 2) 2 (by rw [cH]; omega), qD yb' c1]
    have ee : uk true 2 (.agg ⟨bV (q.B.getD i (0, 0))⟩) (.agg ⟨bV (q.B.getD i (0, 0))⟩) = some (.bool false) := by
      unfold bV;rw [wG true 2 _ _ rfl rfl];simp [gw, j4, mX]
    refine uq h5 d.hb.cell d.hb.drew.cell t.hb.drew.cell (aU ci.2) (eq_true ci) @Int.toNat_natCast cb cb' ee (au i (by omega)) ?_;refine G _ _ ⟨i + 1, ?_, by omega, S.nil (ae.drew [] w1)⟩ ?_
    · simp only [go_sem]
    · exact aJ h5
  refine cT h5 d.hb.cell (aX (show ¬ (i : Int) < (q.B.length : Int) by omega)) ?_;refine az (6 :: 7 :: 8 :: 68 :: 69 :: 70 :: 71 :: 72 :: 73 :: 74 :: 75 :: 76 :: 77 :: 78 :: 79 :: 80 :: 81 :: 82 :: 83 :: 84 :: 85 :: 86 :: 87 :: 88 :: 89 :: 90 :: 91 :: 92 :: 93 :: 94 :: 95 :: 96 :: 97 :: 98 :: 99 :: 100 :: 101 :: 102 :: 103 :: 104 :: 105 :: 106 :: 107 :: 108 :: 109 :: 110 :: 111 :: 112 :: 113 :: 114 :: 115 :: 116 :: 117 :: 118 :: 119 :: 120 :: 121 :: 122 :: 123 :: 124 :: 125 :: 126 :: 127 :: 128 :: 129 :: 130 :: 131 :: 132 :: []) (fun g w' => ∃ i : Nat, g 6 = .int .i64 (i : Int) ∧ i ≤ L.length ∧ ae [] w w') (fun g _ => bw L.length 6 g) ⟨0, by simp only [go_sem]; rfl, by omega, S⟩ fun g2 F hI W => ?_;clear S d t G;obtain ⟨i, h6, hi, S⟩ := hI;have d := l.ab S;have t := r.ab S;by_cases c2 : i < L.length;rotate_left
  · refine cT h6 d.hb.cell (aX (show ¬ (i : Int) < (L.length : Int) by omega)) ?_;exact S
  have ci : (0 : Int) ≤ (i : Int) ∧ (i : Int) < (L.length : Int) := by omega
  have ci' : (0 : Int) ≤ (i : Int) ∧ (i : Int) < (L'.length : Int) := by omega
  refine cT h6 d.hb.cell (aU ci.2) ?_;have hd := d.ab (ae.drew [] F);have X := t.ab (ae.drew [] F);obtain ⟨Uw, _, yO, eOb, Y, _, _⟩ := hd.row (by omega);obtain ⟨H, _, yO', Ux, I, _, _⟩ := X.row (by omega);cases eOb;cases Ux;obtain ⟨cA, _⟩ := hd.all (cap := 0) Y c2;obtain ⟨Zb, _⟩ := X.all (cap := 0) I (show i < L'.length by omega);have ja : L.getD i default ∈ L := by simp [c2]
  have LG : L'.getD i default ∈ L' := by have : i < L'.length := by omega
                                         simp [this]
  have eo : (L.getD i default).o = (L'.getD i default).o := by
    have e1 : (L.map OM.o)[i]? = (L'.map OM.o)[i]? := by rw [← l.eq, ← r.eq]
    rw [List.getElem?_map, List.getElem?_map, List.getElem?_eq_getElem c2, List.getElem?_eq_getElem (show i < L'.length by omega)] at e1;simp only [Option.map_some, Option.some.injEq] at e1;simpa [List.getD_eq_getElem?_getD, c2, show i < L'.length by omega] using e1
  have Uy := l.om _ ja;have J := r.om _ LG;have GI := hn (L.getD i default).o (by rw [l.eq]; exact List.mem_map.2 ⟨_, ja, rfl⟩);have LS := Uy.one;have Ph := J.one;generalize L.getD i default = m at *;generalize L'.getD i default = Z at *;refine bH (7 :: 8 :: 77 :: 78 :: 79 :: 80 :: 81 :: 82 :: 83 :: 84 :: 85 :: 86 :: 87 :: 88 :: 89 :: 90 :: []) (fun Fc w' => ∃ U V, Fc 7 = .pointer (some ⟨U, 0, none⟩) ∧ Fc 8 = .pointer (some ⟨V, 0, none⟩) ∧ At w' U m.V ∧ At w' V Z.V ∧ ae [] F w') (fun kk jS => ?_) (fun g3 w3 hJ => ?_)
  · refine aW [a, b, Uw, H] ?_;have LU : ∀ z, z ∈ [a, b, Uw, H] → z < F.drew.heap.size := fun z hz => by
      simp only [List.mem_cons, List.not_mem_nil, or_false] at hz;rcases hz with rfl | rfl | rfl | rfl
      · exact hd.hb.lt
      · exact X.hb.lt
      · exact Y.lt
      · exact I.lt
    have E : ∀ w', ae [] F.drew w' → SB [a, b, Uw, H] F.drew w' := fun w' o => (SB.refl _ _).only o fun z hz => ⟨LU z hz, by simp⟩;have Pj : ∀ u, u ∈ m.V → bh u = true := fun u hu => pA (L := [m]) (fun m l => by simp only [aK] at l; rw [l]; exact LS) u (by simpa [gS] using hu);have K : ∀ u, u ∈ Z.V → bh u = true := fun u hu => pA (L := [Z]) (fun m l => by simp only [aK] at l; rw [l]; exact Ph) u (by simpa [gS] using hu);refine xG h6 hd.hb.cell X.hb.cell (eq_true ci) (eq_true ci') @Int.toNat_natCast cA Zb ?_;refine ⟨?_, ?_⟩
    · refine nw fun U u1 Uz pf M j => ⟨.inr (E _ j), ?_⟩;refine gO ?_;refine nw fun V u2 Ia yJ N k => ⟨.inr (E _ (j.nil k)), ?_⟩;refine gO ?_;have l1 := LU;refine pB (cs := m.V) (M.ab k) rfl (by simp [OM.kT]) Pj fun u3 qt O B => ⟨.inr (E _ ((j.nil k).trans B fun y hy => by simp only [aK] at hy; exact .inr (by omega))), ?_⟩;refine gO ?_;refine pB (cs := Z.V) (N.keep B (by simp only [aK]; omega)) rfl (by simp [OM.kT]) K fun u4 pk P Q => ⟨.inl rfl, ?_⟩;refine gO ?_;refine jS _ _ ⟨U, V, by simp only [go_sem], by simp only [go_sem], O.keep Q (by simp only [aK]; omega), P, (((ae.drew [] F).nil j).nil k).trans (B.jV (T := [U, V]) (by simp) |>.same (Q.jV (by simp))) fun y hy => ?_⟩
      · have : F.drew.heap.size = F.heap.size := rfl;simp only [List.mem_cons, List.not_mem_nil, or_false] at hy;exact .inr (by omega)
    · refine nw fun V u1 Ia pf M j => ⟨.inr (E _ j), ?_⟩;refine gO ?_;refine nw fun U u2 Uz yJ N k => ⟨.inr (E _ (j.nil k)), ?_⟩;refine gO ?_;refine pB (cs := m.V) N rfl (by simp [OM.kT]) Pj fun u3 qt O B => ⟨.inr (E _ ((j.nil k).trans B fun y hy => by simp only [aK] at hy; exact .inr (by omega))), ?_⟩;refine gO ?_;refine pB (cs := Z.V) ((M.ab k).keep B (by simp only [aK]; omega)) rfl (by simp [OM.kT]) K fun u4 pk P Q => ⟨.inl rfl, ?_⟩;refine gO ?_;refine jS _ _ ⟨U, V, by simp only [go_sem], by simp only [go_sem], O.keep Q (by simp only [aK]; omega), P, (((ae.drew [] F).nil j).nil k).trans (B.jV (T := [U, V]) (by simp) |>.same (Q.jV (by simp))) fun y hy => ?_⟩
      · have : F.drew.heap.size = F.heap.size := rfl;simp only [List.mem_cons, List.not_mem_nil, or_false] at hy;exact .inr (by omega)
  obtain ⟨U, V, h7, h8, C, D, gJ⟩ := hJ;have o3 := S.nil gJ;have hV : m.V = wQ m.o m.vr m.vd := rfl;have hV' : Z.V = wQ m.o Z.vr Z.vd := by rw [eo]; rfl
  rw [hV] at C;rw [hV'] at D;have c7 : aC w3 ⟨U, 2, none⟩ 3 = some (bS m.o.sh) := by rw [ay C 2 3 (by simp [wQ])]; rfl
  have c8 : aC w3 ⟨V, 2, none⟩ 3 = some (bS m.o.sh) := by rw [ay D 2 3 (by simp [wQ])]; rfl
  have ee : uk true 3 (.agg ⟨bS m.o.sh⟩) (.agg ⟨bS m.o.sh⟩) = some (.bool false) := by
    unfold bS;rw [wG true 3 _ _ rfl rfl];simp [gw, j4, mX]
  have b1 : ∀ x : Bool, (x == x) = true := fun x => by simp
  have b2 : (true != true) = false := rfl;have i1 : ∀ x : Int, (x != x) = false := fun x => by simp
  have rr := (Uy.r.ab o3);have Zc := (J.r.ab o3);have dd := (Uy.d.ab o3);have Zd := (J.d.ab o3);rw [← eo] at Zc Zd;(repeat (first | with_reducible (first | refine nx ?_ | refine bA rfl ?_) | simp only [go_sem, h7, h8, C.cell, D.cell, wQ, c7, c8, ee, i1, b1, b2]));refine aw (Bq rr Zc (by have := GI.1; omega)) ?_;rintro _ w4 ⟨rfl, R⟩;(repeat (first | with_reducible (first | refine nx ?_ | refine bA rfl ?_) | simp only [go_sem, h7, h8, aU (rfl : m.o.rf = m.o.rf), (C.ab R).cell, (D.ab R).cell, wQ]));refine aw (Bq (dd.ab R) (Zd.ab R) (by have := GI.2; omega)) ?_;rintro _ w5 ⟨rfl, jv⟩;refine cT h6 (aU (rfl : m.o.dt = m.o.dt)) (au i (by omega)) ?_;refine W _ w5 ⟨i + 1, ?_, by omega, (o3.nil R).nil jv⟩ ?_
  · simp only [go_sem]
  · exact aJ h6
section
set_option maxRecDepth 20000
variable {s s1 s2 s3 s4:HL} {K L4 S ids l o ic:List Int} {cs:List Value} {n:Nat} {R R4:Rt.MS} {w:World}
theorem LV (h:s.Ok) (b:s.aj.length≤1000):s.abs.O.length≤1000∧ ∀o,o∈s.abs.O→o.rf.length≤1000∧o.dt.length≤1000:=by
 refine⟨by simpa[HL.abs]using b,fun o d=>?_⟩;obtain⟨i,j,rfl⟩:=List.mem_map.1 d;obtain⟨l,m,k⟩:=cX h (bq.1 j);simp only[aS,Bool.and_eq_true,decide_eq_true_eq]at k;omega
theorem tx {vs:List Value} (h:cs.length=vs.length):dU vs 0 cs=cs:=by
 have:=j0 cs [] vs (by omega);simp only[List.nil_append,List.length_nil]at this;rw[this,List.drop_of_length_le (by omega),List.append_nil]
theorem Ao {a:Option Addr} {fp:List Nat} (h:Rt.PR w a fp (some R)):R.Ok:=by
 obtain⟨_,_,_,_,_,_,_,_,_,b⟩:=h;exact b.ok
theorem Ib {m:List Int} (h:mz l) (d:mz m) (e: ∀x,x∈l↔x∈m):l=m:=
 List.Perm.eq_of_pairwise (le:=fun a b=>a<b) (fun a b _ _ j k=>by omega) h d ((List.perm_ext_iff_of_nodup h.nodup d.nodup).2 e)
theorem CS (s:HL):mz (dX (some s)):=by
 show(fj s.aj).Pairwise (· < ·);unfold fj;refine List.Pairwise.map _ (fun a b h=>by omega) (?_:s.aj.Pairwise (· < ·));unfold HL.aj bk;exact List.Pairwise.sublist List.filter_sublist List.pairwise_lt_range
def Fe (w:World) (b:Nat):Nat:=match w.cell? ⟨b,3,none⟩with
 |some (.slice _ n _)=>n
 |_=>0
theorem Bs {d:Nat} {fr:List Nat} (h:Rt.PR w (some ⟨d,0,none⟩) fr (some R)):Fe w d=R.Q.length:=by
 obtain⟨b,k,vs,l,m,o,q,r,_,j⟩:=h;cases k;obtain⟨a,c,e⟩:=j.h2.val;unfold Fe;rw[j.hb.cell,e];rfl
theorem iP.tail {a:Int} {q:List Int} (h:iP true s R) (e:R.Q=a::q):iP true s {R with Q:=q}:=
 ⟨h.1,h.2.1,h.2.2.1,fun x b=>h.2.2.2 x (by rw[e];simp[show x∈q from b])⟩
theorem cY.Pl {L A:List Int} {B:HL} {C:Rt.MS} {D b d r E F:List Int} {G H I:HL} {J:Nat} (h:cY s R L s4 R4 L4 ids ic K S o s1 s2 s3 n) (j:cY s4 R4 L4 B C D b d r E F G H I J) (k:s.Inv) (l:iP true s R) (M:R.Ok) (t:wR s L A) (u:R.Q.length+ids.length<64):b.length=0:=by
 have N:n=o.length:=by have:=h.nn;have:=h.UA;omega
 have m:=(h.Pm k t).1;have w:=j.dead h.four.2 m;have e:(A.filter fun a=>!decide (a∈o.take n)).filter (fun x=>!decide (x∈r))=[]:=by
  refine List.filter_eq_nil_iff.2 fun x O=>?_;obtain⟨P,y⟩:=List.mem_filter.1 O;rw[N,List.take_length]at y;have Q:x∉o:=by simpa using y
  have q:x∈K:=Decidable.byContradiction fun c=>Q ((h.mem k t).2 ⟨P,c⟩);have:=h.again k l M j.lx x q;simp[this]
 rw[e]at w;have T:=w.eq_nil;have:=j.UA;have z:=j.UB;rw[T]at z;simp at z;omega
theorem cY.UC (h:cY s R [] s4 R4 L4 ids ic K S o s1 s2 s3 n) {T:List Int} (b:Ff s true (Rt.bz (some R)) T):dX (some s4)=T:=by
 have j:jC s [] K=[]:=rfl;have d:=h.kz;rw[j,List.append_nil]at d;refine Ib (CS s4) b.up fun x=>?_;rw[dK,h.live];exact d.same b.lx x
theorem pC: ∀l:List Int,dx (ints l) (ints l)=some true
 | []=>rfl
 |x::l=>by
  show dx (.int .i64 x::ints l) (.int .i64 x::ints l)=_
  rw[gw,if_pos (by simp),pC l]
theorem Fg (h:l.length=n):uk true n (.agg ⟨ints l⟩) (.agg ⟨ints l⟩)=some (.bool false):=by
 rw[wG true n _ _ (by rw[ax];exact h) (by rw[ax];exact h),pC];rfl
set_option maxHeartbeats 8000000 in
theorem wS {g:BG} {vO vD vL vP vN vl:Value} {nl:Nat} {fl:Nat→Nat→Nat} (hb:tz w.heap.size w cs g vO vD vL vP vN) (hl:lU w.heap.size w vl nl 1 fl):
  Cs Tryz.prog 3 [.agg ⟨cs⟩,vl] w fun v w'=>v=.bool true∧ae [] w w':=by
 have rU:=hb.e;refine jT rfl ?_;unfold gN;refine gO ?_;refine bp fun q w1 hq pf gz ja=>?_;have Ic:=ja.size;have Jv: ∀w',ae [] w1 w'→aC w' ⟨q,0,none⟩ 7=some cs:=fun w' o=>by rw[ay (gz.ab o) 0 7 (by rw[rU];simp),rU];rfl
 have Ck:=hb.ab (Nat.le_refl _) Ic ja;refine aQ (Jv w1 (ae.refl _ _)) ?_;refine aw (Fh (nl:=0) (fl:=fun _ _=>0) Ck ⟨none,0,rfl,fun _ _=>by show(0:Nat)<256;omega,fun i hi=>by omega⟩) ?_;rintro _ w2 ⟨jq,b,SS,rb,qb,kb,s,R,fh,fr,ff,fk,I,L,A,Pn,rfl,j⟩;have eA:A=[]:=List.length_eq_zero_iff.1 (by have:=j.n1;omega);have eL:L=[]:=by rw[j.ra.e,eA];rfl
 subst eL;have z2:=jq.size;refine aQ (Jv w2 jq) ?_;refine aw (Fi (Ck.ab (Nat.le_refl _) z2 jq)) ?_;rintro _ w3 ⟨b',rfl,s',R',DV,⟨GQ,Po,Pp,Pq,J,GR,NA,NB,rfl,Pr⟩,NC,gJ,sz',sn',op'⟩;obtain⟨rfl,rfl⟩:=Prod.mk.inj (va.uniq j.op op');have z3:=gJ.size;have Ap:=jq.nil gJ;have hi:=j.sc.inv;have B:=j.sc.SU;have ND:=j.sz.2.1;have GO:=mZ B;have Ps:I∉fh:=fun e=>j.ng (by simp[e]);have Jt:I∉fr:=fun e=>j.ng (by simp[e]);have NF:=j.sc.ab gJ;refine gO ?_;refine aw (kS (j.rg.ab gJ) (by simp) NF.h hi NF.r j.sn (by omega) (by omega) (j.sn.CO hi.ok) Ps Jt fun y d=>(j.sc.d2 y d).1) ?_;rintro _ w4 ⟨s4,R4,L4,ids,ic,K,S,o,s1,s2,s3,n,pv,Y6,fl4,Pt,t,rfl,h4,GS,UD,SV,M,Pu,gl4,UE,gp4⟩;obtain⟨ap,cp,rfl⟩:=SV.val;have D:ic.length=8:=by rw[t.rp];rfl
 have z4:=M.size;have P:=j.sc.lt;have hX4: ∀y,w2.heap.size≤y→y∉I::(fh++fr):=fun y d e=>by
  rcases List.mem_cons.1 e with e|e
  ·obtain⟨_,Ze,_⟩:=j.rg;have:=Ze.lt;omega
  ·have:=P y (by rcases List.mem_append.1 e with e|e<;>simp[e]);omega
 have Pv: ∀y,y<w1.heap.size→y∉I::(fh++fr):=fun y d e=>by
  rcases List.mem_cons.1 e with e|e
  ·have:=j.gg;omega
  ·have:=j.ge y (by rcases List.mem_append.1 e with e|e<;>simp[e]);omega
 have Pw:=Pr.keep M fun y d=>hX4 y (NC y d);have iH:=(gz.ab Ap).keep M (Pv q (by omega));have Jw: ∀y,y∈I::(fh++fr)→w1.heap.size≤y:=fun y d=>by
  rcases Nat.lt_or_ge y w1.heap.size with h|h
  ·exact absurd d (Pv y h)
  ·exact h
 have Jx:ae [] w1 w4:=Ap.trans M fun y d=>.inr (Jw y d);refine gO ?_;refine bp fun tb w5 Ub qm ky jv=>?_;refine gO ?_;refine dF (n:=8) (i:=0) ky (by rw[ax];exact D) (by simp) bR fun V oO kP lZ=>?_;have z5:=jv.size;have C:ae [] w4 V:=jv.trans lZ fun y d=>by simp only[aK]at d;exact .inr (by omega)
 have LW:=Pw.ab C;refine gO ?_;have od6:=ae.drew [] V;have u:=LW.ab od6;have Zf: ∀y,y∈b'::(J++(GR++(NA++NB)))→w2.heap.size≤y:=NC;have z6:=C.size;refine bH (11::12::38::39::40::41::42::43::44::45::46::47::48::49::[]) (fun g' w'=> ∃(K':List Int) (t1 t2:HL) (k:List Int) (W:Nat),g' 11=.pointer (some ⟨W,0,none⟩)∧g' 12=.int .i64 0∧LF s R K' t1 t2 k∧At w' W (ints k)∧HR w' (some ⟨GQ,0,none⟩) J (some t2)∧ae J V w'∧V.heap.size≤W) (fun kk jS=>?_) (fun g7 w7 hJ=>?_)
 ·refine aW [b'] ?_;have UF: ∀z,z∈[b']→z<V.drew.heap.size∧z∉([]:List Nat):=fun z hz=>by simp only[aK]at hz;subst hz;exact⟨u.at_.lt,by simp⟩
  have CT:SB [b'] V.drew V.drew:=SB.refl _ _;refine aQ u.at_.cell ?_;refine⟨?_,?_⟩
  ·refine bI (EX u.h hi u.r B j.sn (by omega) (by omega)) ?_;rintro _ w8 ⟨K',t1,t2,k,rfl,sw,h8,r⟩;refine⟨.inl rfl,?_⟩;have Px:k.length=8:=by rw[sw.ic];rfl
   refine gO ?_;refine nw fun W w9 htc Dz LX l=>?_;have z8:=r.size;have sb8:SB [b'] V.drew w8:=CT.only r fun z hz=>by simp only[aK]at hz;subst hz;exact⟨u.at_.lt,Pr.d1.1⟩
   refine⟨.inr (sb8.only l fun z hz=>by simp only[aK]at hz;subst hz;exact⟨by have:=u.at_.lt;omega,by simp⟩),?_⟩;refine gO ?_;refine pB (n:=8) (i:=0) LX (by rw[ax];exact Px) (by simp) bR fun N Ah X H=>⟨.inl rfl,?_⟩;refine gO ?_;have O:At N W (ints k):=by
    have:=X;rw[tx (by rw[ax,Px];rfl)]at this;exact this
   have lt8:=h8.lt;have Py:ae [] w8 N:=l.trans H fun y d=>by simp only[aK]at d;exact .inr (by omega)
   have zd6:V.drew.heap.size=V.heap.size:=rfl;refine jS _ N ⟨K',t1,t2,k,W,?_,?_,sw,O,h8.ab Py,((ae.drew J V).same r).nil Py,by omega⟩
   ·simp only[go_sem]
   ·simp only[go_sem]
  ·refine nw fun W w9 htc Dz LX l=>?_;refine⟨.inr (CT.only l UF),?_⟩;have Pz:=u.ab l;refine gO ?_;refine bI (EX Pz.h hi Pz.r B j.sn (by omega) (by omega)) ?_;rintro _ w8 ⟨K',t1,t2,k,rfl,sw,h8,r⟩;refine⟨.inl rfl,?_⟩;have Px:k.length=8:=by rw[sw.ic];rfl
   have z9:=l.size;have z8:=r.size;have lt6:=u.lt;have Zg:W∉J:=fun e=>by have:=lt6 W (by simp[e]);omega
   refine gO ?_;refine pB (n:=8) (i:=0) (LX.keep r Zg) (by rw[ax];exact Px) (by simp) bR fun N Ah X H=>⟨.inl rfl,?_⟩;refine gO ?_;have O:At N W (ints k):=by
    have:=X;rw[tx (by rw[ax,Px];rfl)]at this;exact this
   have zd6:V.drew.heap.size=V.heap.size:=rfl;refine jS _ N ⟨K',t1,t2,k,W,?_,?_,sw,O,h8.keep H fun y d e=>Zg (by simp only[aK]at e;rw[←e];exact d),((((ae.drew J V).nil l).same r).trans H fun y d=>by simp only[aK]at d;exact .inr (by omega)),by omega⟩
   ·simp only[go_sem]
   ·simp only[go_sem]
 obtain⟨K',t1,t2,k,W,Zh,SW,sw,LY,h7,kB,ztc⟩:=hJ;obtain⟨UG,H9,UH⟩:=t.swp hi sw;subst UG;subst H9;have i4:=t.four.2;have it:=sw.kb.inv;have z7:=kB.size;have UI:=Pr.lt;have Jy:At V tb (ints ic):=by
  have:=kP;rw[tx (by rw[ax,D];rfl)]at this;exact this
 have d67: ∀y,y<w2.heap.size→y∉J:=fun y d e=>by have:=NC y (by simp[e]);omega
 have UJ: ∀y,w3.heap.size≤y→y∉J:=fun y d e=>by have:=UI y (by simp[e]);omega
 have jz:=Jy.keep kB (UJ tb (by omega));have GU:At w4 b [.pointer (some ⟨SS,0,none⟩),.pointer (some ⟨rb,0,none⟩),.pointer (some ⟨qb,0,none⟩),.pointer (some ⟨kb,0,none⟩)]:=NF.at_.keep M fun e=>by
  rcases List.mem_cons.1 e with e|e
  ·exact j.ng (by simp[e])
  ·rcases List.mem_append.1 e with e|e
   ·exact j.sc.d1.1 e
   ·exact j.sc.d1.2.1 e
 have PA:=(GU.ab C).keep kB (d67 b (P b (by simp)));have Zi:=(h4.ab C).keep kB fun y d=>d67 y (P y (by simp[d]));have LZ:=(LW.at_).keep kB Pr.d1.1;have SX:=ae.drew [] w7;have Zj:aC w7.drew ⟨tb,0,none⟩ 8=some (ints ic):=by rw[ay jz.drew 0 8 (by rw[ax,D];omega),List.drop_zero,List.take_of_length_le (by rw[ax,D];omega)]
 have EP:aC w7.drew ⟨W,0,none⟩ 8=some (ints ic):=by rw[ay LY.drew 0 8 (by rw[ax,D];omega),List.drop_zero,List.take_of_length_le (by rw[ax,D];omega)]
 have Zk:([]:List Int).length=0:=rfl;have PB:=PA.drew;have Jz:=LZ.drew;refine aZ Zh SW ?_;refine aW [tb,W,b,b'] ?_;have ltd: ∀z,z∈[tb,W,b,b']→z<w7.drew.heap.size∧z∉([]:List Nat):=fun z hz=>by
  refine⟨?_,by simp⟩;simp only[List.mem_cons,List.not_mem_nil,or_false]at hz;rcases hz with rfl|rfl|rfl|rfl
  ·exact jz.lt
  ·exact LY.lt
  ·exact PA.lt
  ·exact LZ.lt
 (repeat(first|with_reducible(first|refine nx ?_|refine bA rfl ?_)|simp only[go_sem,Zh,SW,Zj,EP,Fg D,List.length_nil,show((((0:Nat):Int)) !=0)=false from rfl,PB.cell,Jz.cell]));refine bI (Fj (Zi.ab SX) i4) ?_;rintro _ w8 ⟨r,q8,f8,rfl,Jm,g8⟩;refine⟨.inr ((SB.refl _ _).only r ltd),?_⟩;refine gO ?_;refine bI (Fj ((h7.ab SX).ab r) it) ?_;rintro _ w9 ⟨l,q9,f9,rfl,OG,g9⟩;refine⟨.inl rfl,?_⟩;rw[←UH]at OG;have qs:s4.aj.length≤1000:=by
  have e1:s4.aj.length≤s.aj.length:=by have:=t.Bt;omega
  omega
 obtain⟨al1,al2⟩:=LV i4.ok qs;refine gO ?_;refine bI (CR (Jm.ab l) OG al1 al2) ?_;rintro _ N ⟨rfl,H⟩;refine⟨.inl rfl,?_⟩;have UK: ∀y,y∈J→w1.heap.size≤y:=fun y d=>by have:=NC y (by simp[d]);omega
 have PC:ae [] w1 N:=((((Jx.nil C).trans kB fun y d=>.inr (UK y d)).nil SX).nil r).nil (l.nil H);clear LY h7 jz PA Zi LZ SX Zj EP PB Jz Jm OG sw t h4 GS UD SV Pw iH ky kP Jy LW u GU NF Pr j;have zt:=PC.size;refine aQ (Jv N PC) ?_;refine aw (Fh (Ck.ab (Nat.le_refl _) zt PC) ((hl.keep (Nat.le_refl _) (ja.nil PC) (by simp)).up (by omega))) ?_;rintro _ u1 ⟨Zl,b,SS,rb,qb,kb,s,R,fh,fr,ff,fk,I,L,A,Pn,rfl,j⟩;have hi:=j.sc.inv;have B:=j.sc.SU;have ND:=j.sz.2.1;have GO:=mZ B;have aaB:=j.n2;have SY:L.length=A.length:=by rw[j.ra.e,List.length_map]
 have Ps:I∉fh:=fun e=>j.ng (by simp[e]);have Jt:I∉fr:=fun e=>j.ng (by simp[e]);have zu1:=Zl.size;have P:=j.sc.lt;have aaC:I<u1.heap.size:=by obtain⟨_,h,_⟩:=j.rg;exact h.lt
 refine aQ j.sc.at_.cell ?_;refine aw (Rt.wT j.sc.r) ?_;rintro vq u2 ⟨SZ,fq,T5,_⟩;obtain⟨aq,cq,rfl⟩:=T5.val;have zu2:=SZ.size;have eQ:(Rt.lz (some R)).length=R.Q.length:=rfl;rw[eQ];have UL:=j.sc.ab SZ;refine gO ?_;refine aw (kS (j.rg.ab SZ) (by omega) UL.h hi UL.r j.sn (by omega) (by omega) (j.sn.CO hi.ok) Ps Jt fun y d=>(j.sc.d2 y d).1) ?_;rintro _ u3 ⟨s4,R4,L4,ids,ic,K,S,o,s1,s2,s3,n,pv,Y6,fl4,Pt,t,rfl,h4,GS,UD,SV,M,Pu,gl4,UE,gp4⟩;obtain⟨ap,cp,rfl⟩:=SV.val;have i4:=t.four.2;have JA:=Ao GS;have aaD:=mZ JA;have E8:=t.snd hi j.sn B;have pk:s4.aj.length≤s.aj.length:=by have:=t.Bt;omega
 have UM:=(t.Pm hi j.ra).1;have aaE:=(t.Pm hi j.ra).2;have hL4:L4.length≤40:=by rw[UM.e,List.length_map];omega
 have zu3:=M.size;have PD:I∉Pt:=fun e=>(Pu I e).elim Jt fun e=>by omega
 have PE: ∀y,y∈fh→y∉Pt:=fun y d e=>(Pu y e).elim (j.sc.d2 y d).1 fun e=>by have:=P y (by simp[d]);omega
 have b3:At u3 b [.pointer (some ⟨SS,0,none⟩),.pointer (some ⟨rb,0,none⟩),.pointer (some ⟨qb,0,none⟩),.pointer (some ⟨kb,0,none⟩)]:=UL.at_.keep M fun e=>by
  rcases List.mem_cons.1 e with e|e
  ·exact j.ng (by simp[e])
  ·rcases List.mem_append.1 e with e|e
   ·exact j.sc.d1.1 e
   ·exact j.sc.d1.2.1 e
 refine gO ?_;refine aw (kS UD (by omega) h4 i4 GS E8 (by omega) (by omega) (E8.CO i4.ok) Ps PD PE) ?_;rintro _ u4 ⟨s8,R8,L8,L0,UN,K8,S8,o8,s5,s6,s7,n8,pv8,aaF,Zm,G,E,rfl,h8,Ny,OU,hp8,r,S0,gl8,UO,gp8⟩;obtain⟨ap8,cp8,rfl⟩:=hp8.val;have i8:=E.four.2;have Zn:=Ao Ny;have UP:=E.snd i4 E8 JA;have Bu:s8.aj.length≤s4.aj.length:=by have:=E.Bt;omega
 have S1:=(E.Pm i4 UM).1;have aaG:=(E.Pm i4 UM).2;have zu4:=r.size;have PF:I∉G:=fun e=>(S0 I e).elim PD fun e=>by omega
 have PG: ∀y,y∈fh→y∉G:=fun y d e=>(S0 y e).elim (PE y d) fun e=>by have:=P y (by simp[d]);omega
 have PH:b∉Pt:=fun e=>(Pu b e).elim j.sc.d1.2.1 fun e=>by have:=P b (by simp);omega
 have PI:b∉G:=fun e=>(S0 b e).elim PH fun e=>by have:=P b (by simp);omega
 have b4:=b3.keep r fun e=>by
  rcases List.mem_cons.1 e with e|e
  ·exact j.ng (by simp[e])
  ·rcases List.mem_append.1 e with e|e
   ·exact j.sc.d1.1 e
   ·exact PH e
 have el8:UN.length=8:=by rw[E.rp];rfl
 have tA: ∀y,y∈I::(fh++fr)→w.heap.size≤y:=fun y d=>by
  rcases List.mem_cons.1 d with e|e
  ·have:=j.gg;omega
  ·have:=j.ge y (by rcases List.mem_append.1 e with e|e<;>simp[e]);omega
 have Ie: ∀y,y∈I::(fh++Pt)→w.heap.size≤y:=fun y d=>by
  rcases List.mem_cons.1 d with e|e
  ·exact tA y (by simp[e])
  ·rcases List.mem_append.1 e with e|e
   ·exact tA y (by simp[e])
   ·rcases Pu y e with e|e
    ·exact tA y (by simp[e])
    ·omega
 have oW:ae [] w u4:=(((ja.nil PC).nil (Zl.nil SZ)).trans M fun y d=>.inr (tA y d)).trans r fun y d=>.inr (Ie y d);refine gO ?_;refine bp fun tb u5 Ub qm ky UQ=>?_;refine gO ?_;refine dF (n:=8) (i:=0) ky (by rw[ax];exact el8) (by simp) bR fun u6 oO kP PJ=>?_;have C:ae [] u4 u6:=UQ.trans PJ fun y d=>by simp only[aK]at d;exact .inr (by omega)
 have zu6:=C.size;have room:=t.Pl E hi j.sn B j.ra;have ew:IntKind.i64.wrap ((R.Q.length:Int)+(ids.length:Int))=((R.Q.length+ids.length:Nat):Int):=by
  have:=B.lq;have:=t.UA;have:=t.nn;rw[IntWalk.i64_in _ (by omega)];omega
 simp only[go_sem];refine run_seq ?_;refine bH (106::107::108::109::110::111::112::113::114::115::116::117::118::119::120::121::122::123::[]) (fun _ w'=>w'=u6) (fun kk jS=>?_) (fun g7 u7 hJ=>?_)
 ·by_cases c0:L0.length=0
  ·refine aQ (dg (show((L0.length:Nat):Int)=0 by omega)) ?_;refine jS _ u6 rfl
  ·have hr: ¬(R.Q.length+ids.length<64):=fun e=>c0 (room e);refine cT (eE (show¬((L0.length:Nat):Int)=0 by omega)) ew (aX (show¬((R.Q.length+ids.length:Nat):Int)<64 by omega)) ?_;refine jS _ u6 rfl
 subst hJ;have b6:=b4.ab C;have h6:=h8.ab C;have H7:=Ny.ab C;have S3:=OU.ab C;have Zo:=h6.lt;have UR: ∀y,y∈Zm→y∉G:=UO;have Zp: ∀y,y∈Zm→y<u7.heap.size:=by obtain⟨_,_,h,_⟩:=S3;exact h.lt
 have gb6:I<u7.heap.size:=by obtain⟨_,h,_⟩:=S3;exact h.lt
 have aaH:=b6.lt;refine gO ?_;refine az (16::17::124::125::126::127::128::129::130::131::132::133::134::135::136::137::[]) (fun _ w'=> ∃(Q9:List Int) (Y:List Nat),Rt.PR w' (some ⟨rb,0,none⟩) Y (some {R8 with Q:=Q9})∧iP true s8 {R8 with Q:=Q9}∧ae G u7 w'∧(∀y,y∈Y→y∈G∨u7.heap.size≤y)) (fun _ w'=>Fe w' rb)
  ⟨R8.Q,G,H7,UP,ae.refl _ _,fun y d=>.inl d⟩ fun g8 u8 hI pD=>?_
 obtain⟨Q9,Y,GP,Ig,l,Z⟩:=hI;have b8:=b6.keep l PI;have h9:=h6.keep l PG;have LM:=S3.keep l PF UR;have zu9:=l.size;refine aQ b8.cell ?_;refine aw (Rt.wT GP) ?_;rintro vq9 u9 ⟨T,fq9,US,_⟩;obtain⟨aq9,cq9,rfl⟩:=US.val;have eQ9:(Rt.lz (some {R8 with Q:=Q9})).length=Q9.length:=rfl;rw[eQ9];have CP:=GP.ab T;have CQ:=LM.ab T;by_cases cq:0<Q9.length
 ·refine aQ (aU (show(0:Int)<((Q9.length:Nat):Int) by omega)) ?_;refine aw (Fa CQ CP) ?_;obtain⟨a9,S6,UT⟩: ∃a q,Q9=a::q:=by
   cases Q9 with
   |nil=>simp at cq
   |cons a q=>exact⟨a,q,rfl⟩
  have ep:Rt.qC (some {R8 with Q:=Q9})=((a9,0),some {R8 with Q:=S6}):=by
   rw[UT];rfl
  rw[ep];rintro _ S7 ⟨rfl,m,_,UU,Aq,UW⟩;refine gO ?_;have z9:=T.size;have oN:ae G u7 S7:=(l.nil T).trans m fun y d=>Z y d;have uz:iP true s8 {R8 with Q:=S6}:=iP.tail (R:= {R8 with Q:=Q9}) (a:=a9) (q:=S6) Ig UT;refine pD _ S7 ⟨S6,UU,Aq,uz,oN,fun y d=>(UW y d).elim (Z y) fun e=>.inr (by omega)⟩ ?_
  ·show Fe S7 rb<Fe u8 rb;rw[Bs Aq,Bs GP,UT];simp
 refine aQ (aX (show¬(0:Int)<((Q9.length:Nat):Int) by omega)) ?_;have b9:=b8.ab T;have Nr:=h9.ab T;have PK:=Ao GP;have aaI:=mZ PK;refine aw (PL b9 i8 (by omega) Nr CP (RT0 Ig i8.ok)) ?_;rintro vK S7 ⟨m,Kq,fK,L1,gK,kq⟩;refine gO ?_;refine aw (JB (CQ.ab m) (by rw[S1.e,List.length_map];omega) (Nr.ab m) i8) ?_;rintro vA UX ⟨F,fA,UY,gA⟩;obtain⟨aA,cA,rfl⟩:=UY.val;rw[S1.list i8];have UZ:ae G u7 UX:=((l.nil T).nil m).nil F;have PN: ∀y,y∈G→w.heap.size≤y:=fun y d=>by
  rcases S0 y d with e|e
  ·exact Ie y (by simp[e])
  ·omega
 have PO:ae [] w UX:=(oW.nil C).trans UZ fun y d=>.inr (PN y d);obtain⟨A8,hA8⟩: ∃A8,A8=(A.filter fun a=>!decide (a∈o.take n)).filter (fun a=>!decide (a∈o8.take n8)):=⟨_,rfl⟩;rw[←hA8]at S1⊢;by_cases cA8:0<A8.length
 ·refine aQ (aU (show(0:Int)<((A8.length:Nat):Int) by omega)) ?_;refine aM (u0 UX) fun Zq U=>?_;refine gO ?_;exact PO.nil U
 have eA8:A8=[]:=List.length_eq_zero_iff.1 (by omega);have eL8:L8=[]:=by rw[S1.e,eA8];rfl
 subst eL8;refine aQ (aX (show¬(0:Int)<((A8.length:Nat):Int) by omega)) ?_;have U0:=(CP.ab m).ab F;have U1:I∉Y:=fun e=>(Z I e).elim PF fun e=>by omega
 have U2: ∀y,y∈fh→y∉Y:=fun y d e=>(Z y e).elim (PG y d) fun e=>by have:=Zo y d;omega
 have U3:b∉Y:=fun e=>(Z b e).elim PI fun e=>by omega
 refine aw (kS ((CQ.ab m).ab F) (by simp) ((Nr.ab m).ab F) i8 U0 Ig (by omega) (by omega) (Ig.CO i8.ok) Ps U1 U2) ?_;rintro _ Zq ⟨s12,R12,L12,Zr,Zs,K12,S12,L2,s9,Zt,s11,n12,aaJ,Zu,aaK,aaL,JC,rfl,SW,Zv,aaM,OY,U,aaN,aaO,Zw,aaP⟩;have PQ:=JC.UC kq;have LQ:s12.aj.length≤s8.aj.length:=by have:=JC.Bt;omega
 have b12:=((b9.ab m).ab F).keep U fun e=>by
  rcases List.mem_cons.1 e with e|e
  ·exact j.ng (by simp[e])
  ·rcases List.mem_append.1 e with e|e
   ·exact j.sc.d1.1 e
   ·exact U3 e
 have PS: ∀y,y∈I::(fh++Y)→w.heap.size≤y:=fun y d=>by
  rcases List.mem_cons.1 d with e|e
  ·exact tA y (by simp[e])
  ·rcases List.mem_append.1 e with e|e
   ·exact tA y (by simp[e])
   ·rcases Z y e with e|e
    ·exact PN y e
    ·omega
 have U4:ae [] w Zq:=PO.trans U fun y d=>.inr (PS y d);have aaQ:=m.size;have aaR:=F.size;have z9:=T.size;have U5:=(L1.ab F).keep U fun y d e=>by
  have hy1:=gK y d;rcases List.mem_cons.1 e with e|e
  ·omega
  ·rcases List.mem_append.1 e with e|e
   ·have:=Zo y e;omega
   ·rcases Z y e with e|e
    ·have:=H7.lt y e;omega
    ·have:=GP.lt y (by assumption);omega
 refine aQ b12.cell ?_;refine aw (wL SW) ?_;rintro vB u13 ⟨PU,fB,U6,gB⟩;refine gO ?_;refine aw (Bq U6 (U5.ab PU) (by rw[fu];omega)) ?_;rintro _ u14 ⟨rfl,U7⟩;rw[PQ,aU (rfl:Kq=Kq)];refine gO ?_;refine aM (u0 u14) fun u15 U8=>?_;refine gO ?_;exact((U4.nil PU).nil U7).nil U8
end
section
open Go.ChangeShapes Go.WideShapes Go.ChangeAt Go.RowKit
section
variable {H:Type} {enc:TypeId×Value→H} {P:Program}
theorem nC (r:laidOutB P=true) {W u:World} (w:Below W.heap.size W u): ∀(j:List TypeId) (vs:List Value) (ds:List (DataW H)) (l:List MemPlace),(j.all fun t=>P.readableRec t&&decide (t<P.types.size))=true→
  DataW.TrodAll enc P W 0 (fun _=>true) true j vs ds l→(∀x∈l,x.block<W.heap.size)→DataW.TrodAll enc P u 0 (fun b=>decide (b<W.heap.size)) true j vs ds l
 | [],[],[],_,_,h,_=>h
 | [],_::_,_,_,_,h,_=>h.elim
 | [],[],_::_,_,_,h,_=>h.elim
 |_::_,[],_,_,_,h,_=>by cases h
 |_::_,_::_,[],_,_,h,_=>by cases h
 |t::j,v::vs,d::ds,l,m,h,k=>by
  obtain⟨p,q,y,z,rfl⟩:=h
  simp only[List.all_cons,Bool.and_eq_true,decide_eq_true_eq]at m
  exact⟨p,q,Below.trod r m.1.1 m.1.2 y w (fun x o=>k x (List.mem_append_left _ o)),nC r w j vs ds q m.2 z (fun x o=>k x (List.mem_append_right _ o)),rfl⟩
theorem Fk {f:Func} {s:ChangeSpec} {W l:World} {args:Array Value} {ds:List (DataW H)} {p:List MemPlace} {b:TypeId} (q:laidOutB P=true) (r:(f.params.toList.all fun t=>P.readableRec t&&decide (t<P.types.size))=true)
  (u:s.vars=[]) (m:DataW.Whole enc P f.params.toList s.vars false W args.toList ds [] (p++[])) (w:DataW.TrodAll enc P W 0 (fun _=>true) true f.params.toList args.toList ds p)
  (d:s.fn H (ds++[])= {results:=[.lit (.bool true)],args:=ds}) (y:f.resultTypes=#[b]) (j:P.underlying b=some .bool) (o:Below W.heap.size W l):
  s.post enc P f false true false false W args (.bool true) l:=by
 have k: ∀x∈p,x.block<W.heap.size:=fun x z=>m.lt x (List.mem_append_left _ z);refine⟨ds,[],p++[],[],p,[],m,?_,?_,?_,o.frame _,fun h=>by cases h⟩
 ·rw[d,y];exact trodAll_mk1 (shut_bool j true)
 ·rw[d];exact nC q o _ _ _ _ r w k
 ·rw[d,u];rfl
end
theorem Ih {P:Program} {f:FuncId} {args:List Value} {W:World} {Q:Value→World→Prop} (h:Cs P f args W fun r b=>r=.bool true∧ae [] W b) (d: ∀b,Below W.heap.size W b→Q (.bool true) b):
  Cs P f args W Q:=h.mono fun r b ⟨e,j⟩=>by rw[e];exact d b (j.below (by simp))
end
section
open Go.ChangeShapes Go.WideShapes Go.ChangeAt Go.RowKit Go.Deep
theorem Tryz.own:ownKnob Tryz.prog.godebug=none:=by kernel_rfl
theorem Tryz.laidOut:laidOutB Tryz.prog=true:=by kernel_rfl
end
section
open Go.ChangeShapes Go.WideShapes Go.ChangeAt Go.RowKit Go.Deep
set_option maxRecDepth 100000
theorem wU {w:World} {base:Nat} {a:Addr} {n:Nat} {cs:List Value} (h:w.cells? base a n=some cs):cs.length=n∧ ∀i,i<n→w.cell? (a.add i)=cs[i]? :=by
 obtain⟨_,b,d⟩:=World.cells?_some h;exact⟨b,fun i j=>by rw[d i j]⟩
theorem mB {α:Type} [Inhabited α] {n:Nat} {p:Nat→α→Prop} (h: ∀i,i<n→ ∃x,p i x): ∃F:Nat→α,∀i,i<n→p i (F i):=by
 refine⟨fun i=>if b:i<n then Classical.choose (h i b)else default,fun i b=>?_⟩;simp only[b,dif_pos];exact Classical.choose_spec (h i b)
theorem sC {H:Type} {enc:TypeId×Value→H} {w:World} {base:Nat} {b:Nat→Bool} {d:Bool} {n:Nat} {cs:List Value} {x:DataW H×List MemPlace} (h:DataW.trod enc Tryz.prog w base b d n 5 cs=some x): ∃k:Nat,cs=[gL k]∧k<256:=by
 obtain⟨k,e,_,j⟩:=DataW.trod_int Tryz.underlying5 h;have l:=bounds_u8 j;exact⟨k.toNat,by rw[e];unfold gL;rw[Int.toNat_of_nonneg l.1],by omega⟩
theorem Tryz.qE:Tryz.prog.cellsOf 5=1:=by kernel_rfl
theorem Fl {H:Type} {enc:TypeId×Value→H} {w:World} {base:Nat} {b:Nat→Bool} {d:Bool} {m n:Nat} {ty:TypeId} {cs:List Value} {x:DataW H×List MemPlace} (o:Tryz.prog.underlying ty=some (.array n 5)) (h:DataW.trod enc Tryz.prog w base b d m ty cs=some x):
  ∃f:Nat→Nat,∀j,j<n→cs[j]? =some (gL (f j))∧f j<256:=by
 obtain⟨xs,y,_,_,_,q,r⟩:=DataW.trod_array o h;refine mB (p:=fun j k=>cs[j]? =some (gL k)∧k<256) fun j t=>?_;have l:=r j t;rw[Tryz.qE,List.getElem?_eq_getElem (by omega),Nat.mul_one]at l;obtain⟨k,e,u⟩:=sC l;refine⟨k,?_,u⟩;have:((cs.drop j).take 1)[0]? =some (gL k):=by rw[e];rfl
 rw[List.getElem?_take,if_pos (by omega),List.getElem?_drop]at this;simpa using this
theorem tB {H:Type} {enc:TypeId×Value→H} {W:World} {m n:Nat} {st ty:TypeId} {cs:List Value} {x:DataW H×List MemPlace} (w:Tryz.prog.underlying st=some (.slice ty)) (y:Tryz.prog.underlying ty=some (.array n 5)) (z:Tryz.prog.cellsOf ty=n) (k:0<n) (h:DataW.trod enc Tryz.prog W 0 (fun _=>true) true m st cs=some x):
  ∃(v:Value) (len:Nat) (f:Nat→Nat→Nat),cs=[v]∧lU W.heap.size W v len n f:=by
 rcases open_slice w h with⟨e,_⟩|⟨a,len,cap,K,L,D,M,e,_,B,r,C,_,l⟩
 ·exact⟨_,0,fun _ _=>0,e,none,0,rfl,fun _ _=>by dsimp only;omega,fun i b=>by omega⟩
 ·rw[if_pos rfl]at C;obtain⟨F,o⟩:=mB (α:=Nat→Nat) (n:=len) (p:=fun i f=> ∀j,j<n→W.cell? ((a.add (i*n)).add j)=some (gL (f j))∧f j<256) fun i b=>by
   obtain⟨E,t,G⟩:=l i (by omega);rw[z]at t;obtain⟨I,q⟩:=wU t;obtain⟨f,J⟩:=Fl y G;exact⟨f,fun j d=>by rw[q j d];exact J j d⟩
  refine⟨_,len,fun i j=>if i<len∧j<n then F i j else 0,e,some a,cap,rfl,fun i j=>?_,fun i b=>⟨a,rfl,?_,fun j d=>?_⟩⟩
  ·dsimp only;split
   ·rename_i u;exact(o i u.1 j u.2).2
   ·omega
  ·have:=wV (o i b 0 k).1;rwa[de,de]at this
  ·dsimp only;rw[if_pos ⟨b,d⟩];exact(o i b j d).1
theorem tC {H:Type} {enc:TypeId×Value→H} {W:World} {m:Nat} {st:TypeId} {cs:List Value} {x:DataW H×List MemPlace} (r:Tryz.prog.underlying st=some (.slice 5)) (h:DataW.trod enc Tryz.prog W 0 (fun _=>true) true m st cs=some x):
  ∃(v:Value) (len:Nat) (f:Nat→Nat→Nat),cs=[v]∧lU W.heap.size W v len 1 f:=by
 rcases open_slice1 r Tryz.qE h with⟨e,_⟩|⟨a,len,cap,C,E,V,D,G,e,_,t,o,u,_,d⟩
 ·exact⟨_,0,fun _ _=>0,e,none,0,rfl,fun _ _=>by dsimp only;omega,fun i b=>by omega⟩
 ·rw[if_pos rfl]at u;obtain⟨F,l⟩:=mB (α:=Nat) (n:=len) (p:=fun i k=>W.cell? (a.add i)=some (gL k)∧k<256) fun i b=>by
   obtain⟨w,y⟩:=d i (by omega);obtain⟨k,q,z⟩:=sC y;simp only[List.cons.injEq,and_true]at q;exact⟨k,by rw[w,q],z⟩
  refine⟨_,len,fun i _=>if i<len then F i else 0,e,some a,cap,rfl,fun i j=>?_,fun i b=>⟨a,rfl,?_,fun j I=>?_⟩⟩
  ·dsimp only;split
   ·rename_i B;exact(l i B).2
   ·omega
  ·have:=wV (l i b).1;rwa[de]at this
  ·obtain rfl:j=0:=by omega
   dsimp only;rw[if_pos b,Nat.mul_one];exact(l i b).1
theorem Tryz.Fm:Tryz.prog.cellsOf 27=7:=by kernel_rfl
theorem Tryz.Fo:Tryz.prog.cellsOf 22=1:=by kernel_rfl
theorem Tryz.Fp:Tryz.prog.cellsOf 23=1:=by kernel_rfl
theorem Tryz.Fq:Tryz.prog.cellsOf 24=1:=by kernel_rfl
theorem Tryz.Fs:Tryz.prog.cellsOf 25=1:=by kernel_rfl
theorem Ar {H:Type} {enc:TypeId×Value→H} {W:World} {v:Value} {d:DataW H} {F:List MemPlace} {r:Reach} {G:Nat} (j:Value.okWide Tryz.prog W r G 27 v) (h:DataW.Trod enc Tryz.prog W 0 (fun _=>true) true 27 v d F):
  ∃(cs:List Value) (g:BG) (l m vL o q:Value),v=.agg ⟨cs⟩∧tz W.heap.size W cs g l m vL o q:=by
 obtain⟨⟨cs⟩,rfl,_⟩:=okWide_struct Tryz.underlying27 j;obtain⟨t,h⟩:=h;obtain⟨xs,n,_,_,u,k,b⟩:=DataW.trod_struct Tryz.underlying27 h;rw[Tryz.Fm]at u
 match xs,k with
 | [y0,y1,y2,y3,y4,y5,y6],_=>
 have I:=by simpa using b 0 _ rfl
 have J:=by simpa using b 1 _ rfl
 have K:=by simpa using b 2 _ rfl
 have L:=by simpa using b 3 _ rfl
 have M:=by simpa using b 4 _ rfl
 have N:=by simpa using b 5 _ rfl
 have O:=by simpa using b 6 _ rfl
 match cs,u with
 | [c0,c1,c2,c3,c4,c5,c6],_=>
  obtain⟨P,w,Q⟩:=sC I;obtain⟨R,y,S⟩:=sC J;obtain⟨l,nO,fO,z,T⟩:=tB Tryz.underlying22 Tryz.underlying108 (by kernel_rfl) (by omega) K;obtain⟨m,U,V,B,X⟩:=tC Tryz.underlying23 L;obtain⟨vL,Y,Z,C,hL⟩:=tB Tryz.underlying24 Tryz.underlying151 (by kernel_rfl) (by omega) M;obtain⟨o,nP,fP,D,hP⟩:=tB Tryz.underlying25 Tryz.underlying156 (by kernel_rfl) (by omega) N;obtain⟨q,nN,fN,E,hN⟩:=tC Tryz.underlying23 O;simp only[Tryz.qE,Tryz.Fo,Tryz.Fp,Tryz.Fq,Tryz.Fs,Value.cells,List.tail_cons,List.drop_zero,List.take_succ_cons,List.take_zero,List.drop_succ_cons,List.cons.injEq,and_true]at w y z B C D E;exact⟨_,⟨P,R,nO,U,Y,nP,nN,fO,V,Z,fP,fN⟩,l,m,vL,o,q,rfl,by rw[w,y,z,B,C,D,E],Q,S,T,X,hL,hP,hN⟩
theorem CU {H:Type} {enc:TypeId×Value→H} {W:World} {v:Value} {d:DataW H} {o:List MemPlace} {r:Reach} {q:Nat} (b:Value.okWide Tryz.prog W r q 23 v) (h:DataW.Trod enc Tryz.prog W 0 (fun _=>true) true 23 v d o): ∃(n:Nat) (f:Nat→Nat→Nat),lU W.heap.size W v n 1 f:=by
 obtain⟨t,j,k,rfl⟩:=okWide_slice Tryz.underlying23 b;obtain⟨l,h⟩:=h;obtain⟨u,n,f,e,m⟩:=tC Tryz.underlying23 h;simp only[Value.cells,List.cons.injEq,and_true]at e;rw[←e]at m;exact⟨n,f,m⟩
end
set_option maxRecDepth 100000
theorem pE:(Rows.finalNoneLeftRow.wf (OpenSpec.ofChange Rows.finalNoneLeftSpec))=true:=by kernel_rfl
theorem pF:(laidOutB Tryz.pinned.checked.prog)=true:=by kernel_rfl
theorem pG:(mapsRowed Tryz.pinned.checked.prog)=true:=by kernel_rfl
theorem pH:(Tryz.f3.params.all (Tryz.pinned.checked.prog.readableRec ·))=true:=by kernel_rfl
theorem pI:(namedTie Tryz.pinned.checked.prog Rows.finalNoneLeftRow.named Rows.finalNoneLeftSpec.vars)=true:=by kernel_rfl
theorem pJ:((Rows.finalNoneLeftRow.stops== []))=true:=by kernel_rfl
theorem pK:((Tryz.pinned.checked.prog.stops== []))=true:=by kernel_rfl
theorem pL:((Rows.finalNoneLeftRow.knobs== []))=true:=by kernel_rfl
theorem pM:((Tryz.pinned.checked.prog.stopKnobs== []))=true:=by kernel_rfl
theorem nM:((Rows.finalNoneLeftRow.inPlace==Tryz.pinned.checked.prog.inPlace 3))=true:=by kernel_rfl
theorem nQ:((Rows.finalNoneLeftRow.unfollowed==Tryz.pinned.checked.prog.unfollowed 3))=true:=by kernel_rfl
theorem nR:((Rows.finalNoneLeftRow.recurses==Tryz.pinned.checked.prog.recurses 3))=true:=by kernel_rfl
theorem nS:((Rows.finalNoneLeftRow.named==Tryz.pinned.checked.prog.varsNamed 3))=true:=by kernel_rfl
theorem nT:((Rows.finalNoneLeftRow.maps==(Tryz.f3.params.toList++Rows.finalNoneLeftSpec.plain.varTypes Tryz.pinned.checked.prog).any (Tryz.pinned.checked.prog.mapsRec ·)))=true:=by kernel_rfl
theorem nU:((Rows.finalNoneLeftRow.ifaces==(Tryz.f3.params.toList++Rows.finalNoneLeftSpec.plain.varTypes Tryz.pinned.checked.prog).any (Tryz.pinned.checked.prog.ifacesRec ·)))=true:=by kernel_rfl
theorem nV:((Rows.finalNoneLeftRow.mapsOut==Tryz.pinned.checked.prog.mapsAmong Tryz.f3.resultTypes.toList))=true:=by kernel_rfl
theorem nW:((Rows.finalNoneLeftRow.loops==(Tryz.f3.params.toList++Rows.finalNoneLeftSpec.plain.varTypes Tryz.pinned.checked.prog).any (Tryz.pinned.checked.prog.loopsFrom ·)))=true:=by kernel_rfl
theorem nX:((Rows.finalNoneLeftRow.wideKeys==(Tryz.f3.params.toList++Rows.finalNoneLeftSpec.plain.varTypes Tryz.pinned.checked.prog++Tryz.f3.resultTypes.toList).any (Tryz.pinned.checked.prog.wideKeysFrom ·)))=true:=by kernel_rfl
theorem nY:(Rows.finalNoneLeftSpec.vars.all (Tryz.pinned.checked.prog.varReadable ·))=true:=by kernel_rfl
theorem nZ:(Tryz.f3.resultTypes.all (fun t=>Tryz.pinned.checked.prog.readableRec t&&decide (t<Tryz.pinned.checked.prog.types.size)))=true:=by kernel_rfl
theorem n':((Rows.finalNoneLeftRow.ifacesOut==Tryz.f3.resultTypes.toList.any (Tryz.pinned.checked.prog.ifacesRec ·)))=true:=by kernel_rfl
theorem oa:((Rows.finalNoneLeftRow.loopsOut==Tryz.f3.resultTypes.toList.any (Tryz.pinned.checked.prog.loopsFrom ·)))=true:=by kernel_rfl
theorem oc:((Rows.finalNoneLeftRow.plainKeys==Tryz.pinned.checked.prog.plainKeys))=true:=by kernel_rfl
theorem oe:(Rows.finalNoneLeftRow.shortTexts.isNone)=true:=by kernel_rfl
theorem og:(Tryz.pinned.checked.prog.stopsHeard)=true:=by kernel_rfl
theorem oi:(Tryz.pinned.checked.prog.mayEnter)=true:=by kernel_rfl
theorem oj:((Rows.finalNoneLeftRow.lifted==Tryz.pinned.checked.prog.liftsFinal))=true:=by kernel_rfl
theorem oq:((Tryz.pinned.checked.prog.make==some Rows.finalNoneLeftRow.make))=true:=by kernel_rfl
theorem ou:((Rows.finalNoneLeftRow.kinds==(if Rows.finalNoneLeftRow.domain.isEmpty then []else Tryz.f3.params.toList.map fun t=>match Tryz.pinned.checked.prog.underlying t with|some (.int k)=>some k|_=>none)))=true:=by kernel_rfl
theorem ov:((Rows.finalNoneLeftRow.pinned==Rows.finalNoneLeftRow.pinnedBy))=true:=by kernel_rfl
theorem ow:((Rows.finalNoneLeftRow.veiled==(Tryz.f3.params.toList++Rows.finalNoneLeftSpec.plain.varTypes Tryz.pinned.checked.prog++Tryz.f3.resultTypes.toList).any (Tryz.pinned.checked.prog.veiledRec ·)))=true:=by kernel_rfl
theorem ox:(Rows.finalNoneLeftRow.veiledFits Tryz.pinned.checked.prog Tryz.f3.params.toList (Tryz.f3.params.toList++Rows.finalNoneLeftSpec.plain.varTypes Tryz.pinned.checked.prog++Tryz.f3.resultTypes.toList))=true:=by kernel_rfl
theorem di {a b:Bool} (h:a=true) (k:b=true):(a&&b)=true:=by rw[h,k];rfl
theorem rW:joinedFacts Tryz.pinned.checked.prog 3 Tryz.f3 Rows.finalNoneLeftSpec Rows.finalNoneLeftRow=true:=by
 unfold joinedFacts;exact(di (di (di (di (di (di (di (di (di (di (di (di (di (di (di (di (di (di (di (di (di (di (di (di (di (di (di (di (di (di (di pE pF) pG) pH) pI) pJ) pK) pL) pM) nM) nQ) nR) nS) nT) nU) nV) nW) nX) nY) nZ) n') oa) oc) oe) og) oi) oj) oq) ou) ov) ow) ox)
section
open Go.ChangeShapes Go.WideShapes Go.ChangeAt Go.RowKit
set_option maxRecDepth 100000 in
theorem mD (B:Os) (d:B.Started) (H:Type) (enc:TypeId×Value→H):
  ReturnsInHanded {} Tryz.checked B 3 .any (Rows.finalNoneLeftSpec.pre6 enc Tryz.prog Tryz.f3 Rows.finalNoneLeftRow.domain false) (Rows.finalNoneLeftSpec.post enc Tryz.prog Tryz.f3 false true false false):=by
 refine returnsInHanded_of_change (C:=Tryz.checked) Tryz.own d (by kernel_rfl) Tryz.func3
  (ChangeSpec.witness6 (enc:=enc) (C:=Tryz.checked) false ⟨#[],#[.agg #[.int .u8 0,.int .u8 0,.slice none 0 0,.slice none 0 0,.slice none 0 0,.slice none 0 0,.slice none 0 0],.slice none 0 0],[]⟩ 8 (by kernel_rfl) (by kernel_rfl) (by kernel_rfl) (by kernel_rfl)) ?_
 intro W base args ds gs before m D E _;have k: ∀(j:Nat) t v,Tryz.f3.params[j]? =some t→args[j]? =some v→Value.okWide Tryz.prog W .any base t v:=m;have o:=D;obtain⟨p,q,r,F,rfl,G,I⟩:=D;have u:DataW.TrodAll enc Tryz.prog W 0 (fun _=>true) true Tryz.f3.params.toList args.toList ds p:=r;have w:=u;obtain⟨rfl,rfl⟩:=trodVars_none F;rw[Tryz.params3]at u k;obtain⟨J,K,d0,L,p0,q0,l,rfl,rfl,M,N⟩:=trodAll_cons u;obtain⟨O,P,d1,Q,p1,q1,rfl,rfl,rfl,R,S⟩:=trodAll_cons N;obtain⟨rfl,rfl,rfl⟩:=trodAll_nil S;obtain⟨args⟩:=args;simp only at l;subst l;obtain⟨T,g0,U,V,X,Y,Z,rfl,y⟩:=Ar (k 0 27 J rfl rfl) M;obtain⟨n1,f1,z⟩:=CU (k 1 23 O rfl rfl) R;exact Ih (wS y z) fun W' hb=>Fk (b:=4) Tryz.laidOut (by kernel_rfl) rfl o w rfl (by kernel_rfl) Tryz.underlying4 hb
theorem YthamnonkfepafaaGreatFinalNoneLeft:Rows.FinalNoneLeftSaid:=
 OpenClaim.holds_of_wide 3 Tryz.f3 rfl rfl rfl rfl rfl rfl rfl ⟨rfl,rfl,rfl,rfl,rfl⟩ rfl rfl rfl rfl rfl (by kernel_rfl) Tryz.func3 rW
  (of_decide_eq_true (by kernel_rfl)) (by unfold Func.isWrapper;first|(rw[if_pos (by decide+kernel)];kernel_rfl)|(rw[if_neg (by decide+kernel)];exact⟨rfl,rfl⟩))
  (fun d b H enc _=>mD d b H enc)
end
end Go.Proofs.YthamnonkfepafaaGreat
