/- The law CountNone: whatever comes in, it returns true, and what came in reads as it did. -/
import Derived.Test.YthamnonkfepafaaGreatZPk2
import Derived.Test.YthamnonkfepafaaGreatZCode
import Derived.Test.YthamnonkfepafaaGreatZCodeD
import Derived.Test.YthamnonkfepafaaGreatZCode
import Derived.Test.YthamnonkfepafaaGreatZCodeD
import Derived.Test.YthamnonkfepafaaGreatZCode
import Derived.Test.YthamnonkfepafaaGreatZCodeD
import Derived.ProofKit
import Derived.Deep.Slices
import Derived.Lib.SmallJoins
import Derived.Test.YthamnonkfepafaaGreatRows
import Derived.Test.YthamnonkfepafaaGreatChecked
import Derived.JoinedOf
import Derived.KernelRfl
set_option linter.unusedSimpArgs false
set_option linter.unusedVariables false
namespace Go.Proofs.YthamnonkfepafaaGreat
set_option maxRecDepth 100000
section
section
variable {w:World} {b:Nat} {hp:Addr} {ar:Option Addr} {t:CT} {fp fh fr:List Nat} {s:HL} {R:Rt.MS}
theorem vv (h:CM w b hp ar t fp) (o:HR w (some hp) fh (some s)) {k:Nat} (j:s.Ok) (l:s.st.getD k 0=1) (y:s.st.length≤t.l.length):
  Cs Tryz.prog 41 [.pointer (some ⟨b,0,none⟩),.int .i64 ((2*k:Nat):Int)] w fun v w'=>v=.tuple #[.int .i64 ((t.l.getD k 0:Nat):Int),.int .i64 0]∧ad [] w w':=by
 obtain⟨z,B,C,q⟩:=h.head;have r:=cn j l;have u:=(j.start l).1;refine en [] ?_;refine gO ?_;refine ao (hT h) ?_;refine aQ q.cell ?_;refine ak (oT o ((2*k:Nat):Int) (by omega)) ?_;rintro _ D ⟨rfl,d⟩;rw[(b5 j).2 ⟨k,rfl,l⟩];refine gO ?_;refine ak (GR (h.aa d) (k:=k) (by omega)) ?_;rintro _ E ⟨rfl,m⟩;refine gO ?_;exact d.nil m
theorem Bw {w:World} {q G:Nat} {caps:Array Value} {x:Int} {p:Bool} (d:At w q [.func (.func G) #[] caps]) (b:okF Tryz.prog G=true) (j:Cs Tryz.prog G ([.int .i64 x]++caps.toList) w fun v w'=>v=.bool p∧ad [] w w'):
  Cs Tryz.prog 351 [.int .i64 x,.pointer (some ⟨q,0,none⟩)] w fun v w'=>v=.bool (!p)∧ad [] w w':=by
 refine en [] ?_;refine aQ d.cell ?_;refine di (bA G #[] [.int .i64 x] caps) b (by simpa using j) ?_;rintro _ l ⟨rfl,k⟩;refine gO ?_;exact k
theorem DY {G:Nat} {caps:Array Value} {p:Int→Bool} (h:CM w b hp ar t fp) (N:HR w (some hp) fh (some s)) (r:s.aw.length≤4000) (u:okF Tryz.prog G=true)
  (O: ∀w' x,ad [] w w'→x∈du (some s)→Cs Tryz.prog G ([.int .i64 x]++caps.toList) w' fun v z=>v=.bool (p x)∧ad [] w' z):
  Cs Tryz.prog 205 [.pointer (some ⟨b,0,none⟩),.func (.func G) #[] caps] w fun v w'=>ad [] w w'∧ ∃E,Sl w' 1 v ((du (some s)).filter p).length (ints ((du (some s)).filter p)) E∧ ∀y,y∈E→w.heap.size≤y:=by
 refine en [] ?_;refine gO ?_;refine bm fun q V W P k d=>?_;have H:=h.aa d;obtain⟨X,Y,Z,Q⟩:=H.head;refine gO ?_;refine ao (hT H) ?_;refine aQ Q.cell ?_;refine ak (tQ (N.aa d)) ?_;rintro v w2 ⟨l,I,J,o⟩;obtain⟨A,j⟩: ∃A,A=du (some s):=⟨_,rfl⟩;rw[←j]at J;rw[←j];have B:A.length≤4000:=by rw[j,fZ];exact r
 have K:=d.nil l;have C:=k.aa l;have z1:=d.size;refine gO ?_;refine ak (lL (p:=fun x=>!p x) (F:=351) (caps:=#[.pointer (some ⟨q,0,none⟩)]) J (by kernel_rfl) B fun w' x L R=>?_) ?_
 ·have S:q∉I:=fun e=>by have:=o q e;have:=k.lt;omega
  have T:ad [] w w':=K.trans L fun y m=>.inr (by have:=o y m;omega);exact Bw (C.ae L S) u (O w' x T (by rw[←j];exact R))
 rintro vD w3 ⟨D,M⟩;have U:(A.filter fun x=>!!p x)=A.filter p:=by congr 1;funext x;rw[Bool.not_not]
 rw[U]at M;refine gO ?_;exact⟨K.trans D fun y m=>.inr (by have:=o y m;omega),I,M,fun y m=>by have:=o y m;omega⟩
theorem yP {q m:Nat} {o:Value} {F:List Int} {fl:List Nat} {k:Nat} (h:CM w b hp ar t fp) (r:At w q [.pointer (some ⟨b,0,none⟩)]) (l:At w m [o]) (u:Sl w 1 o F.length (ints F) fl) (z:F.length≤5000) (y:k<t.l.length):
  Cs Tryz.prog 225 [.int .i64 ((2*k:Nat):Int),.pointer (some ⟨q,0,none⟩),.pointer (some ⟨m,0,none⟩)] w fun v w'=>v=.bool (decide (t.val ((2*k:Nat):Int)=0)&&!F.contains ((2*k:Nat):Int))∧ad [] w w':=by
 refine en [] ?_;rw[kf];refine aQ r.cell ?_;refine ak (GR h y) ?_;rintro _ B ⟨rfl,d⟩;have j:=l.aa d;by_cases c:t.l.getD k 0=0
 ·refine bj (fx (show((t.l.getD k 0:Nat):Int)=0 by omega)) j.cell ?_;refine ao (gG (u.aa d).rd (by omega) ((2*k:Nat):Int)) ?_;refine gO ?_;exact⟨by rw[bc c,Bool.true_and],d⟩
 ·refine aQ (fj (show¬((t.l.getD k 0:Nat):Int)=0 by omega)) ?_;exact⟨by rw[bt c,Bool.false_and],d⟩
theorem oU {F:List Int} (h:CM w b hp ar t fp) (X:HR w (some hp) fh (some s)) (Y:s.Ok) (hl:s.st.length≤t.l.length) (J:s.aw.length≤4000) (Z:Rt.PR w ar fr (some R)) (hF:F=Rt.bG (some R)) (K:F.length≤5000):
  Cs Tryz.prog 64 [.pointer (some ⟨b,0,none⟩)] w fun v w'=>ad [] w w'∧ ∃E,Sl w' 1 v (bT s t F).length (ints (bT s t F)) E∧ ∀y,y∈E→w.heap.size≤y:=by
 refine en [] ?_;refine gO ?_;refine bm fun q w1 hq qb d j=>?_;have T:=h.aa j;obtain⟨v2,v3,v4,hb⟩:=T.head;refine aQ d.cell ?_;refine ao (hT T) ?_;refine bj d.cell hb.cell ?_;refine ak (Rt.oV (Z.aa j)) ?_;rintro vl U ⟨o,fl,r,gl⟩;rw[←hF]at r;have m:=d.aa o;refine gO ?_;refine bm fun V w3 J6 vw z l=>?_;have L:=r.aa l;have M:=m.aa l;refine gO ?_;refine nt z (by simp) L.nS fun N tR B O=>?_;have z1:=j.size;have z2:=o.size;have z3:=l.size;have n3: ∀y,y∈[V]→y∈([]:List Nat)∨U.heap.size≤y:=fun y G=>by simp only[bp]at G;subst G;exact .inr (by omega)
 have u:ad [] U N:=l.trans O n3;have H:ad [] w N:=(j.nil o).nil u;have C:=m.aa u;have P:=r.aa u;have W:=h.aa H;have D:At N V [vl]:=B;refine aQ C.cell ?_;refine ak (DY (p:=fun a=>decide (t.val a=0)&&!F.contains a) W (X.aa H) J (by kernel_rfl) fun w' x I hx=>?_) ?_
 ·obtain⟨k,rfl,hk⟩:=cQ.1 hx;have:=(Y.start hk).1;exact yP (W.aa I) (C.aa I) (D.aa I) (P.aa I) K (by omega)
 rintro v w5 ⟨Q,E,S,g5⟩;refine gO ?_;exact⟨H.nil Q,E,S,fun y G=>by have:=g5 y G;have:=H.size;omega⟩
end
end
section
variable {ex:Bool} {s:HL} {g:List Int} {R:Rt.MS}
def gY (g:List Int) (o:Ob):Ob:=if cR o.sh.2.2 0=true∧o.rf.getD 0 0∈g then {o with rf:=if o.sh.2.2=2 then(o.rf.set 0 0).set 1 0 else o.rf.set 0 0}else o
theorem qc (g:List Int) (o:Ob):(gY g o).rf.length=o.rf.length:=by
 unfold gY;split
 ·simp only;split<;>simp
 ·rfl
theorem gH (g:List Int) (o:Ob):(gY g o).sh=o.sh∧(gY g o).dt=o.dt∧(gY g o).id=o.id∧(gY g o).DZ=o.DZ∧(gY g o).a=o.a:=by
 unfold gY;split<;>exact⟨rfl,rfl,rfl,rfl,rfl⟩
theorem jF (g:List Int) (o:Ob) (j:Nat):(gY g o).rf.getD j 0=if cR o.sh.2.2 0=true∧o.rf.getD 0 0∈g∧(j=0∨(j=1∧o.sh.2.2=2))then 0 else o.rf.getD j 0:=by
 have m: ∀(l:List Int) (i:Nat),l.length≤i→l.getD i 0=0:=fun l i h=>by rw[List.getD_eq_getElem?_getD,List.getElem?_eq_none h];rfl
 have st: ∀(l:List Int) (i j:Nat),(l.set i 0).getD j 0=if i=j then 0 else l.getD j 0:=fun l i j=>by
  by_cases c:i=j
  ·subst c;rw[if_pos rfl];by_cases h:i<l.length
   ·exact aJ h
   ·exact m _ _ (by simpa using h)
  ·rw[if_neg c,aj c]
 unfold gY;by_cases c:cR o.sh.2.2 0=true∧o.rf.getD 0 0∈g
 ·rw[if_pos c];simp only;by_cases d:o.sh.2.2=2
  ·rw[if_pos d,st,st];by_cases k:1=j
   ·rw[if_pos k,if_pos ⟨c.1,c.2,.inr ⟨k.symm,d⟩⟩]
   ·rw[if_neg k];by_cases b:0=j
    ·rw[if_pos b,if_pos ⟨c.1,c.2,.inl b.symm⟩]
    ·rw[if_neg b,if_neg (fun e=>e.2.2.elim (fun h=>b h.symm) fun h=>k h.1.symm)]
  ·rw[if_neg d,st];by_cases b:0=j
   ·rw[if_pos b,if_pos ⟨c.1,c.2,.inl b.symm⟩]
   ·rw[if_neg b,if_neg (fun e=>e.2.2.elim (fun h=>b h.symm) fun h=>d h.2)]
 ·rw[if_neg c,if_neg (fun e=>c ⟨e.1,e.2.1⟩)]
theorem D0 {kd:Int}:cR kd 0=true↔kd=1∨kd=2:=by
 unfold cR;simp
theorem Bx (kd:Int) (j:Nat) (h:0<j):cS kd j=true:=by
 unfold cS;have:(j==0)=false:=by simp;omega
 rw[this];rfl
theorem vy {t:CT} {n k:Nat} {g0:List Int} (w:s.Inv) (z:s.st.getD k 0=1) (hl:s.st.length≤t.l.length) (h:t.Fl ex s (bH s.aw (cO s))) (W:kg s R g0):
  ∃s' L n',gU g (s,t,n) ((2*k:Nat):Int)=(s',L,n')∧s'.Inv∧eH s s'∧(∀i,s.st.getD i 0=1→s'.aq i=if i=k then gY g (s.aq k)else s.aq i)∧L.Fl ex s' (bH s'.aw (cO s'))∧L.wd=t.wd∧L.lg=t.lg∧L.l.length=t.l.length∧n'≤n+1:=by
 obtain⟨l1,l2,l3⟩:=f' w.ok z;obtain⟨o,u⟩: ∃o,o=s.aq k:=⟨_,rfl⟩;unfold gU;simp only;rw[cy w.ok z,←u];rw[←u]at l1 l3;by_cases c:cR o.sh.2.2 0=true;rotate_left
 ·rw[if_neg (fun e=>c e.1)];refine⟨s,t,n,rfl,w,eH.refl s,fun i _=>?_,h,rfl,rfl,rfl,by omega⟩;by_cases d:i=k
  ·subst d;rw[if_pos rfl,←u];unfold gY;rw[if_neg (fun e=>c e.1)]
  ·rw[if_neg d]
 have F:0<o.rf.length∧(o.sh.2.2=2→1<o.rf.length):=by
  rw[D0]at c;simp only[aM,Bool.and_eq_true,Bool.or_eq_true,decide_eq_true_eq]at l3;omega
 have e0:=kh w.ok z (j:=0) (by rw[←u];exact F.1);rw[show((0:Nat):Int)=0 from rfl,←u]at e0;rw[e0];by_cases J:o.rf.getD 0 0∈g;rotate_left
 ·rw[if_neg (fun e=>J e.2)];refine⟨s,t,n,rfl,w,eH.refl s,fun i _=>?_,h,rfl,rfl,rfl,by omega⟩;by_cases d:i=k
  ·subst d;rw[if_pos rfl,←u];unfold gY;rw[if_neg (fun e=>J e.2)]
  ·rw[if_neg d]
 rw[if_pos ⟨c,J⟩];obtain⟨l,M,_⟩:=dx w.ok ((2*k:Nat):Int) 0 0;have q:=gd w.ok M;have X:=w.rL M q;have r:=eI M;have N:l.st.getD k 0=1:=by rw[r.st];exact z
 have m: ∀i,s.st.getD i 0=1→l.aq i=if i=k then {o with rf:=o.rf.set 0 0}else s.aq i:=fun i b=>by
  have:=dK w.ok q (j:=0) (to:=0) z (by rw[←u];exact F.1) (.inl rfl) M i b;rw[←u]at this;exact this
 have n1:cS o.sh.2.2 0=false:=by unfold cS;rw[c];rfl
 have ca: ∀(a:Int),a≠0→(cT o.sh.2.2 0 (o.rf.set 0 0)).count a=(cT o.sh.2.2 0 o.rf).count a:=fun a U=>by
  have:=lM (kd:=o.sh.2.2) o.rf 0 0 0 a F.1 U;rw[Nat.add_zero,n1,if_neg (fun e=>by cases e.1),if_neg (fun e=>by cases e.1)]at this;exact this
 have Y:k∈s.aw:=aR.2 z;have z0: ∀j,s.st.getD j 0=1→((2*j:Nat):Int)≠0:=fun j E e=>by
  have:j=0:=by omega
  subst this;exact w.z0 E
 have Z:t.Fl ex l (bH l.aw (cO l)):=by
  intro j E;have O:s.st.getD j 0=1:=by rw[←r.st];exact E
  have:=lN (c:=cO s) (c':=cO l) (bQ s) Y (fun i b C=>by unfold cO;rw[m i (aR.1 b),if_neg C]) ((2*j:Nat):Int);have e2:(cO l k).count ((2*j:Nat):Int)=(cO s k).count ((2*j:Nat):Int):=by
   unfold cO;rw[m k z,if_pos rfl,←u];exact ca _ (z0 j O)
  rw[r.aw,show bH s.aw (cO l) ((2*j:Nat):Int)=bH s.aw (cO s) ((2*j:Nat):Int) by omega];exact h j O
 rw[M,Option.getD_some];have P:l.aq k= {o with rf:=o.rf.set 0 0}:=by rw[m k z,if_pos rfl]
 by_cases D:o.sh.2.2=2;rotate_left
 ·rw[if_neg (fun e=>D e.1)];refine⟨l,t,n+1,rfl,X,r,fun i b=>?_,Z,rfl,rfl,rfl,by omega⟩;rw[m i b];by_cases d:i=k
  ·rw[if_pos d,if_pos d];unfold gY;rw[if_pos ⟨c,J⟩,if_neg D]
  ·rw[if_neg d,if_neg d]
 have r1:1<(l.aq k).rf.length:=by rw[P];simpa using F.2 D
 have e3:=kh q N r1;rw[show((1:Nat):Int)=1 from rfl]at e3;obtain⟨v,hv⟩: ∃v,v=(l.aq k).rf.getD 1 0:=⟨_,rfl⟩;rw[e3,←hv];have vo:v=o.rf.getD 1 0:=by rw[hv,P];exact aj (by omega)
 by_cases Q:v=0
 ·rw[if_neg (fun e=>e.2 Q)];refine⟨l,t,n+1,rfl,X,r,fun i b=>?_,Z,rfl,rfl,rfl,by omega⟩;rw[m i b];by_cases d:i=k
  ·rw[if_pos d,if_pos d];unfold gY;rw[if_pos ⟨c,J⟩,if_pos D];congr 1;refine List.nT 0 (by simp) fun j E=>?_;by_cases G:1=j
   ·subst G;rw[aJ (by simpa using F.2 D),aj (by omega),←vo,Q]
   ·rw[aj G]
  ·rw[if_neg d,if_neg d]
 rw[if_pos ⟨D,Q⟩];obtain⟨B,S,_⟩:=dx q ((2*k:Nat):Int) 1 0;have H:=gd q S;have i2:=X.rL S H;have K:=eI S;have I: ∀i,s.st.getD i 0=1→B.aq i=if i=k then {o with rf:=(o.rf.set 0 0).set 1 0}else s.aq i:=fun i b=>by
  have:=dK q H (j:=1) (to:=0) N r1 (.inl rfl) S i (by rw[r.st];exact b);rw[this,m i b];by_cases d:i=k
  ·rw[if_pos d,if_pos d,P]
  ·rw[if_neg d,if_neg d,if_neg d]
 rw[S,Option.getD_some];have D1:B.st.length≤t.l.length:=by rw[K.st,r.st];exact hl
 have vl:jb B v:=by
  have hs:=W.cO z (y:=v) (gi.2 ⟨1,by rw[←u];exact F.2 D,by rw[←u];exact vo,Q,Bx _ _ (by omega)⟩);obtain⟨i,e,b⟩:=hs;exact⟨i,e,by rw[K.st,r.st];exact b⟩
 have T: ∀a:Int,a≠0→(cO B k).count a+(if v=a then 1 else 0)=(cO l k).count a:=fun a U=>by
  have:=lM (kd:=o.sh.2.2) (o.rf.set 0 0) 0 1 0 a (by simpa using F.2 D) U;rw[Bx _ _ (by omega)]at this;have V:(o.rf.set 0 0).getD 1 0=v:=by rw[hv,P]
  rw[V]at this;simp only[true_and,if_neg (Ne.symm U),Nat.add_zero]at this;unfold cO;rw[I k z,if_pos rfl,P];exact this
 have J7: ∀a,bH s.aw (cO B) a+(cO l k).count a=bH s.aw (cO l) a+(cO B k).count a:=lN (c:=cO l) (c':=cO B) (bQ s) Y (fun i b C=>by unfold cO;rw[I i (aR.1 b),m i (aR.1 b),if_neg C,if_neg C]);have J8:t.Fl ex B (bH l.aw (cO l)):=fun j E=>Z j (by rw[←K.st];exact E);have hd:=CT.Fl.dn (x:=v) H J8 D1 fun i e _=>by
  refine qd.2 ⟨k,by rw[r.aw];exact Y,?_⟩;have:=T v Q;rw[if_pos rfl]at this;exact List.count_pos_iff.1 (by omega)
 refine⟨B,CT.dn B t v,n+1,rfl,i2,r.trans K,fun i b=>?_,hd.congr fun j E=>?_,A4 _ _ _,A5 _ _ _,rM _ _ _,by omega⟩
 ·rw[I i b];by_cases d:i=k
  ·rw[if_pos d,if_pos d];unfold gY;rw[if_pos ⟨c,J⟩,if_pos D]
  ·rw[if_neg d,if_neg d]
 ·have hz:=z0 j (by rw[←r.st,←K.st];exact E);have V:=T ((2*j:Nat):Int) hz;have g2:=J7 ((2*j:Nat):Int);rw[K.aw,r.aw];by_cases G:v=((2*j:Nat):Int)
  ·rw[if_pos G]at V;rw[if_pos G.symm];omega
  ·rw[if_neg G]at V;rw[if_neg (fun e=>G e.symm)];omega
structure By (s s':HL) (C:List Int) (g:List Int):Prop where
 inv:s'.Inv
 oW:eH s s'
 ob: ∀i,s.st.getD i 0=1→s'.aq i=if((2*i:Nat):Int)∈C then gY g (s.aq i)else s.aq i
theorem kg.wk {s':HL} {C:List Int} (h:kg s R g) (k:By s s' C g):kg s' R g:=by
 have l: ∀x,jb s x→jb s' x:=fun x ⟨i,e,m⟩=>⟨i,e,by rw[k.oW.st];exact m⟩;refine⟨fun i j m d=>?_,h.rt.mono fun x o=>o.imp id fun h=>⟨rfl,l x h.2⟩⟩;have b:s.st.getD i 0=1:=by rw[←k.oW.st];exact m
 have e:=k.ob i b;unfold HL.RF;rw[e]at d⊢;by_cases c:((2*i:Nat):Int)∈C
 ·rw[if_pos c]at d⊢;rw[qc]at d;rw[jF,(gH g _).1];split
  ·exact .inl rfl
  ·exact(h.rf i j b d).imp id fun e=>e.imp (l _) id
 ·rw[if_neg c]at d⊢;exact(h.rf i j b d).imp id fun e=>e.imp (l _) id
theorem ki {ex:Bool} {s:HL} {t:CT} {g:List Int} {R:Rt.MS} (J:s.Inv) (G:s.st.length≤t.l.length) (h:t.Fl ex s (bH s.aw (cO s))) (r:kg s R g):
  ∀L C:List Int,L.Nodup→(∀x,x∈L→jb s x∧x∉C)→ ∀l o n,By s l C g→o.Fl ex l (bH l.aw (cO l))→o.wd=t.wd→o.lg=t.lg→o.l.length=t.l.length→
   ∃s' q w,L.foldl (gU g) (l,o,n)=(s',q,w)∧By s s' (L++C) g∧q.Fl ex s' (bH s'.aw (cO s'))∧q.wd=t.wd∧q.lg=t.lg∧q.l.length=t.l.length∧w≤n+L.length
 | [],C,_,_,l,o,n,j,z,a,b,c=>⟨l,o,n,rfl,j,z,a,b,c,by simp⟩
 |x::L,C,K,B,l,o,n,j,z,a,b,c=>by
  obtain⟨⟨k,rfl,M⟩,N⟩:=B x (by simp)
  have u:=List.nodup_cons.1 K
  have D:l.st.getD k 0=1:=by rw[j.oW.st];exact M
  obtain⟨H,O,P,Q,S,T,U,V,W,X,Y,d2⟩:=vy (g:=g) (n:=n) j.inv D (by rw[j.oW.st,c];exact G) z (r.wk j)
  have Z:By s H (((2*k:Nat):Int)::C) g:=⟨S,j.oW.trans T,fun i d=>by
   rw[U i (by rw[j.oW.st];exact d)]
   by_cases I:i=k
   ·subst I
    rw[if_pos rfl,j.ob i d,if_neg N,if_pos (by simp)]
   ·rw[if_neg I,j.ob i d]
    have e:((2*i:Nat):Int)∈((2*k:Nat):Int)::C↔((2*i:Nat):Int)∈C:=by
     rw[List.mem_cons];exact⟨fun h=>h.resolve_left (by omega),.inr⟩
    by_cases m:((2*i:Nat):Int)∈C
    ·rw[if_pos m,if_pos (e.2 m)]
    ·rw[if_neg m,if_neg (fun h=>m (e.1 h))]⟩
  obtain⟨s',q,w,e3,E,f3,a3,b3,c3,d3⟩:=ki J G h r L (((2*k:Nat):Int)::C) u.2 (fun y F=>⟨(B y (by simp[F])).1,by
   simp only[List.mem_cons,not_or];exact⟨fun e=>u.1 (e▸F),(B y (by simp[F])).2⟩⟩) H O P Z V (W.trans a) (X.trans b) (Y.trans c)
  refine⟨s',q,w,by rw[List.foldl_cons,Q];exact e3,⟨E.inv,E.oW,fun i d=>?_⟩,f3,a3,b3,c3,by rw[List.length_cons];omega⟩;rw[E.ob i d];have e:((2*i:Nat):Int)∈L++((2*k:Nat):Int)::C↔((2*i:Nat):Int)∈((2*k:Nat):Int)::L++C:=by
   simp only[List.mem_append,List.mem_cons,List.cons_append];exact⟨fun h=>h.elim (fun h=>.inr (.inl h)) fun h=>h.elim .inl fun h=>.inr (.inr h),fun h=>h.elim (fun h=>.inr (.inl h)) fun h=>h.elim .inl fun h=>.inr (.inr h)⟩
  by_cases m:((2*i:Nat):Int)∈L++((2*k:Nat):Int)::C
  ·rw[if_pos m,if_pos (e.1 m)]
  ·rw[if_neg m,if_neg (fun h=>m (e.2 h))]
theorem lP (s:HL):(du (some s)).Nodup:=by
 show(dy s.aw).Nodup;unfold dy;exact List.Pairwise.map _ (fun a b h e=>h (by omega)) (bQ s)
theorem vB {t:CT} (C:s.Inv) (G:s.st.length≤t.l.length) (h:t.Fl ex s (bH s.aw (cO s))) (l:kg s R g) (H:(0:Int)∉g):
  ∃s' k n,cp s t g=(s',k,n)∧By s s' (du (some s)) g∧k.Fl ex s' (bH s'.aw (cO s'))∧k.wd=t.wd∧k.lg=t.lg∧k.l.length=t.l.length∧n≤s.aw.length∧rF true s' R:=by
 obtain⟨s',k,n,e,w,f,a,b,c,d⟩:=ki C G h l (du (some s)) [] (lP s) (fun x I=>⟨cQ.1 I,by simp⟩) s t 0 ⟨C,eH.refl s,fun i _=>by rw[if_neg (by simp)]⟩ h rfl rfl rfl;rw[List.append_nil]at w;have D:=l.wk w;refine⟨s',k,n,e,w,f,a,b,c,by have M:(du (some s)).length=s.aw.length:=eJ _;omega,fun N u r J=>?_,D.rt⟩;obtain⟨i,y,rfl⟩:=List.mem_map.1 u;have m:=aR.1 y;obtain⟨j,E,rfl⟩:=List.mem_iff_getElem.1 J;have K:(s'.aq i).rf[j]=s'.RF i j:=by unfold HL.RF;simp[E]
 rw[K];rcases D.rf i j m E with z|z|⟨rfl,F,o⟩
 ·exact .inl z
 ·exact .inr ⟨rfl,z⟩
 ·exfalso;have q:s.st.getD i 0=1:=by rw[←w.oW.st];exact m
  have B:=w.ob i q;rw[if_pos (cQ.2 ⟨i,rfl,q⟩)]at B;unfold HL.RF at o;rw[B,jF]at o;rw[B,(gH g _).1]at F;split at o
  ·exact H o
  ·rename_i L;exact L ⟨F,o,.inl rfl⟩
end
set_option maxRecDepth 8000
theorem s7 {s:HL} (h:s.Inv) {x:Int} (b:jb s x):x≠0:=by
 obtain⟨k,rfl,d⟩:=b;intro e;have:k=0:=by omega
 subst this;exact h.z0 d
section
structure QI (ex:Bool) (R:Rt.MS) (s0:HL) (t0:CT) (q:QS):Prop where
 inv:q.s.Inv
 B:q.s.B=s0.B
 born:q.s.born=s0.born
 wd:q.t.wd=t0.wd
 lg:q.t.lg=t0.lg
 len:q.t.l.length=t0.l.length
 fl:q.t.Fl ex q.s (bH q.s.aw (cO q.s))
 st: ∀i,q.s.st.getD i 0=1→s0.st.getD i 0=1
 ob: ∀i,q.s.st.getD i 0=1→(q.s.aq i).sh=(s0.aq i).sh∧(q.s.aq i).dt=(s0.aq i).dt∧(q.s.aq i).id=(s0.aq i).id∧(q.s.aq i).DZ=(s0.aq i).DZ∧(q.s.aq i).rf.length=(s0.aq i).rf.length
 rf: ∀i j,q.s.st.getD i 0=1→j<(s0.aq i).rf.length→q.s.RF i j=s0.RF i j∨(q.s.RF i j=0∧cR (s0.aq i).sh.2.2 j=true∧q.s.RF i 0=0∧s0.RF i 0≠0∧ ¬jb q.s (s0.RF i 0))
 n:q.n+(q.s.aw.length:Int)=(s0.aw.length:Int)
 ws:q.ws+dk q.s q.s.aw=dk s0 s0.aw
theorem QI.init {ex:Bool} {R:Rt.MS} {s:HL} {t:CT} (b:s.Inv) (h:t.Fl ex s (bH s.aw (cO s))):QI ex R s t ⟨s,t,0,0⟩:=
 ⟨b,rfl,rfl,rfl,rfl,rfl,h,fun _ h=>h,fun _ _=>⟨rfl,rfl,rfl,rfl,rfl⟩,fun _ _ _ _=>.inl rfl,by simp,by simp⟩
theorem lQ {s:HL} {k:Nat}: ∀ {O:List Nat},O.Nodup→k∈O→dk s (O.filter fun i=>i !=k)+ay (s.aq k).sh=dk s O
 | [],_,h=>absurd h (by simp)
 |o::O,j,l=>by
  have b:=List.nodup_cons.1 j
  have e: ∀P:List Nat,dk s (o::P)=ay (s.aq o).sh+dk s P:=fun P=>by unfold dk;simp
  rw[e]
  by_cases d:o=k
  ·subst d
   rw[List.filter_cons_of_neg (by simp),eK b.1]
   omega
  ·rw[List.filter_cons_of_pos (by simpa using d),e]
   have:=lQ (s:=s) b.2 ((List.mem_cons.1 l).resolve_left (Ne.symm d))
   omega
theorem nU {s s':HL} {l:List Nat} (h: ∀i,i∈l→(s.aq i).sh=(s'.aq i).sh):dk s l=dk s' l:=by
 unfold dk;rw[List.map_congr_left fun i b=>by rw[h i b]]
theorem jh {k:Nat}: ∀ {O:List Nat},O.Nodup→k∈O→(O.filter fun i=>i !=k).length+1=O.length
 | [],_,h=>absurd h (by simp)
 |o::O,j,l=>by
  have b:=List.nodup_cons.1 j
  by_cases d:o=k
  ·subst d
   rw[List.filter_cons_of_neg (by simp),eK b.1]
   rfl
  ·rw[List.filter_cons_of_pos (by simpa using d),List.length_cons,List.length_cons,jh b.2 ((List.mem_cons.1 l).resolve_left (Ne.symm d))]
structure RI (ex:Bool) (R:Rt.MS) (s0:HL) (t0:CT) (p:QS×List Int):Prop where
 q:QI ex R s0 t0 p.1
 sn:kg p.1.s R p.2
 g: ∀x,x∈p.2→ ¬jb p.1.s x∧x≠0
section
variable {ex:Bool} {R:Rt.MS} {s0:HL} {t0:CT}
theorem RI.step {p:QS×List Int} (Y:s0.st.length≤t0.l.length) (K:0<t0.most) (w:s0.Ok) (L:R.Ok) (h:RI ex R s0 t0 p):RI ex R s0 t0 (gV (Rt.bG (some R)) p):=by
 unfold gV;cases e:bT p.1.s p.1.t (Rt.bG (some R))with
 |nil=>exact h
 |cons x Z=>
  have l:=h.q.inv;have m:0<p.1.t.most:=by unfold CT.most;rw[h.q.wd];exact K
  obtain⟨k,rfl,o,M,N⟩:=nV (x:=x) m h.q.fl (by rw[e];simp);obtain⟨s',y,O,P,Q,u,z,H⟩:=iN l o;have B:gj p.1.s ((2*k:Nat):Int)=s':=by unfold gj;rw[y];rfl
  have C:p.1.s.st.length≤p.1.t.l.length:=by
   rw[h.q.len];have:=l.ok.sl;have:=w.sl;rw[h.q.B]at*;omega
  have S: ∀x,x∈R.S∨x∈R.G∨x∈R.Q→x≠((2*k:Nat):Int):=fun x t e=>by
   have z0:((2*k:Nat):Int)≠0:=s7 l ⟨k,rfl,o⟩;exact M (e▸vC L t (e▸z0))
  have I: ∀x,jb s' x→jb p.1.s x:=fun x ⟨i,e,b⟩=>⟨i,e,((u i).1 b).2⟩;have T:=yQ l o y C h.q.fl;have D:=qe p.1.s p.1.t ((2*k:Nat):Int);have J:k∈p.1.s.aw:=aR.2 o;simp only[QS.free,B];refine⟨⟨O,P.trans h.q.B,Q.trans h.q.born,D.1.trans h.q.wd,D.2.1.trans h.q.lg,D.2.2.trans h.q.len,T,fun i b=>h.q.st i ((u i).1 b).2,fun i b=>?_,fun i j b U=>?_,?_,?_⟩,vE l o y h.sn S N,fun x t=>?_⟩
  ·obtain⟨d,r⟩:=(u i).1 b;rw[z i d r];exact h.q.ob i r
  ·obtain⟨d,r⟩:=(u i).1 b;unfold HL.RF;rw[z i d r];exact(h.q.rf i j r U).imp id fun⟨E,F,V,W,X⟩=>⟨E,F,V,W,fun e=>X (I _ e)⟩
  ·have d:=h.q.n;have r:=jh (bQ p.1.s) J;show p.1.n+1+(s'.aw.length:Int)=(s0.aw.length:Int);rw[H];omega
  ·have d:=h.q.ws;have r:=lQ (s:=p.1.s) (bQ p.1.s) J;show p.1.ws+ay (aU (some p.1.s) ((2*k:Nat):Int)).1+dk s' s'.aw=dk s0 s0.aw;rw[cy l.ok o,H,nU (s:=s') (s':=p.1.s) fun i b=>by
    obtain⟨E,F⟩:=List.mem_filter.1 b;rw[z i (by simpa using F) (aR.1 E)]]
   simp only;omega
  ·have G:x∈p.2∨x=((2*k:Nat):Int):=by
    unfold fm at t;split at t
    ·exact .inl t
    ·exact(List.mem_append.1 t).imp id fun h=>by simpa using h
   rcases G with d|rfl
   ·exact⟨fun e=>(h.g x d).1 (I x e),(h.g x d).2⟩
   ·exact⟨fun⟨i,e,b⟩=>((u i).1 b).1 (by omega),s7 l ⟨k,rfl,o⟩⟩
theorem yR (S:List Int) (x:Int):fm S x≠ []:=by
 unfold fm;split
 ·rename_i h;intro e;rw[e]at h;cases h
 ·simp
theorem RI.GS {q:QS} {g:List Int} (hl:s0.st.length≤t0.l.length) (D:s0.Ok) (h:RI ex R s0 t0 (q,g)):
  QI ex R s0 t0 {q with s:=(cp q.s q.t g).1,t:=(cp q.s q.t g).2.1}∧rF true (cp q.s q.t g).1 R∧(cp q.s q.t g).2.2≤s0.aw.length∧By q.s (cp q.s q.t g).1 (du (some q.s)) g:=by
 have r:=h.q;have E:=r.inv;simp only at r E;have F:q.s.st.length≤q.t.l.length:=by
  rw[r.len];have:=E.ok.sl;have:=D.sl;rw[r.B]at*;omega
 obtain⟨s',t',n',e,w,f,a,b,c,d,sn⟩:=vB (g:=g) E F r.fl h.sn fun e=>(h.g 0 e).2 rfl;rw[e];have y:s'.st=q.s.st:=w.oW.st;have z:s'.aw=q.s.aw:=w.oW.aw;have G: ∀i,q.s.st.getD i 0=1→s'.aq i=gY g (q.s.aq i):=fun i o=>by
  rw[w.ob i o,if_pos (cQ.2 ⟨i,rfl,o⟩)]
 have M: ∀x,jb s' x↔jb q.s x:=fun x=>⟨fun⟨i,e,o⟩=>⟨i,e,by rw[←y];exact o⟩,fun⟨i,e,o⟩=>⟨i,e,by rw[y];exact o⟩⟩;refine⟨⟨w.inv,w.oW.B.trans r.B,w.oW.born.trans r.born,a.trans r.wd,b.trans r.lg,c.trans r.len,f,fun i o=>r.st i (by rw[←y];exact o),fun i o=>?_,fun i j o U=>?_,?_,?_⟩,sn,?_,w⟩
 ·have u:q.s.st.getD i 0=1:=by rw[←y];exact o
  show(s'.aq i).sh=_∧(s'.aq i).dt=_∧(s'.aq i).id=_∧(s'.aq i).DZ=_∧(s'.aq i).rf.length=_;have:=r.ob i u;rw[G i u,qc,(gH g _).1,(gH g _).2.1,(gH g _).2.2.1,(gH g _).2.2.2.1];exact this
 ·have u:q.s.st.getD i 0=1:=by rw[←y];exact o
  have N:=r.ob i u;have H:=r.rf i j u U;show s'.RF i j=s0.RF i j∨(s'.RF i j=0∧_∧s'.RF i 0=0∧s0.RF i 0≠0∧ ¬jb s' (s0.RF i 0));unfold HL.RF at H⊢;rw[G i u,jF,jF,N.1];by_cases cs:cR (s0.aq i).sh.2.2 0=true∧(q.s.aq i).rf.getD 0 0∈g
  ·have B:=h.g _ cs.2;simp only at B;have O:=N.2.2.2.2;have V:0<(s0.aq i).rf.length:=by omega
   have C:=r.rf i 0 u V;unfold HL.RF at C;have key:(s0.aq i).rf.getD 0 0≠0∧ ¬jb s' ((s0.aq i).rf.getD 0 0):=by
    rcases C with I|⟨I,_⟩
    ·rw[←I];exact⟨B.2,fun e=>B.1 ((M _).1 e)⟩
    ·exact absurd I B.2
   rw[if_pos (show cR (s0.aq i).sh.2.2 0=true∧(q.s.aq i).rf.getD 0 0∈g∧((0:Nat)=0∨((0:Nat)=1∧(s0.aq i).sh.2.2=2))from⟨cs.1,cs.2,.inl rfl⟩)];by_cases J:j=0∨(j=1∧(s0.aq i).sh.2.2=2)
   ·rw[if_pos ⟨cs.1,cs.2,J⟩];refine .inr ⟨rfl,?_,rfl,key.1,key.2⟩;rcases J with rfl|⟨rfl,W⟩
    ·exact cs.1
    ·unfold cR;rw[W];rfl
   ·rw[if_neg (fun e=>J e.2.2)];exact H.imp id fun⟨P,Q,K,S,T⟩=>absurd K B.2
  ·rw[if_neg (fun e=>cs ⟨e.1,e.2.1⟩),if_neg (fun e=>cs ⟨e.1,e.2.1⟩)];exact H.imp id fun⟨P,Q,K,S,T⟩=>⟨P,Q,K,S,fun e=>T ((M _).1 e)⟩
 ·show q.n+(s'.aw.length:Int)=_;rw[z];exact r.n
 ·show q.ws+dk s' s'.aw=_;rw[z,nU (s:=s') (s':=q.s) fun i o=>by rw[G i (aR.1 o),(gH g _).1]];exact r.ws
 ·have:=r.n;have X:q.s.aw.length≤s0.aw.length:=by
   refine Nat.le_trans ?_ (Nat.le_refl _);have: ∀x,x∈q.s.aw→x∈s0.aw:=fun x L=>aR.2 (r.st x (aR.1 L));have Y:=tS (l:=dy q.s.aw) (m:=dy s0.aw) (by
    unfold dy;exact List.Pairwise.map _ (fun a b h e=>h (by omega)) (bQ q.s)) fun x L=>by
    obtain⟨k,Z,rfl⟩:=List.mem_map.1 L;exact List.mem_map.2 ⟨k,this k Z,rfl⟩
   rwa[eJ,eJ]at Y
  exact Nat.le_trans d X
end
end
def jG (b d:Nat):List Value:=[.int .i64 0,.int .i64 0,.int .i64 0,.int .i64 0,.int .i64 0,.int .i64 0,.int .i64 (b:Int),.int .i64 (d:Int)]
def rA:Rt.MS:=⟨1,List.replicate 16 0,List.replicate 16 0,[]⟩
theorem vF:Rt.bG (some rA)=[]:=by decide+kernel
theorem s8 {P:Int→Prop} (d:P 0):Bz P rA:=⟨fun x b=>by rw[(List.mem_replicate.1 b).2];exact d,fun x b=>by rw[(List.mem_replicate.1 b).2];exact d,fun x b=>absurd b (by simp[rA])⟩
section
open Classical in
end
section
structure Gi (s s':HL) (k j:Nat) (to:Int):Prop where
 inv:s'.Inv
 oW:eH s s'
 ob: ∀i,s.st.getD i 0=1→s'.aq i=if i=k then {s.aq k with rf:=(s.aq k).rf.set j to}else s.aq i
theorem lR {s:HL} (d:s.Inv) {k j:Nat} {to:Int} (m:s.st.getD k 0=1) (o:j<(s.aq k).rf.length) (q:jq s to): ∃s',aP (some s) ((2*k:Nat):Int) (j:Int) to=some s'∧Gi s s' k j to:=by
 obtain⟨s',e,_⟩:=dx d.ok ((2*k:Nat):Int) (j:Int) to;have b:=gd d.ok e;exact⟨s',e,d.rL e b,eI e,fun i l=>dK d.ok b m o q e i l⟩
section
variable {ex:Bool} {s s':HL} {R:Rt.MS} {t:CT} {k j:Nat} {to:Int}
theorem Gi.D2 (h:Gi s s' k j to) (x:Int):jb s' x↔jb s x:=⟨fun⟨i,e,b⟩=>⟨i,e,by rw[←h.oW.st];exact b⟩,fun⟨i,e,b⟩=>⟨i,e,by rw[h.oW.st];exact b⟩⟩
def CT.note (s:HL) (t:CT) (kd:Int) (j:Nat) (b d:Int):CT:=
 if cS kd j=true then(let u:=if d≠0 then t.up d else t;if b≠0 then u.dn s b else u)else t
theorem jq.D2 {x:Int} (h:jq s x) (b:x≠0):jb s x:=h.resolve_left b
def yS (s:HL) (L:List (Int×List Int)) (k:Nat):List (Int×List Int):=if vG L ((2*k:Nat):Int)=none then L++[(((2*k:Nat):Int),(s.aq k).rf)]else L
end
end
section
set_option maxRecDepth 8000
variable {hp:Addr} {t t3:BS} {ρ:Env} {m:HO} {now x:Int} {refs:List Int} {F fh fl fp BA fr fs:List Nat} {b bd bo i n:Nat} {vl vr vs:Value} {w w3:World}
theorem D3 (w:World) (m:LM) (q:Nat) (x:Int) (k:At w q [.int .i64 x]) (r:bu m.v=true):Cs Tryz.prog 402 [.agg ⟨m.V⟩,.pointer (some ⟨q,0,none⟩)] w fun v w'=>v=.bool (m.o==x)∧ad [] w w':=by
 refine en [] ?_;refine gO ?_;refine bm fun u l t o j b=>?_;have d:At l u [.int .i64 m.o,m.v]:=j;(repeat(first|with_reducible(first|refine nx ?_|refine ch rfl ?_)|simp only[go_sem,d.cell,(k.aa b).cell]));exact b
theorem D4 {M:List LM} {q:Nat} (C:Sl w 2 vl M.length (oX M) fl) (E: ∀m,m∈M→bu m.v=true) (D:M.length≤100000) (F:At w q [.int .i64 x]):
  Cs Tryz.prog 401 [vl,.func (.func 402) #[] #[.pointer (some ⟨q,0,none⟩)]] w fun v w'=>v=.int .i64 (match kj (M.map LM.im) x with|some i=>(i:Int)|none=> -1)∧ad [] w w':=by
 obtain⟨N,O,rfl⟩:=C.val;refine en [] ?_;refine gO ?_;refine aE (5::8::9::10::11::12::13::14::15::16::17::18::[]) (fun g w'=> ∃i:Nat,g 8=.int .i64 i∧i≤M.length∧(∀j,j<i→((M.map LM.im).getD j default).1≠x)∧ad [] w w') (fun g _=>bU M.length 8 g) ⟨0,by simp only[go_sem];rfl,by omega,fun j u=>absurd u (by omega),ad.refl _ _⟩ fun P w' G k=>?_;obtain⟨i,y,Q,l,o⟩:=G;have d:i<M.length→((M.map LM.im).getD i default).1=(M.getD i default).o:=fun h=>by simp[h,LM.im]
 by_cases b:i<M.length;rotate_left
 ·obtain rfl:i=M.length:=by omega
  refine bj y (bt (show¬((M.length:Nat):Int)<(M.length:Int) by omega)) ?_;rw[tT fun j u=>l j (by simpa using u)];exact⟨rfl,o⟩
 obtain⟨H,cap,ys,I,B,_,_⟩:=(C.aa o).GU (by omega);cases I;have J:(0:Int)≤(i:Int)∧(i:Int)<(M.length:Int):=⟨by omega,by omega⟩;have K:aI w' ⟨H,i*2,none⟩ 2=some (M.getD i default).V:=by rw[ax B (i*2) 2 (by rw[gZ,oY];omega),rN ys b]
 have r:M.getD i default∈M:=by simp[b]
 refine jr y (bc (show(i:Int)<(M.length:Int) by omega)) (eq_true J) @Int.toNat_natCast K ?_;refine di (bA _ #[] _ #[_]) (by kernel_rfl) (D3 w' (M.getD i default) q x (F.aa o) (E _ r)) ?_;rintro v L ⟨rfl,t⟩;by_cases z:(M.getD i default).o=x
 ·refine aQ (fx z) ?_;rw[tU (i:=i) (by simpa using b) (by rw[d b];exact z) l];exact⟨rfl,o.nil t⟩
 ·refine db (fj z) y (au i (by omega)) ?_;refine k _ L ⟨i+1,?_,by omega,fun j u=>?_,o.nil t⟩ ?_
  ·simp only[go_sem]
  ·by_cases e:j=i
   ·subst e;rw[d b];exact z
   ·exact l j (by omega)
  ·exact aZ y
theorem rO.image {M:List LM} (l:rO w b hp t bd bo vs vl fs fl M) (hl:t.L.length≤100000) (x:Int):
  Cs Tryz.prog 312 [.pointer (some ⟨b,0,none⟩),.int .i64 x] w fun v w'=>v=.int .i64 (match kj t.L x with|some i=>(i:Int)|none=> -1)∧ad [] w w':=by
 refine en [] ?_;refine gO ?_;refine bm fun q y z u j k=>?_;have d:=l.aa k;refine aQ d.hb.cell ?_;refine ak (D4 d.hl (fun m o=>Sl.nS (d.om m o)) (by rw[l.len];exact hl) j) ?_;rintro v B ⟨rfl,r⟩;rw[l.eq];refine gO ?_;exact k.nil r
def nn (k kind:Int):Bool:=dz .and .i64 k kind !=0
def qf:Value:=.agg ⟨[]⟩
def BS.cU (t:BS) (x:Int) (refs:List Int):BS:=if nn t.kinds 32&&(kj t.L x).isNone then {t with L:=t.L++[(x,refs)]}else t
def BS.dL (t:BS) (r:Int):BS:=if nn t.kinds 8 then t.jH r else t
def BS.fy (t:BS) (l:Int):BS:=if nn t.kinds 1 then {t with D:=b9 t.D l qf}else t
def BS.dU (m:HO) (t:BS) (x now:Int):BS:=if nn t.kinds 2&&(!cY m t.cJ x&&cY m t.cJ now)then {t with O:=b9 t.O x qf}else t
def BS.qg (t:BS) (now:Int):BS:=if nn t.kinds 4 then t.jH now else t
def BS.note (m:HO) (t:BS) (x i:Nat) (refs:List Int) (now:Int):BS:=
 (BS.dU m (((t.cU x refs).dL (refs.getD i 0)).fy (((x+2+i)/8:Nat):Int)) x now).qg now
theorem BS.yT (t:BS) (x:Int) (refs:List Int):(t.cU x refs).kinds=t.kinds∧(t.cU x refs).cJ=t.cJ∧(t.cU x refs).S=t.S∧(t.cU x refs).D=t.D∧(t.cU x refs).O=t.O:=by
 unfold BS.cU;split<;>exact⟨rfl,rfl,rfl,rfl,rfl⟩
theorem rP (S:List Int) (x:Int):(hU S x).length≤S.length+1:=by
 unfold hU;split
 ·simp
 ·omega
theorem BS.yU (t:BS) (r:Int):(t.dL r).kinds=t.kinds∧(t.dL r).cJ=t.cJ∧(t.dL r).S.length≤t.S.length+1∧(t.dL r).D=t.D∧(t.dL r).O=t.O∧(t.dL r).L=t.L:=by
 unfold BS.dL;split
 ·exact⟨rfl,rfl,rP _ _,rfl,rfl,rfl⟩
 ·exact⟨rfl,rfl,by omega,rfl,rfl,rfl⟩
theorem BS.yV (t:BS) (l:Int):(t.fy l).kinds=t.kinds∧(t.fy l).cJ=t.cJ∧(t.fy l).S=t.S∧(t.fy l).O=t.O∧(t.fy l).L=t.L:=by
 unfold BS.fy;split<;>exact⟨rfl,rfl,rfl,rfl,rfl⟩
theorem BS.yX (m:HO) (t:BS) (x now:Int):(t.dU m x now).kinds=t.kinds∧(t.dU m x now).cJ=t.cJ∧(t.dU m x now).S=t.S∧(t.dU m x now).D=t.D∧(t.dU m x now).L=t.L:=by
 unfold BS.dU;split<;>exact⟨rfl,rfl,rfl,rfl,rfl⟩
theorem BS.vH (e:(nn t.kinds 2&&(!cY m t.cJ x&&cY m t.cJ now))=false):t.dU m x now=t:=by
 unfold BS.dU;exact if_neg (by rw[e];exact Bool.false_ne_true)
theorem BS.tV (e:(nn t.kinds 2&&(!cY m t.cJ x&&cY m t.cJ now))=true):t.dU m x now= {t with O:=b9 t.O x qf}:=by
 unfold BS.dU;exact if_pos e
theorem rO.BB {M:List LM} (d:rO w b hp t bd bo vs vl fs fl M) (kind:Int):Cs Tryz.prog 303 [.pointer (some ⟨b,0,none⟩),.int .i64 kind] w fun v w'=>v=.bool (nn t.kinds kind)∧w'=w:=J9 d.hb
theorem BM.BB (h:BM w b hp t fp) (kind:Int):Cs Tryz.prog 303 [.pointer (some ⟨b,0,none⟩),.int .i64 kind] w fun v w'=>v=.bool (nn t.kinds kind)∧w'=w:=by
 obtain⟨bd,bo,vs,vl,fs,fl,M,_,d⟩:=h;exact d.BB kind
theorem BM.vI (h:BM w b hp t fp) (d:HR w (some hp) fh m) (x:Int) (j:0≤x) (k:x≤4611686018427387904):Cs Tryz.prog 396 [.pointer (some ⟨b,0,none⟩),.int .i64 x] w fun v w'=>v=.bool (cY m t.cJ x)∧ad [] w w':=by
 obtain⟨bd,bo,vs,vl,fs,fl,M,_,l⟩:=h;exact BC d l.hb x j k
theorem BM.GV (h:BM w b hp t fp): ∃bd,w.cell? ⟨b,3,none⟩=some (.map (some bd))∧ ∀l:Int,Cs Tryz.prog 309 [.map (some bd),.int .i64 l] w fun v w'=>v=.tuple #[]∧ad fp w w'∧BM w' b hp {t with D:=b9 t.D l qf} fp:=by
 obtain⟨bd,bo,vs,vl,fs,fl,M,o,d⟩:=h;have q:=vj.of d.nd;refine⟨bd,by rw[d.hb.cell];rfl,fun l=>(D5 d.hd l).mono ?_⟩;rintro v w' ⟨rfl,u,k⟩;have off: ∀y,y≠bd→y∉ [bd]:=fun y h=>aW h;refine⟨rfl,k.ji fun y j=>by simp only[bp]at j;subst j;rw[o];simp,bd,bo,vs,vl,fs,fl,M,o,d.hb.ae k (off b q.b1),u,d.ho.ae k (off bo q.d1.symm),d.hs.ae k fun y j=>off y (q.b3 y (.inl j)).2.1,d.hl.ae k fun y j=>off y (q.b3 y (.inr (.inl j))).2.1,d.eq,fun m r=>Sl.ae (d.om m r) k fun y j=>off y (q.b3 y (.inr (.inr (dX r j)))).2.1,d.nd⟩
theorem BM.aV (h:BM w b hp t fp): ∃bo,w.cell? ⟨b,4,none⟩=some (.map (some bo))∧ ∀l:Int,Cs Tryz.prog 309 [.map (some bo),.int .i64 l] w fun v w'=>v=.tuple #[]∧ad fp w w'∧BM w' b hp {t with O:=b9 t.O l qf} fp:=by
 obtain⟨bd,bo,vs,vl,fs,fl,M,o,d⟩:=h;have q:=vj.of d.nd;refine⟨bo,by rw[d.hb.cell];rfl,fun l=>(D5 d.ho l).mono ?_⟩;rintro v w' ⟨rfl,u,k⟩;have off: ∀y,y≠bo→y∉ [bo]:=fun y h=>aW h;refine⟨rfl,k.ji fun y j=>by simp only[bp]at j;subst j;rw[o];simp,bd,bo,vs,vl,fs,fl,M,o,d.hb.ae k (off b q.b2),d.hd.ae k (off bd q.d1),u,d.hs.ae k fun y j=>off y (q.b3 y (.inl j)).2.2,d.hl.ae k fun y j=>off y (q.b3 y (.inr (.inl j))).2.2,d.eq,fun m r=>Sl.ae (d.om m r) k fun y j=>off y (q.b3 y (.inr (.inr (dX r j)))).2.2,d.nd⟩
theorem vJ {w':World} (e:(nn t3.kinds 2&&(!cY m t3.cJ x&&cY m t3.cJ now))=false) (l:BM w3 b hp t3 BA) (j:ad F w w3) (k: ∀y,y∈BA→y∈F∨w.heap.size≤y) (o:ad [] w3 w'):
  ad F w w'∧ ∃d,BM w' b hp (BS.dU m t3 x now) d∧ ∀y,y∈d→y∈F∨w.heap.size≤y:=
 ⟨j.nil o,BA,by rw[BS.vH e];exact l.aa o,k⟩
def yY:aS→aS|.seq a _=>a|c=>c
def s9:aS→aS|.seq _ a=>a|c=>c
theorem yZ {x:Nat} {kk:List XI} {R:Value→World→Prop} (E:ρ 0=.pointer (some ⟨b,0,none⟩)) (r:ρ 1=.int .i64 (x:Int)) (F:ρ 3=vr)
  (h:BM w b hp t fp) (V:Sl w 1 vr n (ints refs) fr) (J': ∀y,y∈fr→y∉fp) (hn:n≤1000) (hS:t.S.length≤90000) (hL:t.L.length≤90000)
  (J: ∀W w',(ad fp w w'∧ ∃B,BM w' b hp (t.cU x refs) B∧ ∀y,y∈B→y∈fp++fr∨w.heap.size≤y)→(hk:bb (10::11::12::13::14::15::16::17::18::19::20::21::22::23::24::25::26::27::28::29::[]) ρ W:=by(repeat(first|with_reducible exact vk|with_reducible exact bb.nW _ _ _|refine bb.put ?_ rfl _|exact vk|exact bb.nW _ _ _|refine bb.tW ?_ rfl _)))→bD Tryz.prog aD kk W w' R):
  bD Tryz.prog aD (.code (yY aB)::kk) ρ w R:=by
 have D6:refs.length=n:=by have:=V.1;rw[aG]at this;omega
 have h0:=h;have Ka:=h.lt;have X:=V.lt;unfold aB;simp only[yY];obtain⟨bd,bo,vs,vl,fs,fl,M,K,u⟩:=h;have l:=vj.of u.nd;have C:(nn t.kinds 32&&(kj t.L x).isNone)=false→ ∀ {w':World},ad [] w w'→ad fp w w'∧ ∃B,BM w' b hp (t.cU x refs) B∧ ∀y,y∈B→y∈fp++fr∨w.heap.size≤y:=fun e w' o=>⟨o.of_nil,fp,by unfold BS.cU;rw[if_neg (by rw[e];exact Bool.false_ne_true)];exact h0.aa o,fun y d=>.inl (by simp[d])⟩;refine db E r F ?_;refine ao (u.BB 32) ?_;cases hk:nn t.kinds 32 with
 |false=>
  refine db E r F ?_;refine J _ w (C (by rw[hk];rfl) (ad.refl _ _))
 |true=>
 refine db E r F ?_;refine aH (u.image (by omega) (x:Int)) fun w1 D=>?_;cases H:kj t.L (x:Int)with
 |some k=>
  refine jI E r F (bt (show¬(k:Int)<0 by omega)) ?_;refine J _ w1 (C (by rw[hk,H];rfl) D)
 |none=>
 have Y:=u.hb.aa D;obtain⟨N,O,rfl⟩:=V.val;refine jr E r F (bc (show(-1:Int)<0 by omega)) Y.cell ?_;rw[ai rfl rfl,ai rfl rfl];refine db E r F ?_;rw[jJ (n:=2) rfl rfl];refine db E r F ?_;refine jc fun q2 w2 GW D7 Z G=>?_;refine db E r F ?_;have P:At w2 q2 (LM.V ⟨(x:Int),refs,.slice N n O,fr⟩):=Z;have Kb:=u.len;refine nu (sz:=2) (m:=1) (us:=LM.V ⟨(x:Int),refs,.slice N n O,fr⟩) ((u.hl.aa D).aa G) (bO.at P rfl) (by simp[LM.V,bu]) (by omega) (by omega) ?_;intro v3 w3 f3 Q Kc kX _;have D8:=D.size;have GX:=G.size;have y0:=u.lt;have o3:ad fl w w3:=((D.nil G).of_nil (T:=fl)).same kX;have GY:=(Y.aa G).ae kX fun e=>(l.b3 b (.inr (.inl e))).1 rfl;have I: ∀y,y∈f3→y∈fl∨w.heap.size≤y:=fun y d=>by
  rcases Kc with rfl|rfl
  ·exact .inl d
  ·simp only[bp]at d;exact .inr (by omega)
 refine db E r F ?_;refine nt GY (by simp) Q.nS fun w4 tR vK ll=>?_;simp only[List.set_cons_zero,List.set_cons_succ]at vK;refine db E r F ?_;have q:ad (b::fl) w w4:=(o3.ji fun y d=>by simp[d]).same (ll.ji fun y d=>by simp only[bp]at d;simp[d]);have off: ∀y,y≠b→y∉fl→y∉b::fl:=fun y h1 h2 h3=>by simp only[List.mem_cons]at h3;exact h3.elim h1 h2
 have j: ∀y,y∈fr→y≠b∧y≠bd∧y≠bo∧y∉fs∧y∉fl∧y∉hX M:=fun y d=>by
  have:=J' y d;rw[K]at this;simpa[not_or]using this
 have S: ∀y,y∈f3→y≠b∧y≠bd∧y≠bo∧y∉fs∧y∉hX M∧y∉fr:=fun y d=>by
  rcases I y d with h|h
  ·have:=l.b3 y (.inr (.inl h));exact⟨this.1,this.2.1,this.2.2,fun U=>(l.s y U).1 h,l.l y h,fun U=>(j y U).2.2.2.2.1 h⟩
  ·have g: ∀z,z∈b::bd::bo::(fs++(fl++hX M))→y≠z:=fun z hz=>by have:=y0 z hz;omega
   exact⟨g b (by simp),g bd (by simp),g bo (by simp),fun h=>g y (by simp[h]) rfl,fun h=>g y (by simp[h]) rfl,fun U=>by have:=X y U;omega⟩
 have eF:hX (M++[⟨(x:Int),refs,.slice N n O,fr⟩])=hX M++fr:=by rw[js];simp[hX]
 have eV:oX (M++[⟨(x:Int),refs,.slice N n O,fr⟩])=oX M++LM.V ⟨(x:Int),refs,.slice N n O,fr⟩:=by rw[lS];simp[oX]
 refine J _ w4 ⟨q.ji fun y d=>by rw[K];simp only[List.mem_cons]at d;rcases d with rfl|d<;>simp[*],b::bd::bo::(fs++(f3++hX (M++[⟨(x:Int),refs,.slice N n O,fr⟩]))),⟨bd,bo,vs,v3,fs,f3,M++[⟨(x:Int),refs,.slice N n O,fr⟩],rfl,?_⟩,fun y d=>?_⟩
 ·have r:t.cU x refs= {t with L:=t.L++[((x:Int),refs)]}:=by unfold BS.cU;rw[hk,H];rfl
  rw[r];refine⟨vK,u.hd.ae q (off bd l.b1.symm fun h=>(l.b3 bd (.inr (.inl h))).2.1 rfl),u.ho.ae q (off bo l.b2.symm fun h=>(l.b3 bo (.inr (.inl h))).2.2 rfl),u.hs.ae q fun y d=>off y (l.b3 y (.inl d)).1 (l.s y d).1,?_,?_,fun m' D9=>?_,vj.mk' ⟨l.b1,l.b2,l.d1,?_,fun y d=>⟨fun h=>(S y h).2.2.2.1 d,?_⟩,fun y d=>?_,l.n1,Q.nodup,?_⟩⟩
  ·rw[eV];have:=Q.ae ll fun y d=>aW (S y d).1;simpa using this
  ·rw[u.eq];simp[LM.im]
  ·rcases List.mem_append.1 D9 with h|h
   ·exact Sl.ae (u.om m' h) q fun y d=>off y (l.b3 y (.inr (.inr (dX h d)))).1 fun U=>l.l y U (dX h d)
   ·simp only[bp]at h;subst h;unfold LM.ok;rw[D6];exact V.ae q fun y d=>off y (j y d).1 (j y d).2.2.2.2.1
  ·rintro y (d|d|d)
   ·exact l.b3 y (.inl d)
   ·exact⟨(S y d).1,(S y d).2.1,(S y d).2.2.1⟩
   ·rw[eF]at d;rcases List.mem_append.1 d with h|h
    ·exact l.b3 y (.inr (.inr h))
    ·exact⟨(j y h).1,(j y h).2.1,(j y h).2.2.1⟩
  ·rw[eF];intro h;rcases List.mem_append.1 h with h|h
   ·exact(l.s y d).2 h
   ·exact(j y h).2.2.2.1 d
  ·rw[eF];intro h;rcases List.mem_append.1 h with h|h
   ·exact(S y d).2.2.2.2.1 h
   ·exact(S y d).2.2.2.2.2 h
  ·rw[eF,List.nodup_append];exact⟨l.n3,V.nodup,fun y h1 z h2 e=>by subst e;exact(j y h2).2.2.2.2.2 h1⟩
 ·rw[eF]at d;rw[K];simp only[List.mem_cons,List.mem_append]at d⊢;rcases d with d|d|d|d|d|d|d
  ·simp[d]
  ·simp[d]
  ·simp[d]
  ·simp[d]
  ·rcases I y d with h|h
   ·simp[h]
   ·exact .inr h
  ·simp[d]
  ·simp[d]
theorem y6 {x:Nat} {L:List XI} {R:Value→World→Prop} (l:ρ 0=.pointer (some ⟨b,0,none⟩)) (q:ρ 1=.int .i64 (x:Int)) (r:ρ 4=.int .i64 now)
  (z:BM w3 b hp t3 BA) (B:HR w3 (some hp) fh m) (T:x≤100000) (H:0≤now) (I:now≤4611686018427387904) (C:ad F w w3) (t: ∀y,y∈BA→y∈F∨w.heap.size≤y)
  (k: ∀D w',(ad F w w'∧ ∃j,BM w' b hp (BS.dU m t3 x now) j∧ ∀y,y∈j→y∈F∨w.heap.size≤y)→(E:bb (50::51::52::53::54::55::56::57::58::59::60::61::62::63::64::65::66::67::68::[]) ρ D:=by(repeat(first|with_reducible exact vk|with_reducible exact bb.nW _ _ _|refine bb.put ?_ rfl _|exact vk|exact bb.nW _ _ _|refine bb.tW ?_ rfl _)))→bD Tryz.prog aD L D w' R):
  bD Tryz.prog aD (.code (yY (s9 (s9 (s9 aB))))::L) ρ w3 R:=by
 unfold aB;simp only[yY,s9];have no:(nn t3.kinds 2&&(!cY m t3.cJ x&&cY m t3.cJ now))=false→ ∀ {w':World},ad [] w3 w'→ad (F) w w'∧ ∃j,BM w' b hp (BS.dU m t3 x now) j∧ ∀y,y∈j→y∈F∨w.heap.size≤y:=fun e w' o=>vJ e z C t o;refine db l q r ?_;refine ao (z.BB 2) ?_;cases E:nn t3.kinds 2 with
 |false=>
  refine db l q r ?_;refine k _ w3 (no (by rw[E];rfl) (ad.refl _ _))
 |true=>
 refine db l q r ?_;refine aH (z.vI B (x:Int) (by omega) (by omega)) fun N d=>?_;cases J:cY m t3.cJ (x:Int)with
 |true=>
  refine db l q r ?_;refine k _ N (no (by rw[E,J];rfl) d)
 |false=>
 refine db l q r ?_;refine aH ((z.aa d).vI (B.aa d) now H I) fun O u=>?_;cases M:cY m t3.cJ now with
 |false=>
  refine db l q r ?_;refine k _ O (no (by rw[E,J,M];rfl) (d.nil u))
 |true=>
  obtain⟨bo,P,G⟩:=(z.aa (d.nil u)).aV;refine jI l q r P ?_;refine ak (G (x:Int)) ?_;rintro v Q ⟨rfl,K,S⟩;refine db l q r ?_;refine k _ Q ⟨(C.nil (d.nil u)).trans K t,BA,by rw[BS.tV (by rw[E,J,M];rfl)];exact S,t⟩
theorem y7 {k:World} {t:BS} {d:List Nat} {H:List XI} {R:Value→World→Prop} (I:ρ 0=.pointer (some ⟨b,0,none⟩)) (J:ρ 2=.int .i64 (i:Int)) (K:ρ 3=vr)
  (u:BM k b hp t d) (l:Sl k 1 vr n (ints refs) fr) (T:i<n) (z:ad F w k) (j: ∀y,y∈d→y∈F∨w.heap.size≤y) (U:t.S.length≤90000)
  (m: ∀o w',(ad F w w'∧ ∃q,BM w' b hp (t.dL (refs.getD i 0)) q∧ ∀y,y∈q→y∈F∨w.heap.size≤y)→(B:bb (30::31::32::33::34::35::36::37::[]) ρ o:=by(repeat(first|with_reducible exact vk|with_reducible exact bb.nW _ _ _|refine bb.put ?_ rfl _|exact vk|exact bb.nW _ _ _|refine bb.tW ?_ rfl _)))→bD Tryz.prog aD H o w' R):
  bD Tryz.prog aD (.code (yY (s9 aB))::H) ρ k R:=by
 have L:refs.length=n:=by have:=l.1;rw[aG]at this;omega
 have M:=z.size;obtain⟨N,V,O,rfl,r,rfl,_⟩:=l.pos (by omega);have C:k.cell? ⟨N,i,none⟩=some (.int .i64 (refs.getD i 0)):=by rw[r.cell];exact aC O (by omega)
 unfold aB;simp only[yY,s9];refine aQ I ?_;refine ao (u.BB 8) ?_;cases B:nn t.kinds 8 with
 |false=>
  refine gO ?_;refine m _ k ⟨z,d,by unfold BS.dL;rw[B];exact u,j⟩
 |true=>
  refine nX I J K (eq_true (show(0:Int)≤(i:Int)∧(i:Int)<(n:Int) by omega)) @Int.toNat_natCast @Nat.mul_one C ?_;refine ak (u.jH (by omega) (refs.getD i 0)) ?_;rintro v P ⟨rfl,D,E,Q,G⟩;refine gO ?_;refine m _ P ⟨z.trans D j,E,by unfold BS.dL;rw[B];exact Q,fun y S=>?_⟩
  ·rcases G y S with h|h
   ·exact j y h
   ·exact .inr (by omega)
theorem y9 {r:World} {t:BS} {d:List Nat} {x:Nat} {C:List XI} {R:Value→World→Prop} (D:ρ 0=.pointer (some ⟨b,0,none⟩)) (E:ρ 1=.int .i64 (x:Int)) (G:ρ 2=.int .i64 (i:Int))
  (u:BM r b hp t d) (M:x≤100000) (N:i≤100000) (k:ad F w r) (j: ∀y,y∈d→y∈F∨w.heap.size≤y)
  (l: ∀m w',(ad F w w'∧ ∃o,BM w' b hp (t.fy (((x+2+i)/8:Nat):Int)) o∧ ∀y,y∈o→y∈F∨w.heap.size≤y)→(z:bb (38::39::40::41::42::43::44::45::46::47::48::49::[]) ρ m:=by(repeat(first|with_reducible exact vk|with_reducible exact bb.nW _ _ _|refine bb.put ?_ rfl _|exact vk|exact bb.nW _ _ _|refine bb.tW ?_ rfl _)))→bD Tryz.prog aD C m w' R):
  bD Tryz.prog aD (.code (yY (s9 (s9 aB)))::C) ρ r R:=by
 have H:IntKind.i64.wrap ((x:Int)+2)=((x+2:Nat):Int):=by rw[IntWalk.i64_in _ (by omega)];omega
 have I:IntKind.i64.wrap (((x+2:Nat):Int)+(i:Int))=((x+2+i:Nat):Int):=by rw[IntWalk.i64_in _ (by omega)];omega
 have J:IntKind.i64.wrap (((x+2+i:Nat):Int).tdiv 8)=(((x+2+i)/8:Nat):Int):=by rw[Int.tdiv_eq_ediv_of_nonneg (by omega),IntWalk.i64_in _ (by omega)];omega
 obtain⟨bd,K,q⟩:=u.GV;unfold aB;simp only[yY,s9];refine aQ D ?_;refine ao (u.BB 1) ?_;cases z:nn t.kinds 1 with
 |false=>
  refine gO ?_;refine l _ r ⟨k,d,by unfold BS.fy;rw[z];exact u,j⟩
 |true=>
  refine nX D E G K H I J ?_;refine ak (q (((x+2+i)/8:Nat):Int)) ?_;rintro v w3 ⟨rfl,B,L⟩;refine gO ?_;refine l _ w3 ⟨k.trans B j,d,by unfold BS.fy;rw[z];exact L,j⟩
theorem y' {o:World} {m:BS} {d:List Nat} (z:ρ 0=.pointer (some ⟨b,0,none⟩)) (C:ρ 4=.int .i64 now)
  (q:BM o b hp m d) (j:ad F w o) (k: ∀y,y∈d→y∈F∨w.heap.size≤y) (D:m.S.length≤100000):
  bD Tryz.prog aD [.code (s9 (s9 (s9 (s9 aB))))] ρ o (fun v w'=>v=.tuple #[]∧ad F w w'∧ ∃l,BM w' b hp (m.qg now) l∧ ∀y,y∈l→y∈F∨w.heap.size≤y):=by
 have E:=j.size;unfold aB;simp only[yY,s9];refine aQ z ?_;refine ao (q.BB 4) ?_;cases B:nn m.kinds 4 with
 |false=>
  refine gO ?_;exact⟨j,d,by unfold BS.qg;rw[B];exact q,k⟩
 |true=>
  refine bj z C ?_;refine ak (q.jH D now) ?_;rintro v I ⟨rfl,r,t,G,u⟩;refine gO ?_;refine⟨j.trans r k,t,by unfold BS.qg;rw[B];exact G,fun y H=>?_⟩;rcases u y H with h|h
  ·exact k y h
  ·exact .inr (by omega)
theorem BM.D' (h:BM w b hp t fp) (M:HR w (some hp) fh m) (S: ∀y,y∈fh→y∉fp++fr) (u:Sl w 1 vr n (ints refs) fr) (l: ∀y,y∈fr→y∉fp) (x i:Nat) (N:x≤100000) (T:i<n) (U:n≤1000) (now:Int) (z:0≤now) (B:now≤4611686018427387904) (O:t.S.length≤90000) (V:t.L.length≤90000):
  Cs Tryz.prog 298 [.pointer (some ⟨b,0,none⟩),.int .i64 (x:Int),.int .i64 (i:Int),vr,.int .i64 now] w fun v w'=>v=.tuple #[]∧ad (fp++fr) w w'∧ ∃d,BM w' b hp (t.note m x i refs now) d∧ ∀y,y∈d→y∈fp++fr∨w.heap.size≤y:=by
 have W:refs.length=n:=by have:=u.1;rw[aG]at this;omega
 have P:=h.lt;have Q:=u.lt;have R:=M.lt;have h0:=h;have hz:w.heap.size≤w.heap.size:=Nat.le_refl _;refine eE rfl ?_;unfold aB;simp only[go_sem];refine run_seq ?_;refine fB (10::11::12::13::14::15::16::17::18::19::20::21::22::23::24::25::26::27::28::29::[]) (fun _ w'=>ad fp w w'∧ ∃d,BM w' b hp (t.cU x refs) d∧ ∀y,y∈d→y∈fp++fr∨w.heap.size≤y) (fun C j=>yZ (x:=x) (by simp only[go_sem]) (by simp only[go_sem]) (by simp only[go_sem]) h u l U O V @j) (fun g1 w1 k=>?_);obtain⟨o,X,Y,D⟩:=k;have q:=(BS.yT t x refs).2.2.1;refine run_seq ?_;refine fB (30::31::32::33::34::35::36::37::[]) (fun _ w'=>ad (fp++fr) w w'∧ ∃d,BM w' b hp ((t.cU x refs).dL (refs.getD i 0)) d∧ ∀y,y∈d→y∈fp++fr∨w.heap.size≤y) (fun C j=>y7 (by simp only[go_sem]) (by simp only[go_sem]) (by simp only[go_sem]) Y (u.ae o l) T (o.ji fun y Z=>by simp[Z]) D (by rw[q];exact O) @j) (fun g2 w2 k=>?_);obtain⟨E,Nv,h2,F⟩:=k;have G:=(BS.yU (t.cU x refs) (refs.getD i 0)).2.2.1;refine run_seq ?_;refine fB (38::39::40::41::42::43::44::45::46::47::48::49::[]) (fun _ w'=>ad (fp++fr) w w'∧ ∃d,BM w' b hp (((t.cU x refs).dL (refs.getD i 0)).fy (((x+2+i)/8:Nat):Int)) d∧ ∀y,y∈d→y∈fp++fr∨w.heap.size≤y) (fun C j=>y9 (by simp only[go_sem]) (by simp only[go_sem]) (by simp only[go_sem]) h2 N (by omega) E F @j) (fun g3 w3 k=>?_);obtain⟨r,BA,h3,H⟩:=k;have I:=(BS.yV ((t.cU x refs).dL (refs.getD i 0)) (((x+2+i)/8:Nat):Int)).2.2.1;refine run_seq ?_;refine fB (50::51::52::53::54::55::56::57::58::59::60::61::62::63::64::65::66::67::68::[]) (fun _ w'=>ad (fp++fr) w w'∧ ∃d,BM w' b hp (BS.dU m (((t.cU x refs).dL (refs.getD i 0)).fy (((x+2+i)/8:Nat):Int)) x now) d∧ ∀y,y∈d→y∈fp++fr∨w.heap.size≤y) (fun C j=>y6 (by simp only[go_sem]) (by simp only[go_sem]) (by simp only[go_sem]) h3 (M.ae r S) N z B r H @j) (fun g4 w4 k=>?_);obtain⟨J,Nw,h4,K⟩:=k;have L:=(BS.yX m (((t.cU x refs).dL (refs.getD i 0)).fy (((x+2+i)/8:Nat):Int)) x now).2.2.1;exact y' (by simp only[go_sem]) (by simp only[go_sem]) h4 J K (by rw[L,I];rw[q]at G;omega)
end
section
set_option maxRecDepth 8000
variable {hp:Addr} {t:BS} {fp:List Nat} {b:Nat} {w:World}
theorem BM.made (h:BM w b hp t fp):Cs Tryz.prog 296 [.pointer (some ⟨b,0,none⟩)] w fun v w'=>v=.bool true∧w'=w:=by
 obtain⟨j,k,vs,l,m,fl,M,_,d⟩:=h;exact rQ d.hb
theorem BM.A6 (h:BM w b hp t fp):w.cell? ⟨b,0,none⟩=some (.pointer (some hp)):=by
 obtain⟨j,k,vs,l,m,fl,M,_,d⟩:=h;rw[d.hb.cell];rfl
theorem za {H:Nat} {E:List Nat} {s s':HL} {k j:Nat} {to:Int} (h:BM w b ⟨H,0,none⟩ t fp) (I:HR w (some ⟨H,0,none⟩) E (some s)) (K: ∀y,y∈E→y∉fp) (J:s.st.getD k 0=1) (Q:j<(s.aq k).rf.length) (R:jq s to)
  (e:aP (some s) ((2*k:Nat):Int) (j:Int) to=some s') (U:t.S.length≤90000) (V:t.L.length≤90000):
  Cs Tryz.prog 124 [.pointer (some ⟨b,0,none⟩),.int .i64 ((2*k:Nat):Int),.int .i64 (j:Int),.int .i64 to] w fun v w'=>v=.int .i64 0∧HR w' (some ⟨H,0,none⟩) E (some s')∧ad (E++fp) w w'∧ ∃z,BM w' b ⟨H,0,none⟩ (t.note (some s') (2*k) j (s.aq k).rf to) z∧ ∀y,y∈z→y∈fp∨w.heap.size≤y:=by
 have u:=I.ok s rfl;have W:=cn u J;have L:=R.le u;have X:=nY u J;refine en [] ?_;refine gO ?_;refine ao h.made ?_;refine aQ h.A6 ?_;refine ak (A7 I ((2*k:Nat):Int) (by omega)) ?_;rintro vr w1 ⟨B,fr,F,d⟩;rw[qh u J]at F;have S:=h.aa B;refine aQ S.A6 ?_;refine ak (lr (I.aa B) ((2*k:Nat):Int) (j:Int) to (by omega) (by omega)) ?_;rintro r Y ⟨rfl,M,C⟩;rw[e]at M;rw[km u J Q R];have D:=I.lt;have N:=h.lt;have Z:=S.ae C fun y o l=>K y l o;have O:=F.ae C fun y o l=>by have:=d y o;have:=D y l;omega
 refine aQ (ep (rfl:(0:Int)=0)) ?_;refine ak (Z.D' (m:=some s') M (fun y o=>by
  simp only[List.mem_append,not_or];exact⟨K y o,fun l=>by have:=d y l;have:=D y o;omega⟩) O (fun y o l=>by have:=d y o;have:=N y l;omega) (2*k) j (by omega) Q (by omega) to L.1 (by omega) U V) ?_
 rintro r w3 ⟨rfl,G,z,b3,P⟩;refine gO ?_;have D8:=B.size;have GX:=C.size;have o2:ad (E++fp) w Y:=(B.of_nil (T:=E++fp)).same (C.ji fun y o=>by simp[o]);refine⟨M.ae G fun y o l=>?_,o2.trans G fun y o=>?_,z,b3,fun y o=>?_⟩
 ·rcases List.mem_append.1 l with q|q
  ·exact K y o q
  ·have:=d y q;have:=D y o;omega
 ·rcases List.mem_append.1 o with q|q
  ·exact .inl (by simp[q])
  ·exact .inr (d y q)
 ·rcases P y o with q|q
  ·rcases List.mem_append.1 q with q|q
   ·exact .inl q
   ·exact .inr (d y q)
  ·exact .inr (by omega)
end
section
set_option maxRecDepth 8000
theorem vM {wd k:Nat} {l:List Nat} (d:k<l.length):MT.check (some (wd,l)) (k:Int) [0]=0∧MT.cC (some (wd,l)) (k:Int) 0=some (wd,l.set k 0):=by
 have b:MT.check (some (wd,l)) (k:Int) [0]=0:=by
  show(if(hasB l.length (k:Int)&& [(0:Int)].all (ib wd))=true then(0:Int)else 1)=0;have:ib wd 0=true:=zb (k:=0) (Nat.two_pow_pos wd);rw[if_pos (by rw[iP d];simp[this])]
 refine⟨b,?_⟩;show(if MT.check (some (wd,l)) (k:Int) [0]=0 then some (wd,l.set (k:Int).toNat (0:Int).toNat)else some (wd,l))=_;rw[if_pos b,cf];rfl
def CT.alloc (t:CT) (x e:Int):CT:=if e=0 then {t with l:=t.l.set (x.toNat/2) 0,S:=fm t.S x}else t
section
variable {w:World} {b:Nat} {hp:Addr} {ar:Option Addr} {t:CT} {fp fh:List Nat} {s:HL}
theorem vN (h:CM w b hp ar t fp) (N:HR w (some hp) fh (some s)) (L:s.Inv) (hl:t.l.length=s.st.length) (r: ∀x,x∈fh→x∉fp) {sh:Sh} (O:aM sh=true) {sp:Int} (h1:0≤sp) (h2:sp<8) (u:s.born≤4611686018427387900):
  Cs Tryz.prog 55 [.pointer (some ⟨b,0,none⟩),.agg ⟨c8 sh⟩,.int .i64 sp] w fun v w'=>v=.tuple #[.int .i64 (ck s sh sp).1.1,.int .i64 (ck s sh sp).1.2]∧HR w' (some hp) fh (some (ck s sh sp).2)∧CM w' b hp ar (t.alloc (ck s sh sp).1.1 (ck s sh sp).1.2) fp∧ad (fp++fh) w w':=by
 obtain⟨x,e,s',ea,i',Ny,_,C⟩:=jt L O (sp:=sp);refine en [] ?_;refine gO ?_;refine bm fun q w1 hq qb o D=>?_;have P:aI w1 ⟨q,0,none⟩ 3=some (c8 sh):=ax o 0 3 (by simp[c8]);have k1:=h.aa D;refine gO ?_;refine ao (hT k1) ?_;refine aQ P ?_;refine aH (oZ w1 sh) fun w2 z=>?_;rw[O];have k2:=k1.aa z;obtain⟨v2,v3,v4,Q⟩:=k2.head;have R:=D.nil z;refine aQ Q.cell ?_;refine ak (GZ (N.aa R) L.ok.b2 sp h1 h2) ?_;rintro _ w3 ⟨E,a,rfl,hA,ga⟩;have o3:=R.nil E;have F:=(o.aa z).aa E;have U:aI w3 ⟨q,0,none⟩ 3=some (c8 sh):=ax F 0 3 (by simp[c8]);have Nz:=R.size;have V:a∉fh:=fun e=>by have:=N.lt a e;omega
 refine bj U (ep (rfl:(0:Int)=0)) ?_;refine ak (BD hA (N.aa o3) L V O u) ?_;rintro _ W ⟨rfl,j,X⟩;rw[ea]at j⊢;simp only at j⊢;have Y:ad fh w W:=(o3.of_nil (T:=fh)).trans X fun y d=>by
  rcases List.mem_cons.1 d with rfl|d
  ·exact .inr (by omega)
  ·exact .inl d
 have k4:CM W b hp ar t fp:=h.ae Y fun y d B=>r y B d;rcases C with⟨rfl,rfl,_⟩|⟨rfl,k,rfl,NA,Z,_⟩
 ·refine aQ (fj (show¬(6:Int)=0 by omega)) ?_;refine⟨j,?_,Y.mono fun y d=>.inl (by simp[d])⟩;unfold CT.alloc;rw[if_neg (by omega)];exact k4
 ·have IW:k<t.l.length:=by
   have h3:=(i'.ok.start ((Z k).2 (.inl rfl))).1;have:=i'.ok.sl;have:=L.ok.sl;omega
  have hlen:=h.len;obtain⟨tb,tg,mb,lv,fl,G,h4⟩:=k4;refine db (fx (rfl:(0:Int)=0)) h4.hb.cell (vO k (by omega)) ?_;refine ak (lT (gI.mk h4.ht) (k:Int) 0) ?_;rintro _ w5 ⟨rfl,m,H⟩;rw[(vM IW).2]at m;obtain⟨Kd,Ke,e1,e2,m⟩:=m;cases e1;cases e2;have M:=h4.zc H m;refine aQ M.hb.cell ?_;refine nZ Tryz.underlying130 Tryz.underlying3 M.hs fun w6 vm I J=>?_;rw[lu M.hs.nodup]at I;have h6:=M.ze J I;refine gO ?_;have e7:t.alloc ((2*k:Nat):Int) 0= {t with l:=t.l.set k 0,S:=fm t.S ((2*k:Nat):Int)}:=by
   unfold CT.alloc;rw[if_pos rfl,cf,Nat.mul_div_cancel_left k (by omega)]
  rw[e7];have NB: ∀y,y∈fh→y∉fp:=r;have K:ad [tb,tg,mb] W w6:=(H.mono fun y d=>.inl (by simp only[List.mem_cons,List.not_mem_nil,or_false]at d⊢;rcases d with rfl|rfl<;>simp)).same (J.mono fun y d=>.inl (by simp only[bp]at d;simp[d]));have sub: ∀y,y∈[tb,tg,mb]→y∈fp:=fun y d=>by
   rw[G];simp only[List.mem_cons,List.not_mem_nil,or_false]at d⊢;rcases d with rfl|rfl|rfl<;>simp
  refine⟨j.ae K fun y d B=>r y d (sub y B),⟨tb,tg,mb,lv,fl,G,h6⟩,(Y.mono fun y d=>.inl (by simp[d])).same (K.mono fun y d=>.inl (by simp[sub y d]))⟩
theorem BE (h:CM w b hp ar t fp) (F:HR w (some hp) fh (some s)) (B:s.Ok) (G: ∀x,x∈fh→x∉fp) (J:s.st.length≤t.l.length) {k j:Nat} {l d:Int} (N:s.st.getD k 0=1) (P:jq s l) (O:jq s d):
  Cs Tryz.prog 222 [.pointer (some ⟨b,0,none⟩),.int .i64 ((2*k:Nat):Int),.int .i64 (j:Int),.int .i64 l,.int .i64 d] w fun _ w'=>CM w' b hp ar (t.note s (s.aq k).sh.2.2 j l d) fp∧ad fp w w':=by
 obtain⟨kd,H⟩: ∃kd,kd=(s.aq k).sh.2.2:=⟨_,rfl⟩;have Q:=cn B N;obtain⟨Y,Z,v4,R⟩:=h.head;rw[←H];have lo:=P.le B;have ln:=O.le B;have up: ∀(y:World),ad [] w y→d≠0→Cs Tryz.prog 181 [.pointer (some ⟨b,0,none⟩),.int .i64 d] y fun _ w'=>CM w' b hp ar (t.up d) fp∧ad fp y w':=fun y S T=>by
  obtain⟨i,e,U⟩:=O.D2 T;rw[e];exact G0 (h.aa S) (by have:=(B.start U).1;omega)
 refine en [] ?_;have C: ∀(y:World),ad [] w y→cS kd j=true→ ∀(u:CT),(d≠0→u=t.up d)→(d=0→u=t)→t.note s kd j l d=if l≠0 then u.dn s l else u:=fun y _ D u V z=>by
  unfold CT.note;rw[if_pos D];by_cases c:d=0
  ·rw[z c];simp only[c,ne_eq,not_true_eq_false,if_false]
  ·rw[V c];simp only[c,ne_eq,not_false_eq_true,if_true]
 by_cases W:j=0
 ·refine bj (fx (show(j:Int)=0 by omega)) R.cell ?_;refine ak (ta F ((2*k:Nat):Int) (by omega)) ?_;rintro _ y ⟨rfl,m⟩;rw[cy B N,←H];refine gO ?_;refine ao (kn y kd) ?_;cases I:cR kd 0 with
  |true=>
   have D: ¬cS kd j=true:=by unfold cS;rw[I,W];simp
   refine gO ?_;have e:t.note s kd j l d=t:=by unfold CT.note;rw[if_neg D]
   rw[e];exact⟨h.aa m,m.of_nil⟩
  |false=>
   have D:cS kd j=true:=by unfold cS;rw[I,Bool.and_false];rfl
   by_cases r:d=0
   ·have e:=C y m D t (fun h=>absurd r h) fun _=>rfl;by_cases o:l=0
    ·refine bj (ep r) (ep o) ?_;rw[e,if_neg (by simp[o])];exact⟨h.aa m,m.of_nil⟩
    ·refine bj (ep r) (gm o) ?_;refine ak (n9 (h.aa m) (F.aa m) B J l (by omega)) ?_;rintro _ K ⟨z,q⟩;refine gO ?_;rw[e,if_pos o];exact⟨z,m.of_nil.same q⟩
   ·have e:=C y m D (t.up d) (fun _=>rfl) fun h=>absurd h r;refine aQ (gm r) ?_;refine ak (up y m r) ?_;rintro _ K ⟨z,q⟩;have L:ad fp w K:=m.of_nil.same q;by_cases o:l=0
    ·refine aQ (ep o) ?_;rw[e,if_neg (by simp[o])];exact⟨z,L⟩
    ·refine aQ (gm o) ?_;refine ak (n9 z (F.ae L G) B (by rw[rR];exact J) l (by omega)) ?_;rintro _ X ⟨M,E⟩;refine gO ?_;rw[e,if_pos o];exact⟨M,L.same E⟩
 ·have D:cS kd j=true:=Bx _ _ (by omega);have m:ad [] w w:=ad.refl _ _;by_cases r:d=0
  ·have e:=C w m D t (fun h=>absurd r h) fun _=>rfl;by_cases o:l=0
   ·refine db (fj (show¬(j:Int)=0 by omega)) (ep r) (ep o) ?_;rw[e,if_neg (by simp[o])];exact⟨h,ad.refl _ _⟩
   ·refine db (fj (show¬(j:Int)=0 by omega)) (ep r) (gm o) ?_;refine ak (n9 h F B J l (by omega)) ?_;rintro _ K ⟨z,q⟩;refine gO ?_;rw[e,if_pos o];exact⟨z,q⟩
  ·have e:=C w m D (t.up d) (fun _=>rfl) fun h=>absurd h r;refine bj (fj (show¬(j:Int)=0 by omega)) (gm r) ?_;refine ak (up w m r) ?_;rintro _ K ⟨z,q⟩;by_cases o:l=0
   ·refine aQ (ep o) ?_;rw[e,if_neg (by simp[o])];exact⟨z,q⟩
   ·refine aQ (gm o) ?_;refine ak (n9 z (F.ae q G) B (by rw[rR];exact J) l (by omega)) ?_;rintro _ X ⟨M,E⟩;refine gO ?_;rw[e,if_pos o];exact⟨M,q.same E⟩
theorem BF (L:List (Int×List Int)) (x:Int):(kj L x).isNone=(vG L x).isNone:=by
 induction L with
 |nil=>rfl
 |cons p L b=>
  unfold kj vG;by_cases c:p.1=x
  ·rw[if_pos c,if_pos c];rfl
  ·rw[if_neg c,if_neg c,←b];cases kj L x<;>rfl
theorem vP (s:HL) (m:HO) (L:List (Int×List Int)) (k j:Nat) (to:Int):(yF L).note m (2*k) j (s.aq k).rf to=yF (yS s L k):=by
 have b:nn 32 32=true:=by decide
 have d:nn 32 8=false:=by decide
 have l:nn 32 1=false:=by decide
 have o:nn 32 2=false:=by decide
 have q:nn 32 4=false:=by decide
 have t:(yF L).cU ((2*k:Nat):Int) (s.aq k).rf=yF (yS s L k):=by
  unfold BS.cU yS yF;simp only[b,Bool.true_and];rw[BF];cases e:vG L ((2*k:Nat):Int)with
  |none=>rfl
  |some r=>rfl
 unfold BS.note;rw[t];unfold BS.dL BS.fy BS.dU BS.qg yF;simp only[d,l,o,q,Bool.false_and,Bool.false_eq_true,if_false]
def CT.store (s s':HL) (t:CT) (k j:Nat) (to:Int):CT:=match t.lg with
 |none=>t.note s' (s.aq k).sh.2.2 j ((s.aq k).rf.getD j 0) to
 |some L=> {t with lg:=some (yS s L k)}
theorem BG {G:Nat} {s':HL} {k j:Nat} {to:Int} (h:CM w b ⟨G,0,none⟩ ar t fp) (U:HR w (some ⟨G,0,none⟩) fh (some s)) (hi:s.Inv) (sn: ∀j,j<(s.aq k).rf.length→jq s ((s.aq k).rf.getD j 0)) (m: ∀x,x∈fh→x∉fp) (hl:s.st.length≤t.l.length) (C:s.st.getD k 0=1) (H:j<(s.aq k).rf.length) (I:jq s to)
  (e:aP (some s) ((2*k:Nat):Int) (j:Int) to=some s') (hL: ∀L,t.lg=some L→L.length≤90000):
  Cs Tryz.prog 57 [.pointer (some ⟨b,0,none⟩),.int .i64 ((2*k:Nat):Int),.int .i64 (j:Int),.int .i64 to] w fun v w'=>v=.int .i64 0∧HR w' (some ⟨G,0,none⟩) fh (some s')∧ad (fp++fh) w w'∧ ∃J,CM w' b ⟨G,0,none⟩ ar (t.store s s' k j to) J∧ ∀y,y∈J→y∈fp∨w.heap.size≤y:=by
 have P:=hi.ok;have Ea:=cn P C;have lt:=I.le P;refine en [] ?_;refine gO ?_;refine ao (hT h) ?_;obtain⟨Q,R,S,lv,fl,D,u⟩:=id h;cases o:t.lg with
 |none=>
  have q:=u.hl;rw[o]at q;obtain⟨rfl,rfl⟩:=q;refine aQ u.hb.cell ?_;refine ak (vQ U ((2*k:Nat):Int) (j:Int) (by omega)) ?_;rintro _ w1 ⟨rfl,l⟩;rw[kh P C H];have V:=u.aa l;refine bj (ep (rfl:(0:Int)=0)) V.hb.cell ?_;refine ak (lr (U.aa l) ((2*k:Nat):Int) (j:Int) to (by omega) (by omega)) ?_;rintro _ w2 ⟨rfl,E,W⟩;rw[e]at E;rw[km P C H I];have o2:ad fh w w2:=l.of_nil.same W;have st:=(lR hi C H I);obtain⟨s2,e2,st⟩:=st;obtain rfl:=Option.some.inj (e.symm.trans e2);have rS: ∀x,jq s x→jq s' x:=fun x X=>X.imp id fun X=>(st.D2 x).2 X;have Y:s'.st.getD k 0=1:=by rw[st.oW.st];exact C
  have Z:(s'.aq k).sh.2.2=(s.aq k).sh.2.2:=by rw[st.ob k C,if_pos rfl]
  have h2:CM w2 b ⟨G,0,none⟩ ar t fp:=h.ae o2 fun y d F=>m y F d;refine aQ (ep (rfl:(0:Int)=0)) ?_;refine ak (BE h2 E st.inv.ok m (by rw[st.oW.st];exact hl) (j:=j) Y (rS _ (sn j H)) (rS _ I)) ?_;rintro _ w3 ⟨h3,K⟩;rw[Z]at h3;refine gO ?_;refine⟨E.ae K m,(o2.mono fun y d=>.inl (by simp[d])).same (K.mono fun y d=>.inl (by simp[d])),fp,?_,fun y d=>.inl d⟩;unfold CT.store;rw[o];exact h3
 |some L=>
  have q:=u.hl;rw[o]at q;obtain⟨lb,rfl,Eb⟩:=q;have N: ∀y,y∈fl→y∈fp:=fun y d=>by rw[D];simp[d]
  refine aQ u.hb.cell ?_;refine ak (za Eb U (fun y d F=>m y d (N y F)) C H I e (by show(0:Nat)≤90000;omega) (hL L o)) ?_;rintro _ w1 ⟨rfl,BH,l,z,r,gf⟩;rw[vP]at r;refine gO ?_;have nd:=u.nd;simp only[List.nodup_cons,List.mem_cons,not_or]at nd;obtain⟨⟨b1,b2,b3,b4⟩,⟨t1,t2,t3⟩,⟨g1,g2⟩,m1,n5⟩:=nd;have vR:=u.lt;have B: ∀y,y∈b::Q::R::S::fl→y∉fl→y∉fh++fl∧y∉z:=fun y d hn=>⟨fun e=>by
   rcases List.mem_append.1 e with e|e
   ·exact m y e (by rw[D];exact d)
   ·exact hn e,fun e=>(gf y e).elim hn fun T=>by have:=vR y d;omega⟩
  have ob:=B b (by simp) b4;have ot:=B Q (by simp) t3;have og:=B R (by simp) g2;have om:=B S (by simp) m1;have O:z.Nodup:=by obtain⟨bd,bo,vs,vl,fs,G1,M,e,G2⟩:=r;rw[e];exact G2.nd
  refine⟨BH,l.mono fun y d=>.inl ?_,b::Q::R::S::z,⟨Q,R,S,.pointer (some ⟨lb,0,none⟩),z,rfl,?_⟩,fun y d=>?_⟩
  ·rcases List.mem_append.1 d with d|d
   ·simp[d]
   ·simp[N y d]
  ·unfold CT.store;rw[o];refine⟨u.hb.ae l ob.1,u.ht.ae l ot.1 og.1,u.hs.ae l om.1,⟨lb,rfl,r⟩,?_⟩;simp only[List.nodup_cons,List.mem_cons,not_or];exact⟨⟨b1,b2,b3,ob.2⟩,⟨t1,t2,ot.2⟩,⟨g1,og.2⟩,om.2,O⟩
  ·rw[D];simp only[List.mem_cons]at d⊢;rcases d with rfl|rfl|rfl|rfl|d
   ·simp
   ·simp
   ·simp
   ·simp
   ·rcases gf y d with T|T
    ·simp[T]
    ·exact .inr T
end
end
section
set_option maxRecDepth 8000
variable {w:World}
theorem Sl.G3 {sz n:Nat} {v:Value} {xs:List Value} {fp:List Nat} (h:Sl w sz v n xs fp) (j:0<n): ∃g cap ys,v=.slice (some ⟨g,0,none⟩) n cap∧At w g (xs++ys)∧fp=[g]:=by
 rcases h.2 with⟨_,k,_⟩|⟨g,cap,ys,T,rfl,b,d,_⟩
 ·omega
 ·exact⟨g,cap,ys,rfl,⟨T,d⟩,b⟩
theorem G4 {b:Nat} {p:Addr} {L c2 c3 c4 c5 vl:Value} {M:List LM} {fl:List Nat} (hb:At w b [.pointer (some p),L,c2,c3,c4,c5,vl]) (hl:Sl w 2 vl M.length (oX M) fl) (om: ∀m,m∈M→m.ok w) (hM:M.length≤1000) (hr: ∀m,m∈M→m.r.length≤1000):
  Cs Tryz.prog 128 [.pointer (some ⟨b,0,none⟩)] w fun v w'=>ad [] w w'∧ ∃k j,Sl w' 2 v k.length (oX k) j∧k.map LM.im=M.map LM.im∧(∀m,m∈k→m.ok w')∧ ∀y,y∈j++hX k→w.heap.size≤y:=by
 obtain⟨al,cl,rfl⟩:=hl.val;refine en [2,5,8,11,14,18,20,25,28,29,0] ?_;refine gO ?_;refine ao (rQ hb) ?_;refine aQ hb.cell ?_;refine aE (3::5::14::15::16::17::18::19::20::21::22::23::24::25::26::27::[]) (fun g w'=> ∃(i:Nat) (k:List LM) (j:List Nat),g 14=.int .i64 (i:Int)∧i≤M.length∧k.length=i∧ad [] w w'∧Sl w' 2 (g 3) i (oX k) j∧k.map LM.im=(M.take i).map LM.im∧(∀m,m∈k→m.ok w')∧(∀y,y∈j→y∉hX k)∧ ∀y,y∈j++hX k→w.heap.size≤y)
  (fun g _=>bU M.length 14 g) ⟨0,[],[],by simp only[go_sem];rfl,by omega,rfl,ad.refl _ _,by simp only[go_sem];exact⟨rfl,.inl ⟨rfl,rfl,rfl⟩⟩,rfl,fun m P=>absurd P (by simp),fun y d=>absurd d (by simp),fun y d=>absurd d (by simp[hX])⟩ fun g w1 hI D=>?_
 obtain⟨i,k,j,t,hi,Q,N,hs,R,E,S,F⟩:=hI;by_cases L:i<M.length;rotate_left
 ·refine bj t (bt (show¬(i:Int)<(M.length:Int) by omega)) ?_;refine⟨N,k,j,by rw[Q];exact hs,by rw[R,List.take_of_length_le (by omega)],E,F⟩
 obtain⟨gl,cap,ys,e,BI,_⟩:=hl.G3 (by omega);cases e;have ci:(0:Int)≤(i:Int)∧(i:Int)<(M.length:Int):=by omega
 have o:M.getD i default∈M:=by simp[L]
 obtain⟨m,P⟩: ∃m,m=M.getD i default:=⟨_,rfl⟩;rw[←P]at o;have hc:aI w1 ⟨gl,i*2,none⟩ 2=some [.int .i64 m.o,m.v]:=by
  have hlen:=oY M;rw[ax (BI.aa N) (i*2) 2 (by rw[gZ];omega),rN ys L,←P];rfl
 refine jr t (bc ci.2) (eq_true ci) @Int.toNat_natCast hc ?_;refine bm fun q w2 hq D7 T U=>?_;refine gO ?_;have Kf:=Sl.aa (om m o) (N.nil U);have D6:=hr m o;obtain⟨am,cm,G5⟩:=Kf.val;refine dR (cs:=[.int .i64 m.o,m.v]) T rfl (by simp) (by rw[G5];simp[bu]) fun B vw V kX=>?_;have l:At B q [.int .i64 m.o,m.v]:=V;have o3:ad [] w1 B:=U.trans kX fun y d=>by simp only[bp]at d;subst d;exact .inr (by omega)
 have W:=Sl.aa (om m o) (N.nil o3);refine gO ?_;refine bk [q] ?_;refine bj l.drew.cell l.cell ?_;have Kg:=l.lt;refine eL (BJ (W.aa (ad.drew [] B)).src lU (by omega)) ?_;rintro v w4 ⟨G,fp,H,C⟩;refine⟨.inr ((SB.refl _ _).only G fun z hz=>⟨by simp only[bp]at hz;rw[hz];exact Kg,by simp⟩),?_⟩;obtain⟨X,r,rfl⟩:=H.val;refine gO ?_;rw[ai rfl rfl,ai rfl rfl];refine gO ?_;rw[jJ (n:=2) rfl rfl];refine gO ?_;refine BK fun q5 w5 NC yG Y I=>⟨.inl rfl,?_⟩;refine gO ?_;have o5:ad [] w1 w5:=((o3.nil (ad.drew [] B)).nil G).nil I;refine Ec (sz:=2) (n:=i) (m:=1) (us:=[.int .i64 m.o,.slice X m.r.length r]) (hs.aa o5) (bO.at (us:=[.int .i64 m.o,.slice X m.r.length r]) Y rfl) (by simp[bu]) (by omega) (by omega) ?_;intro v6 w6 f6 vm Z J _;refine⟨.inl rfl,?_⟩;have z1:=au i (by omega);have zo:=N.size;have zz:=o5.size;have g6: ∀y,y∈j→w.heap.size≤y:=fun y d=>F y (by simp[d]);have o6:ad [] w w6:=(N.nil o5).trans J fun y d=>.inr (g6 y d);have Kh:ad j w1 w6:=o5.of_nil.same J;have z3:=o3.size;have d6: ∀y,y∈fp→y∉j:=fun y d h=>by
  have h1:=C y d;have h2:=hs.lt y h;have:B.drew.heap.size=B.heap.size:=rfl;omega
 have z4:=G.size;refine bj t z1 ?_;refine D _ w6 ⟨i+1,k++[⟨m.o,m.r,.slice X m.r.length r,fp⟩],f6,?_,by omega,by simp[Q],o6,?_,?_,fun O D9=>?_,fun y d u=>?_,fun y d=>?_⟩ ?_
 ·simp only[go_sem]
 ·simp only[go_sem];rw[lS];exact vm
 ·rw[List.map_append,R,List.take_succ_eq_append_getElem L,List.map_append];have:M[i]=m:=by rw[P];simp[L]
  rw[this];rfl
 ·rcases List.mem_append.1 D9 with h|h
  ·exact Sl.ae (E O h) Kh fun x hx h2=>S x h2 (dX h hx)
  ·simp only[bp]at h;subst h;exact Sl.ae (H.aa I) J d6
 ·rw[js,List.mem_append]at u;have K:hX [⟨m.o,m.r,.slice X m.r.length r,fp⟩]=fp:=by simp[hX]
  rw[K]at u;have l4:=H.lt;have z5:=I.size;rcases Z with e|e<;>rw[e]at d
  ·rcases u with h|h
   ·exact S y d h
   ·exact d6 y h d
  ·simp only[bp]at d;rcases u with h|h
   ·have: ∃O,O∈k∧y∈O.f:=by simpa[hX]using h
    obtain⟨O,h1,h2⟩:=this;have:=Sl.lt (E O h1) y h2;omega
   ·have:=l4 y h;omega
 ·rw[js,List.mem_append,List.mem_append]at d;have K:hX [⟨m.o,m.r,.slice X m.r.length r,fp⟩]=fp:=by simp[hX]
  rw[K]at d;rcases d with d|d|d
  ·rcases Z with e|e<;>rw[e]at d
   ·exact g6 y d
   ·simp only[bp]at d;omega
  ·exact F y (by simp[d])
  ·have:=C y d;have:B.drew.heap.size=B.heap.size:=rfl;omega
 ·exact aZ t
end
section
set_option maxRecDepth 8000
theorem zf {w:World} {l:Nat} {z:Addr} {L:List (Int×List Int)} {fl:List Nat} (h:BM w l z (yF L) fl) (G:L.length≤100000):Cs Tryz.prog 138 [.pointer (some ⟨l,0,none⟩),.int .i64 32] w fun _ w'=> ∃m,BM w' l z (yF []) m∧(∀y,y∈m→y∈fl)∧ad [l] w w':=by
 obtain⟨B,C,vs,O,D,H,M,q,b⟩:=h;have r:=b.len;obtain⟨P,Q,rfl⟩:=b.hl.val;have I:dz .and .i64 32 1=0:=by decide
 have J:dz .and .i64 32 2=0:=by decide
 have t:dz .and .i64 32 28=0:=by decide
 have u:dz .and .i64 32 32=32:=by decide
 refine en [] ?_;refine gO ?_;refine ao (rQ b.hb) ?_;have E:M.length≤100000:=by rw[r];exact G
 have K:IntKind.i64.wrap (0+(M.length:Int))=(M.length:Int):=by rw[Int.zero_add];exact IntWalk.i64_in _ (by omega)
 refine vS I J t u b.hb.cell (ep (rfl:(0:Int)=0)) (gm (show¬(32:Int)=0 by omega)) K ?_;refine nt b.hb (by simp) rfl fun R N o d=>?_;refine gO ?_;have j:=vj.of b.nd;refine⟨l::B::C::(D++([]++hX [])),⟨B,C,vs,.slice none 0 0,D,[],[],rfl,⟨o,b.hd.ae d (by simpa using j.b1.symm),b.ho.ae d (by simpa using j.b2.symm),b.hs.ae d fun y k=>by simpa using(j.b3 y (.inl k)).1,Sl.zg _,rfl,by simp,vj.mk' ⟨j.b1,j.b2,j.d1,fun x F=>j.b3 x (F.elim .inl fun h=>by rcases h with h|h<;>cases h),fun x F=>by simp[hX],by simp,j.n1,List.nodup_nil,by simp[hX]⟩⟩⟩,fun y k=>?_,d⟩;rw[q];simp only[List.mem_cons,List.mem_append,hX,List.flatMap_nil,List.not_mem_nil,or_false,false_or]at k;rcases k with rfl|rfl|rfl|k
 ·simp
 ·simp
 ·simp
 ·simp[k]
section
variable {w:World} {b:Nat} {hp:Addr} {ar:Option Addr} {t:CT} {fp fh:List Nat} {s:HL} {R:Rt.MS}
theorem zh (h:CM w b hp ar t fp) (k:t.lg=none):Cs Tryz.prog 40 [.pointer (some ⟨b,0,none⟩)] w fun v w'=>v=.tuple #[.int .i64 0,.int .i64 0]∧w'=w:=by
 obtain⟨m,o,q,r,fl,l,j⟩:=id h;have d:=j.hl;rw[k]at d;obtain⟨rfl,rfl⟩:=d;refine en [0,2,5,8,11,14,17,20,23,26,32,35,30,40,43,0] ?_;refine gO ?_;refine ao (hT h) ?_;(repeat(first|with_reducible(first|refine nx ?_|refine ch rfl ?_)|simp only[go_sem,j.hb.cell]))
theorem tX {p:Int×List Int} {k:Nat} (b:s.Ok) (e:p.1=((2*k:Nat):Int)) (d:s.st.getD k 0=1):bR s t p=(t.kY (eM s ((2*k:Nat):Int))).rG s (cT (s.aq k).sh.2.2 0 p.2):=by
 unfold bR;rw[e,if_pos ((b5 b).2 ⟨k,rfl,d⟩),cy b d]
set_option maxHeartbeats 1000000 in
theorem zi {L:List (Int×List Int)} (h:CM w b hp ar t fp) (hL:t.lg=some L) (hr:HR w (some hp) fh (some s)) (hi:s.Inv) (sn:rF true s R) (lg:Ed s L) (IX:L.length≤1000) (IY: ∀p,p∈L→p.2.length≤1000) (BL: ∀x,x∈fh→x∉fp) (hl:s.st.length≤t.l.length):
  Cs Tryz.prog 40 [.pointer (some ⟨b,0,none⟩)] w fun v w'=>v=.tuple #[.int .i64 (L.length:Int),.int .i64 0]∧ad fp w w'∧ ∃tY,CM w' b hp ar (t.bring s) tY∧ ∀y,y∈tY→y∈fp:=by
 have D:=hi.ok;obtain⟨tb,tg,mb,lv,fl,zj,hm⟩:=id h;have IZ:=hm.hl;rw[hL]at IZ;obtain⟨lb,rfl,Eb⟩:=IZ;obtain⟨bd,bo,vs,vl,fs,ND,M,Ki,E⟩:=id Eb;have Kb:M.length=L.length:=E.len;have I0:L=M.map LM.im:=E.eq;refine en [0,2,5,8,11,14,17,20,23,26,32,35,30,40,43,0] ?_;refine gO ?_;refine ao (hT h) ?_;refine aQ hm.hb.cell ?_;refine ak (G4 E.hb E.hl E.om (by omega) fun m D9=>?_) ?_
 ·have:LM.im m∈L:=by rw[I0];exact List.mem_map.2 ⟨m,D9,rfl⟩
  exact IY _ this
 rintro v w1 ⟨K,N,f1,qb,Kj,Kk,g1⟩;have W:N.map LM.im=L:=by rw[Kj,I0]
 have G6:N.length=L.length:=by rw[←W,List.length_map]
 obtain⟨av,cv,rfl⟩:=qb.val;have vR:=h.lt;have DJ: ∀y,y∈f1++hX N→y∉fp:=fun y d e=>by have:=g1 y d;have:=vR y e;omega
 obtain⟨u,hu⟩: ∃u:CT,u=t:=⟨_,rfl⟩;refine gO ?_;refine aE (6::22::23::24::25::26::27::28::29::30::31::32::33::34::35::36::37::38::39::40::41::42::43::44::45::46::47::48::49::50::51::52::53::54::55::[]) (fun g w'=> ∃i:Nat,g 22=.int .i64 (i:Int)∧i≤L.length∧CM w' b hp ar ((L.take i).foldl (bR s) t) fp∧ad fp w1 w') (fun g _=>bU L.length 22 g)
  ⟨0,by simp only[go_sem];rfl,by omega,h.aa K,ad.refl _ _⟩ fun g w2 hI qi=>?_
 obtain⟨i,O,Ee,X,F⟩:=hI;obtain⟨t2,P⟩: ∃t2,t2=(L.take i).foldl (bR s) t:=⟨_,rfl⟩;rw[←P]at X;have key: ∀n,((L.take n).foldl (bR s) t).wd=t.wd∧((L.take n).foldl (bR s) t).lg=t.lg∧((L.take n).foldl (bR s) t).l.length=t.l.length:=by
  have: ∀(L:List (Int×List Int)) (t:CT),(L.foldl (bR s) t).wd=t.wd∧(L.foldl (bR s) t).lg=t.lg∧(L.foldl (bR s) t).l.length=t.l.length:=by
   intro L
   induction L with
   |nil=>intro t;exact⟨rfl,rfl,rfl⟩
   |cons p L ih=>
    intro t;have h1:=qj s t p;have X:=ih (bR s t p);exact⟨X.1.trans h1.1,X.2.1.trans h1.2.1,X.2.2.trans h1.2.2⟩
  exact fun n=>this _ _
 have Q:=key i;rw[←P]at Q;by_cases c:i<L.length;rotate_left
 ·obtain⟨I1,I2,I3,Gj,G1,Y,B⟩:=id X;have D1:=B.hl;rw[Q.2.1,hL]at D1;obtain⟨S,rfl,Z⟩:=D1;refine db O (bt (show¬(i:Int)<(N.length:Int) by omega)) B.hb.cell ?_;refine ak (zf Z (by omega)) ?_;rintro _ w3 ⟨G7,Ef,o,C⟩;refine aQ G6 ?_;have Eg:S∈G1:=by obtain⟨_,_,_,_,_,_,_,e,_⟩:=Z;rw[e];simp
  have nd:=B.nd;simp only[List.nodup_cons,List.mem_cons,not_or]at nd;obtain⟨⟨b1,b2,b3,b4⟩,⟨t1,Kl,t3⟩,⟨Km,g2⟩,m1,n5⟩:=nd;have nl: ∀y,y∉G1→y∉ [S]:=fun y d e=>by simp only[bp]at e;exact d (e▸Eg)
  have G8:G7.Nodup:=by obtain⟨_,_,_,_,_,_,_,e,G2⟩:=Ef;rw[e];exact G2.nd
  have G9:t.bring s= {t2 with lg:=some []}:=by
   unfold CT.bring;rw[hL];simp only;rw[P,List.take_of_length_le (by omega)]
  refine⟨(K.of_nil.same F).same (C.mono fun y d=>.inl (by rw[Y];simp only[bp]at d;simp[d,Eg])),b::I1::I2::I3::G7,⟨I1,I2,I3,.pointer (some ⟨S,0,none⟩),G7,rfl,?_⟩,fun y d=>?_⟩
  ·rw[G9];refine⟨B.hb.ae C (nl b b4),B.ht.ae C (nl _ t3) (nl _ g2),B.hs.ae C (nl _ m1),⟨S,rfl,Ef⟩,?_⟩;simp only[List.nodup_cons,List.mem_cons,not_or];exact⟨⟨b1,b2,b3,fun e=>b4 (o _ e)⟩,⟨t1,Kl,fun e=>t3 (o _ e)⟩,⟨Km,fun e=>g2 (o _ e)⟩,fun e=>m1 (o _ e),G8⟩
  ·rw[Y];simp only[List.mem_cons]at d⊢;rcases d with rfl|rfl|rfl|rfl|d
   ·simp
   ·simp
   ·simp
   ·simp
   ·simp[o y d]
 have cM:i<N.length:=by omega
 obtain⟨m,Ha⟩: ∃m,m=N.getD i default:=⟨_,rfl⟩;have I4:m∈N:=by rw[Ha];simp[cM]
 have I5:L.getD i default=LM.im m:=by
  rw[←W,Ha];simp[cM]
 have Hb:LM.im m∈L:=by rw[←I5];simp[c]
 obtain⟨k,U,hk⟩:=lg.D2 _ Hb;have U:m.o=((2*k:Nat):Int):=U;have Ea:=cn D hk;have I6:=Kk m I4;have o2:ad fp w w2:=K.of_nil.same F;obtain⟨gl,G,el⟩: ∃gl,(∃ys,At w2 gl (oX N++ys))∧av=some ⟨gl,0,none⟩:=by
  rcases(qb.ae F fun y d=>DJ y (by simp[d])).2 with⟨_,_,e⟩|⟨gl,cap,ys,T,e1,_,e3,_⟩
  ·exact absurd e (by omega)
  ·cases e1;exact⟨gl,⟨ys,T,e3⟩,rfl⟩
 subst el;obtain⟨ys,G⟩:=G;have ci:(0:Int)≤(i:Int)∧(i:Int)<(N.length:Int):=by omega
 have BN:aI w2 ⟨gl,i*2,none⟩ 2=some [.int .i64 ((2*k:Nat):Int),m.v]:=by
  rw[ax G (i*2) 2 (by rw[gZ,oY];omega),rN ys cM,←Ha];show some [Value.int .i64 m.o,m.v]=_;rw[U]
 have G5:=Sl.nS I6;refine jr O (bc ci.2) (eq_true ci) @Int.toNat_natCast BN ?_;refine bm fun q w3 hq vw nv C=>?_;refine gO ?_;refine dR (cs:=[.int .i64 ((2*k:Nat):Int),m.v]) (n:=2) (i:=0) nv rfl (by simp) (by intro u hu;simp only[List.mem_cons,List.not_mem_nil,or_false]at hu;rcases hu with rfl|rfl<;>first|rfl|exact G5) fun w4 tR ko ll=>?_;have r:At w4 q [.int .i64 ((2*k:Nat):Int),m.v]:=ko;have z1:=K.size;have z2:=F.size;have Eh:ad [] w2 w4:=C.trans ll fun y d=>by simp only[bp]at d;subst d;exact .inr (by omega)
 have BO:=X.lt;have Hc:q∉fp:=fun e=>by have:=BO q e;omega
 have h4:=X.aa Eh;have o4:ad fp w w4:=o2.same Eh.of_nil;have A8:=hr.ae o4 BL;have od:=ad.drew [] w4;have Kn:=h4.aa od;have Ei:=r.aa od;obtain⟨v2,v3,v4,vK⟩:=Kn.head;refine bj vK.cell Ei.cell ?_;refine ak (oT (A8.aa od) ((2*k:Nat):Int) (by omega)) ?_;rintro _ w5 ⟨rfl,pZ⟩;rw[(b5 D).2 ⟨k,rfl,hk⟩];have H:=od.nil pZ;have h5:=h4.aa H;have vT:=r.aa H;have Hd:=A8.aa H;refine aQ vT.cell ?_;refine ak (rT h5 Hd D ((2*k:Nat):Int) (by omega)) ?_;rintro vL w6 ⟨p9,f6,vm,g6⟩;have h6:=h5.aa p9;have Ko:=h5.lt;have NF:=H.size;have Kp:(eM s ((2*k:Nat):Int)).length≤15:=by rw[fC D hk];exact Nat.le_trans gn (nY D hk)
 refine gO ?_;refine ak (He h6 vm (fun y d e=>by have:=g6 y d;have:=Ko y e;omega) (by omega) fun y d=>?_) ?_
 ·rw[fC D hk]at d;obtain⟨i2,e,I7⟩:=(sn.cO hk d).pair D;exact⟨i2,e,by rw[Q.2.2];omega⟩
 rintro _ w7 ⟨h7,lx⟩;have Hf:ad fp w4 w7:=(H.nil p9).of_nil.same lx;have o':=r.ae Hf Hc;have A9:=A8.ae Hf BL;obtain⟨v2,v3,v4,Hg⟩:=h7.head;refine gO ?_;refine bk [b,q] ?_;have V:=ad.drew [] w7;have Ej:=Hg.aa V;have I:=o'.aa V;have Hh: ∀z,z∈[b,q]→z<w7.drew.heap.size:=fun z hz=>by
  simp only[List.mem_cons,List.not_mem_nil,or_false]at hz;rcases hz with rfl|rfl
  ·exact Ej.lt
  ·exact I.lt
 refine bj Ej.cell I.cell ?_;refine eL (ta (A9.aa V) ((2*k:Nat):Int) (by omega)) ?_;rintro _ w8 ⟨rfl,nw⟩;rw[cy D hk];refine⟨.inr ((SB.refl _ _).only nw fun z hz=>⟨Hh z hz,by simp⟩),?_⟩;have J:=V.nil nw;have o1:ad fp w1 w7:=(F.same Eh.of_nil).same Hf;have Kq:Sl w8 1 m.v m.r.length (ints m.r) m.f:=(Sl.ae I6 o1 fun y d=>DJ y (by simp[dX I4 d])).aa J;have I8:m.r.length≤1000:=IY _ Hb;refine gO ?_;refine eL (qk Kq (by omega)) ?_;rintro vD w9 ⟨oa,f9,yH,g9⟩;refine⟨.inl rfl,?_⟩;have h9:=(h7.aa J).aa oa;have Kr:=h7.lt;have NG:=J.size;have dl:=gn (kd:=(s.aq k).sh.2.2) (l:=m.r) (i:=0);refine gO ?_;refine eL (vU h9 ((A9.aa J).aa oa) D (by rw[(kp _ _).2.2.2,Q.2.2];exact hl) BL yH (fun y d e=>by have:=g9 y d;have:=Kr y e;omega) (by omega) fun y d=>?_) ?_
 ·obtain⟨j,j1,j2,_,_⟩:=gi.1 d;have Ks:y∈m.r:=by rw[j2];simp[j1]
  rcases lg.rf _ Hb y Ks with h0|⟨i2,e,I7⟩
  ·omega
  ·have:=cn D I7;omega
 rintro _ yI ⟨BP,BQ⟩;refine⟨.inl rfl,?_⟩;refine bj O (au i (by omega)) ?_;refine qi _ yI ⟨i+1,?_,by omega,?_,(o1.same (J.nil oa).of_nil).same BQ⟩ ?_
 ·simp only[go_sem]
 ·have e:(L.take (i+1)).foldl (bR s) t=bR s t2 (LM.im m):=by
   rw[List.take_succ_eq_append_getElem c,List.foldl_append,←P,←I5];simp[c]
  rw[e,tX D (show(LM.im m).1=((2*k:Nat):Int)from U) hk];exact BP
 ·exact aZ O
end
end
section
section
variable {w:World} {b:Nat} {hp:Addr} {ar:Option Addr} {t:CT} {fp fh:List Nat} {s:HL} {R:Rt.MS}
theorem BR {w:World} {q:Nat} {x:Int} (d:At w q [.pointer (some ⟨b,0,none⟩)]) (h:CM w b hp ar t fp) (j:HR w (some hp) fh (some s)) (k:x≤4611686018427387904):Cs Tryz.prog 344 [.int .i64 x,.pointer (some ⟨q,0,none⟩)] w fun v w'=>v=.bool (!bw (some s) x)∧ad [] w w':=by
 obtain⟨o,r,u,l⟩:=h.head;refine en [] ?_;refine bj d.cell l.cell ?_;refine ak (oT j x k) ?_;rintro _ y ⟨rfl,m⟩;refine gO ?_;exact m
set_option maxHeartbeats 1000000 in
theorem Ek {o:Nat} {a0 a1 a4 a5 n M m c:Int} (h:CM w b hp ar t fp) (hr:HR w (some hp) fh (some s)) (hi:s.Inv) (N: ∀x,x∈fh→x∉fp) (hl:s.st.length≤t.l.length) {k:Nat} (hk:s.st.getD k 0=1) (E:At w o (ints [a0,a1,n,M,a4,a5,m,c])) (of:o∉fp) (oh:o∉fh)
  (hn:0≤n∧n≤1000000) (hm:0≤m∧m≤1000000) (NH:0≤M∧M≤1000000000) (d: ∀y,y∈cO s k→y≤4611686018427387904):
  Cs Tryz.prog 189 [.pointer (some ⟨b,0,none⟩),.int .i64 ((2*k:Nat):Int),.pointer (some ⟨o,0,none⟩)] w fun _ w'=>HR w' (some hp) fh (some (gj s ((2*k:Nat):Int)))∧CM w' b hp ar (t.free s ((2*k:Nat):Int)) fp∧At w' o (ints [a0,a1,n+1,M+ay (aU (some s) ((2*k:Nat):Int)).1,a4,a5,m+1,c])∧ad (o::(fp++fh)) w w':=by
 have U:=hi.ok;have Ea:=cn U hk;have IW:=(U.start hk).1;obtain⟨s',I9,a2,a3,NI,NJ,a6,a7⟩:=iN hi hk;have I':gj s ((2*k:Nat):Int)=s':=by unfold gj;rw[I9];rfl
 refine en [2,5,8,11,14,17,20,23,26,30,32,35,38,43,0,2,5,8,11,15,19,0] ?_;refine gO ?_;refine bm fun q w1 hq qb D O=>?_;have P:=h.lt;have Hc:q∉fp:=fun e=>by have:=P q e;omega
 have Kt:q∉fh:=fun e=>by have:=hr.lt q e;omega
 have Hi:q≠o:=fun e=>by have:=E.lt;omega
 refine aQ D.cell ?_;refine ak (rT (h.aa O) (hr.aa O) U ((2*k:Nat):Int) (by omega)) ?_;rintro vL w2 ⟨Q,fL,Ja,gL⟩;obtain⟨L,hL⟩: ∃L,L=eM s ((2*k:Nat):Int):=⟨_,rfl⟩;rw[←hL]at Ja;have IX:L.length≤15:=by rw[hL,fC U hk];exact Nat.le_trans gn (nY U hk)
 have z1:=O.size;have o2:=O.nil Q;have V:=E.aa o2;have e1:IntKind.i64.wrap (n+1)=n+1:=IntWalk.i64_in _ (by omega);have e2:IntKind.i64.wrap (m+1)=m+1:=IntWalk.i64_in _ (by omega);have c2:w2.cell? ⟨o,2,none⟩=some (.int .i64 n):=by rw[V.cell];rfl
 refine bj c2 e1 ?_;refine nt V (by simp[ints]) rfl fun w3 vw nv kX=>?_;have W:At w3 o (ints [a0,a1,n+1,M,a4,a5,m,c]):=nv;have c6:w3.cell? ⟨o,6,none⟩=some (.int .i64 m):=by rw[W.cell];rfl
 refine bj c6 e2 ?_;refine nt W (by simp[ints]) rfl fun X tR ko ll=>?_;have Hj:At X o (ints [a0,a1,n+1,M,a4,a5,m+1,c]):=ko;have o4:ad [o] w X:=(o2.of_nil.same kX).same ll;have Y: ∀y,y∈fp→y∉ [o]:=fun y d e=>by simp only[bp]at e;exact of (e▸d)
 have Z: ∀y,y∈fh→y∉ [o]:=fun y d e=>by simp only[bp]at e;exact oh (e▸d)
 have h4:=h.ae o4 Y;have A8:=hr.ae o4 Z;have DK:At X q [.pointer (some ⟨b,0,none⟩)]:=((D.aa Q).ae kX (by simpa using Hi)).ae ll (by simpa using Hi);have Eh:ad [o] w2 X:=kX.same ll;have Ku:=Ja.ae Eh fun y d e=>by simp only[bp]at e;subst e;have:=gL y d;have:=E.lt;omega
 obtain⟨v2,v3,v4,vK⟩:=h4.head;refine gO ?_;refine bk [q,b,o] ?_;have od:=ad.drew [] X;have El:=vK.aa od;have Em:=DK.aa od;have C:=Hj.aa od;have c3:X.drew.cell? ⟨o,3,none⟩=some (.int .i64 M):=by rw[C.cell];rfl
 have Kv: ∀z,z∈[q,b,o]→z<X.drew.heap.size:=fun z R=>by
  simp only[List.mem_cons,List.not_mem_nil,or_false]at R;rcases R with rfl|rfl|rfl
  ·exact Em.lt
  ·exact El.lt
  ·exact C.lt
 refine db c3 Em.cell El.cell ?_;refine eL (vV (A8.aa od) ((2*k:Nat):Int) (by omega)) ?_;rintro _ w5 ⟨rfl,pZ⟩;refine⟨.inr ((SB.refl _ _).only pZ fun z R=>⟨Kv z R,by simp⟩),?_⟩;have wb:=iQ (aU (some s) ((2*k:Nat):Int)).1;have e3:IntKind.i64.wrap (M+ay (aU (some s) ((2*k:Nat):Int)).1)=M+ay (aU (some s) ((2*k:Nat):Int)).1:=IntWalk.i64_in _ (by omega);have vW:=C.aa pZ;refine aQ e3 ?_;refine A' vW (by simp[ints]) rfl fun w6 vm pa p9=>⟨.inl rfl,?_⟩;have Hk:At w6 o (ints [a0,a1,n+1,M+ay (aU (some s) ((2*k:Nat):Int)).1,a4,a5,m+1,c]):=pa;have G:ad [o] X w6:=(od.nil pZ).of_nil.same p9;have h6:=h4.ae G Y;have Gk:=A8.ae G Z;have Hl:=DK.ae G (by simpa using Hi);have Kw:=Ku.ae G fun y d e=>by simp only[bp]at e;subst e;have:=gL y d;have:=E.lt;omega
 obtain⟨v2,v3,v4,En⟩:=h6.head;refine bj Hl.cell En.cell ?_;refine ak (Eo Gk ((2*k:Nat):Int) (by omega)) ?_;rintro _ w7 ⟨rfl,A9,H⟩;rw[I9]at A9;have Hm:=Hk.ae H oh;have h7:CM w7 b hp ar t fp:=h6.ae H fun y d zk=>N y zk d;have BU:=Hl.ae H Kt;have hlen:=h.len;have j: ∀y,y∈fL→w.heap.size≤y:=fun y d=>by have:=gL y d;omega
 have Kx:=Kw.ae H fun y d e=>by have:=j y d;have:=hr.lt y e;omega
 obtain⟨tb,tg,mb,lv,fl,zj,Ep⟩:=h7;have Ky:k<t.l.length:=by omega
 refine db BU.cell Ep.hb.cell (vO k (by omega)) ?_;refine ak (lT (gI.mk Ep.ht) (k:Int) 0) ?_;rintro _ w8 ⟨rfl,T,nw⟩;rw[(vM Ky).2]at T;obtain⟨Kd,Ke,Kz,KA,T⟩:=T;cases Kz;cases KA;have Hn:=Ep.zc nw T;have sub: ∀y,y∈[tb,tg,mb]→y∈fp:=fun y d=>by
  rw[zj];simp only[List.mem_cons,List.not_mem_nil,or_false]at d⊢;rcases d with rfl|rfl|rfl<;>simp
 have tq: ∀y,y∈[tb,tg,mb]→y≠q:=fun y d e=>Hc (e▸sub y d);have Gl:=BU.ae nw fun e=>by simp only[List.mem_cons,List.not_mem_nil,or_false]at e;rcases e with e|e;exact tq tb (by simp) e.symm;exact tq tg (by simp) e.symm
 refine bj Gl.cell Hn.hb.cell ?_;refine Ba Tryz.underlying130 Tryz.underlying3 Hn.hs fun w9 yH Er oa=>?_;rw[vX]at Er;have Ho:=Hn.ze oa Er;have I:ad [tb,tg,mb] w7 w9:=(nw.mono fun y d=>.inl (by simp only[List.mem_cons,List.not_mem_nil,or_false]at d⊢;rcases d with rfl|rfl<;>simp)).same (oa.mono fun y d=>.inl (by simp only[bp]at d;simp[d]));have Jb:=A9.ae I fun y d zk=>N y d (sub y zk);have Es:=BU.ae I fun e=>tq q e rfl;have vY:=Hm.ae I fun e=>of (sub o e);have KB:=Kx.ae I fun y d e=>by have:=j y d;have:=P y (sub y e);omega
 obtain⟨u,hu⟩: ∃u:CT,u= {t with l:=t.l.set k 0,S:=t.S.erase ((2*k:Nat):Int)}:=⟨_,rfl⟩;have h9:CM w9 b hp ar u fp:=by rw[hu];exact⟨tb,tg,mb,lv,fl,zj,Ho⟩
 refine gO ?_;refine bk [q] ?_;have r:=ad.drew [] w9;have J:=Es.aa r;have Hp:=KB.aa r;refine aQ J.cell ?_;refine eL (lL (p:=fun x=>!bw (some s') x) (F:=344) (caps:=#[.pointer (some ⟨q,0,none⟩)]) Hp (by kernel_rfl) (by omega) fun w' x ho hx=>?_) ?_
 ·have d1: ∀y,y∈fp→y∉fL:=fun y d e=>by have:=j y e;have:=P y d;omega
  have d2: ∀y,y∈fh→y∉fL:=fun y d e=>by have:=j y e;have:=hr.lt y d;omega
  have d3:q∉fL:=fun e=>by have:=gL q e;have:=Q.size;have:=D.lt;omega
  refine BR (J.ae ho d3) ((h9.aa r).ae ho d1) ((Jb.aa r).ae ho d2) ?_;exact d x (by unfold cO;rw[←fC U hk,←hL];exact hx)
 rintro vD yI ⟨B,hD⟩;have ef:(L.filter fun x=>!!bw (some s') x)=L.filter fun x=>bw (some s') x:=by congr 1;funext x;rw[Bool.not_not]
 rw[ef]at hD;have qL:q∉fL:=fun e=>by have:=gL q e;have:=Q.size;have:=D.lt;omega
 refine⟨.inr ((SB.refl _ _).only B fun z R=>⟨by simp only[bp]at R;subst R;exact J.lt,by simp only[bp]at R;subst R;exact qL⟩),?_⟩;have d1: ∀y,y∈fp→y∉fL:=fun y d e=>by have:=j y e;have:=P y d;omega
 have d2: ∀y,y∈fh→y∉fL:=fun y d e=>by have:=j y e;have:=hr.lt y d;omega
 have BP:=(h9.aa r).ae B d1;have Et:=(Jb.aa r).ae B d2;have Eu:=(vY.aa r).ae B fun e=>by have:=j o e;have:=E.lt;omega
 have Ki:=List.length_filter_le (fun x=>bw (some s') x) L;have ul:u.l.length=t.l.length:=by rw[hu];simp
 have Hq:s'.st.length≤u.l.length:=by
  have:=a2.ok.sl;have:=U.sl;rw[ul];rw[a3]at*;omega
 refine gO ?_;refine eL (vU BP Et a2.ok Hq N hD (fun y d e=>d1 y e d) (by omega) fun y KC=>?_) ?_
 ·refine d y ?_;unfold cO;rw[←fC U hk,←hL];exact(List.mem_filter.1 KC).1
 rintro _ vZ ⟨KD,K⟩;refine⟨.inl rfl,?_⟩;refine gO ?_;have Ev:t.free s ((2*k:Nat):Int)=u.rG s' (L.filter fun x=>bw (some s') x):=by
  unfold CT.free;rw[I',hu,hL,cf,Nat.mul_div_cancel_left k (by omega)]
 rw[I',Ev];have Ew: ∀y,y∈[o]→y∈o::(fp++fh):=fun y d=>by simp only[bp]at d;simp[d]
 refine⟨Et.ae K N,KD,Eu.ae K of,?_⟩;have o9:ad (o::(fp++fh)) w w9:=(((o4.same G).mono fun y d=>.inl (Ew y d)).same (H.mono fun y d=>.inl (by simp[d]))).same (I.mono fun y d=>.inl (by simp[sub y d]));exact((o9.same r.of_nil).trans B fun y d=>.inr (j y d)).same (K.mono fun y d=>.inl (by simp[d]))
end
end
section
section
variable {w:World} {b:Nat} {hp:Addr} {ar:Option Addr} {t:CT} {fp fh:List Nat} {s:HL} {R:Rt.MS} {ex:Bool}
theorem zm {K:List Int} (x:Int):(getM (cC K) x).getD (.bool false)=.bool (decide (x∈K)):=tZ K x
set_option maxHeartbeats 2000000 in
theorem zn {gb:Nat} {G:List Int} (h:CM w b hp ar t fp) (hr:HR w (some hp) fh (some s)) (hi:s.Inv) (W: ∀x,x∈fh→x∉fp) (hl:s.st.length≤t.l.length) (hf:t.Fl ex s (bH s.aw (cO s))) (sn:kg s R G) (hG:MB w gb G) (Gm: ∀x,x∈G→0≤x∧x≤4096) (gf:gb∉fp) (gh:gb∉fh) (DL:s.aw.length≤5000):
  Cs Tryz.prog 190 [.pointer (some ⟨b,0,none⟩),.map (some gb)] w fun v w'=>v=.int .i64 ((cp s t G).2.2:Nat)∧HR w' (some hp) fh (some (cp s t G).1)∧CM w' b hp ar (cp s t G).2.1 fp∧ad (fp++fh) w w':=by
 have hs:=hi.ok;obtain⟨v2,v3,v4,hb⟩:=h.head;refine en [] ?_;refine aQ hb.cell ?_;refine ak (tQ hr) ?_;rintro v w1 ⟨P,fA,hA,gA⟩;obtain⟨A,H⟩: ∃A,A=du (some s):=⟨_,rfl⟩;rw[←H]at hA;have Jc:A.length≤5000:=by rw[H,fZ];exact DL
 have KE:A.Nodup:=by rw[H];exact lP s
 obtain⟨aA,cA,rfl⟩:=hA.val;have vR:=h.lt;have KF: ∀x,x∈fA→x∉fp++fh:=fun x hx e=>by
  have:=gA x hx;rcases List.mem_append.1 e with e|e
  ·have:=vR x e;omega
  ·have:=hr.lt x e;omega
 unfold cp;rw[←H]
 have pre: ∀i,∃s' t' n',(A.take i).foldl (gU G) (s,t,0)=(s',t',n')∧By s s' (A.take i) G∧t'.Fl ex s' (bH s'.aw (cO s'))∧t'.l.length=t.l.length∧n'≤i:=fun i=>by
  obtain⟨s',t',n',e,w',f,_,_,c,d⟩:=ki (g:=G) hi hl hf sn (A.take i) [] (KE.sublist (List.take_sublist _ _)) (fun x hx=>⟨cQ.1 (by rw[←H];exact List.mem_of_mem_take hx),by simp⟩) s t 0 ⟨hi,eH.refl s,fun i _=>by rw[if_neg (by simp)]⟩ hf rfl rfl rfl;rw[List.append_nil]at w';exact⟨s',t',n',e,w',f,c,by rw[List.length_take]at d;omega⟩
 refine gO ?_;refine aE (5::7::8::9::10::11::12::19::20::21::22::23::24::25::26::27::28::29::30::31::32::33::34::35::36::37::38::39::40::41::42::43::44::45::46::47::48::49::50::51::52::53::54::55::56::57::58::59::60::61::62::63::64::65::66::67::68::69::70::71::72::73::74::75::76::77::78::79::80::81::82::83::[]) (fun g w'=> ∃i:Nat,g 19=.int .i64 (i:Int)∧i≤A.length∧g 5=.int .i64 (((A.take i).foldl (gU G) (s,t,0)).2.2:Nat)∧HR w' (some hp) fh (some ((A.take i).foldl (gU G) (s,t,0)).1)∧CM w' b hp ar ((A.take i).foldl (gU G) (s,t,0)).2.1 fp∧ad (fp++fh) w1 w') (fun g _=>bU A.length 19 g)
  ⟨0,by simp only[go_sem];rfl,by omega,by simp only[go_sem];rfl,hr.aa P,h.aa P,ad.refl _ _⟩ fun g X hI q=>?_
 obtain⟨i,m,Ee,h5,B,T,C⟩:=hI;obtain⟨r,O,U,e1,Q,f1,l1,NK⟩:=pre i;rw[e1]at h5 B T;simp only at h5 B T;by_cases c:i<A.length;rotate_left
 ·refine db m h5 (bt (show¬(i:Int)<(A.length:Int) by omega)) ?_;rw[List.take_of_length_le (by omega)]at e1;rw[e1];exact⟨rfl,B,T,P.of_nil.same C⟩
 obtain⟨gr,_,yr,er,Hr,_,_⟩:=(hA.ae C KF).pos (by omega);cases er;have ci:(0:Int)≤(i:Int)∧(i:Int)<(A.length:Int):=by omega
 obtain⟨k,Gn,hk⟩:jb s (A.getD i 0):=cQ.1 (by rw[←H];simp[c]);have vr:X.cell? ⟨gr,i,none⟩=some (.int .i64 ((2*k:Nat):Int)):=by rw[Hr.cell,←Gn];exact aC yr (by omega)
 have z:(A.take (i+1)).foldl (gU G) (s,t,0)=gU G (r,O,U) ((2*k:Nat):Int):=by
  rw[List.take_succ_eq_append_getElem c,List.foldl_append,e1];have:A[i]=((2*k:Nat):Int):=by rw[←Gn];simp[c]
  rw[this];rfl
 have Ea:=cn hs hk;have D:=Q.inv.ok;have u:r.st.getD k 0=1:=by rw[Q.oW.st];exact hk
 have zz:=au i (by omega);have o2:ad (fp++fh) w X:=P.of_nil.same C;have KG:MB X gb G:=hG.ae o2 fun e=>(List.mem_append.1 e).elim gf gh;obtain⟨v2,v3,v4,Y⟩:=T.head;obtain⟨KH,NL,S⟩:=f' D u;obtain⟨o,ho⟩: ∃o,o=r.aq k:=⟨_,rfl⟩;rw[←ho]at KH S;have l:gU G (r,O,U) ((2*k:Nat):Int)=if cR o.sh.2.2 0=true∧(ic (some r) ((2*k:Nat):Int) 0).1∈G then(if o.sh.2.2=2∧(ic (some ((aP (some r) ((2*k:Nat):Int) 0 0).getD r)) ((2*k:Nat):Int) 1).1≠0 then((aP (some ((aP (some r) ((2*k:Nat):Int) 0 0).getD r)) ((2*k:Nat):Int) 1 0).getD ((aP (some r) ((2*k:Nat):Int) 0 0).getD r),CT.dn ((aP (some ((aP (some r) ((2*k:Nat):Int) 0 0).getD r)) ((2*k:Nat):Int) 1 0).getD ((aP (some r) ((2*k:Nat):Int) 0 0).getD r)) O (ic (some ((aP (some r) ((2*k:Nat):Int) 0 0).getD r)) ((2*k:Nat):Int) 1).1,U+1)else((aP (some r) ((2*k:Nat):Int) 0 0).getD r,O,U+1))else(r,O,U):=by
  unfold gU;simp only;rw[cy D u,←ho]
 refine nX m (bc ci.2) (eq_true ci) @Int.toNat_natCast @Nat.mul_one vr Y.cell ?_;refine ak (ta B ((2*k:Nat):Int) (by omega)) ?_;rintro _ w3 ⟨rfl,E⟩;rw[cy D u,←ho];refine gO ?_;refine ao (kn w3 o.sh.2.2) ?_;by_cases cs:cR o.sh.2.2 0=true;rotate_left
 ·have KI:cR o.sh.2.2 0=false:=by simpa using cs
  rw[KI];refine bj m zz ?_;refine q _ w3 ⟨i+1,?_,by omega,?_,?_,?_,C.same E.of_nil⟩ ?_
  ·simp only[go_sem]
  ·rw[z,l,if_neg (fun e=>cs e.1)];simp only[go_sem,h5]
  ·rw[z,l,if_neg (fun e=>cs e.1)];exact B.aa E
  ·rw[z,l,if_neg (fun e=>cs e.1)];exact T.aa E
  ·exact aZ m
 rw[cs];have GY:=Y.aa E;refine aQ GY.cell ?_;refine ak (vQ (B.aa E) ((2*k:Nat):Int) 0 (by omega)) ?_;rintro _ w4 ⟨rfl,ll⟩;have KJ:=(KG.aa E).aa ll;have I:=E.nil ll;obtain⟨r0,KK⟩: ∃r0,r0=(ic (some r) ((2*k:Nat):Int) 0).1:=⟨_,rfl⟩;rw[←KK]at l⊢;refine gO ?_;refine Hs Tryz.underlying130 Tryz.underlying3 (Tryz.zeroValue4 _) KJ ?_;rw[zm];by_cases cg:r0∈G;rotate_left
 ·rw[bt cg];refine bj m zz ?_;refine q _ w4 ⟨i+1,?_,by omega,?_,?_,?_,C.same I.of_nil⟩ ?_
  ·simp only[go_sem]
  ·rw[z,l,if_neg (fun e=>cg e.2)];simp only[go_sem,h5]
  ·rw[z,l,if_neg (fun e=>cg e.2)];exact B.aa I
  ·rw[z,l,if_neg (fun e=>cg e.2)];exact T.aa I
  ·exact aZ m
 rw[bc cg];rw[if_pos ⟨cs,cg⟩]at l;have vK:=Y.aa I;obtain⟨s2,e2,_⟩:=dx D ((2*k:Nat):Int) 0 0;have K:=gd D e2;have Jd:=eI e2;rw[e2,Option.getD_some]at l;have en:IntKind.i64.wrap ((U:Int)+1)=((U+1:Nat):Int):=au U (by omega);refine db h5 en vK.cell ?_;refine ak (lr (B.aa I) ((2*k:Nat):Int) 0 0 (by omega) (by omega)) ?_;rintro _ w5 ⟨rfl,L,pZ⟩;rw[e2]at L;have Je:ad fh X w5:=I.of_nil.same pZ;have Z:CM w5 b hp ar O fp:=T.ae Je fun y M zk=>W y zk M;obtain⟨v2,v3,v4,Ex⟩:=Z.head;refine aQ Ex.cell ?_;refine ak (vQ L ((2*k:Nat):Int) 1 (by omega)) ?_;rintro _ w6 ⟨rfl,F⟩;obtain⟨v,hv⟩: ∃v,v=(ic (some s2) ((2*k:Nat):Int) 1).1:=⟨_,rfl⟩;rw[←hv]at l⊢;have Jf:ad fh X w6:=Je.same F.of_nil;by_cases V:o.sh.2.2=2∧v≠0;rotate_left
 ·rw[if_neg V]at l;have hh:ad (fp++fh) w1 w6:=C.same (Jf.mono fun y M=>.inl (by simp[M]));by_cases k2:o.sh.2.2=2
  ·have v0:v=0:=Decidable.byContradiction fun e=>V ⟨k2,e⟩;refine jI (fx k2) (ep v0) m zz ?_;refine q _ w6 ⟨i+1,?_,by omega,?_,?_,?_,hh⟩ ?_
   ·simp only[go_sem]
   ·rw[z,l];simp only[go_sem]
   ·rw[z,l];exact L.aa F
   ·rw[z,l];exact Z.aa F
   ·exact aZ m
  ·refine db (fj k2) m zz ?_;refine q _ w6 ⟨i+1,?_,by omega,?_,?_,?_,hh⟩ ?_
   ·simp only[go_sem]
   ·rw[z,l];simp only[go_sem]
   ·rw[z,l];exact L.aa F
   ·rw[z,l];exact Z.aa F
   ·exact aZ m
 rw[if_pos V]at l;obtain⟨s3,e3,_⟩:=dx K ((2*k:Nat):Int) 1 0;have KL:=gd K e3;have KM:=eI e3;rw[e3,Option.getD_some]at l;have vb:v≤4611686018427387904:=by
  have KN:s2.st.getD k 0=1:=by rw[Jd.st];exact u
  have BH:1<(s2.aq k).rf.length:=by
   have h1:=dK D K (j:=0) (to:=0) u (by
    rw[←ho];have:=V.1;simp only[aM,Bool.and_eq_true,Bool.or_eq_true,decide_eq_true_eq]at S;omega) (.inl rfl) e2 k u
   rw[h1,if_pos rfl,←ho];simp only[List.length_set];have:=V.1;simp only[aM,Bool.and_eq_true,Bool.or_eq_true,decide_eq_true_eq]at S;omega
  have Jg:=kh K KN BH;rw[show((1:Nat):Int)=1 from rfl]at Jg;rw[Jg]at hv;have h1:=dK D K (j:=0) (to:=0) u (by
    rw[←ho];have:=V.1;simp only[aM,Bool.and_eq_true,Bool.or_eq_true,decide_eq_true_eq]at S;omega) (.inl rfl) e2 k u
  rw[h1,if_pos rfl]at hv;simp only at hv;rw[aj (by omega)]at hv;have Ey:1<(r.aq k).rf.length:=by
   rw[h1,if_pos rfl]at BH;simpa using BH
  rcases(sn.wk Q).rf k 1 u Ey with h0|h0|⟨h0,_⟩
  ·unfold HL.RF at h0;omega
  ·unfold HL.RF at h0;obtain⟨j,ej,hj⟩:=h0;have:=cn D hj;omega
  ·omega
 have En:=Ex.aa F;refine db (fx V.1) (gm V.2) En.cell ?_;refine ak (lr (L.aa F) ((2*k:Nat):Int) 1 0 (by omega) (by omega)) ?_;rintro _ w7 ⟨rfl,N,lx⟩;rw[e3]at N;have Jh:ad fh X w7:=Jf.same lx;have h7:CM w7 b hp ar O fp:=T.ae Jh fun y M zk=>W y zk M;obtain⟨v2,v3,v4,Hg⟩:=h7.head;refine aQ Hg.cell ?_;refine ak (oT N v vb) ?_;rintro _ w8 ⟨rfl,J⟩;have Ji:s3.st.length≤O.l.length:=by rw[KM.st,Jd.st,Q.oW.st,l1];exact hl
 have Jj:ad fh X w8:=Jh.same J.of_nil;cases hh:bw (some s3) v with
 |false=>
  have ed:O.dn s3 v=O:=by unfold CT.dn;rw[hh];rfl
  rw[ed]at l;refine bj m zz ?_;refine q _ w8 ⟨i+1,?_,by omega,?_,?_,?_,C.same (Jj.mono fun y M=>.inl (by simp[M]))⟩ ?_
  ·simp only[go_sem]
  ·rw[z,l];simp only[go_sem]
  ·rw[z,l];exact N.aa J
  ·rw[z,l];exact h7.aa J
  ·exact aZ m
 |true=>
  refine gO ?_;refine ak (n9 (h7.aa J) (N.aa J) KL Ji v vb) ?_;rintro _ w9 ⟨h9,oa⟩;refine bj m zz ?_;refine q _ w9 ⟨i+1,?_,by omega,?_,?_,?_,(C.same (Jj.mono fun y M=>.inl (by simp[M]))).same (oa.mono fun y M=>.inl (by simp[M]))⟩ ?_
  ·simp only[go_sem]
  ·rw[z,l];simp only[go_sem]
  ·rw[z,l];exact(N.aa J).ae oa W
  ·rw[z,l];exact h9
  ·exact aZ m
end
end
section
set_option maxRecDepth 8000
variable {wd:Nat}
theorem zp {n:Nat} (d:1≤n) (j:n≤4096) (b:wd=2∨wd=4∨wd=8):lV (n:Int) (wd:Int)=some (wd,List.replicate n 0):=by
 unfold lV;rw[if_pos ⟨by omega,by omega,by rcases b with rfl|rfl|rfl<;>decide⟩,cf,cf]
theorem Ez {w : World} {K : Addr} {O : Option Addr} {fh fr : List Nat} {s : HL} {R : Rt.MS} (M : HR w (some K) fh (some s)) (hi : s.Inv) (Y : Rt.PR w O fr (some R)) (KO : Rt.zq (some R) ≠ 0) (sn : rF true s R) (DL : s.aw.length ≤ 2000) (Gp : (Rt.bG (some R)).length ≤ 1000) (hw : wd = 2 ∨ wd = 4 ∨ wd = 8) (co : Bool) :
    Cs Tryz.prog 60 [.pointer (some K), .pointer O, .int .i64 (wd : Int), .bool co] w fun v w' => ad [] w w' ∧ ∃ c fp, v = .tuple #[.pointer (some ⟨c, 0, none⟩), .int .i64 0] ∧ CM w' c K O (EA s wd co (Rt.bG (some R))) fp ∧ ∀ y, y ∈ fp → w.heap.size ≤ y := by
  have H := hi.ok;have hB := H.b2;have zr := H.ju;have eb : ((bq (some s) : Nat) : Int) = (s.B.length : Int) := rfl;have ew : (bif (wd : Int) != 2 then (bif (wd : Int) != 4 then (wd : Int) != 8 else false) else false) = false := by rcases hw with rfl | rfl | rfl <;> decide
  have e1 : IntKind.i64.wrap ((IntKind.i64.wrap ((s.B.length : Int) * 64)).tdiv 2) = ((32 * s.B.length : Nat) : Int) := by
    rw [IntWalk.i64_in ((s.B.length : Int) * 64) (by omega), Int.tdiv_eq_ediv_of_nonneg (by omega), IntWalk.i64_in _ (by omega)]; omega
  refine en [] ?_;refine gO ?_;refine ao (cq M) ?_;refine bj eb (bt (show ¬ ((s.B.length : Nat) : Int) ≤ 0 by omega)) ?_;refine ao (Rt.jv Y) ?_;have KP : ∃ P Z b8 : Bool, ((wd : Int) != 2) = P ∧ ((wd : Int) != 4) = Z ∧ ((wd : Int) != 8) = b8 ∧ (P && (Z && b8)) = false := ⟨_, _, _, rfl, rfl, rfl, by rcases hw with rfl | rfl | rfl <;> decide⟩;obtain ⟨P, Z, b8, KQ, KR, KS, wz⟩ := KP;have Q : (P = false) ∨ (P = true ∧ Z = false) ∨ (P = true ∧ Z = true ∧ b8 = false) := by
    cases P <;> cases Z <;> cases b8 <;> simp at wz ⊢
  rcases Q with rfl | ⟨rfl, rfl⟩ | ⟨rfl, rfl, rfl⟩ <;>
  ( (repeat (first | with_reducible (first | refine nx ?_ | refine ch rfl ?_) | simp only [go_sem, fj KO, KQ, KR, KS]))
    refine ak (ql M H Y sn DL Gp) ?_;rintro _ w1 ⟨rfl, oe⟩;refine gO ?_;refine pd fun m w2 NM D7 KT vn => ?_;refine gO ?_;rw [ai rfl rfl, ai rfl rfl, ai rfl rfl];refine gO ?_;refine bm fun c w3 hc vw N kX => ?_;have o3 := (oe.nil vn).nil kX;refine gO ?_;refine ao (cq (M.aa o3)) ?_;refine bj eb e1 ?_;refine ak (oi w3 ((32 * s.B.length : Nat) : Int) (wd : Int)) ?_;rintro _ w4 ⟨NN, S4, rfl, Jk, I⟩;rw [zp (by omega) (by omega) hw] at Jk;obtain ⟨Ht, _, gS⟩ := Jk;obtain ⟨j, o, rfl, rfl, t⟩ := Ht;have t : dh w4 j o (List.replicate (32 * s.B.length) 0).length wd (List.replicate (32 * s.B.length) 0) := t;have ko := N.aa I;refine gO ?_;refine nt ko (by simp) rfl fun w5 yG vT J => ?_;have u : At w5 c [.pointer (some K), .pointer O, .pointer (some ⟨j, 0, none⟩), .pointer none, .map (some m)] := vT;have z1 := oe.size;have z3 := o3.size;have z4 := I.size;have NO := gS j (by simp);have NP := gS o (by simp);have EB : j ≠ o := by obtain ⟨_, _, _, _, _, _, h⟩ := t.mem; exact h
    have NQ : c < w3.heap.size := N.lt;have Jl : MB w5 m [] := ((KT.aa kX).aa I).ae J (by simp; omega);have Jm := t.ae J (by simp; omega) (by simp; omega);have o5 : ad [] w w5 := (o3.nil I).trans J fun y b => by simp only [bp] at b; subst b; exact .inr (by omega)
    cases co with
    | false =>
      refine gO ?_;have S : (c :: j :: o :: m :: ([] : List Nat)).Nodup := by
        simp only [List.nodup_cons, List.mem_cons, List.not_mem_nil, or_false, not_or, List.nodup_nil, not_false_eq_true, and_true]; omega
      have T : CM w5 c K O ⟨wd, List.replicate (32 * s.B.length) 0, [], none⟩ (c :: j :: o :: m :: ([] : List Nat)) := ⟨j, o, m, _, ([] : List Nat), rfl, ⟨u, Jm, Jl, ⟨rfl, rfl⟩, S⟩⟩;have d : ∀ y, y ∈ c :: j :: o :: m :: ([] : List Nat) → w.heap.size ≤ y := fun y b => by
        simp only [List.mem_cons, List.not_mem_nil, or_false] at b;rcases b with rfl | rfl | rfl | rfl <;> omega
      have U : ∀ x, x ∈ fh → x ∉ c :: j :: o :: m :: ([] : List Nat) := fun x V e => by have := M.lt x V; have := d x e; omega
      have z : ∀ x, x ∈ fr → x ∉ c :: j :: o :: m :: ([] : List Nat) := fun x V e => by have := Y.lt x V; have := d x e; omega
      refine ak (wa T (M.aa o5) H U (by omega) fun k y hk b => ?_) ?_
      · obtain ⟨i, e, Ee⟩ := (sn.cO hk b).pair H;refine ⟨i, e, ?_⟩;have := H.sl;show i < (List.replicate (32 * s.B.length) 0).length;rw [List.length_replicate]; omega
      rintro _ Jn ⟨B, l⟩;refine gO ?_;refine ak (BV (L := Rt.bG (some R)) B ((Y.aa o5).ae l z) z rfl (by omega)) ?_;rintro _ Jo ⟨C, D⟩;refine gO ?_;refine ⟨((o5).trans l fun y b => .inr (d y b)).trans D fun y b => .inr (d y b), c, _, rfl, C, d⟩
    | true =>
      refine gO ?_;refine ak (EC (M.aa o5) 32 0 (by omega) (by omega) (by omega) (by omega)) ?_;rintro _ w6 ⟨r, F, G, rfl, En, Jp, Hu, g1, g2, g3, E⟩;have pa := u.aa E;refine gO ?_;refine nt pa (by simp) rfl fun w7 Bb o' q => ?_;have W : At w7 c [.pointer (some K), .pointer O, .pointer (some ⟨j, 0, none⟩), .pointer (some ⟨r, 0, none⟩), .map (some m)] := o';have z5 := J.size;have z6 := E.size;have X : r ∉ [c] ∧ F ∉ [c] ∧ G ∉ [c] := by simp only [bp]; omega
      have KU : ([r, F, G] : List Nat).Nodup := by
        simp only [List.nodup_cons, List.mem_cons, List.not_mem_nil, or_false, not_or, List.nodup_nil, not_false_eq_true, and_true]; omega
      have Eb : BM w7 r K (yF []) [r, F, G] := ⟨F, G, .slice none 0 0, .slice none 0 0, [], [], [], rfl, ⟨En.ae q X.1, Jp.ae q X.2.1, Hu.ae q X.2.2, Sl.pe _, Sl.zg _, rfl, by simp, KU⟩⟩;have Ep : MB w7 m [] := (Jl.aa E).ae q (by simp; omega);have KV := (Jm.ae E (by simp) (by simp)).ae q (by simp; omega) (by simp; omega);have o7 : ad [] w w7 := (o5.nil E).trans q fun y b => by simp only [bp] at b; subst b; exact .inr (by omega)
      have NR := t.BO;refine gO ?_;have S : (c :: j :: o :: m :: [r, F, G]).Nodup := by
        simp only [List.nodup_cons, List.mem_cons, List.not_mem_nil, or_false, not_or, List.nodup_nil, not_false_eq_true, and_true]; omega
      have T : CM w7 c K O ⟨wd, List.replicate (32 * s.B.length) 0, [], some []⟩ (c :: j :: o :: m :: [r, F, G]) := ⟨j, o, m, _, [r, F, G], rfl, ⟨W, KV, Ep, ⟨r, rfl, Eb⟩, S⟩⟩;have d : ∀ y, y ∈ c :: j :: o :: m :: [r, F, G] → w.heap.size ≤ y := fun y b => by
        simp only [List.mem_cons, List.not_mem_nil, or_false] at b;rcases b with rfl | rfl | rfl | rfl | rfl | rfl | rfl <;> omega
      have U : ∀ x, x ∈ fh → x ∉ c :: j :: o :: m :: [r, F, G] := fun x V e => by have := M.lt x V; have := d x e; omega
      have z : ∀ x, x ∈ fr → x ∉ c :: j :: o :: m :: [r, F, G] := fun x V e => by have := Y.lt x V; have := d x e; omega
      refine ak (wa T (M.aa o7) H U (by omega) fun k y hk b => ?_) ?_
      · obtain ⟨i, e, Ee⟩ := (sn.cO hk b).pair H;refine ⟨i, e, ?_⟩;have := H.sl;show i < (List.replicate (32 * s.B.length) 0).length;rw [List.length_replicate]; omega
      rintro _ Jn ⟨B, l⟩;refine gO ?_;refine ak (BV (L := Rt.bG (some R)) B ((Y.aa o7).ae l z) z rfl (by omega)) ?_;rintro _ Jo ⟨C, D⟩;refine gO ?_;refine ⟨((o7).trans l fun y b => .inr (d y b)).trans D fun y b => .inr (d y b), c, _, rfl, C, d⟩ )
end
section
def tc (w:World) (o i:Nat):Nat:=match w.cell? ⟨o,i,none⟩with
 |some (.int _ n)=>n.toNat
 |_=>0
theorem jK {w:World} {o i:Nat} {k:IntKind} {n:Int} (h:w.cell? ⟨o,i,none⟩=some (.int k n)):tc w o i=n.toNat:=by unfold tc;rw[h]
section
variable {w:World} {b:Nat} {hp:Addr} {ar:Option Addr} {t:CT} {fp fh fr:List Nat} {s:HL} {R:Rt.MS} {ex:Bool}
theorem BW (h:CM w b hp ar t fp) (o:HR w (some hp) fh (some s)) (q:s.Ok) (r:Rt.PR w ar fr (some R)) (u:rF true s R) (j:s.aw.length≤2000) (k:(Rt.bG (some R)).length≤1000):
  Cs Tryz.prog 188 [.pointer (some ⟨b,0,none⟩)] w fun v w'=>v=.bool true∧ad [] w w':=by
 refine en [2,6,8,11,14,17,20,23,26,29,32,37,38,41,0] ?_;refine gO ?_;refine bk [b] ?_;have d:=ad.drew [] w;have m:=h.aa d;obtain⟨z,B,C,y⟩:=m.head;refine gO ?_;refine fR (hT m) (.inr (SB.refl _ _)) ?_;refine aQ y.cell ?_;refine rU (ql (o.aa d) q (r.aa d) u j k) (.inl rfl) fun D l=>?_;refine gO ?_;exact d.nil l
theorem QI.lens {b:HL} {j:CT} {q:QS} (h:QI ex R b j q) (d:b.Ok) (k:b.st.length≤j.l.length):q.s.st.length≤q.t.l.length:=by
 rw[h.len];have:=h.inv.ok.sl;have:=d.sl;rw[h.B]at*;omega
set_option maxHeartbeats 4000000 in
theorem wc (h:CM w b hp ar t fp) (hr:HR w (some hp) fh (some s)) (hi:s.Inv) (hR:Rt.PR w ar fr (some R)) (BX:R.Ok) (sn:rF true s R) (DL:s.aw.length≤1000) (Gp:(Rt.bG (some R)).length≤1000) (BL: ∀x,x∈fh→x∉fp) (ED: ∀x,x∈fr→x∉fp∧x∉fh) (hl:s.st.length≤t.l.length) (hm:0<t.most)
  (lg: ∀L,t.lg=some L→Ed s L∧L.length≤1000∧ ∀p,p∈L→p.2.length≤1000) (hf:(t.bring s).Fl ex s (bH s.aw (cO s))):
  Cs Tryz.prog 44 [.pointer (some ⟨b,0,none⟩)] w fun v w'=> ∃s' t' DM q c tY,v=.tuple #[.agg ⟨ints DM⟩,.int .i64 0]∧EE s t (Rt.bG (some R)) s' t' DM q c∧HR w' (some hp) fh (some s')∧CM w' b hp ar t' tY∧(∀y,y∈tY→y∈fp)∧ad (fp++fh) w w':=by
 have hs:=hi.ok;have vR:=h.lt;have Gq:=hr.lt;refine en [2,5,8,11,15,17,20,25,0,2,5,8,11,20,23,26,29,15,17,34,35,40,41,46,0] ?_;refine gO ?_;refine bm fun q2 w1 GW qb wg oe=>?_;refine gO ?_;refine aH (BW (h.aa oe) (hr.aa oe) hs (hR.aa oe) sn (by omega) Gp) fun w2 vn=>?_;have o2:=oe.nil vn;have bring:Cs Tryz.prog 40 [.pointer (some ⟨b,0,none⟩)] w2 fun v w'=>(∃n,v=.tuple #[.int .i64 n,.int .i64 0])∧ad fp w2 w'∧ ∃tY,CM w' b hp ar (t.bring s) tY∧ ∀y,y∈tY→y∈fp:=by
  cases e:t.lg with
  |none=>
   refine(zh (h.aa o2) e).mono ?_;rintro v w' ⟨rfl,rfl⟩;have:t.bring s=t:=by unfold CT.bring;rw[e]
   rw[this];exact⟨⟨_,rfl⟩,ad.refl _ _,fp,h.aa o2,fun _ h=>h⟩
  |some L=>
   obtain⟨g1,g2,g3⟩:=lg L e;refine(zi (h.aa o2) e (hr.aa o2) hi sn g1 g2 g3 BL hl).mono ?_;rintro v w' ⟨rfl,h1,h2⟩;exact⟨⟨_,rfl⟩,h1,h2⟩
 refine gO ?_;refine ak bring ?_;rintro _ w3 ⟨⟨nb,rfl⟩,kX,l,Jq,C⟩;obtain⟨t0,Hv⟩: ∃t0,t0=t.bring s:=⟨_,rfl⟩;rw[←Hv]at Jq hf;have bf:=pf s t;rw[←Hv]at bf;have W:s.st.length≤t0.l.length:=by rw[bf.2.1];exact hl
 have Gr:0<t0.most:=by unfold CT.most;rw[bf.1];exact hm
 have z1:=oe.size;have z2:=o2.size;have z3:=kX.size;have nv:=(wg.aa vn).ae kX fun e=>by have:=vR q2 e;omega
 have o3:ad fp w w3:=o2.of_nil.same kX;refine gO ?_;refine bm fun o w4 NS tR ko ll=>?_;have EF:At w4 o (ints [0,0,0,0,0,0,0,0]):=ko;have T: ∀x,x∈fh→x∉l:=fun x H e=>BL x H (C x e);have o4:ad fp w w4:=o3.same ll.of_nil;have KW:w.heap.size≤o:=by omega
 have KX:w.heap.size≤q2:=by omega
 have J:o∉l:=fun e=>by have:=vR o (C o e);omega
 have K:o∉fh:=fun e=>by have:=Gq o e;omega
 have KY:q2≠o:=by have:=nv.lt;omega
 have SS: ∀ {a c:World},ad (o::(l++fh)) a c→ad (o::(fp++fh)) a c:=fun h=>h.mono fun y j=>.inl (by
  simp only[List.mem_cons,List.mem_append]at j⊢;rcases j with h|h|h
  ·exact .inl h
  ·exact .inr (.inl (C y h))
  ·exact .inr (.inr h))
 obtain⟨F,hF⟩: ∃F,F=Rt.bG (some R):=⟨_,rfl⟩;have BY: ∀x,x∈fr→x∉o::(l++fh):=fun x H e=>by
  simp only[List.mem_cons,List.mem_append]at e;rcases e with rfl|e|e
  ·have:=hR.lt x H;omega
  ·exact(ED x H).1 (C x e)
  ·exact(ED x H).2 e
 have K0:q2∉o::(l++fh):=fun e=>by
  simp only[List.mem_cons,List.mem_append]at e;rcases e with e|e|e
  ·exact KY e
  ·have:=vR q2 (C q2 e);omega
  ·have:=Gq q2 e;omega
 have hN:=QI.init (R:=R) hi hf;refine gO ?_;refine aE (5::6::13::14::15::16::17::18::19::20::21::22::23::24::25::26::27::28::29::30::31::32::33::34::35::36::37::38::39::[]) (fun g w'=> ∃(q:QS) (c:Nat),HR w' (some hp) fh (some q.s)∧CM w' b hp ar q.t l∧At w' o (ints [0,0,q.n,q.ws,0,0,q.n,(c:Int)])∧QI ex R s t0 q∧rF true q.s R∧0≤q.n∧0≤q.ws∧(c:Int)≤q.n*1000∧(∀q' c',wh F q c q' c'→wh F ⟨s,t0,0,0⟩ 0 q' c')∧ad (o::(l++fh)) w4 w') (fun _ w'=>s.aw.length-tc w' o 2)
  ⟨⟨s,t0,0,0⟩,0,(hr.ae o3 BL).aa ll,Jq.aa ll,EF,hN,sn,Int.le_refl _,Int.le_refl _,Int.le_refl _,fun _ _ h=>h,ad.refl _ _⟩ fun g w5 hI qi=>?_
 obtain⟨q,c,Hd,Hw,vW,hq,K1,NT,K2,NU,Jr,pZ⟩:=hI;have qn:=hq.n;have K3:q.s.aw.length≤1000:=by omega
 have NV:=jL q.s q.s.aw;have K4:=jL s s.aw;have qw:=hq.ws;have z4:=ll.size;have z5:=pZ.size;refine gO ?_;refine pd fun P w6 K5 vm K6 X=>?_;have BZ:P∉l:=fun e=>by have:=vR P (C P e);omega
 have B0:P∉fh:=fun e=>by have:=Gq P e;omega
 have EG:P≠o:=by have:=vW.lt;omega
 have NW:w4.heap.size≤P:=by omega
 have zs:Rt.PR w5 ar fr (some R):=((hR.ae o4 fun x H=>(ED x H).1).ae pZ BY);have Gk:=Hd.aa X;have Js:=Hw.aa X;have K7:RI ex R s t0 (q,[]):=⟨hq,K1.g,by simp⟩;refine gO ?_;refine ak (oU Js Gk hq.inv.ok (hq.lens hs W) (by omega) (zs.aa X) hF (by rw[hF];omega)) ?_;rintro vz w7 ⟨lx,fz,K8,gz⟩;have K9:=X.nil lx;refine gO ?_;refine aE (6::16::17::18::19::20::21::22::23::24::25::26::27::28::29::[]) (fun g' w'=> ∃(d:QS) (G:List Int) (m:Nat) (fz:List Nat),HR w' (some hp) fh (some d.s)∧CM w' b hp ar d.t l∧At w' o (ints [0,0,d.n,d.ws,0,0,d.n,(c:Int)])∧RI ex R s t0 (d,G)∧rH (gV F) m (q,[])=(d,G)∧MB w' P G∧(∀x,x∈G→0≤x∧x≤4096)∧(G=[]→d=q)∧(G≠ []→q.n+1≤d.n)∧q.n≤d.n∧0≤d.ws∧Sl w' 1 (g' 6) (bT d.s d.t F).length (ints (bT d.s d.t F)) fz∧(∀y,y∈fz→w5.heap.size≤y)∧P∉fz∧ad (P::o::(l++fh)) w5 w') (fun _ w'=>s.aw.length-tc w' o 2)
  ⟨q,[],0,fz,Gk.aa lx,Js.aa lx,(vW.aa X).aa lx,K7,rfl,K6.aa lx,by simp,fun _=>rfl,fun h=>absurd rfl h,Int.le_refl _,K2,by simp only[go_sem];exact K8,fun y j=>by have:=gz y j;have:=X.size;omega,fun e=>by have:=gz P e;omega,K9.of_nil⟩ fun g' w8 hJ B1=>?_
 obtain⟨d,G,m,K',Hx,DN,Q,EH,Jt,EI,Gm,Ju,La,NX,Lb,Gs,NY,Lc,nw⟩:=hJ;have D:=EH.q;simp only at D;have NZ:=D.n;have Ld:=jL d.s d.s.aw;have N0:=D.ws;have Le:w8.cell? ⟨o,2,none⟩=some (.int .i64 d.n):=by rw[Q.cell];rfl
 have z8:=nw.size;obtain⟨az,cz,ez⟩:=Gs.val;obtain⟨Z,hZ⟩: ∃Z,Z=bT d.s d.t F:=⟨_,rfl⟩;rw[←hZ]at Gs ez;by_cases cZ:0<Z.length;rotate_left
 ·have Lf:bT d.s d.t F=[]:=by rw[←hZ];exact List.eq_nil_of_length_eq_zero (by omega)
  have EJ:DO F q d G:=⟨⟨m,Jt⟩,Lf⟩;have N1:130=130:=rfl;by_cases cG:G=[]
  ·subst cG;obtain rfl:=Ju rfl;refine bj ez (bt (show¬(0:Int)<(Z.length:Int) by omega)) ?_;refine Bc Tryz.underlying130 EI ?_;rw[show((cC ([]:List Int)).length:Int)=0 from rfl];have Hy:Rt.PR w8 ar fr (some R):=zs.ae nw fun x H e=>by
    rcases List.mem_cons.1 e with rfl|e
    ·have:=zs.lt x H;omega
    ·exact BY x H e
   obtain⟨v2,v3,v4,Gt⟩:=DN.head;refine bj (fx (rfl:(0:Int)=0)) Gt.cell ?_;have zr:=D.inv.ok.ju;refine ak (wi Hx zr) ?_;rintro _ w9 ⟨Y,B⟩;obtain⟨s',EK⟩: ∃s',s'=dA d.s d.s.B.length:=⟨_,rfl⟩;rw[←EK]at Y;obtain⟨⟨B',eB⟩,i9⟩:=kM D.inv d.s.B.length (Nat.le_refl _);rw[←EK]at eB i9;have B2:CM w9 b hp ar d.t l:=DN.ae B fun y j zk=>T y zk j;have Lg:Rt.PR w9 ar fr (some R):=Hy.ae B fun x H=>(ED x H).2;refine gO ?_;refine ak (BV (L:=F) B2 Lg (fun x H e=>(ED x H).1 (C x e)) hF (by rw[hF];omega)) ?_;rintro _ N ⟨M,r⟩;have I:=Y.ae r T;have u:=(Q.ae B K).ae r J;obtain⟨v2,v3,v4,Hz⟩:=M.head;have b':s'.aw=d.s.aw:=by rw[eB];rfl
   refine gO ?_;refine bk [b] ?_;have od:=ad.drew [] N;have Bd:=Hz.aa od;refine aQ Bd.cell ?_;refine eL (tQ (I.aa od)) ?_;rintro vA vZ ⟨E,fA,hA,gA⟩;refine⟨.inr ((SB.refl _ _).only E fun z hz=>⟨by simp only[bp]at hz;subst hz;exact Bd.lt,by simp⟩),?_⟩;obtain⟨aA,cA,rfl⟩:=hA.val;have Gu:=od.nil E;refine gO ?_;refine eL (EL (I.aa Gu) (by rw[b'];omega)) ?_;rintro _ HA ⟨rfl,HB⟩;refine⟨.inl rfl,?_⟩;rw[ua i9];have EM:=Gu.nil HB;have EN:=u.aa EM;refine gO ?_;refine A' EN (by simp[ints]) rfl fun HC EO qm wj=>⟨.inl rfl,?_⟩;refine gO ?_;refine A' qm (by simp[ints]) rfl fun wm EP wo wq=>⟨.inl rfl,?_⟩;have ER:At wm o (ints [((du (some s')).length:Int),dk s' s'.aw,d.n,d.ws,0,0,d.n,(c:Int)]):=wo;have HD:aI wm ⟨o,0,none⟩ 8=some (ints [((du (some s')).length:Int),dk s' s'.aw,d.n,d.ws,0,0,d.n,(c:Int)]):=ax ER 0 8 (by simp[ints]);have z9:=B.size;have Lh:=r.size;have z12:=EM.size;have Jv: ∀y,y∈[o]→y∈o::(l++fh):=fun y j=>by simp only[bp]at j;simp[j]
   have Li:ad (o::(l++fh)) w5 w8:=nw.mono fun y j=>by
    rcases List.mem_cons.1 j with rfl|j
    ·exact .inr (by omega)
    ·exact .inl j
   have HE:ad (o::(l++fh)) w8 wm:=((((B.mono fun y j=>.inl (by simp[j])).same (r.mono fun y j=>.inl (by simp[j]))).same EM.of_nil).same (wj.mono fun y j=>.inl (Jv y j))).same (wq.mono fun y j=>.inl (Jv y j));have ES:ad (o::(l++fh)) w4 wm:=(pZ.same Li).same HE;have B3:=((nv.aa ll).ae ES K0);refine aQ HD ?_;refine dR (n:=8) (i:=0) B3 (by simp[ints]) (by simp) lU fun ET Lj EU B4=>?_;have B5:At ET q2 (ints [((du (some s')).length:Int),dk s' s'.aw,d.n,d.ws,0,0,d.n,(c:Int)]):=EU;have HF:aI ET ⟨q2,0,none⟩ 8=some (ints [((du (some s')).length:Int),dk s' s'.aw,d.n,d.ws,0,0,d.n,(c:Int)]):=ax B5 0 8 (by simp[ints]);refine aQ HF ?_;have HG: ∀y,y∈[q2]→y∈fp++fh∨w.heap.size≤y:=fun y j=>by simp only[bp]at j;subst j;exact .inr KX
   have nq: ∀y,y∈fh→y∉ [q2]:=fun y j e=>by simp only[bp]at e;subst e;have:=Gq y j;omega
   have Lk: ∀y,y∈l→y∉ [q2]:=fun y j e=>by simp only[bp]at e;subst e;have:=vR y (C y j);omega
   have Gv: ∀y,y∈fh→y∉ [o]:=fun y j e=>by simp only[bp]at e;exact K (e▸j)
   have U: ∀y,y∈l→y∉ [o]:=fun y j e=>by simp only[bp]at e;exact J (e▸j)
   refine⟨s',d.t.zt F,[((du (some s')).length:Int),dk s' s'.aw,d.n,d.ws,0,0,d.n,(c:Int)],d,c,l,rfl,⟨?_,EK,by rw[←hF],by rw[fZ]⟩,((((I.aa EM).ae wj Gv).ae wq Gv).ae B4 nq),((((M.aa EM).ae wj U).ae wq U).ae B4 Lk),C,?_⟩
   ·rw[←hF,←Hv];exact Jr _ _ (.done EJ)
   ·refine ad.trans (b:=wm) ?_ B4 HG;refine(o4.mono fun y j=>.inl (by simp[j])).trans (SS ES) fun y j=>?_;rcases List.mem_cons.1 j with rfl|j
    ·exact .inr KW
    ·exact .inl j
  ·have Jw:0<G.length:=List.length_pos_iff.2 cG;have N2:(c:Int)≤d.n*1000:=by omega
   refine bj ez (bt (show¬(0:Int)<(Z.length:Int) by omega)) ?_;refine Bc Tryz.underlying130 EI ?_;rw[wu];have Jx:w8.cell? ⟨o,7,none⟩=some (.int .i64 (c:Int)):=by rw[Q.cell];rfl
   refine aQ (fj (show¬((G.length:Nat):Int)=0 by omega)) ?_;refine bk [o] ?_;have od:=ad.drew [] w8;have B6:=Q.aa od;have EV:w8.drew.cell? ⟨o,7,none⟩=some (.int .i64 (c:Int)):=by rw[B6.cell];rfl
   have Ll:d.s.st.length≤d.t.l.length:=D.lens hs W;refine aQ EV ?_;refine eL (zn (DN.aa od) (Hx.aa od) D.inv T Ll D.fl EH.sn (MB.aa EI od) Gm BZ B0 (by omega)) ?_;rintro _ w9 ⟨rfl,Y,B2,B⟩;obtain⟨k1,k2,k3,k4⟩:=EH.GS W hs;refine⟨.inr ((SB.refl _ _).only B fun z hz=>⟨by simp only[bp]at hz;subst hz;exact B6.lt,by simp only[bp]at hz;subst hz;simp[J,K]⟩),?_⟩;have vY:=B6.ae B (by simp[J,K]);have ec:IntKind.i64.wrap ((c:Int)+((cp d.s d.t G).2.2:Int))=((c+(cp d.s d.t G).2.2:Nat):Int):=by
    rw[IntWalk.i64_in _ (by omega)];omega
   refine aQ ec ?_;refine A' vY (by simp[ints]) rfl fun N zu oj r=>⟨.inl rfl,?_⟩;have u:At N o (ints [0,0,d.n,d.ws,0,0,d.n,((c+(cp d.s d.t G).2.2:Nat):Int)]):=oj;have Gv: ∀y,y∈fh→y∉ [o]:=fun y j e=>by simp only[bp]at e;exact K (e▸j)
   have U: ∀y,y∈l→y∉ [o]:=fun y j e=>by simp only[bp]at e;exact J (e▸j)
   have N3:=La cG;refine gO ?_;refine qi _ N ⟨{d with s:=(cp d.s d.t G).1,t:=(cp d.s d.t G).2.1},c+(cp d.s d.t G).2.2,Y.ae r Gv,B2.ae r U,u,k1,k2,by show 0≤d.n;omega,Lb,?_,fun q' c' hk=>Jr q' c' (.more EJ cG hk),?_⟩ ?_
   ·show(((c+(cp d.s d.t G).2.2:Nat):Int))≤d.n*1000;omega
   ·refine(pZ.same (nw.mono fun y j=>?_)).same ((od.of_nil.same (B.mono fun y j=>.inl (by
     rcases List.mem_append.1 j with h|h<;>simp[h]))).same (r.mono fun y j=>.inl (by simp only[bp]at j;simp[j])))
    rcases List.mem_cons.1 j with rfl|j
    ·exact .inr (by omega)
    ·exact .inl j
   ·have c5:w5.cell? ⟨o,2,none⟩=some (.int .i64 q.n):=by rw[vW.cell];rfl
    have Lm:N.cell? ⟨o,2,none⟩=some (.int .i64 d.n):=by rw[u.cell];rfl
    rw[jK c5,jK Lm];omega
 ·obtain⟨B7,_,yz,Gw,EW,_,_⟩:=Gs.pos cZ;rw[Gw]at ez;obtain⟨x,Z',eZ⟩: ∃x Z',Z=x::Z':=by
   cases Z with
   |nil=>simp at cZ
   |cons x Z'=>exact⟨x,Z',rfl⟩
  have Ln:x∈bT d.s d.t F:=by rw[←hZ,eZ];simp
  have B8:0<d.t.most:=by unfold CT.most;rw[D.wd];exact Gr
  obtain⟨k,rfl,hk,N4,N5⟩:=nV B8 D.fl Ln;have Ea:=cn D.inv.ok hk;have vx:w8.cell? ⟨B7,0,none⟩=some (.int .i64 ((2*k:Nat):Int)):=by rw[EW.cell,eZ];rfl
  have ci:(0:Int)≤0∧(0:Int)<(Z.length:Int):=by omega
  have Jy:gV F (d,G)=(d.free ((2*k:Nat):Int),fm G ((2*k:Nat):Int)):=by
   unfold gV;simp only;rw[←hZ,eZ]
  refine kZ Gw (bc ci.2) (eq_true ci) (eq_true ci.2) (show Int.toNat 0*1=0 from rfl) vx ?_;refine nZ Tryz.underlying130 Tryz.underlying3 EI fun w9 yH Er B=>?_;rw[lu (MB.nodup EI)]at Er;have Gx: ∀y,y≠P→y∉ [P]:=fun y h e=>h (by simpa using e);have Y:=Hx.ae B fun y j=>Gx y fun e=>B0 (e▸j);have B2:CM w9 b hp ar d.t l:=DN.ae B fun y j=>Gx y fun e=>BZ (e▸j);have vY:=Q.ae B (Gx o (Ne.symm EG));have Lo:B7∈K':=by
   obtain⟨_,_,_,e,_,e2,_⟩:=Gs.pos cZ;rw[Gw]at e;cases e;rw[e2];simp
  have Lp:w9.cell? ⟨B7,0,none⟩=some (.int .i64 ((2*k:Nat):Int)):=by
   rw[(EW.ae B (Gx _ fun e=>Lc (e▸Lo))).cell,eZ];rfl
  refine jr Gw (eq_true ci) (eq_true ci.2) (show Int.toNat 0*1=0 from rfl) Lp ?_;refine ak (Ek B2 Y D.inv T (D.lens hs W) hk vY J K (by omega) (by omega) (by omega) fun y j=>?_) ?_
  ·obtain⟨i,e,Ee⟩:=EH.sn.cO hk j;have:=cn D.inv.ok Ee;omega
  rintro _ N ⟨I,M,u,r⟩;obtain⟨O,B9⟩: ∃O,O=d.free ((2*k:Nat):Int):=⟨_,rfl⟩;have S:gj d.s ((2*k:Nat):Int)=O.s∧d.t.free d.s ((2*k:Nat):Int)=O.t∧d.n+1=O.n∧d.ws+ay (aU (some d.s) ((2*k:Nat):Int)).1=O.ws:=by rw[B9];exact⟨rfl,rfl,rfl,rfl⟩
  rw[S.1]at I;rw[S.2.1]at M;rw[S.2.2.1,S.2.2.2]at u;have EX:RI ex R s t0 (O,fm G ((2*k:Nat):Int)):=by
   have:=EH.step W Gr hs BX;rw[←hF,Jy,←B9]at this;exact this
  have V:=EX.q;simp only at V;have N6:=V.n;have hS: ∀y,y∈o::(l++fh)→y≠P:=fun y j e=>by
   subst e;simp only[List.mem_cons,List.mem_append]at j;rcases j with h|h|h
   ·exact EG h
   ·exact BZ h
   ·exact B0 h
  have EY:MB N P (fm G ((2*k:Nat):Int)):=Er.ae r fun e=>hS P e rfl;have Ca:ad (P::o::(l++fh)) w5 N:=(nw.same (B.mono fun y j=>.inl (by simp only[bp]at j;simp[j]))).same (r.mono fun y j=>.inl (List.mem_cons_of_mem _ j));have HH:Rt.PR N ar fr (some R):=zs.ae Ca fun x H e=>by
   rcases List.mem_cons.1 e with rfl|e
   ·have:=zs.lt x H;omega
   ·exact BY x H e
  refine gO ?_;refine ak (oU M I V.inv.ok (V.lens hs W) (by omega) HH hF (by rw[hF];omega)) ?_;rintro vz vZ ⟨E,f11,HI,g11⟩;refine gO ?_;refine B1 _ vZ ⟨O,fm G ((2*k:Nat):Int),m+1,f11,I.aa E,M.aa E,u.aa E,EX,?_,MB.aa EY E,fun x H=>?_,fun e=>absurd e (yR _ _),fun _=>by rw[←S.2.2.1];omega,by rw[←S.2.2.1];omega,by rw[←S.2.2.2];have:=iQ (aU (some d.s) ((2*k:Nat):Int)).1;omega,?_,fun y j=>by have:=g11 y j;have:=Ca.size;omega,fun e=>?_,Ca.same E.of_nil⟩ ?_
  ·show gV F (rH (gV F) m (q,[]))=_;rw[Jt,Jy,B9]
  ·unfold fm at H;split at H
   ·exact Gm x H
   ·rcases List.mem_append.1 H with H|H
    ·exact Gm x H
    ·simp only[bp]at H;omega
  ·simp only[go_sem];exact HI
  ·have:=g11 P e;have:=bP.lt EY;omega
  ·have Lq:vZ.cell? ⟨o,2,none⟩=some (.int .i64 O.n):=by rw[(u.aa E).cell];rfl
   rw[jK Le,jK Lq];omega
end
end
section
def KZ (w:World) (a:Option Addr):Prop:=a=none∨ ∃b,a=some ⟨b,0,none⟩∧At w b [.pointer none,.pointer none,.pointer none,.pointer none,.map none]
theorem KZ.aa {w w':World} {a:Option Addr} (h:KZ w a) (k:ad [] w w'):KZ w' a:=h.elim .inl fun⟨b,d,j⟩=>.inr ⟨b,d,j.aa k⟩
section
variable {w:World} {a:Option Addr} (h:KZ w a)
theorem dB (h:KZ w a):Cs Tryz.prog 178 [.pointer a] w fun v w'=>v=.bool false∧w'=w:=by
 refine en [] ?_;rcases h with rfl|⟨b,rfl,h⟩
 ·(repeat(first|with_reducible(first|refine nx ?_|refine ch rfl ?_)|simp only[go_sem]))
 ·(repeat(first|with_reducible(first|refine nx ?_|refine ch rfl ?_)|simp only[go_sem,h.cell]))
theorem td (h:KZ w a):Cs Tryz.prog 188 [.pointer a] w fun v w'=>v=.bool false∧ad [] w w':=by
 refine en [2,6,8,11,14,17,20,23,26,29,32,37,38,41,0] ?_;refine gO ?_;refine bk [] ?_;refine gO ?_;refine fR (dB (h.aa (ad.drew [] w))) (.inr (SB.refl _ _)) ?_;refine gO ?_;exact ad.drew [] w
theorem zv (h:KZ w a) (sh:Sh) (x:Value):Cs Tryz.prog 55 [.pointer a,.agg ⟨c8 sh⟩,x] w fun v w'=>v=.tuple #[.int .i64 0,.int .i64 5]∧ad [] w w':=by
 refine en [] ?_;refine gO ?_;refine bm fun q k l j d b=>?_;refine gO ?_;refine ao (dB (h.aa b)) ?_;refine gO ?_;exact b
theorem zw (h:KZ w a) (x:Value):Cs Tryz.prog 41 [.pointer a,x] w fun v w'=>v=.tuple #[.int .i64 0,.int .i64 5]∧ad [] w w':=by
 refine en [] ?_;refine gO ?_;refine ao (dB h) ?_;refine gO ?_;exact ad.refl _ _
theorem zx (h:KZ w a):Cs Tryz.prog 40 [.pointer a] w fun v w'=>v=.tuple #[.int .i64 0,.int .i64 5]∧ad [] w w':=by
 refine en [0,2,5,8,11,14,17,20,23,26,32,35,30,40,43,0] ?_;refine gO ?_;refine ao (dB h) ?_;refine gO ?_;exact ad.refl _ _
theorem ub (h:KZ w a):Cs Tryz.prog 44 [.pointer a] w fun v w'=>v=.tuple #[.agg ⟨jG 0 0⟩,.int .i64 5]∧ad [] w w':=by
 refine en [2,5,8,11,15,17,20,25,0,2,5,8,11,20,23,26,29,15,17,34,35,40,41,46,0] ?_;refine gO ?_;refine bm fun q C r t d b=>?_;refine gO ?_;refine aH (td (h.aa b)) fun D j=>?_;have E:=b.size;have k:=d.aa j;refine gO ?_;refine dR (cs:=jG 0 0) (n:=8) (i:=0) k rfl (by simp[jG]) (by simp[jG,bu]) fun u z l m=>?_;have o:aI u ⟨q,0,none⟩ 8=some (jG 0 0):=by rw[ax l 0 8 (by simp[jG,fS])];rfl
 refine aQ o ?_;exact(b.nil j).trans m fun y B=>by simp only[bp]at B;exact .inr (by omega)
theorem uc (h:KZ w a):Cs Tryz.prog 54 [.pointer a] w fun v w'=>v=.tuple #[.int .i64 0,.int .i64 5]∧ad [] w w':=by
 refine en [2,5,8,11,14,17,20,23,27,31,0] ?_;refine gO ?_;refine bm fun q l m k b d=>?_;refine aQ b.cell ?_;refine aH (td (h.aa d)) fun o j=>?_;refine gO ?_;exact d.nil j
theorem wv (h:KZ w a) (x:Value):Cs Tryz.prog 61 [.pointer a,x] w fun _ w'=>w'=w:=by
 refine en [] ?_;refine gO ?_;refine ao (dB h) ?_;(repeat(first|with_reducible(first|refine nx ?_|refine ch rfl ?_)|simp only[go_sem]))
theorem Cb (h:KZ w a) (x:Value):Cs Tryz.prog 62 [.pointer a,x] w fun _ w'=>w'=w:=by
 refine en [] ?_;refine gO ?_;refine ao (dB h) ?_;(repeat(first|with_reducible(first|refine nx ?_|refine ch rfl ?_)|simp only[go_sem]))
theorem zy (h:KZ w a) (x y z:Value):Cs Tryz.prog 57 [.pointer a,x,y,z] w fun v w'=>v=.int .i64 5∧ad [] w w':=by
 refine en [] ?_;refine gO ?_;refine ao (dB h) ?_;refine gO ?_;exact ad.refl _ _
theorem Cc (h:KZ w a) (x y z:Value):Cs Tryz.prog 63 [.pointer a,x,y,z] w fun v w'=>v=.int .i64 5∧ad [] w w':=by
 refine en [] ?_;refine gO ?_;refine ao (dB h) ?_;refine gO ?_;exact ad.refl _ _
theorem zA (h:KZ w a):Cs Tryz.prog 64 [.pointer a] w fun v w'=>v=.slice none 0 0∧ad [] w w':=by
 refine en [] ?_;refine gO ?_;refine bm fun q k l j b d=>?_;refine aQ b.cell ?_;refine ao (dB (h.aa d)) ?_;refine gO ?_;exact d
theorem wx (h:KZ w a) {G:Nat} {caps:Array Value}:Cs Tryz.prog 205 [.pointer a,.func (.func G) #[] caps] w fun v w'=>v=.slice none 0 0∧ad [] w w':=by
 refine en [] ?_;refine gO ?_;refine bm fun q k l j d b=>?_;refine gO ?_;refine ao (dB (h.aa b)) ?_;refine gO ?_;exact b
theorem zB (h:KZ w a):Cs Tryz.prog 50 [.pointer a] w fun v w'=>v=.slice none 0 0∧ad [] w w':=by
 refine en [] ?_;refine gO ?_;refine bm fun q l m k b d=>?_;refine aQ b.cell ?_;refine aH (wx (h.aa d)) fun o j=>?_;refine gO ?_;exact d.nil j
theorem ph (h:KZ w a):Cs Tryz.prog 65 [.pointer a] w fun v w'=>v=.slice none 0 0∧ad [] w w':=by
 refine en [] ?_;refine gO ?_;refine bm fun q l m k b d=>?_;refine aQ b.cell ?_;refine aH (wx (h.aa d)) fun o j=>?_;refine gO ?_;exact d.nil j
theorem Cd (h:KZ w a):Cs Tryz.prog 66 [.pointer a] w fun v w'=>v=.pointer none∧ad [] w w':=by
 refine en [] ?_;refine gO ?_;refine ao (dB h) ?_;refine gO ?_;exact ad.refl _ _
theorem zC (h:KZ w a):Cs Tryz.prog 67 [.pointer a] w fun v w'=>v=.pointer none∧ad [] w w':=by
 refine en [] ?_;refine gO ?_;refine ao (dB h) ?_;refine gO ?_;exact ad.refl _ _
theorem HJ (h:KZ w a) (x y:Value):Cs Tryz.prog 68 [.pointer a,x,y] w fun v w'=>v=.pointer none∧ad [] w w':=by
 refine en [2,5,8,11,14,17,23,26,29,32,21,37,38,43,44,0] ?_;refine gO ?_;refine ao (dB h) ?_;refine gO ?_;exact ad.refl _ _
end
theorem Ce {w:World} {a:Option Addr} {fp:List Nat} (h:HR w a fp none) (y z u:Value):Cs Tryz.prog 60 [.pointer a,y,z,u] w fun v w'=>v=.tuple #[.pointer none,.int .i64 1]∧w'=w:=by
 refine en [] ?_;refine gO ?_;refine ao (cq h) ?_;have b:decide (((bq none:Nat):Int)≤0)=true:=rfl;(repeat(first|with_reducible(first|refine nx ?_|refine ch rfl ?_)|simp only[go_sem,b]))
theorem Cf {w:World} {a b:Option Addr} {fp fr:List Nat} {s:HL} (h:HR w a fp (some s)) (d:Rt.PR w b fr none) (z u:Value):Cs Tryz.prog 60 [.pointer a,.pointer b,z,u] w fun v w'=>v=.tuple #[.pointer none,.int .i64 1]∧w'=w:=by
 have l:=(h.ok s rfl).b2;refine en [] ?_;refine gO ?_;refine ao (cq h) ?_;have j:decide (((bq (some s):Nat):Int)≤0)=false:=bt (by simp only[bq];omega);refine aQ j ?_;refine ao (Rt.jv d) ?_;have k:(Rt.zq none==0)=true:=rfl;(repeat(first|with_reducible(first|refine nx ?_|refine ch rfl ?_)|simp only[go_sem,k]))
section
variable {w:World} {b:Nat} {hp:Addr} {ar:Option Addr} {t:CT} {fk:List Nat}
theorem Be (d:CM w b hp ar t fk) {a:Option Addr} {fp:List Nat} (h:HR w a fp none) (y:Value):Cs Tryz.prog 68 [.pointer (some ⟨b,0,none⟩),.pointer a,y] w fun v w'=>v=.pointer none∧w'=w:=by
 refine en [2,5,8,11,14,17,23,26,29,32,21,37,38,43,44,0] ?_;refine gO ?_;refine ao (hT d) ?_;refine gO ?_;refine ao (cq h) ?_;have j:decide (((bq none:Nat):Int)≤0)=true:=rfl;(repeat(first|with_reducible(first|refine nx ?_|refine ch rfl ?_)|simp only[go_sem,j]))
theorem Bf (d:CM w b hp ar t fk) {a c:Option Addr} {fp fr:List Nat} {s:HL} (h:HR w a fp (some s)) (j:Rt.PR w c fr none):Cs Tryz.prog 68 [.pointer (some ⟨b,0,none⟩),.pointer a,.pointer c] w fun v w'=>v=.pointer none∧w'=w:=by
 have m:=(h.ok s rfl).b2;refine en [2,5,8,11,14,17,23,26,29,32,21,37,38,43,44,0] ?_;refine gO ?_;refine ao (hT d) ?_;refine gO ?_;refine ao (cq h) ?_;have k:decide (((bq (some s):Nat):Int)≤0)=false:=bt (by simp only[bq];omega);refine aQ k ?_;refine ao (Rt.jv j) ?_;have l:(Rt.zq none==0)=true:=rfl;(repeat(first|with_reducible(first|refine nx ?_|refine ch rfl ?_)|simp only[go_sem,l]))
end
end
section
def yJ (s:HL):HL:=(ck s (1,0,0) 0).2
def qo (s:HL):HL:=(ck (yJ s) (0,0,0) 0).2
def iR (s:HL):HL:=(aP (some (qo s)) 64 0 68).getD s
def EZ (s:HL):CT:=EA s 4 false []
def E1 (s:HL):CT:=(EZ s).alloc 64 0
def DP (s:HL):CT:=(E1 s).alloc 68 0
def nr (s:HL):CT:=(DP s).store (qo s) (iR s) 32 0 68
def kQ (s:HL):QS×List Int:=rH (gV []) 2 (⟨iR s,nr s,0,0⟩,[])
def vp (s:HL):QS:= {(kQ s).1 with s:=(cp (kQ s).1.s (kQ s).1.t (kQ s).2).1,t:=(cp (kQ s).1.s (kQ s).1.t (kQ s).2).2.1}
theorem E2:(dY 4).map (fun s=>((ck s (1,0,0) 0).1,(ck (yJ s) (0,0,0) 0).1,s.born,(yJ s).born,s.aw))=some ((64,0),(68,0),0,1,[]):=by decide+kernel
theorem E3:(dY 4).map (fun s=>[(EZ s).l.length,s.st.length,(E1 s).l.length,(yJ s).st.length,(DP s).l.length,(qo s).st.length,(nr s).l.length,(iR s).st.length])=some [128,128,128,128,128,128,128,128]:=by decide+kernel
theorem E4:(dY 4).map (fun s=>([(qo s).aw,(iR s).aw],[((qo s).aq 32).rf,((iR s).aq 32).rf,((iR s).aq 34).rf,cO (iR s) 32,cO (iR s) 34]))=some ([[32,34],[32,34]],[[0],[68],[],[68],[]]):=by decide+kernel
theorem E5:(dY 4).map (fun s=>((nr s).l.getD 32 0,(nr s).l.getD 34 0,(nr s).wd,bT (iR s) (nr s) [64],bT (iR s) (nr s) []))=some (0,1,4,[],[64]):=by decide+kernel
theorem E6:(dY 4).map (fun s=>((EZ s).lg.isNone,(E1 s).lg.isNone,(DP s).lg.isNone,(nr s).lg.isNone))=some (true,true,true,true):=by decide+kernel
theorem E7:(dY 4).map (fun s=>(bT (kQ s).1.s (kQ s).1.t [],(kQ s).2,bT (vp s).s (vp s).t [],(vp s).n,(dA (vp s).s (vp s).s.B.length).aw))=some ([],[64,68],[],2,[]):=by decide+kernel
structure k0 (s:HL):Prop where
 inv:s.Inv
 a1:(ck s (1,0,0) 0).1=(64,0)
 a2:(ck (yJ s) (0,0,0) 0).1=(68,0)
 b0:s.born=0
 b1:(yJ s).born=1
 o0:s.aw=[]
 t0:(EZ s).l.length=s.st.length
 t1:(E1 s).l.length=(yJ s).st.length
 t2:(DP s).l.length=(qo s).st.length
 t3:(nr s).l.length=(iR s).st.length
 o2:(qo s).aw=[32,34]
 r2:((qo s).aq 32).rf=[0]
 o3:(iR s).aw=[32,34]
 r3:((iR s).aq 32).rf=[68]
 r4:((iR s).aq 34).rf=[]
 c3:cO (iR s) 32=[68]
 c4:cO (iR s) 34=[]
 v3:(nr s).l.getD 32 0=0
 v4:(nr s).l.getD 34 0=1
 wd:(nr s).wd=4
 z1:bT (iR s) (nr s) [64]=[]
 z2:bT (iR s) (nr s) []=[64]
 l2:(DP s).lg=none
 l3:(nr s).lg=none
 q1:bT (kQ s).1.s (kQ s).1.t []=[]
 q2:(kQ s).2=[64,68]
 q3:bT (vp s).s (vp s).t []=[]
 q4:(vp s).n=2
 q5:(dA (vp s).s (vp s).s.B.length).aw=[]
theorem Jz: ∃s,dY 4=some s∧k0 s:=by
 obtain⟨s,e,o,_⟩:=zD (n:=4) (by omega) (by omega);have e:dY 4=some s:=e;have b:=E2;have d:=E3;have j:=E4;have k:=E5;have l:=E6;have m:=E7;rw[e]at b d j k l m;simp only[Option.map_some,Option.some.injEq,Prod.mk.injEq,List.cons.injEq,and_true,Option.isNone_iff_eq_none]at b d j k l m;obtain⟨q,r,t,u,w⟩:=b;obtain⟨y,z,B,C,D,E,F,G⟩:=d;obtain⟨⟨H,I⟩,J,K,L,M,N⟩:=j;obtain⟨O,P,Q,R,S⟩:=k;obtain⟨k1,k2,T,U⟩:=l;obtain⟨V,W,X,Y,Z⟩:=m;exact⟨s,e,o,q,r,t,u,w,y.trans z.symm,B.trans C.symm,D.trans E.symm,F.trans G.symm,H,J,I,K,L,M,N,O,P,Q,R,S,T,U,V,W,X,Y,Z⟩
section
variable {s:HL}
theorem k0.i1 (h:k0 s):(yJ s).Inv:=by
 obtain⟨x,e,s',b,d,_⟩:=jt h.inv (sh:=(1,0,0)) (sp:=0) rfl;unfold yJ;rw[b];exact d
theorem k0.i2 (h:k0 s):(qo s).Inv:=by
 obtain⟨x,e,s',b,d,_⟩:=jt h.i1 (sh:=(0,0,0)) (sp:=0) rfl;unfold qo;rw[b];exact d
theorem k0.Gj (h:k0 s):(qo s).st.getD 32 0=1∧(qo s).st.getD 34 0=1:=⟨aR.1 (by rw[h.o2];simp),aR.1 (by rw[h.o2];simp)⟩
theorem k0.JA (h:k0 s):jq (qo s) 68:=.inr ⟨34,rfl,h.Gj.2⟩
theorem k0.st (h:k0 s):aP (some (qo s)) 64 0 68=some (iR s)∧Gi (qo s) (iR s) 32 0 68:=by
 obtain⟨s',e,st⟩:=lR h.i2 (k:=32) (j:=0) (to:=68) h.Gj.1 (by rw[h.r2];simp) h.JA;have b:aP (some (qo s)) 64 0 68=some s':=e;have:iR s=s':=by unfold iR;rw[b];rfl
 rw[this];exact⟨b,st⟩
theorem k0.JB (h:k0 s):(iR s).st.getD 32 0=1∧(iR s).st.getD 34 0=1:=⟨aR.1 (by rw[h.o3];simp),aR.1 (by rw[h.o3];simp)⟩
theorem k0.E8 (h:k0 s):rF true s rA:=by
 refine⟨fun j d r k=>?_,s8 (.inl rfl)⟩;obtain⟨i,b,rfl⟩:=List.mem_map.1 d;rw[h.o0]at b;cases b
theorem k0.HK (h:k0 s):rF true (iR s) rA:=by
 refine⟨fun k j r d=>?_,s8 (.inl rfl)⟩;obtain⟨i,b,rfl⟩:=List.mem_map.1 j;rw[h.o3]at b;simp only[List.mem_cons,List.not_mem_nil,or_false]at b;rcases b with rfl|rfl
 ·rw[h.r3]at d;simp only[bp]at d;subst d;exact .inr ⟨rfl,34,rfl,h.JB.2⟩
 ·rw[h.r4]at d;simp at d
theorem k0.most (h:k0 s):(nr s).most=15:=by unfold CT.most;rw[h.wd]
theorem k0.br (h:k0 s):(nr s).bring (iR s)=nr s:=by unfold CT.bring;rw[h.l3]
theorem k0.fl (h:k0 s):((nr s).bring (iR s)).Fl true (iR s) (bH (iR s).aw (cO (iR s))):=by
 rw[h.br];intro k d;have b:=aR.2 d;have j:=h.most;have l: ∀a,bH (iR s).aw (cO (iR s)) a=if(68:Int)=a then 1 else 0:=fun a=>by
  unfold bH;rw[h.o3];simp[h.c3,h.c4,List.count_cons]
 rw[h.o3]at b;simp only[List.mem_cons,List.not_mem_nil,or_false]at b;left;rw[kf,l,j];rcases b with rfl|rfl
 ·rw[h.v3];simp
 ·rw[h.v4];simp
theorem k0.E9 (h:k0 s) {s':HL} {m:CT} {b:List Int} {q:QS} {c:Nat} (k:EE (iR s) (nr s) [] s' m b q c):b.getD 0 0=0∧b.getD 2 0=2:=by
 have l:=k.Lr;rw[h.br]at l;have o:(0:Nat)+(cp (kQ s).1.s (kQ s).1.t (kQ s).2).2.2=(cp (kQ s).1.s (kQ s).1.t (kQ s).2).2.2:=Nat.zero_add _;have d: ∀c,wh [] (vp s) c (vp s) c:=fun c=>.done ⟨⟨0,rfl⟩,h.q3⟩;have eq:rH (gV []) 2 (⟨iR s,nr s,0,0⟩,[])=((kQ s).1,(kQ s).2):=by
  show kQ s=_;exact(Prod.eta (kQ s)).symm
 have j:=wh.more (c:=0) (F:=[]) (g:=(kQ s).2) ⟨⟨2,eq⟩,h.q1⟩ (by rw[h.q2];simp) (d _);obtain⟨rfl,_⟩:=l.uniq j;rw[k.rp,k.s4,h.q5];exact⟨rfl,h.q4⟩
end
end
set_option maxRecDepth 20000
theorem oo:Rt.bG (some rA)=[]:=vF
def rB:Rt.MS:= {rA with S:=rA.S.set 0 64}
theorem Cg:(Rt.jd (some rA) (0,0,0) 64).1=0∧(Rt.jd (some rB) (0,0,0) 0).1=0∧Rt.bG (some rB)=[64]:=by decide+kernel
theorem E':(Rt.jd (some rA) (0,0,0) 64).2=some rB∧(Rt.jd (some rB) (0,0,0) 0).2=some rA:=⟨rfl,rfl⟩
set_option maxHeartbeats 2000000 in
theorem ud (w:World):Cs Tryz.prog 43 [] w fun v w'=>v=.bool true∧ad [] w w':=by
 obtain⟨s,es,m⟩:=Jz;have hi:=m.inv;refine en [] ?_;have Q:bne (0:Int) 0=false:=rfl;refine gO ?_;refine ak (Fa w 4) ?_;rintro r w1 ⟨a,fp,rfl,h1,_,DJ,oe⟩;have HN:(dY 4).isSome=true:=rfl;rw[es]at h1;obtain⟨hb,rfl,_⟩:=id h1;refine aQ HN ?_;refine ak (Rt.oi w1 1) ?_;rintro r w2 ⟨W,ar,fr,rfl,B,_,HP⟩;have er:Rt.hE 1=some rA:=rfl;rw[er]at B;have Ls:(Rt.hE 1).isSome=true:=rfl;obtain⟨rb,era,_⟩:=id B;subst era;have z1:=oe.size;have z2:=W.size;have h2:=h1.aa W;refine bj Ls Q ?_;refine ak (Ez h2 hi B (by decide) m.E8 (by rw[m.o0];simp) (by rw[oo];simp) (wd:=4) (by omega) false) ?_;rintro r w3 ⟨I,c,R,rfl,J,gk⟩;rw[oo]at J;have J:CM w3 c _ _ (EZ s) R:=J;have z3:=I.size;have y0:=h1.lt;have D6:=B.lt;have K: ∀y,y∈fp→y∉R:=fun y l e=>by have:=y0 y l;have:=gk y e;omega
 have C: ∀y,y∈fr→y∉R:=fun y l e=>by have:=D6 y l;have:=gk y e;omega
 have D: ∀y,y∈fr→y∉fp:=fun y l e=>by have:=y0 y e;have:=HP y l;omega
 have h3:=h2.aa I;have Gy:=B.aa I;refine aQ Q ?_;rw[ai rfl rfl];refine gO ?_;refine ak (vN J h3 hi m.t0 K (sh:=(1,0,0)) rfl (sp:=0) (by omega) (by omega) (by rw[m.b0];omega)) ?_;rintro r w4 ⟨rfl,h4,M,X⟩;have h4:HR w4 _ fp (some (yJ s)):=h4;rw[m.a1]at M⊢;have M:CM w4 c _ _ (E1 s) R:=M;have z4:=X.size;have JC:=Gy.ae X fun y l e=>(List.mem_append.1 e).elim (C y l) (D y l);refine aQ Q ?_;refine ak (vN M h4 m.i1 m.t1 K (sh:=(0,0,0)) rfl (sp:=0) (by omega) (by omega) (by rw[m.b1];omega)) ?_;rintro r w5 ⟨rfl,h5,N,Y⟩;have h5:HR w5 _ fp (some (qo s)):=h5;rw[m.a2]at N⊢;have N:CM w5 c _ _ (DP s) R:=N;have z5:=Y.size;have zs:=JC.ae Y fun y l e=>(List.mem_append.1 e).elim (C y l) (D y l);refine aQ Q ?_;refine ak (Rt.lT zs (0,0,0) 64) ?_;rintro r w6 ⟨rfl,Z,O,_⟩;rw[Cg.1];rw[E'.1]at Z;have z6:=O.size;have nf: ∀y,y∈fp→y∉fr:=fun y l e=>D y e l;have nk: ∀y,y∈R→y∉fr:=fun y l e=>C y e l;have h6:=h5.ae O nf;have Lt:=N.ae O nk;refine aQ Q ?_;refine ak (BG Lt h6 m.i2 (k:=32) (j:=0) (to:=68) (fun j hj=>by rw[m.r2]at hj⊢;simp only[List.length_singleton]at hj;rw[show j=0 by omega];exact .inl rfl) K (by rw[m.t2];exact Nat.le_refl _) m.Gj.1 (by rw[m.r2];simp) m.JA m.st.1 (by rw[m.l2];intro L e;cases e)) ?_;rintro r w7 ⟨rfl,h7,lx,z,E,HQ⟩;have E:CM w7 c _ _ (nr s) z:=E;have z7:=lx.size;have JD:=Z.ae lx fun y l e=>(List.mem_append.1 e).elim (C y l) (D y l);have DQ: ∀y,y∈fp→y<w6.heap.size:=h6.lt;have HS: ∀y,y∈fr→y<w6.heap.size:=Z.lt;have HT: ∀y,y∈fp→y∉z:=fun y l e=>(HQ y e).elim (K y l) fun h'=>by have:=DQ y l;omega
 have S: ∀y,y∈fr→y∉z:=fun y l e=>(HQ y e).elim (C y l) fun h'=>by have:=HS y l;omega
 refine aQ Q ?_;refine ak (vv E h7 (k:=34) m.st.2.inv.ok m.JB.2 (by rw[m.t3];exact Nat.le_refl _)) ?_;rintro r w8 ⟨rfl,G⟩;rw[m.v4];have o1:bne (((1:Nat):Int)) 1=false:=rfl;refine bj Q o1 ?_;refine ak (oU (F:=[64]) (E.aa G) (h7.aa G) m.st.2.inv.ok (by rw[m.t3];exact Nat.le_refl _) (by rw[m.o3];simp) (JD.aa G) Cg.2.2.symm (by simp)) ?_;rintro r w9 ⟨oa,fz,JE,gz⟩;rw[m.z1]at JE;obtain⟨az,cz,rfl⟩:=JE.val;have Lu:bne (((0:Nat):Int)) 0=false:=rfl;have P:=G.nil oa;refine aQ Lu ?_;refine ak (Rt.lT (JD.aa P) (0,0,0) 0) ?_;rintro r yI ⟨rfl,H,u,_⟩;rw[Cg.2.1];rw[E'.2]at H;have Lv: ∀y,y∈z→y∉fr:=fun y l e=>S y e l;have BP:=(h7.aa P).ae u nf;have T:=(E.aa P).ae u Lv;refine aQ Q ?_;refine ak (oU (F:=[]) T BP m.st.2.inv.ok (by rw[m.t3];exact Nat.le_refl _) (by rw[m.o3];simp) H oo.symm (by simp)) ?_;rintro r vZ ⟨o,N7,U,N8⟩;rw[m.z2]at U;obtain⟨N9,N',rfl⟩:=U.val;have HU:bne (((0+1:Nat):Int)) 1=false:=rfl;refine bj HU o1 ?_;have Ch:=H.aa o;have BX:rA.Ok:=Rt.te er;refine ak (wc (ex:=true) (T.aa o) (BP.aa o) m.st.2.inv Ch BX m.HK (by rw[m.o3];simp) (by rw[oo];simp) HT (fun y l=>⟨S y l,D y l⟩) (by rw[m.t3];exact Nat.le_refl _) (by rw[m.most];omega) (by rw[m.l3];intro L e;cases e) m.fl) ?_;rintro r HA ⟨s',t',DM,q,cc,Oa,rfl,E9,Oc,Lw,Lx,V⟩;rw[oo]at E9;obtain⟨e0,e2⟩:=m.E9 E9;have Ly: ∃a b c d e f g i,DM=[a,b,c,d,e,f,g,i]:=⟨_,_,_,_,_,_,_,_,E9.rp⟩;obtain⟨p0,p1,p2,p3,p4,p5,p6,p7,rfl⟩:=Ly;have e0:p0=0:=e0;have e2:p2=2:=e2;have z8:=G.size;have z9:=oa.size;have Lh:=u.size;have Od:=o.size;have z12:=V.size;refine gO ?_;refine bm fun tb HC Lz EO qm wj=>?_;refine gO ?_;refine dR (n:=8) (i:=0) qm (by rfl) (by simp) lU fun wm EP t wq=>?_;have LA:fS [Value.int .i64 0,.int .i64 0,.int .i64 0,.int .i64 0,.int .i64 0,.int .i64 0,.int .i64 0,.int .i64 0] 0 (ints [p0,p1,p2,p3,p4,p5,p6,p7])=ints [p0,p1,p2,p3,p4,p5,p6,p7]:=rfl;rw[LA]at t;have c0:wm.cell? ⟨tb,0,none⟩=some (.int .i64 0):=by rw[t.cell,e0];rfl
 have c2:wm.cell? ⟨tb,2,none⟩=some (.int .i64 2):=by rw[t.cell,e2];rfl
 refine jI c0 c2 (fx (rfl:(0:Int)=0)) (fx (rfl:(2:Int)=2)) ?_;have kl: ∀y,y∈R→w.heap.size≤y:=fun y l=>by have:=gk y l;omega
 have rl: ∀y,y∈fr→w.heap.size≤y:=fun y l=>by have:=HP y l;omega
 have LB: ∀y,y∈z→w.heap.size≤y:=fun y l=>(HQ y l).elim (kl y) fun h'=>by omega
 have al: ∀y,y∈R++fp→y∈([]:List Nat)∨w.heap.size≤y:=fun y l=>.inr ((List.mem_append.1 l).elim (kl y) (DJ y));have LC: ∀y,y∈z++fp→y∈([]:List Nat)∨w.heap.size≤y:=fun y l=>.inr ((List.mem_append.1 l).elim (LB y) (DJ y));have JF: ∀y,y∈fr→y∈([]:List Nat)∨w.heap.size≤y:=fun y l=>.inr (rl y l);have LD:=(oe.nil W).nil I;have HV:=(((LD.trans X al).trans Y al).trans O JF).trans lx al;have HW:=(((HV.nil P).trans u JF).nil o).trans V LC;exact(HW.nil wj).trans wq fun y l=>by simp only[bp]at l;exact .inr (by omega)
set_option maxHeartbeats 4000000 in
theorem wy {w : World} (x y z : Int) (sh : Sh) : Cs Tryz.prog 13 [.int .i64 x, .int .i64 y, .int .i64 z, .agg ⟨c8 sh⟩] w fun r w' => r = .bool true ∧ ad [] w w' := by
  refine gX rfl ?_;unfold fu;have tR : (dY 4).isSome = true := rfl;have BH : (Rt.hE 1).isSome = true := rfl;have zz : bne (0 : Int) 0 = false := rfl;have z5 : bne (5 : Int) 5 = false := rfl;have z1 : bne (1 : Int) 1 = false := rfl;obtain ⟨s, es, hx⟩ := Jz;have hi := hx.inv;have er : Rt.hE 1 = some rA := rfl;refine gO ?_;refine bm fun qs w0 Oe HN R LF => ?_;have BN : aI w0 ⟨qs, 0, none⟩ 3 = some (c8 sh) := ax R 0 3 (by simp [c8]);refine gO ?_;refine ak (Fa w0 4) ?_;rintro r w1 ⟨ah, fp, rfl, HX, _, DJ, oe⟩;rw [es] at HX;obtain ⟨bh, rfl, _⟩ := id HX;refine aQ tR ?_;refine ak (Rt.oi w1 1) ?_;rintro r w2 ⟨vn, ar, fr, rfl, HY, _, HP⟩;rw [er] at HY;obtain ⟨br, rfl, _⟩ := id HY;have LG := HX.aa vn;have o2 := oe.nil vn;refine bj BH zz ?_;refine bm fun q w3 hq vw nv kX => ?_;refine gO ?_;rw [ai rfl rfl, ai rfl rfl];refine gO ?_;refine jc fun p w4 hp LH ko K => ?_;have o4 := (o2.nil kX).nil K;have DK := nv.aa K;refine gO ?_;refine aE (14 :: 15 :: 16 :: 52 :: 53 :: 54 :: 55 :: 56 :: 57 :: 58 :: 59 :: 60 :: 61 :: 62 :: 63 :: 64 :: 65 :: 66 :: 67 :: 68 :: []) (fun g w' => ∃ j : Nat, g 52 = .int .i64 j ∧ j ≤ 2 ∧ ad [] w4 w') (fun g _ => bU 2 52 g) ⟨0, by simp only [go_sem]; rfl, by omega, ad.refl _ _⟩ fun g w5 hI k => ?_;obtain ⟨j, L, hj, E⟩ := hI;refine aQ L ?_;refine cD (fun u => ?_) (fun Gz => ?_)
  · have u : j < 2 := by have : (j : Int) < 2 := by simpa using u
                         omega
    have e1 : (0 : Int) ≤ (j : Int) ∧ (j : Int) < ((2 : Nat) : Int) := ⟨by omega, by omega⟩;obtain ⟨a, fz, hc, d⟩ : ∃ a fz, w5.cell? ⟨p, j, none⟩ = some (.pointer a) ∧ HR w5 a fz none := by
      have S := ko.aa E;rcases (show j = 0 ∨ j = 1 by omega) with rfl | rfl
      · exact ⟨none, [], by rw [S.cell]; rfl, .inl ⟨rfl, rfl⟩⟩
      · exact ⟨some ⟨q, 0, none⟩, [q], by rw [S.cell]; rfl, .inr ⟨q, rfl, rfl, DK.aa E⟩⟩
    refine jr L (eq_true e1) @Int.toNat_natCast @Nat.mul_one hc ?_;refine ao (Ce d _ _ _) ?_;refine db z1 L (au j (by omega)) ?_;refine k _ w5 ⟨j + 1, ?_, by omega, E⟩ ?_
    · simp only [go_sem]
    · exact aZ L
  clear k;have o5 := o4.nil E;have JG := ((LG.aa kX).aa K).aa E;have zs := ((HY.aa kX).aa K).aa E;refine gO ?_;refine bm fun q6 w6 Hl vm pa p9 => ?_;refine gO ?_;rw [ai rfl rfl, ai rfl rfl];refine gO ?_;refine jc fun p7 w7 Of Bb o' lx => ?_;have JH := p9.nil lx;have BU := pa.aa lx;refine gO ?_;refine aE (18 :: 19 :: 20 :: 73 :: 74 :: 75 :: 76 :: 77 :: 78 :: 79 :: 80 :: 81 :: 82 :: 83 :: 84 :: 85 :: 86 :: 87 :: 88 :: 89 :: []) (fun g w' => ∃ j : Nat, g 73 = .int .i64 j ∧ j ≤ 2 ∧ ad [] w7 w') (fun g _ => bU 2 73 g) ⟨0, by simp only [go_sem]; rfl, by omega, ad.refl _ _⟩ fun g8 w8 hI k => ?_;obtain ⟨M, N, Og, F⟩ := hI;refine aQ N ?_;refine cD (fun u => ?_) (fun Gz => ?_)
  · have u : M < 2 := by have : (M : Int) < 2 := by simpa using u
                         omega
    have e1 : (0 : Int) ≤ (M : Int) ∧ (M : Int) < ((2 : Nat) : Int) := ⟨by omega, by omega⟩;obtain ⟨a, fz, hc, d⟩ : ∃ a fz, w8.cell? ⟨p7, M, none⟩ = some (.pointer a) ∧ Rt.PR w8 a fz none := by
      have T := o'.aa F;rcases (show M = 0 ∨ M = 1 by omega) with rfl | rfl
      · exact ⟨none, [], by rw [T.cell]; rfl, .inl ⟨rfl, rfl⟩⟩
      · exact ⟨some ⟨q6, 0, none⟩, [q6], by rw [T.cell]; rfl, .inr ⟨q6, rfl, rfl, BU.aa F⟩⟩
    refine jr N (eq_true e1) @Int.toNat_natCast @Nat.mul_one hc ?_;refine ao (Cf ((JG.aa JH).aa F) d _ _) ?_;refine db z1 N (au M (by omega)) ?_;refine k _ w8 ⟨M + 1, ?_, by omega, F⟩ ?_
    · simp only [go_sem]
    · exact aZ N
  clear k;have HZ := JH.nil F;have o8 := o5.nil HZ;have LI := JG.aa HZ;have Hy := zs.aa HZ;refine gO ?_;refine bm fun q9 w9 Es yH H0 oa => ?_;refine gO ?_;rw [ai rfl rfl, ai rfl rfl];refine gO ?_;refine jc fun LJ yI LK zu oj U => ?_;have G := oa.nil U;have H2 := H0.aa U;have V := o8.nil G;have O := R.aa V;refine gO ?_;refine aE (22 :: 23 :: 24 :: 25 :: 26 :: 27 :: 28 :: 29 :: 30 :: 31 :: 32 :: 94 :: 95 :: 96 :: 97 :: 98 :: 99 :: 100 :: 101 :: 102 :: 103 :: 104 :: 105 :: 106 :: 107 :: 108 :: 109 :: 110 :: 111 :: 112 :: 113 :: 114 :: 115 :: 116 :: 117 :: 118 :: 119 :: 120 :: 121 :: 122 :: 123 :: 124 :: 125 :: 126 :: 127 :: 128 :: 129 :: 130 :: 131 :: 132 :: 133 :: 134 :: 135 :: 136 :: 137 :: 138 :: 139 :: 140 :: 141 :: 142 :: 143 :: 144 :: 145 :: 146 :: 147 :: 148 :: 149 :: 150 :: 151 :: 152 :: 153 :: 154 :: 155 :: 156 :: 157 :: 158 :: 159 :: 160 :: 161 :: 162 :: 163 :: 164 :: 165 :: 166 :: 167 :: 168 :: 169 :: 170 :: 171 :: 172 :: 173 :: 174 :: 175 :: 176 :: 177 :: 178 :: 179 :: 180 :: 181 :: 182 :: 183 :: 184 :: 185 :: 186 :: 187 :: 188 :: 189 :: 190 :: 191 :: 192 :: 193 :: 194 :: 195 :: 196 :: 197 :: 198 :: 199 :: 200 :: 201 :: 202 :: 203 :: 204 :: 205 :: 206 :: 207 :: 208 :: 209 :: 210 :: 211 :: 212 :: 213 :: 214 :: 215 :: 216 :: 217 :: 218 :: 219 :: 220 :: []) (fun g w' => ∃ j : Nat, g 94 = .int .i64 j ∧ j ≤ 2 ∧ ad [] yI w') (fun g _ => bU 2 94 g) ⟨0, by simp only [go_sem]; rfl, by omega, ad.refl _ _⟩ fun g11 vZ hI k => ?_;obtain ⟨P, Q, Oh, l⟩ := hI;refine aQ Q ?_;refine cD (fun u => ?_) (fun Gz => ?_)
  · have u : P < 2 := by have : (P : Int) < 2 := by simpa using u
                         omega
    have e1 : (0 : Int) ≤ (P : Int) ∧ (P : Int) < ((2 : Nat) : Int) := ⟨by omega, by omega⟩;obtain ⟨a, hc, d⟩ : ∃ a, vZ.cell? ⟨LJ, P, none⟩ = some (.pointer a) ∧ KZ vZ a := by
      have H := oj.aa l;rcases (show P = 0 ∨ P = 1 by omega) with rfl | rfl
      · exact ⟨none, by rw [H.cell]; rfl, .inl rfl⟩
      · exact ⟨some ⟨q9, 0, none⟩, by rw [H.cell]; rfl, .inr ⟨q9, rfl, H2.aa l⟩⟩
    have Fb : aI vZ ⟨qs, 0, none⟩ 3 = some (c8 sh) := ax (O.aa l) 0 3 (by simp [c8]);refine kZ Q (eq_true e1) @Int.toNat_natCast @Nat.mul_one hc Fb ?_;refine aH (zv d sh _) fun HA o => ?_;have d := d.aa o;refine gO ?_;refine aH (zw d _) fun HC m => ?_;have d := d.aa m;refine gO ?_;refine aH (zx d) fun wm t => ?_;have d := d.aa t;refine gO ?_;refine aH (ub d) fun ET B => ?_;have d := d.aa B;refine gO ?_;refine bm fun tb Oi Lz LL Fc H3 => ?_;refine gO ?_;refine dR (n := 8) (i := 0) Fc (by rfl) (by simp [jG]) (by simp [jG, bu]) fun H4 LN C H5 => ?_;have Oj := B.size;have JI : ad [] ET H4 := H3.trans H5 fun y hy => by simp only [bp] at hy; exact .inr (by omega)
    have d := d.aa JI;have Fe : ad [] yI H4 := ((((l.nil o).nil m).nil t).nil B).nil JI;have C : At H4 tb (jG 0 0) := C;refine gO ?_;refine aH (uc d) fun LO I => ?_;have d := d.aa I;have Ff := C.aa I;have H6 : aI LO ⟨tb, 0, none⟩ 8 = some (jG 0 0) := by rw [ax Ff 0 8 (by simp [jG])]; rfl
    have zl : ((0 : Nat) : Int) = 0 := rfl;have LP : IntKind.i64.wrap 0 = 0 := rfl;refine jr zl @Int.add_zero LP zz H6 ?_;have LQ : rV true 8 (.agg ⟨jG 0 0⟩) (.agg ⟨[.int .i64 0, .int .i64 0, .int .i64 0, .int .i64 0, .int .i64 0, .int .i64 0, .int .i64 0, .int .i64 0]⟩) = some (.bool false) := by
      exact (wA true 8 (jG 0 0) [.int .i64 0, .int .i64 0, .int .i64 0, .int .i64 0, .int .i64 0, .int .i64 0, .int .i64 0, .int .i64 0] rfl rfl).trans (by simp [jG, bS, wB])
    refine db LQ z5 zz ?_;refine ak (wv d _) ?_;rintro _ _ rfl;refine gO ?_;refine ak (Cb d _) ?_;rintro _ _ rfl;refine gO ?_;refine aH (zy d _ _ _) fun Jn W => ?_;have d := d.aa W;refine aQ z5 ?_;refine aH (Cc d _ _ _) fun Jo X => ?_;have d := d.aa X;refine aQ z5 ?_;refine aH (zA d) fun Ol Y => ?_;have d := d.aa Y;refine bj zl zz ?_;refine aH (zB d) fun Om Z => ?_;have d := d.aa Z;refine bj zl zz ?_;refine aH (ph d) fun On Fg => ?_;have d := d.aa Fg;refine bj zl zz ?_;refine aH (Cd d) fun Oo Fh => ?_;have d := d.aa Fh;refine gO ?_;refine aH (zC d) fun Oq Fi => ?_;have d := d.aa Fi;refine gO ?_;refine aH (HJ d _ _) fun LR H7 => ?_;refine bj Q (au P (by omega)) ?_;have Fj := ((((((((I.nil W).nil X).nil Y).nil Z).nil Fg).nil Fh).nil Fi).nil H7);refine k _ LR ⟨P + 1, ?_, by omega, Fe.nil Fj⟩ ?_
    · simp only [go_sem]
    · exact aZ Q
  clear k;have J := (LI.aa G).aa l;have Ch := (Hy.aa G).aa l;have Gu := (LF.nil V).nil l;refine gO ?_;refine ak (Ez J hi Ch (by decide) hx.E8 (by rw [hx.o0]; simp) (by rw [oo]; simp) (wd := 2) (by omega) false) ?_;rintro r HA ⟨o, b, fk, rfl, D, gb⟩;refine aQ (fx (rfl : (0 : Int) = 0)) ?_;refine ao (Be D (a := none) (fp := []) (.inl ⟨rfl, rfl⟩) _) ?_;refine gO ?_;refine ao (Bf D (J.aa o) (c := none) (fr := []) (.inl ⟨rfl, rfl⟩)) ?_;refine gO ?_;refine bm fun H8 HC LS EO qm m => ?_;refine gO ?_;refine ao (Be (D.aa m) (a := some ⟨H8, 0, none⟩) (fp := [H8]) (.inr ⟨H8, rfl, rfl, qm⟩) _) ?_;refine gO ?_;refine bm fun H9 wm LU EP wo t => ?_;refine gO ?_;refine ao (Bf ((D.aa m).aa t) (((J.aa o).aa m).aa t) (c := some ⟨H9, 0, none⟩) (fr := [H9]) (.inr ⟨H9, rfl, rfl, wo⟩)) ?_;refine gO ?_;refine aH (ud wm) fun ET B => ?_;refine gO ?_;exact (((Gu.nil o).nil m).nil t).nil B
section
open Go.ChangeShapes Go.WideShapes Go.ChangeAt Go.RowKit
section
variable {H:Type} {enc:TypeId×Value→H} {P:Program}
theorem jj (r:laidOutB P=true) {W u:World} (w:Below W.heap.size W u): ∀(j:List TypeId) (vs:List Value) (ds:List (DataW H)) (l:List MemPlace),(j.all fun t=>P.readableRec t&&decide (t<P.types.size))=true→
  DataW.TrodAll enc P W 0 (fun _=>true) true j vs ds l→(∀x∈l,x.block<W.heap.size)→DataW.TrodAll enc P u 0 (fun b=>decide (b<W.heap.size)) true j vs ds l
 | [],[],[],_,_,h,_=>h
 | [],_::_,_,_,_,h,_=>h.elim
 | [],[],_::_,_,_,h,_=>h.elim
 |_::_,[],_,_,_,h,_=>by cases h
 |_::_,_::_,[],_,_,h,_=>by cases h
 |t::j,v::vs,d::ds,l,m,h,k=>by
  obtain⟨p,q,y,z,rfl⟩:=h
  simp only[List.all_cons,Bool.and_eq_true,decide_eq_true_eq]at m
  exact⟨p,q,Below.trod r m.1.1 m.1.2 y w (fun x o=>k x (List.mem_append_left _ o)),jj r w j vs ds q m.2 z (fun x o=>k x (List.mem_append_right _ o)),rfl⟩
theorem wC {f:Func} {s:ChangeSpec} {W l:World} {args:Array Value} {ds:List (DataW H)} {p:List MemPlace} {b:TypeId} (q:laidOutB P=true) (r:(f.params.toList.all fun t=>P.readableRec t&&decide (t<P.types.size))=true)
  (u:s.vars=[]) (m:DataW.Whole enc P f.params.toList s.vars false W args.toList ds [] (p++[])) (w:DataW.TrodAll enc P W 0 (fun _=>true) true f.params.toList args.toList ds p)
  (d:s.fn H (ds++[])= {results:=[.lit (.bool true)],args:=ds}) (y:f.resultTypes=#[b]) (j:P.underlying b=some .bool) (o:Below W.heap.size W l):
  s.post enc P f false true false false W args (.bool true) l:=by
 have k: ∀x∈p,x.block<W.heap.size:=fun x z=>m.lt x (List.mem_append_left _ z);refine⟨ds,[],p++[],[],p,[],m,?_,?_,?_,o.frame _,fun h=>by cases h⟩
 ·rw[d,y];exact trodAll_mk1 (shut_bool j true)
 ·rw[d];exact jj q o _ _ _ _ r w k
 ·rw[d,u];rfl
end
theorem zE {P:Program} {f:FuncId} {args:List Value} {W:World} {Q:Value→World→Prop} (h:Cs P f args W fun r b=>r=.bool true∧ad [] W b) (d: ∀b,Below W.heap.size W b→Q (.bool true) b):
  Cs P f args W Q:=h.mono fun r b ⟨e,j⟩=>by rw[e];exact d b (j.below (by simp))
end
section
open Go.ChangeShapes Go.WideShapes Go.ChangeAt Go.RowKit Go.Deep
theorem Tryz.own:ownKnob Tryz.prog.godebug=none:=by kernel_rfl
theorem Tryz.laidOut:laidOutB Tryz.prog=true:=by kernel_rfl
end
section
open Go.ChangeShapes Go.WideShapes Go.ChangeAt Go.RowKit Go.Deep
set_option maxRecDepth 100000 in
theorem rW {H:Type} {enc:TypeId×Value→H} {W:World} {v:Value} {d:DataW H} {t:List MemPlace} {r:Reach} {u:Nat} (b:Value.okWide Tryz.prog W r u 67 v) (h:DataW.Trod enc Tryz.prog W 0 (fun _=>true) true 67 v d t): ∃p:Sh,v=.agg ⟨c8 p⟩:=by
 have w:Tryz.prog.cellsOf 67=3:=by kernel_rfl
 have y:Tryz.prog.cellsOf 3=1:=by kernel_rfl
 obtain⟨⟨cs⟩,rfl,_⟩:=okWide_struct Tryz.underlying67 b;obtain⟨k,h⟩:=h;obtain⟨K,L,M,m,_,j,z,B,C⟩:=trod_struct3 Tryz.underlying67 h;rw[w]at j;have j:cs.length=3:=j
 match cs,j with
 | [D,E,F],_=>
  obtain⟨G,l,_⟩:=DataW.trod_int Tryz.underlying3 z;obtain⟨I,o,_⟩:=DataW.trod_int Tryz.underlying3 B;obtain⟨J,q,_⟩:=DataW.trod_int Tryz.underlying3 C;simp only[Value.cells,y,List.drop_zero,List.take_succ_cons,List.take_zero,List.drop_succ_cons,List.cons.injEq,and_true]at l o q;exact⟨(G,I,J),by rw[l,o,q];rfl⟩
end
set_option maxRecDepth 100000
theorem ny:(Rows.countNoneRow.wf (OpenSpec.ofChange Rows.countNoneSpec))=true:=by kernel_rfl
theorem nz:(laidOutB Tryz.pinned.checked.prog)=true:=by kernel_rfl
theorem nA:(mapsRowed Tryz.pinned.checked.prog)=true:=by kernel_rfl
theorem nB:(Tryz.f13.params.all (Tryz.pinned.checked.prog.readableRec ·))=true:=by kernel_rfl
theorem nC:(namedTie Tryz.pinned.checked.prog Rows.countNoneRow.named Rows.countNoneSpec.vars)=true:=by kernel_rfl
theorem nD:((Rows.countNoneRow.stops== []))=true:=by kernel_rfl
theorem nE:((Tryz.pinned.checked.prog.stops== []))=true:=by kernel_rfl
theorem nF:((Rows.countNoneRow.knobs== []))=true:=by kernel_rfl
theorem nG:((Tryz.pinned.checked.prog.stopKnobs== []))=true:=by kernel_rfl
theorem lW:((Rows.countNoneRow.inPlace==Tryz.pinned.checked.prog.inPlace 13))=true:=by kernel_rfl
theorem lX:((Rows.countNoneRow.unfollowed==Tryz.pinned.checked.prog.unfollowed 13))=true:=by kernel_rfl
theorem lY:((Rows.countNoneRow.recurses==Tryz.pinned.checked.prog.recurses 13))=true:=by kernel_rfl
theorem lZ:((Rows.countNoneRow.named==Tryz.pinned.checked.prog.varsNamed 13))=true:=by kernel_rfl
theorem l0:((Rows.countNoneRow.maps==(Tryz.f13.params.toList++Rows.countNoneSpec.plain.varTypes Tryz.pinned.checked.prog).any (Tryz.pinned.checked.prog.mapsRec ·)))=true:=by kernel_rfl
theorem l6:((Rows.countNoneRow.ifaces==(Tryz.f13.params.toList++Rows.countNoneSpec.plain.varTypes Tryz.pinned.checked.prog).any (Tryz.pinned.checked.prog.ifacesRec ·)))=true:=by kernel_rfl
theorem l7:((Rows.countNoneRow.mapsOut==Tryz.pinned.checked.prog.mapsAmong Tryz.f13.resultTypes.toList))=true:=by kernel_rfl
theorem l8:((Rows.countNoneRow.loops==(Tryz.f13.params.toList++Rows.countNoneSpec.plain.varTypes Tryz.pinned.checked.prog).any (Tryz.pinned.checked.prog.loopsFrom ·)))=true:=by kernel_rfl
theorem l9:((Rows.countNoneRow.wideKeys==(Tryz.f13.params.toList++Rows.countNoneSpec.plain.varTypes Tryz.pinned.checked.prog++Tryz.f13.resultTypes.toList).any (Tryz.pinned.checked.prog.wideKeysFrom ·)))=true:=by kernel_rfl
theorem l':(Rows.countNoneSpec.vars.all (Tryz.pinned.checked.prog.varReadable ·))=true:=by kernel_rfl
theorem ma:(Tryz.f13.resultTypes.all (fun t=>Tryz.pinned.checked.prog.readableRec t&&decide (t<Tryz.pinned.checked.prog.types.size)))=true:=by kernel_rfl
theorem mc:((Rows.countNoneRow.ifacesOut==Tryz.f13.resultTypes.toList.any (Tryz.pinned.checked.prog.ifacesRec ·)))=true:=by kernel_rfl
theorem me:((Rows.countNoneRow.loopsOut==Tryz.f13.resultTypes.toList.any (Tryz.pinned.checked.prog.loopsFrom ·)))=true:=by kernel_rfl
theorem mf:((Rows.countNoneRow.plainKeys==Tryz.pinned.checked.prog.plainKeys))=true:=by kernel_rfl
theorem mg:(Rows.countNoneRow.shortTexts.isNone)=true:=by kernel_rfl
theorem mh:(Tryz.pinned.checked.prog.stopsHeard)=true:=by kernel_rfl
theorem mi:(Tryz.pinned.checked.prog.mayEnter)=true:=by kernel_rfl
theorem mj:((Rows.countNoneRow.lifted==Tryz.pinned.checked.prog.liftsFinal))=true:=by kernel_rfl
theorem ml:((Tryz.pinned.checked.prog.make==some Rows.countNoneRow.make))=true:=by kernel_rfl
theorem mm:((Rows.countNoneRow.kinds==(if Rows.countNoneRow.domain.isEmpty then []else Tryz.f13.params.toList.map fun t=>match Tryz.pinned.checked.prog.underlying t with|some (.int k)=>some k|_=>none)))=true:=by kernel_rfl
theorem mn:((Rows.countNoneRow.pinned==Rows.countNoneRow.pinnedBy))=true:=by kernel_rfl
theorem mo:((Rows.countNoneRow.veiled==(Tryz.f13.params.toList++Rows.countNoneSpec.plain.varTypes Tryz.pinned.checked.prog++Tryz.f13.resultTypes.toList).any (Tryz.pinned.checked.prog.veiledRec ·)))=true:=by kernel_rfl
theorem mq:(Rows.countNoneRow.veiledFits Tryz.pinned.checked.prog Tryz.f13.params.toList (Tryz.f13.params.toList++Rows.countNoneSpec.plain.varTypes Tryz.pinned.checked.prog++Tryz.f13.resultTypes.toList))=true:=by kernel_rfl
theorem bI {a b:Bool} (h:a=true) (k:b=true):(a&&b)=true:=by rw[h,k];rfl
theorem qp:joinedFacts Tryz.pinned.checked.prog 13 Tryz.f13 Rows.countNoneSpec Rows.countNoneRow=true:=by
 unfold joinedFacts;exact(bI (bI (bI (bI (bI (bI (bI (bI (bI (bI (bI (bI (bI (bI (bI (bI (bI (bI (bI (bI (bI (bI (bI (bI (bI (bI (bI (bI (bI (bI (bI ny nz) nA) nB) nC) nD) nE) nF) nG) lW) lX) lY) lZ) l0) l6) l7) l8) l9) l') ma) mc) me) mf) mg) mh) mi) mj) ml) mm) mn) mo) mq)
section
open Go.ChangeShapes Go.WideShapes Go.ChangeAt Go.RowKit
set_option maxRecDepth 100000 in
theorem kq (y:Os) (k:y.Started) (H:Type) (enc:TypeId×Value→H):
  ReturnsInHanded {} Tryz.checked y 13 .any (Rows.countNoneSpec.pre6 enc Tryz.prog Tryz.f13 Rows.countNoneRow.domain false) (Rows.countNoneSpec.post enc Tryz.prog Tryz.f13 false true false false):=by
 refine returnsInHanded_of_change (C:=Tryz.checked) Tryz.own k (by kernel_rfl) Tryz.func13
  (ChangeSpec.witness6 (enc:=enc) (C:=Tryz.checked) false ⟨#[],#[.int .i64 0,.int .i64 0,.int .i64 0,.agg #[.int .i64 0,.int .i64 0,.int .i64 0]],[]⟩ 8 (by kernel_rfl) (by kernel_rfl) (by kernel_rfl) (by kernel_rfl)) ?_
 intro W base args ds gs before m z B _;have d: ∀(j:Nat) t v,Tryz.f13.params[j]? =some t→args[j]? =some v→Value.okWide Tryz.prog W .any base t v:=m;have o:=z;obtain⟨p,q,r,D,rfl,E,F⟩:=z;have u:DataW.TrodAll enc Tryz.prog W 0 (fun _=>true) true Tryz.f13.params.toList args.toList ds p:=r;have w:=u;obtain⟨rfl,rfl⟩:=trodVars_none D;rw[Tryz.params13]at u d;obtain⟨G,I,d0,J,p0,q0,l,rfl,rfl,K,L⟩:=trodAll_cons u;obtain⟨M,N,d1,O,p1,q1,rfl,rfl,rfl,P,Q⟩:=trodAll_cons L;obtain⟨R,S,d2,T,p2,q2,rfl,rfl,rfl,U,V⟩:=trodAll_cons Q;obtain⟨X,Y,d3,Z,p3,q3,rfl,rfl,rfl,h3,r3⟩:=trodAll_cons V;obtain⟨rfl,rfl,rfl⟩:=trodAll_nil r3;obtain⟨args⟩:=args;simp only at l;subst l;obtain⟨x0,rfl,rfl,rfl,_⟩:=open_int Tryz.underlying3 (d 0 3 G rfl rfl) K;obtain⟨x1,rfl,rfl,rfl,_⟩:=open_int Tryz.underlying3 (d 1 3 M rfl rfl) P;obtain⟨x2,rfl,rfl,rfl,_⟩:=open_int Tryz.underlying3 (d 2 3 R rfl rfl) U;obtain⟨x3,rfl⟩:=rW (d 3 67 X rfl rfl) h3;exact zE (wy x0 x1 x2 x3) fun W' hb=>wC (b:=4) Tryz.laidOut (by kernel_rfl) rfl o w rfl (by kernel_rfl) Tryz.underlying4 hb
theorem YthamnonkfepafaaGreatCountNone:Rows.CountNoneSaid:=
 OpenClaim.holds_of_wide 13 Tryz.f13 rfl rfl rfl rfl rfl rfl rfl ⟨rfl,rfl,rfl,rfl,rfl⟩ rfl rfl rfl rfl rfl (by kernel_rfl) Tryz.func13 qp
  (of_decide_eq_true (by kernel_rfl)) (by unfold Func.isWrapper;first|(rw[if_pos (by decide+kernel)];kernel_rfl)|(rw[if_neg (by decide+kernel)];exact⟨rfl,rfl⟩))
  (fun d b H enc _=>kq d b H enc)
end
end Go.Proofs.YthamnonkfepafaaGreat
