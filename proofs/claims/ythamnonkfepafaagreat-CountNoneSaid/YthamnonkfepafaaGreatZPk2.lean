import Derived.Test.YthamnonkfepafaaGreatZPk1
import Derived.ChangeSlices
import Derived.Test.YthamnonkfepafaaGreatZCode
import Derived.Test.YthamnonkfepafaaGreatZCodeD
import Derived.Test.YthamnonkfepafaaGreatZCode
import Derived.Test.YthamnonkfepafaaGreatZCodeD
import Derived.Test.YthamnonkfepafaaGreatZCode
import Derived.Test.YthamnonkfepafaaGreatZCodeD
import Derived.Test.YthamnonkfepafaaGreatZCodeD
set_option linter.unusedSimpArgs false
set_option linter.unusedVariables false
namespace Go.Proofs.YthamnonkfepafaaGreat
set_option maxRecDepth 100000
section
variable {l:List Nat} {lo:Nat} {a:Option Addr} {w:World}
def sK (n:Nat) (t:Nat) (g:Env):Nat:=match g t with|.slice _ l _=>n-l|_=>0
theorem rj {n t:Nat} {g:Env} {l c:Nat} (h:g t=.slice a l c):sK n t g=n-l:=by unfold sK;rw[h]
def aX (l:List Nat) (lo b:Nat):List Nat:=(List.range b).filter fun j=>decide (lo≤j)&&decide (l.getD j 0=1)
theorem fi (l:List Nat) (lo k:Nat):aX l lo (k+1)=aX l lo k++(if lo≤k∧l.getD k 0=1 then [k]else []):=by
 unfold aX;rw[List.range_succ,List.filter_append];congr 1;by_cases h:lo≤k∧l.getD k 0=1
 ·rw[if_pos h];simp[h.1];simpa using h.2
 ·rw[if_neg h];simp;intro b;simpa using fun d=>h ⟨b,by simpa using d⟩
theorem kH {k i:Nat} (o:k≤i) (h: ∀j,k≤j→j<i→l.getD j 0≠1):aX l lo i=aX l lo k:=by
 obtain⟨d,rfl⟩: ∃d,i=k+d:=⟨i-k,by omega⟩
 induction d with
 |zero=>rfl
 |succ d m=>
  rw[show k+(d+1)=k+d+1 by omega,fi,if_neg,List.append_nil]
  ·exact m (by omega) fun j b q=>h j b (by omega)
  ·intro b;exact h (k+d) (by omega) (by omega) b.2
theorem iZ (l:List Nat) (lo b:Nat):(aX l lo b).length≤b:=by
 unfold aX;have:=List.length_filter_le (fun j=>decide (lo≤j)&&decide (l.getD j 0=1)) (List.range b);simpa using this
theorem jz (l:List Nat) (lo:Nat):aX l lo lo=[]:=by
 unfold aX;rw[List.filter_eq_nil_iff];intro j b;have:=List.mem_range.1 b;simp;omega
theorem de {b j:Nat}:j∈aX l lo b↔(lo≤j∧j<b)∧l.getD j 0=1:=by
 unfold aX;simp only[List.mem_filter,List.mem_range,Bool.and_eq_true,decide_eq_true_eq];omega
def dy (l:List Nat):List Int:=l.map fun i=>((2*i:Nat):Int)
theorem eJ (l:List Nat):(dy l).length=l.length:=by simp[dy]
theorem kT (l m:List Nat):dy (l++m)=dy l++dy m:=by simp[dy]
def HL.aw (s:HL):List Nat:=aX s.st 0 s.st.length
def du (m:HO):List Int:=match m with|none=>[]|some s=>dy s.aw
theorem sL (k:Nat):(MT.jl (some (1,l)) (k:Int) 1=none∧ ∀j,k≤j→l.getD j 0≠1)∨
  ∃i,MT.jl (some (1,l)) (k:Int) 1=some i∧k≤i∧i<l.length∧l.getD i 0=1∧ ∀j,k≤j→j<i→l.getD j 0≠1:=by
 by_cases h: ∃j,k≤j∧l.getD j 0=1
 ·obtain⟨i,⟨d,b⟩,u⟩: ∃i,(k≤i∧l.getD i 0=1)∧ ∀j,j<i→ ¬(k≤j∧l.getD j 0=1):=by
   obtain⟨j,r⟩:=h
   induction j using Nat.strongRecOn with
   |_ j y=>
    by_cases w: ∃m,m<j∧(k≤m∧l.getD m 0=1)
    ·obtain⟨m,d,b⟩:=w;exact y m d b
    ·exact⟨j,r,fun m d b=>w ⟨m,d,b⟩⟩
  have q:i<l.length:=by
   rcases Nat.lt_or_ge i l.length with t|t
   ·exact t
   ·rw[List.getD_eq_getElem?_getD,List.getElem?_eq_none t]at b;simp at b
  refine .inr ⟨i,?_,d,q,b,fun j z B C=>u j B ⟨z,C⟩⟩;unfold MT.jl;simp only;refine iF ?_ q fun j r=>?_
  ·simp only[Bool.and_eq_true,decide_eq_true_eq];omega
  ·have:=u j r;simp only[Bool.and_eq_false_iff,decide_eq_false_iff_not];by_cases o:k≤j
   ·right;intro e;exact this ⟨o,by omega⟩
   ·left;omega
 ·refine .inl ⟨?_,fun j d b=>h ⟨j,d,b⟩⟩;unfold MT.jl;simp only;refine fF fun j r=>?_;simp only[Bool.and_eq_false_iff,decide_eq_false_iff_not];by_cases o:k≤j
  ·right;intro e;exact h ⟨j,o,by omega⟩
  ·left;omega
theorem rk {b:Nat} {s:HL} {W X Y cW:Nat} {yB yW:List Value} {Z sg pb pg bl bf:Nat} (h:ke w b s W X Y cW yB yW Z sg pb pg bl bf) (lo d:Nat) (M:lo≤d) (OQ:d≤4096):
  Cs Tryz.prog 122 [.pointer (some ⟨b,0,none⟩),.int .i64 ((2*lo:Nat):Int),.int .i64 ((2*d:Nat):Int)] w fun v w'=>ad [] w w'∧ ∃t,Sl w' 1 v (aX s.st lo d).length (ints (dy (aX s.st lo d))) t∧ ∀y,y∈t→w.heap.size≤y:=by
 have e3:IntKind.i64.wrap (((2*lo:Nat):Int).tdiv 2)=(lo:Int):=by rw[oD _ (by omega)];omega
 have GM:=h.ok.sl;have hB:=h.ok.ju;refine en [] ?_;refine bj h.hb.cell e3 ?_;refine aH (xS (gI.mk h.hs) (lo:Int) 1) fun w1 N=>?_;refine gO ?_;refine aE (7::8::9::20::21::22::23::24::25::26::27::28::29::30::31::32::33::34::35::36::37::38::39::40::41::42::[]) (fun g w'=> ∃k t,lo≤k∧k≤d∧g 8=.int .i64 (xP (MT.jl (some (1,s.st)) (k:Int) 1))∧g 9=.int .i64 (MT.err (some (1,s.st)) (MT.jl (some (1,s.st)) (k:Int) 1))∧
   Sl w' 1 (g 7) (aX s.st lo k).length (ints (dy (aX s.st lo k))) t∧(∀y,y∈t→w.heap.size≤y)∧ad [] w w') (fun g _=>sK (d+1) 7 g)
  ⟨lo,[],Nat.le_refl _,M,by simp only[go_sem],by simp only[go_sem],by simp only[go_sem];rw[jz];exact Sl.pe _,by simp,N⟩ fun g w2 hI u=>?_
 obtain⟨k,t,J0,C,H,I,J,m,o⟩:=hI;rcases sL (l:=s.st) k with⟨K,r⟩|⟨i,K,O,OR,P,r⟩
 ·have Q:MT.err (some (1,s.st)) none=4:=rfl;rw[K,Q]at I;refine bj I (fj (show¬(4:Int)=0 by omega)) ?_;refine⟨o,t,?_,m⟩;rw[kH C fun j R _=>r j R];exact J
 ·have Q:MT.err (some (1,s.st)) (some i)=0:=rfl;have e8:xP (some i)=(i:Int):=rfl;rw[K,Q]at I;rw[K,e8]at H;have em:IntKind.i64.wrap (2*(i:Int))=((2*i:Nat):Int):=by rw[IntWalk.i64_in _ (by omega)];omega
  refine jI I H (fx (rfl:(0:Int)=0)) em ?_;refine cD (fun z=>?_) (fun D=>?_)
  ·have z:i<d:=by
    have:((2*i:Nat):Int)<((2*d:Nat):Int):=by simpa using z
    omega
   refine bj H em ?_;rw[ai rfl rfl];refine gO ?_;refine jc fun q w3 hq vw E B=>?_;refine gO ?_;have hl:=iZ s.st lo k;refine nu (J.aa B) (bO.at E rfl) (by simp[bu]) (by omega) (by omega) ?_;intro v4 w4 f4 F S T _;have U:ad [] w w4:=(o.nil B).trans T fun y L=>.inr (m y L);have ei:IntKind.i64.wrap ((i:Int)+1)=((i+1:Nat):Int):=au i (by omega);have V:=h.aa U;refine db V.hb.cell H ei ?_;refine aH (xS (gI.mk V.hs) ((i+1:Nat):Int) 1) fun w5 G=>?_;have eo:aX s.st lo (i+1)=aX s.st lo k++[i]:=by
    rw[fi,if_pos ⟨by omega,P⟩,kH O r]
   refine gO ?_;refine u _ w5 ⟨i+1,f4,by omega,z,?_,?_,?_,?_,U.nil G⟩ ?_
   ·simp only[go_sem]
   ·simp only[go_sem]
   ·simp only[go_sem];rw[eo];have:=F.aa G;simpa[dy,ints]using this
   ·intro y L;have:=o.size;have:=B.size;rcases S with rfl|rfl
    ·exact m y L
    ·simp only[bp]at L;omega
   ·obtain⟨a7,c7,e7⟩:=J.val;obtain⟨a4,c4,rfl⟩:=F.val;rw[rj e7,rj (a:=a4) (c:=c4) (by simp only[go_sem];rfl)];omega
  ·have D: ¬i<d:=by
    have: ¬((2*i:Nat):Int)<((2*d:Nat):Int):=by simpa using D
    omega
   refine gO ?_;refine⟨o,t,?_,m⟩;rw[kH C fun j R h2=>r j R (by omega)];exact J
theorem tQ {fp:List Nat} {m:HO} (h:HR w a fp m):Cs Tryz.prog 27 [.pointer a] w fun v w'=>ad [] w w'∧ ∃j,Sl w' 1 v (du m).length (ints (du m)) j∧ ∀y,y∈j→w.heap.size≤y:=by
 refine en [] ?_;refine gO ?_;refine ao (j8 h) ?_
 match m,h with
 |none,h=>(repeat(first|with_reducible(first|refine nx ?_|refine ch rfl ?_)|simp only[go_sem]));exact⟨ad.refl _ _,[],Sl.pe _,by simp⟩
 |some s,⟨b,k,z,B,C,cW,yB,yW,D,E,F,G,H,I,J,d⟩=>
  subst k;have l:=d.ok.sl;have o:=d.ok.wl;have K:=d.ok.ju;have q:((s.W.length:Nat):Int)=((2*s.st.length:Nat):Int):=by omega
  refine bj d.hb.cell q ?_;refine ak (rk d 0 s.st.length (by omega) (by omega)) ?_;rintro v w' ⟨r,j,t,u⟩;refine gO ?_;exact⟨r,j,by simpa[du,eJ,HL.aw]using t,u⟩
end
structure Ob where
 a:Int
 id:Int
 sh:Sh
 rf:List Int
 dt:List Int
 DZ:Bool
instance:Inhabited Ob:=⟨⟨0,0,(0,0,0),[],[],false⟩⟩
structure RL where
 B:List (Int×Int)
 O:List Ob
 F:List (Int×Int)
 born:Nat
def u':List Ob→Int→Option Nat
 | [],_=>none
 |o::O,a=>if o.a=a then some 0 else(u' O a).map (· +1)
theorem yn {O:List Ob} {a:Int} (h: ∀j,j<O.length→(O.getD j default).a≠a):u' O a=none:=by
 induction O with
 |nil=>rfl
 |cons o O d=>
  have b:=h 0 (by simp);simp only[List.getD_cons_zero]at b;unfold u';rw[if_neg b,d fun j k=>by have:=h (j+1) (by simpa using k);simpa using this];rfl
theorem yo {O:List Ob} {a:Int} {i:Nat} (b:i<O.length) (e:(O.getD i default).a=a) (h: ∀j,j<i→(O.getD j default).a≠a):u' O a=some i:=by
 induction O generalizing i with
 |nil=>simp at b
 |cons o O k=>
  unfold u';cases i with
  |zero=>simp only[List.getD_cons_zero]at e;rw[if_pos e]
  |succ i=>
   have d:=h 0 (by omega);simp only[List.getD_cons_zero]at d;rw[if_neg d,k (i:=i) (by simpa using b) (by simpa using e) fun j l=>by have:=h (j+1) (by omega);simpa using this];rfl
def RL.ob (s:RL) (a:Int):Option Ob:=(u' s.O a).map fun i=>s.O.getD i default
def RL.has (s:RL) (a:Int):Bool:=(u' s.O a).isSome
def RL.tH (s:RL) (a:Int):Int:=if s.has a then 0 else 4
section
set_option maxRecDepth 8000
variable {k:Nat}
theorem aJ {b:Type} {l:List b} {x d:b} (h:k<l.length):(l.set k x).getD k d=x:=by simp[h]
theorem aj {b:Type} {l:List b} {j:Nat} {x d:b} (h:k≠j):(l.set k x).getD j d=l.getD j d:=by
 simp only[List.getD_eq_getElem?_getD,List.getElem?_set_ne h]
end
def RL.M4 (s:RL) (x i:Int):Int×Int:=match s.ob x with
 |none=>(0,4)
 |some o=>if i<0∨(o.rf.length:Int)≤i then(0,1)else(o.rf.getD i.toNat 0,0)
def RL.lI (s:RL) (x i to:Int):Int:=match s.ob x with
 |none=>4
 |some o=>if i<0∨(o.rf.length:Int)≤i then 1 else if to≠0∧s.has to=false then 1 else 0
def RL.GP (s:RL) (x:Int) (f:Ob→Ob):RL:=match u' s.O x with
 |none=>s
 |some k=> {s with O:=s.O.set k (f (s.O.getD k default))}
def RL.aP (s:RL) (x i to:Int):RL:=if s.lI x i to=0 then s.GP x fun o=> {o with rf:=o.rf.set i.toNat to}else s
def RL.dO (s:RL) (x:Int):RL:=match u' s.O x with
 |none=>s
 |some k=> {s with O:=s.O.eraseIdx k}
set_option maxRecDepth 8000
theorem oG {b d:Type} (f:b→d): ∀(L:List b) (k:Nat),(L.map f).eraseIdx k=(L.eraseIdx k).map f
 | [],_=>rfl
 |a::L,0=>rfl
 |a::L,k+1=>by simp[oG f L k]
def lh:List Ob→Int→Nat
 | [],_=>0
 |o::O,a=>if o.a<a then lh O a+1 else 0
theorem tI: ∀ {O:List Ob} {a:Int} {k:Nat},k≤O.length→(∀j,j<k→(O.getD j default).a<a)→(k<O.length→ ¬(O.getD k default).a<a)→lh O a=k
 | [],a,k,h,_,_=>by simp at h;subst h;rfl
 |o::O,a,0,_,_,h=>by
  have:=h (by simp)
  simp only[List.getD_cons_zero]at this
  unfold lh;rw[if_neg this]
 |o::O,a,k+1,d,b,l=>by
  have:=b 0 (by omega)
  simp only[List.getD_cons_zero]at this
  unfold lh
  rw[if_pos this,tI (k:=k) (by simpa using d) (fun j q=>by have:=b (j+1) (by omega);simpa using this) fun m=>by have:=l (by simpa using m);simpa using this]
def RL.b9 (s:RL) (o:Ob):RL:= {s with O:=s.O.take (lh s.O o.a)++[o]++s.O.drop (lh s.O o.a)}
def RL.hl (s:RL):HL:=⟨s.B,[],[],[],[],[],0⟩
def rm (a b but:Int) (o:Ob):Bool:=(o.id !=but&&decide (o.a<a+b))&&decide (a<o.a+ay o.sh)
def RL.tJ (s:RL) (a:Int) (sh:Sh) (but:Int):Int:=if a<0∨a%2≠0∨((64*s.B.length:Nat):Int)≤a then 1 else if bJ s.hl a (ay sh)=true then 5 else if s.O.any (rm a (ay sh) but)=true then 8 else 0
def RL.bx (s:RL) (a:Int) (sh:Sh):Int×Int:=if aM sh=false then(0,2)else if s.tJ a sh 0≠0 then(0,s.tJ a sh 0)else(((s.born+1:Nat):Int),0)
def RL.ka (s:RL) (a:Int) (sh:Sh):Ob:=⟨a,((s.born+1:Nat):Int),sh,List.replicate sh.1.toNat 0,List.replicate sh.2.1.toNat 0,false⟩
def RL.bM (s:RL) (a:Int) (sh:Sh):RL:=if(s.bx a sh).2=0 then {s with born:=s.born+1}.b9 (s.ka a sh)else s
def RL.a8 (s:RL) (b sp:Int):Int:=if¬(1≤b∧b<s.B.length)∨cP sp=false then 1 else if(s.B.getD b.toNat (0,0)).1≠0 then 8 else 0
def RL.bn (s:RL) (b sp:Int):RL:=if s.a8 b sp=0 then {s with B:=s.B.set b.toNat (1,sp)}else s
def RL.fN (s:RL) (b n sp:Int):Int:=if¬(1≤b∧b<s.B.length)∨n<1∨(s.B.length:Int)-b<n∨cP sp=false then 1 else if(List.range n.toNat).any (fun j=>(s.B.getD (b.toNat+j) (0,0)).1 !=0)then 8 else 0
def RL.tK (s:RL) (b n sp:Int):RL:=if s.fN b n sp=0 then {s with B:=(fG s.B b.toNat (3,sp) n.toNat).set b.toNat (2,sp)}else s
set_option maxRecDepth 8000
theorem Sl.zg (w:World):Sl w 2 (.slice none 0 0) 0 [] []:=⟨rfl,.inl ⟨rfl,rfl,rfl⟩⟩
theorem kU (B C:List (Int×Int)):bN (B++C)=bN B++bN C:=by simp[bN]
section
set_option maxRecDepth 8000
variable {s s':HL} {m:IM} {k:Int} {i:Nat}
theorem oH (m:IM) (k:Int) (v:Value) (x:Int):getM (b9 m k v) x=if x=k then some v else getM m x:=by
 induction m with
 |nil=>
  unfold b9 getM getM;by_cases c:x=k
  ·rw[if_pos c,if_pos c.symm]
  ·rw[if_neg c,if_neg (fun e=>c e.symm)]
 |cons p m d=>
  unfold b9;by_cases c:p.1=k
  ·rw[if_pos c];unfold getM;by_cases b:x=k
   ·rw[if_pos b.symm,if_pos b]
   ·rw[if_neg (fun e=>b e.symm),if_neg b,if_neg (fun e=>b (by rw[←e];exact c))]
  ·rw[if_neg c];unfold getM;by_cases b:p.1=x
   ·rw[if_pos b,if_neg (fun e=>c (by rw[b];exact e)),if_pos b]
   ·rw[if_neg b,d,if_neg b]
theorem va {v:Value} {y:Int} (h:y∈(b9 m k v).map (·.1)):y=k∨y∈m.map (·.1):=by
 induction m with
 |nil=>left;simpa[b9]using h
 |cons p m b=>
  unfold b9 at h;by_cases c:p.1=k
  ·rw[if_pos c]at h;rcases List.mem_cons.1 h with e|e
   ·exact .inl e
   ·exact .inr (List.mem_cons_of_mem _ e)
  ·rw[if_neg c]at h;rcases List.mem_cons.1 h with e|e
   ·exact .inr (by rw[e];exact List.mem_cons_self)
   ·rcases b e with e|e
    ·exact .inl e
    ·exact .inr (List.mem_cons_of_mem _ e)
theorem sM (h:(m.map (·.1)).Nodup) (k:Int) (v:Value):((b9 m k v).map (·.1)).Nodup:=by
 induction m with
 |nil=>simp[b9]
 |cons p m j=>
  obtain⟨b,d⟩:=List.nodup_cons.1 h;unfold b9;by_cases c:p.1=k
  ·rw[if_pos c];exact List.nodup_cons.2 ⟨by rw[←c];exact b,d⟩
  ·rw[if_neg c];refine List.nodup_cons.2 ⟨fun e=>?_,j d⟩;rcases va e with e|e
   ·exact c e
   ·exact b e
theorem getM_none (h:k∉m.map (·.1)):getM m k=none:=by
 induction m with
 |nil=>rfl
 |cons p m b=>
  unfold getM;simp only[List.map_cons,List.mem_cons,not_or]at h;rw[if_neg (fun e=>h.1 e.symm),b h.2]
theorem oI (h:(m.map (·.1)).Nodup) (k x:Int):getM (eh m k) x=if x=k then none else getM m x:=by
 induction m with
 |nil=>unfold eh getM;split<;>rfl
 |cons p m d=>
  obtain⟨j,l⟩:=List.nodup_cons.1 h;unfold eh;by_cases c:p.1=k
  ·rw[if_pos c];by_cases b:x=k
   ·rw[if_pos b];subst b;exact getM_none (by rw[←c];exact j)
   ·rw[if_neg b];show _=getM (p::m) x;rw[getM,if_neg (fun e=>b (by rw[←e];exact c))]
  ·rw[if_neg c];show(if p.1=x then some p.2 else getM (eh m k) x)=if x=k then none else if p.1=x then some p.2 else getM m x
   rw[d l];by_cases b:x=k
   ·rw[if_pos b,if_pos b,if_neg (fun e=>c (by rw[e];exact b))]
   ·rw[if_neg b,if_neg b]
theorem sN (h:(m.map (·.1)).Nodup) (k:Int):((eh m k).map (·.1)).Nodup:=by
 have sub: ∀m:IM,((eh m k).map (·.1)).Sublist (m.map (·.1)):=fun m=>by
  induction m with
  |nil=>exact List.Sublist.slnil
  |cons p m b=>
   unfold eh;by_cases c:p.1=k
   ·rw[if_pos c];exact List.sublist_cons_self _ _
   ·rw[if_neg c];exact List.Sublist.cons_cons _ b
 exact List.Nodup.sublist (sub m) h
structure HL.lj (s:HL):Prop where
 nd:(s.pl.map (·.1)).Nodup
 a: ∀i,s.st.getD i 0=1→getM s.pl (s.W.getD (2*i) 0)=some (.int .i64 ((2*i:Nat):Int))
 b: ∀k v,getM s.pl k=some v→ ∃i,s.st.getD i 0=1∧v=.int .i64 ((2*i:Nat):Int)∧s.W.getD (2*i) 0=k
 c: ∀i,s.st.getD i 0=1→s.W.getD (2*i) 0≤s.born
theorem HL.lj.inj (h:s.lj) {j:Nat} (k:s.st.getD i 0=1) (l:s.st.getD j 0=1) (e:s.W.getD (2*i) 0=s.W.getD (2*j) 0):i=j:=by
 have d:=h.a i k;rw[e,h.a j l]at d;have:((2*j:Nat):Int)=((2*i:Nat):Int):=by injection d with d;injection d
 omega
theorem HL.lj.congr (h:s.lj) (l:s'.pl=s.pl) (q:s'.born=s.born) (d: ∀i,s'.st.getD i 0=1↔s.st.getD i 0=1) (m: ∀i,s.st.getD i 0=1→s'.W.getD (2*i) 0=s.W.getD (2*i) 0):s'.lj:=
 ⟨by rw[l];exact h.nd,fun i j=>by rw[l,m i ((d i).1 j)];exact h.a i ((d i).1 j),fun k v e=>by
  rw[l]at e
  obtain⟨i,o,r,t⟩:=h.b k v e
  exact⟨i,(d i).2 o,r,by rw[m i o];exact t⟩,fun i j=>by rw[q,m i ((d i).1 j)];exact h.c i ((d i).1 j)⟩
theorem HL.lj.kill (h:s.lj) (w:s.st.getD i 0=1) (o:s'.pl=eh s.pl (s.W.getD (2*i) 0)) (y:s'.born=s.born) (q: ∀j,s'.st.getD j 0=1↔j≠i∧s.st.getD j 0=1) (r: ∀j,j≠i→s.st.getD j 0=1→s'.W.getD (2*j) 0=s.W.getD (2*j) 0):s'.lj:=by
 refine⟨by rw[o];exact sN h.nd _,fun j t=>?_,fun k v e=>?_,fun j t=>?_⟩
 ·obtain⟨l,d⟩:=(q j).1 t;rw[o,r j l d,oI h.nd,if_neg fun e=>l (h.inj d w e)];exact h.a j d
 ·rw[o,oI h.nd]at e;by_cases c:k=s.W.getD (2*i) 0
  ·rw[if_pos c]at e;cases e
  rw[if_neg c]at e;obtain⟨j,l,d,u⟩:=h.b k v e;have m:j≠i:=fun e=>c (by rw[←u,e]);exact⟨j,(q j).2 ⟨m,l⟩,d,by rw[r j m l];exact u⟩
 ·obtain⟨l,d⟩:=(q j).1 t;rw[y,r j l d];exact h.c j d
theorem HL.lj.place (h:s.lj) {k:Nat} (w:s.st.getD k 0≠1) (o:s'.pl=b9 s.pl ((s.born+1:Nat):Int) (.int .i64 ((2*k:Nat):Int))) (y:s'.born=s.born+1) (m: ∀j,s'.st.getD j 0=1↔j=k∨s.st.getD j 0=1) (l:s'.W.getD (2*k) 0=((s.born+1:Nat):Int)) (q: ∀j,j≠k→s.st.getD j 0=1→s'.W.getD (2*j) 0=s.W.getD (2*j) 0):s'.lj:=by
 refine⟨by rw[o];exact sM h.nd _ _,fun j r=>?_,fun x v e=>?_,fun j r=>?_⟩
 ·rw[o,oH];by_cases c:j=k
  ·rw[c,if_pos l]
  have d:=((m j).1 r).resolve_left c;have:=h.c j d;rw[q j c d,if_neg (by omega)];exact h.a j d
 ·rw[o,oH]at e;by_cases c:x=((s.born+1:Nat):Int)
  ·rw[if_pos c]at e;injection e with e;exact⟨k,(m k).2 (.inl rfl),e.symm,by rw[l,c]⟩
  rw[if_neg c]at e;obtain⟨j,t,z,C⟩:=h.b x v e;have u:j≠k:=fun e=>w (e▸t);exact⟨j,(m j).2 (.inr t),z,by rw[q j u t];exact C⟩
 ·rw[y];by_cases c:j=k
  ·rw[c,l];exact Int.le_refl _
  have d:=((m j).1 r).resolve_left c;have:=h.c j d;rw[q j c d];omega
end
section
variable {s:HL} {x:Int} {i j:Nat}
def HL.aq (s : HL) (i : Nat) : Ob :=
  ⟨((2 * i : Nat) : Int), s.W.getD (2 * i) 0, bL (s.W.getD (2 * i + 1) 0), (List.range (bL (s.W.getD (2 * i + 1) 0)).1.toNat).map (fun j => s.W.getD (2 * i + 2 + j) 0),
    (List.range (bL (s.W.getD (2 * i + 1) 0)).2.1.toNat).map (fun j => s.W.getD (2 * i + 2 + (bL (s.W.getD (2 * i + 1) 0)).1.toNat + j) 0), decide (s.pn.getD i 0 = 1)⟩
def HL.abs (s:HL):RL:=⟨s.B,s.aw.map s.aq,[],s.born⟩
structure HL.Inv (s:HL):Prop where
 ok:s.Ok
 bf: ∀i,i<s.B.length→(s.B.getD i (0,0)).1=0→s.B.getD i (0,0)=(0,0)
 ids: ∀i,s.st.getD i 0=1→1≤s.W.getD (2*i) 0
 pz: ∀i,s.st.getD i 0≠1→s.pn.getD i 0=0
 fz: ∀k,(∀i,s.st.getD i 0=1→k<2*i∨((2*i:Nat):Int)+s.size (2*i)≤(k:Int))→s.W.getD k 0=0
 b0:(s.B.getD 0 (0,0)).1=0
 z0:s.st.getD 0 0≠1
 pm:s.lj
 hd: ∀i,s.st.getD i 0=1→(s.B.getD (i/32) (0,0)).1=1∨(s.B.getD (i/32) (0,0)).1=2
theorem aR:i∈s.aw↔s.st.getD i 0=1:=by
 unfold HL.aw;rw[de];constructor
 ·exact fun h=>h.2
 ·intro h;refine⟨⟨Nat.zero_le _,?_⟩,h⟩;rcases Nat.lt_or_ge i s.st.length with b|b
  ·exact b
  ·rw[List.getD_eq_getElem?_getD,List.getElem?_eq_none b]at h;simp at h
theorem bQ (s:HL):s.aw.Nodup:=List.Nodup.sublist List.filter_sublist List.nodup_range
theorem mZ (d:j<s.aw.length) (m:s.aw.getD j 0=i):u' s.abs.O ((2*i:Nat):Int)=some j:=by
 have r:s.abs.O.length=s.aw.length:=by simp[HL.abs]
 have get: ∀k,k<s.aw.length→(s.abs.O.getD k default).a=((2*s.aw.getD k 0:Nat):Int):=fun k l=>by simp[HL.abs,l,HL.aq]
 refine yo (by omega) (by rw[get j d,m]) fun k l=>?_;rw[get k (by omega)];intro e;have o:s.aw.getD k 0=s.aw.getD j 0:=by omega
 have b:k<s.aw.length:=by omega
 have q:s.aw[k]=s.aw[j]:=by simpa[b,d]using o
 have:=(List.getElem_inj (h₀:=b) (h₁:=d) (bQ s)).1 q;omega
theorem gT (h:s.st.getD i 0=1): ∃j,j<s.aw.length∧s.aw.getD j 0=i:=by
 obtain⟨j,b,e⟩:=List.mem_iff_getElem.1 (aR.2 h);exact⟨j,b,by simpa[b]using e⟩
theorem yp (h: ∀i,s.st.getD i 0=1→((2*i:Nat):Int)≠x):u' s.abs.O x=none:=by
 refine yn fun j d=>?_;have b:j<s.aw.length:=by simpa[HL.abs]using d
 have:(s.abs.O.getD j default).a=((2*s.aw.getD j 0:Nat):Int):=by simp[HL.abs,b,HL.aq]
 rw[this];exact h _ (aR.1 (by simp[b]))
theorem b5 (h:s.Ok):bw (some s) x=true↔ ∃i:Nat,x=((2*i:Nat):Int)∧s.st.getD i 0=1:=by
 constructor
 ·exact iH h
 ·rintro⟨i,rfl,d⟩;have b:=(h.start d).1;simp only[bw,Bool.and_eq_true,decide_eq_true_eq];refine⟨⟨by omega,by omega⟩,?_⟩;show(if hasB s.st.length (((2*i:Nat):Int)/2)=true then((s.st.getD (((2*i:Nat):Int)/2).toNat 0:Nat):Int)else-1)=1;rw[show((2*i:Nat):Int)/2=(i:Int) by omega,if_pos (iP b),cf,d];rfl
theorem kI (h:s.Ok) (x:Int):(bw (some s) x=false∧u' s.abs.O x=none)∨ ∃i j:Nat,x=((2*i:Nat):Int)∧s.st.getD i 0=1∧bw (some s) x=true∧j<s.aw.length∧s.aw.getD j 0=i∧u' s.abs.O x=some j:=by
 cases d:bw (some s) x with
 |true=>
  obtain⟨i,rfl,b⟩:=(b5 h).1 d;obtain⟨j,k,e⟩:=gT b;exact .inr ⟨i,j,rfl,b,rfl,k,e,mZ k e⟩
 |false=>
  refine .inl ⟨rfl,yp fun i b e=>?_⟩;have:bw (some s) x=true:=(b5 h).2 ⟨i,e.symm,b⟩;rw[d]at this;cases this
theorem tL (h:s.Ok) (x:Int):s.abs.has x=bw (some s) x:=by
 unfold RL.has;rcases kI h x with⟨b,d⟩|⟨i,j,_,_,b,_,_,d⟩
 ·rw[b,d];rfl
 ·rw[b,d];rfl
theorem kJ (h:s.Ok) (x:Int):s.abs.tH x=b' (some s) x:=by
 unfold RL.tH b';rw[tL h]
theorem kb (b:j<s.aw.length) (e:s.aw.getD j 0=i):s.abs.O.getD j default=s.aq i:=by
 subst e;simp[HL.abs,b]
theorem DC (h:s.Ok) (x:Int):(bw (some s) x=false∧s.abs.ob x=none)∨ ∃i:Nat,x=((2*i:Nat):Int)∧s.st.getD i 0=1∧bw (some s) x=true∧s.abs.ob x=some (s.aq i):=by
 unfold RL.ob;rcases kI h x with⟨b,d⟩|⟨i,j,k,l,b,m,e,d⟩
 ·exact .inl ⟨b,by rw[d];rfl⟩
 ·exact .inr ⟨i,k,l,b,by rw[d,Option.map_some,kb m e]⟩
theorem dH (h:s.Ok) (l:s.st.getD i 0=1): ∃r d k:Nat,aM (r,d,k)=true∧bL (s.W.getD (2*i+1) 0)=((r:Int),(d:Int),(k:Int))∧s.size (2*i)=ay (r,d,k)∧(s.aq i).sh=((r:Int),(d:Int),(k:Int))∧(s.aq i).rf=(List.range r).map (fun j=>s.W.getD (2*i+2+j) 0)∧(s.aq i).dt=(List.range d).map (fun j=>s.W.getD (2*i+2+r+j) 0):=by
 obtain⟨_,_,_,r,d,k,m,b,o⟩:=h.sz l;refine⟨r,d,k,m,b,o,b,?_,?_⟩
 ·simp only[HL.aq,b,cf]
 ·simp only[HL.aq,b,cf]
theorem kV (h:s.Ok) (x i to:Int):s.abs.lI x i to=bz (some s) x i to:=by
 unfold RL.lI bz ba b';rcases DC h x with⟨b,j⟩|⟨o,rfl,m,b,j⟩
 ·rw[b,j];rfl
 ·obtain⟨r,d,k,u,q,w,y,t,_⟩:=dH h m;rw[b,j];simp only[if_true,ne_eq,not_true_eq_false,if_false,cond_false];have l:s.cu ((2*o:Nat):Int)=((r:Int),(d:Int),(k:Int)):=q;rw[l,t,List.length_map,List.length_range,tL h];by_cases c:i<0∨(r:Int)≤i
  ·rw[if_pos c,if_pos c];rfl
  ·rw[if_neg c,if_neg c];rfl
theorem AV {s':HL} {f:Ob→Ob} (m:s.st.getD i 0=1) (o:s'.B=s.B) (q:s'.st=s.st) (r:s'.born=s.born) (t:s'.aq i=f (s.aq i)) (u: ∀k,k≠i→s.st.getD k 0=1→s'.aq k=s.aq k):s'.abs=s.abs.GP ((2*i:Nat):Int) f:=by
 obtain⟨j,b,e⟩:=gT m;unfold RL.GP;rw[mZ b e];have w:s'.aw=s.aw:=by unfold HL.aw;rw[q]
 show RL.mk s'.B (s'.aw.map s'.aq) [] s'.born=RL.mk s.B (s.abs.O.set j (f (s.abs.O.getD j default))) [] s.born;rw[o,r,w,kb b e,←t];congr 1;show s.aw.map s'.aq=(s.aw.map s.aq).set j (s'.aq i);apply List.ext_getElem
 ·simp
 intro k y C;have l:k<s.aw.length:=by simpa using y
 rw[List.getElem_set];by_cases d:j=k
 ·subst d;rw[if_pos rfl,List.getElem_map];congr 1;simpa[b]using e
 ·rw[if_neg d,List.getElem_map,List.getElem_map];refine u _ (fun z=>d ?_) (aR.1 (List.getElem_mem l));have B:s.aw[j]=s.aw[k]:=by rw[z];simpa[b]using e
  exact(List.getElem_inj (h₀:=b) (h₁:=l) (bQ s)).1 B
theorem dx (h:s.Ok) (x i to:Int): ∃s',aP (some s) x i to=some s'∧s'.abs=s.abs.aP x i to∧s'.B=s.B∧s'.st=s.st∧s'.born=s.born∧s'.pn=s.pn:=by
 unfold aP RL.aP;rw[kV h];by_cases c:bz (some s) x i to=0;rotate_left
 ·rw[if_neg c];simp only[if_neg c];exact⟨s,rfl,rfl,rfl,rfl,rfl,rfl⟩
 rw[if_pos c];simp only[if_pos c];refine⟨_,rfl,?_,rfl,rfl,rfl,rfl⟩;have z:(ba (some s) x i false).2=0:=by
  unfold bz at c;by_cases B:(ba (some s) x i false).2=0
  ·exact B
  ·simp only[ne_eq,B,not_false_eq_true,if_true]at c
 obtain⟨o,k,rfl,w,K,O,P,Q⟩:=ff h z;obtain⟨r,d,q,R,L,hz,e1,e2,e3⟩:=dH h w;have S:=bY R;simp only at S
 have E:ba (some s) ((2*o:Nat):Int) i false=(((2*o:Nat):Int)+2+i,0)∧0≤i∧i<(r:Int):=by
  have F:s.cu ((2*o:Nat):Int)=((r:Int),(d:Int),(q:Int)):=L;have T:b' (some s) ((2*o:Nat):Int)=0:=by unfold b';rw[(b5 h).2 ⟨o,rfl,w⟩];rfl
  unfold ba at z⊢;simp only[T,ne_eq,not_true_eq_false,if_false,cond_false,F]at z⊢;by_cases B:i<0∨(r:Int)≤i
  ·rw[if_pos B]at z;cases z
  ·rw[if_neg B];exact⟨rfl,by omega,by omega⟩
 obtain⟨C,i0,ir⟩:=E;obtain⟨n,rfl⟩: ∃n:Nat,i=n:=⟨i.toNat,by omega⟩;have G:k=2*o+2+n:=by
  have M:=K;rw[C]at M;simp only at M;omega
 rw[K,cf];have b: ∀j,j≠k→(s.W.set k to).getD j 0=s.W.getD j 0:=fun j y=>aj (Ne.symm y);have U:=h.inside w O P;refine AV (s:=s) (s':= {s with W:=s.W.set k to}) w rfl rfl rfl ?_ fun t ht u=>?_
 ·unfold HL.aq;simp only[b (2*o) (by omega),b (2*o+1) (by omega),L,cf];congr 1
  ·apply List.ext_getElem
   ·simp
   intro j V j2;have j3:j<r:=by simpa using V
   rw[List.getElem_set];simp only[List.getElem_map,List.getElem_range];by_cases N:n=j
   ·subst N;rw[if_pos rfl,←G];exact aJ Q
   ·rw[if_neg N,b _ (by omega)]
  ·apply List.map_congr_left;intro j y;exact b _ (by omega)
 ·obtain⟨r',d',q',H,I,m,_,_,_⟩:=dH h u;have J:=bY H;simp only at J;have l: ∀j:Nat,2*t≤j→(j:Int)<((2*t:Nat):Int)+s.size (2*t)→j≠k:=by
   intro j X Y e;subst e;rcases Nat.lt_or_ge o t with D|D
   ·have:=h.dj o t w u D;omega
   ·have:=h.dj t o u w (by omega);omega
  unfold HL.aq;have Z:=b (2*t) (l _ (by omega) (by rw[m];omega));have a1:=b (2*t+1) (l _ (by omega) (by rw[m];omega));simp only[Z,a1,I,cf];congr 1
  ·apply List.map_congr_left;intro j y;have:=List.mem_range.1 y;exact b _ (l _ (by omega) (by rw[m];omega))
  ·apply List.map_congr_left;intro j y;have:=List.mem_range.1 y;exact b _ (l _ (by omega) (by rw[m];omega))
end
section
set_option maxRecDepth 8000
variable {s:HL} {l:List Nat} {i:Nat}
theorem jA {s':HL} (h:s.Ok) (o:s.st.getD i 0=1) (b: ∀k:Nat,2*i≤k→(k:Int)<((2*i:Nat):Int)+s.size (2*i)→s'.W.getD k 0=s.W.getD k 0) (t:s'.pn.getD i 0=s.pn.getD i 0):s'.aq i=s.aq i:=by
 obtain⟨r,d,q,u,w,l,_,_,_⟩:=dH h o;have y:=bY u;simp only at y;have z:=b (2*i) (by omega) (by rw[l];omega);have B:=b (2*i+1) (by omega) (by rw[l];omega);unfold HL.aq;simp only[z,B,w,cf,t];congr 1
 ·apply List.map_congr_left;intro j m;have:=List.mem_range.1 m;exact b _ (by omega) (by rw[l];omega)
 ·apply List.map_congr_left;intro j m;have:=List.mem_range.1 m;exact b _ (by omega) (by rw[l];omega)
theorem erase_filter (b:l.Nodup) {j:Nat} (d:j<l.length):l.eraseIdx j=l.filter fun k=>k !=l.getD j 0:=by
 induction l generalizing j with
 |nil=>simp at d
 |cons a l m=>
  rw[List.nodup_cons]at b;cases j with
  |zero=>
   rw[List.eraseIdx_cons_zero,List.getD_cons_zero,List.filter_cons_of_neg (by simp)];refine(List.filter_eq_self.2 fun k o=>?_).symm;simp only[bne_iff_ne,ne_eq];rintro rfl;exact b.1 o
  |succ j=>
   rw[List.eraseIdx_cons_succ,List.getD_cons_succ,List.filter_cons_of_pos,m b.2 (by simpa using d)];simp only[bne_iff_ne,ne_eq];rintro rfl;exact b.1 (by simp[show j<l.length by simpa using d])
theorem oJ {d j v:Nat} (m:v≠1):aX (l.set i v) d j=(aX l d j).filter fun k=>k !=i:=by
 unfold aX;rw[List.filter_filter];apply List.filter_congr;intro k _;by_cases e:k=i
 ·subst e;have:(l.set k v).getD k 0≠1:=by
   by_cases b:k<l.length
   ·rw[aJ b];exact m
   ·simp[List.getD_eq_getElem?_getD,List.getElem?_eq_none (Nat.not_lt.1 b),b]
  rw[bt this];simp
 ·rw[aj (Ne.symm e)];simp[e]
theorem rn (h:s.Ok) (x:Int): ∃s',dO (some s) x=some s'∧s'.abs=s.abs.dO x∧s'.B=s.B∧s'.born=s.born∧
  ((s'=s)∨ ∃i:Nat,s.st.getD i 0=1∧s'.pl=eh s.pl (s.W.getD (2*i) 0)∧s'.st=s.st.set i 0∧s'.pn=s.pn.set i 0∧s'.W=fM s.W (2*i) (s.size (2*i)).toNat):=by
 simp only[dO,RL.dO];rw[←kJ h];rcases kI h x with⟨m,o⟩|⟨i,j,rfl,l,m,u,e,o⟩
 ·have:s.abs.tH x=4:=by rw[kJ h];unfold b';rw[m];rfl
  simp only[this];refine⟨s,rfl,?_,rfl,rfl,.inl rfl⟩;rw[o]
 ·have:s.abs.tH ((2*i:Nat):Int)=0:=by rw[kJ h];unfold b';rw[m];rfl
  simp only[this,if_true,cf,Nat.mul_div_cancel_left i (show 0<2 by omega)];refine⟨_,rfl,?_,rfl,rfl,.inr ⟨i,l,rfl,rfl,rfl,rfl⟩⟩;rw[o];obtain⟨B,C,D,_⟩:=h.sz l;have q:2*i+(s.size (2*i)).toNat≤s.W.length:=by omega
  show RL.mk s.B _ [] s.born=RL.mk s.B (s.abs.O.eraseIdx j) [] s.born;congr 1;show List.map _ (aX (s.st.set i 0) 0 (s.st.set i 0).length)=(s.aw.map s.aq).eraseIdx j;rw[List.length_set,oJ (by omega),oG,erase_filter (bQ s) u,e];apply List.map_congr_left;intro k w;obtain⟨y,z⟩:=List.mem_filter.1 w;have b:s.st.getD k 0=1:=aR.1 y;have r:k≠i:=by simpa using z
  refine jA h b (fun t E F=>?_) (aj (Ne.symm r));simp only;rw[gF q,if_neg];rcases Nat.lt_or_ge i k with d|d
  ·have:=h.dj i k l b d;omega
  ·have:=h.dj k i b l (by omega);omega
theorem rq {t:HL} (h:s.B=t.B) (a b:Int):bJ s a b=bJ t a b:=by
 unfold bJ HL.b HL.span;rw[h]
theorem find_spec (h:s.Ok) {x:Int} (e:(dw (some s) x).2=0): ∃i:Nat,s.st.getD i 0=1∧(dw (some s) x).1=((2*i:Nat):Int)∧((2*i:Nat):Int)≤x∧x<((2*i:Nat):Int)+s.size (2*i):=by
 unfold dw at e⊢;simp only at e⊢;split at e
 ·cases e
 ·rename_i j;rw[if_neg j];split at e
  ·cases e
  ·rename_i i d;split at e
   ·cases e
   ·rename_i l;have m:s.fc.jm (x/2+1) 1=iE (fun k=>decide ((k:Int)<x/2+1)&&decide (((s.st.getD k 0:Nat):Int)=1)) s.st.length:=rfl;have b:=d;rw[m]at b;obtain⟨q,o⟩:=jy b;simp only[Bool.and_eq_true,decide_eq_true_eq]at o;refine⟨i,by omega,?_,by omega,by omega⟩;simp only[d,if_neg l];omega
theorem yq (h:s.Inv) (a:Int) (sh:Sh) (F:aM sh=true):s.abs.tJ a sh 0=ct s a (ay sh) (-1):=by
 have U:=bY F;have G:=h.ok.wl;unfold RL.tJ ct;have w:s.abs.B=s.B:=rfl;by_cases k:a<0∨a%2≠0∨((64*s.abs.B.length:Nat):Int)≤a
 ·rw[if_pos k,if_pos];rw[w]at k;simp only[j7,Bool.or_eq_true,decide_eq_true_eq];omega
 have H:j7 s a=false:=by
  rw[w]at k;simp only[j7,Bool.or_eq_false_iff,decide_eq_false_iff_not];omega
 rw[if_neg k,H];simp only[Bool.false_eq_true,if_false];rw[rq (t:=s) (show s.abs.hl.B=s.B from rfl)];by_cases m:bJ s a (ay sh)=true
 ·rw[if_pos m,if_pos m]
 rw[if_neg m,if_neg m];have key:s.abs.O.any (rm a (ay sh) 0)=true↔(List.range ((ay sh+1)/2).toNat).any (cF s a (-1))=true:=by
  simp only[List.any_eq_true];constructor
  ·rintro⟨o,I,l⟩;obtain⟨i,J,rfl⟩:=List.mem_map.1 I;have b:=aR.1 J;obtain⟨r,d,q,y,K,z,B,_,_⟩:=dH h.ok b;have D:(((2*i:Nat):Int)<a+ay sh)∧a<((2*i:Nat):Int)+s.size (2*i):=by
    simp only[rm,Bool.and_eq_true,decide_eq_true_eq]at l;obtain⟨⟨_,L⟩,E⟩:=l;rw[B]at E;exact⟨L,by rw[z];exact E⟩
   obtain⟨M,N,O,_⟩:=h.ok.sz b;rw[w]at k;have P:a%2=0:=by omega
   refine⟨((max a ((2*i:Nat):Int)-a)/2).toNat,List.mem_range.2 (by omega),?_⟩;have Q:a+2*((((max a ((2*i:Nat):Int)-a)/2).toNat:Nat):Int)=(((max a ((2*i:Nat):Int)).toNat:Nat):Int):=by omega
   unfold cF;rw[Q,j9 h.ok b (by omega) (by omega)];simp;omega
  ·rintro⟨j,R,C⟩;have S:=List.mem_range.1 R;unfold cF at C;simp only[Bool.and_eq_true,beq_iff_eq]at C;obtain⟨i,b,_,V,W⟩:=find_spec h.ok C.1;obtain⟨r,d,q,y,K,z,B,_,_⟩:=dH h.ok b;obtain⟨M,N,O,_⟩:=h.ok.sz b;refine⟨s.aq i,List.mem_map.2 ⟨i,aR.2 b,rfl⟩,?_⟩;have T:=h.ids i b;simp only[rm,Bool.and_eq_true,decide_eq_true_eq,bne_iff_ne,ne_eq];rw[B,←z];refine⟨⟨?_,?_⟩,?_⟩
   ·show¬s.W.getD (2*i) 0=0;omega
   ·show((2*i:Nat):Int)<_;omega
   ·show a<((2*i:Nat):Int)+_;omega
 by_cases u:s.abs.O.any (rm a (ay sh) 0)=true
 ·rw[if_pos u,if_pos (key.1 u)]
 ·rw[if_neg u,if_neg (fun h=>u (key.2 h))]
end
section
set_option maxRecDepth 8000
variable {s s':HL} {x:Int} {hi lo n:Nat}
theorem fP (l:List Nat) {m:Nat} (j:lo≤m) (k:m≤hi):aX l lo hi=aX l lo m++aX l m hi:=by
 obtain⟨d,rfl⟩: ∃d,hi=m+d:=⟨hi-m,by omega⟩
 induction d with
 |zero=>rw[Nat.add_zero,jz,List.append_nil]
 |succ d b=>
  rw[show m+(d+1)=m+d+1 by omega,fi,fi,b (by omega),List.append_assoc];congr 2;by_cases h:l.getD (m+d) 0=1
  ·rw[if_pos ⟨by omega,h⟩,if_pos ⟨by omega,h⟩]
  ·rw[if_neg (fun e=>h e.2),if_neg (fun e=>h e.2)]
theorem iJ {l b:List Nat} (h: ∀j,lo≤j→j<hi→l.getD j 0=b.getD j 0):aX l lo hi=aX b lo hi:=by
 unfold aX;apply List.filter_congr;intro j k;have:=List.mem_range.1 k;by_cases d:lo≤j
 ·rw[h j d this]
 ·simp[d]
theorem oK (l:List Nat) (k:Nat):aX l k (k+1)=if l.getD k 0=1 then [k]else []:=by
 rw[fi,jz,List.nil_append];by_cases h:l.getD k 0=1
 ·rw[if_pos ⟨Nat.le_refl _,h⟩,if_pos h]
 ·rw[if_neg (fun e=>h e.2),if_neg h]
theorem m9 (h:s.Inv) (a:Int) (sh:Sh):s.abs.bx a sh=bx (some s) a sh:=by
 unfold RL.bx bx;cases b:aM sh with
 |false=>rfl
 |true=>
  simp only[Bool.true_eq_false,if_false];rw[yq h a sh b];rfl
theorem oL (h:s.Inv) (a:Int) (sh:Sh): ∃s',bM (some s) a sh=some s'∧s'.abs=s.abs.bM a sh∧s'.Inv∧s'.B=s.B∧s'.born≤s.born+1:=by
 have hR:=m9 h a sh;by_cases c:(bx (some s) a sh).2=0;rotate_left
 ·refine⟨s,by unfold bM;simp only[if_neg c],?_,h,rfl,by omega⟩;unfold RL.bM;rw[hR,if_neg c]
 have w:aM sh=true:=by
  cases w:aM sh with
  |true=>rfl
  |false=>simp[bx,w]at c
 have o:ct s a (ay sh) (-1)=0:=by
  by_cases e:ct s a (ay sh) (-1)=0
  ·exact e
  ·simp[bx,w,e]at c
 have Y:=bY w;obtain⟨k,rfl,K,Z,l⟩:=kE h.ok Y.1 Y.2.2.1 Y.2.1 o;have GM:=h.ok.sl;have GL:=h.ok.wl;have DQ:=h.ok.pl;have L:bx (some s) ((2*k:Nat):Int) sh=(((s.born+1:Nat):Int),0):=by
  unfold bx;simp only[w,Bool.true_eq_false,if_false];rw[if_neg (fun e=>e o)]
 have M5:bM (some s) ((2*k:Nat):Int) sh=some {s with W:=(s.W.set (2*k) ((s.born+1:Nat):Int)).set (2*k+1) (dv sh),st:=s.st.set k 1,pl:=b9 s.pl ((s.born+1:Nat):Int) (.int .i64 ((2*k:Nat):Int)),born:=s.born+1}:=by
  unfold bM;simp only[L,if_true,cf,Nat.mul_div_cancel_left k (show 0<2 by omega)]
 have G: ∀i,s.st.getD i 0=1→((2*i:Nat):Int)+s.size (2*i)≤((2*k:Nat):Int)∨((2*k:Nat):Int)+ay sh≤((2*i:Nat):Int):=by
  intro i hi;obtain⟨g1,g2,g3,_⟩:=h.ok.sz hi;by_cases c1:k≤i
  ·right;refine Decidable.byContradiction fun c2=>?_;have M:=gQ (l (i-k) (by omega));have e1:((2*k:Nat):Int)+2*((i-k:Nat):Int)=((2*i:Nat):Int):=by omega
   rw[e1,j9 h.ok hi (Nat.le_refl _) (by omega)]at M;exact M rfl
  ·left;refine Decidable.byContradiction fun c2=>?_;have M:=gQ (l 0 (by omega));have e1:((2*k:Nat):Int)+2*((0:Nat):Int)=((2*k:Nat):Int):=by omega
   rw[e1,j9 h.ok hi (by omega) (by omega)]at M;exact M rfl
 have y:s.st.getD k 0≠1:=fun e=>by
  have:=G k e;have:=(h.ok.sz e).1;omega
 obtain⟨r,d,q,z⟩: ∃r d q:Nat,sh=((r:Int),(d:Int),(q:Int)):=by
  obtain⟨sa,sb,sc⟩:=sh;have M6:=w;simp only[aM,Bool.and_eq_true,decide_eq_true_eq]at M6;exact⟨sa.toNat,sb.toNat,sc.toNat,by rw[Prod.mk.injEq,Prod.mk.injEq];omega⟩
 have N:bL (dv sh)=sh:=by rw[z];rw[z]at w;exact gC w
 have m: ∀j:Nat,2*k≤j→(j:Int)<((2*k:Nat):Int)+ay sh→s.W.getD j 0=0:=fun j u C=>h.fz j fun i hi=>by
  have:=G i hi;have:=(h.ok.sz hi).1;omega
 have D: ∀j,j≠2*k→j≠2*k+1→((s.W.set (2*k) ((s.born+1:Nat):Int)).set (2*k+1) (dv sh)).getD j 0=s.W.getD j 0:=fun j u C=>by
  rw[aj (Ne.symm C),aj (Ne.symm u)]
 have H:((s.W.set (2*k) ((s.born+1:Nat):Int)).set (2*k+1) (dv sh)).getD (2*k) 0=((s.born+1:Nat):Int):=by
  rw[aj (by omega),aJ (by omega)]
 have O:((s.W.set (2*k) ((s.born+1:Nat):Int)).set (2*k+1) (dv sh)).getD (2*k+1) 0=dv sh:=aJ (by simp;omega);have E: ∀i,s.st.getD i 0=1→ ∀j:Nat,2*i≤j→(j:Int)<((2*i:Nat):Int)+s.size (2*i)→j≠2*k∧j≠2*k+1:=fun i hi j u C=>by
  have:=G i hi;omega
 rw[M5];refine⟨_,rfl,?_,?_,rfl,Nat.le_refl _⟩
 ·unfold RL.bM;rw[hR,L,if_pos rfl];generalize t:(HL.mk s.B ((s.W.set (2*k) ((s.born+1:Nat):Int)).set (2*k+1) (dv sh)) (s.st.set k 1) s.pn (b9 s.pl ((s.born+1:Nat):Int) (.int .i64 ((2*k:Nat):Int))) s.fw (s.born+1))=s';have sW:s'.W=(s.W.set (2*k) ((s.born+1:Nat):Int)).set (2*k+1) (dv sh):=by rw[←t]
  have sS:s'.st=s.st.set k 1:=by rw[←t]
  have sP:s'.pn=s.pn:=by rw[←t]
  have sB:s'.B=s.B:=by rw[←t]
  have sb:s'.born=s.born+1:=by rw[←t]
  have hA:aX s.st 0 s.st.length=aX s.st 0 k++aX s.st (k+1) s.st.length:=by
   rw[fP s.st (show 0≤k by omega) (show k≤s.st.length by omega),fP s.st (show k≤k+1 by omega) (show k+1≤s.st.length by omega),oK,if_neg y,List.nil_append]
  have M7:s'.aw=aX s.st 0 k++[k]++aX s.st (k+1) s.st.length:=by
   unfold HL.aw;rw[sS,List.length_set,fP (s.st.set k 1) (show 0≤k by omega) (show k≤s.st.length by omega),fP (s.st.set k 1) (show k≤k+1 by omega) (show k+1≤s.st.length by omega),oK,if_pos (aJ K),←List.append_assoc];congr 1
   ·congr 1;exact iJ fun j _ B=>aj (by omega)
   ·exact iJ fun j B _=>aj (by omega)
  have F: ∀i,s.st.getD i 0=1→s'.aq i=s.aq i:=fun i hi=>jA h.ok hi (fun j u C=>by rw[sW];exact D j (E i hi j u C).1 (E i hi j u C).2) (by rw[sP]);have P:s'.aq k=s.abs.ka ((2*k:Nat):Int) sh:=by
   unfold HL.aq RL.ka;rw[sW,sP,H,O,N,h.pz k y];have Q:=Y;rw[z]at Q⊢;simp only[cf]at Q⊢;rw[z]at D m;congr 1
   ·apply List.ext_getElem
    ·simp
    intro j u C;have j3:j<r:=by simpa using u
    rw[List.getElem_map,List.getElem_range,List.getElem_replicate,D _ (by omega) (by omega)];exact m _ (by omega) (by omega)
   ·apply List.ext_getElem
    ·simp
    intro j u C;have j3:j<d:=by simpa using u
    rw[List.getElem_map,List.getElem_range,List.getElem_replicate,D _ (by omega) (by omega)];exact m _ (by omega) (by omega)
  have mA: ∀i,i∈aX s.st 0 k→i<k∧s.st.getD i 0=1:=fun i hi=>⟨(de.1 hi).1.2,(de.1 hi).2⟩;have mC: ∀i,i∈aX s.st (k+1) s.st.length→k<i∧s.st.getD i 0=1:=fun i hi=>⟨(de.1 hi).1.1,(de.1 hi).2⟩;have R:s.abs.O=(aX s.st 0 k).map s.aq++(aX s.st (k+1) s.st.length).map s.aq:=by
   show(aX s.st 0 s.st.length).map s.aq=_;rw[hA,List.map_append]
  have S:lh s.abs.O ((2*k:Nat):Int)=(aX s.st 0 k).length:=by
   refine tI (by rw[R];simp) (fun j B=>?_) fun hl=>?_
   ·have e:s.abs.O.getD j default=s.aq ((aX s.st 0 k)[j]):=by
     rw[R,List.getD_eq_getElem?_getD,List.getElem?_append_left (by simpa using B)];simp[B]
    rw[e];have:=(mA _ (List.getElem_mem B)).1;show((2*(aX s.st 0 k)[j]:Nat):Int)<_;omega
   ·have T:0<(aX s.st (k+1) s.st.length).length:=by rw[R]at hl;simpa using hl
    have e:s.abs.O.getD (aX s.st 0 k).length default=s.aq ((aX s.st (k+1) s.st.length)[0]):=by
     rw[R,List.getD_eq_getElem?_getD,List.getElem?_append_right (by simp)];simp[T]
    rw[e];have:=(mC _ (List.getElem_mem T)).1;show¬((2*(aX s.st (k+1) s.st.length)[0]:Nat):Int)<_;omega
  show RL.mk s'.B (s'.aw.map s'.aq) [] s'.born=RL.mk s.B (s.abs.O.take (lh s.abs.O ((2*k:Nat):Int))++[s.abs.ka ((2*k:Nat):Int) sh]++s.abs.O.drop (lh s.abs.O ((2*k:Nat):Int))) [] (s.born+1);rw[sB,sb,S,M7,R,List.map_append,List.map_append,List.map_cons,List.map_nil,P,List.take_append_of_le_length (by simp),List.drop_append_of_le_length (by simp)];congr 1;rw[List.take_of_length_le (by simp),List.drop_of_length_le (by simp),List.nil_append];congr 1
  ·congr 1;exact List.map_congr_left fun i hi=>F i (mA i hi).2
  ·exact List.map_congr_left fun i hi=>F i (mC i hi).2
 ·have I: ∀i,(s.st.set k 1).getD i 0=1→i=k∨(i≠k∧s.st.getD i 0=1):=fun i hi=>by
   by_cases e:i=k
   ·exact .inl e
   ·exact .inr ⟨e,by rw[aj (Ne.symm e)]at hi;exact hi⟩
  have IC: ∀i,i≠k→HL.size {s with W:=(s.W.set (2*k) ((s.born+1:Nat):Int)).set (2*k+1) (dv sh),st:=s.st.set k 1,pl:=b9 s.pl ((s.born+1:Nat):Int) (.int .i64 ((2*k:Nat):Int)),born:=s.born+1} (2*i)=s.size (2*i):=fun i hi=>by
   unfold HL.size;simp only;rw[D _ (by omega) (by omega)]
  have U:HL.size {s with W:=(s.W.set (2*k) ((s.born+1:Nat):Int)).set (2*k+1) (dv sh),st:=s.st.set k 1,pl:=b9 s.pl ((s.born+1:Nat):Int) (.int .i64 ((2*k:Nat):Int)),born:=s.born+1} (2*k)=ay sh:=by
   unfold HL.size;simp only;rw[O,N]
  have GO:k≠0:=fun e=>by
   subst e;have hb:=h.b0;by_cases V:j7 s ((2*0:Nat):Int)=true
   ·unfold ct at o;rw[if_pos V]at o;cases o
   by_cases b:bJ s ((2*0:Nat):Int) (ay sh)=true
   ·unfold ct at o;rw[if_neg V,if_pos b]at o;cases o
   refine b ?_;unfold bJ HL.b;split
   ·simp only[Bool.or_eq_true,decide_eq_true_eq];left;show(s.B.getD 0 (0,0)).1≠1;omega
   ·simp only[Bool.or_eq_true,decide_eq_true_eq];left;left;show(s.B.getD 0 (0,0)).1≠2;omega
  refine⟨h.ok.place w K Z l,h.bf,fun i hi=>?_,fun i hi=>h.pz i fun e=>hi ?_,fun j B=>?_,h.b0,fun e=>h.z0 (by simp only at e;rw[aj GO]at e;exact e),h.pm.place y rfl rfl (fun j=>⟨fun e=>(I j e).imp id And.right,fun e=>?_⟩) H (fun j B OS=>D _ (by omega) (by omega)),fun i hi=>?_⟩;rotate_left 4
  ·rcases I i hi with rfl|⟨EB,J⟩
   ·show(s.B.getD (i/32) (0,0)).1=1∨(s.B.getD (i/32) (0,0)).1=2;by_cases V:j7 s ((2*i:Nat):Int)=true
    ·unfold ct at o;rw[if_pos V]at o;cases o
    by_cases b:bJ s ((2*i:Nat):Int) (ay sh)=true
    ·unfold ct at o;rw[if_neg V,if_pos b]at o;cases o
    have M8:(((2*i:Nat):Int)/64).toNat=i/32:=by omega
    unfold bJ HL.b at b;rw[M8]at b;split at b
    ·simp only[Bool.or_eq_true,decide_eq_true_eq,not_or]at b;omega
    ·simp only[Bool.or_eq_true,decide_eq_true_eq,not_or]at b;omega
   ·exact h.hd i J
  ·rcases I i hi with rfl|⟨EB,J⟩
   ·simp only;rw[H];omega
   ·simp only;rw[D _ (by omega) (by omega)];exact h.ids i J
  ·by_cases e2:i=k
   ·subst e2;exact aJ K
   ·simp only;rw[aj (Ne.symm e2)];exact e
  ·have J0:=B k (aJ K);rw[U]at J0;simp only;rw[D j (by omega) (by omega)];refine h.fz j fun i hi=>?_;have X:i≠k:=fun e=>y (e▸hi);have:=B i (by simp only;rw[aj (Ne.symm X)];exact hi);rw[IC i X]at this;exact this
  ·by_cases c:j=k
   ·rw[c];exact aJ K
   ·simp only;rw[aj (Ne.symm c)];exact e.resolve_left c
theorem HL.Inv.rL (h:s.Inv) {i to:Int} (e:aP (some s) x i to=some s') (m:s'.Ok):s'.Inv:=by
 unfold aP at e;by_cases c:bz (some s) x i to=0;rotate_left
 ·simp only[if_neg c,Option.some.injEq]at e;subst e;exact h
 simp only[if_pos c,Option.some.injEq]at e;subst e;have C:(ba (some s) x i false).2=0:=by
  unfold bz at c;by_cases y:(ba (some s) x i false).2=0
  ·exact y
  ·simp only[ne_eq,y,not_false_eq_true,if_true]at c
 obtain⟨o,k,rfl,q,z,D,E,G⟩:=ff h.ok C;have u:=h.ok.inside q D E;rw[z,cf];have r: ∀j,s.st.getD j 0=1→HL.size {s with W:=s.W.set k to} (2*j)=s.size (2*j):=fun j d=>HL.size_set (u j d);have t: ∀j,s.st.getD j 0=1→2*j≠k:=fun j d=>by
  intro F;rcases Nat.lt_trichotomy o j with l|l|l
  ·have:=h.ok.dj o j q d l;omega
  ·subst l;omega
  ·have:=h.ok.dj j o d q l;have:=(h.ok.sz d).1;omega
 refine⟨by rw[z,cf]at m;exact m,h.bf,fun j d=>?_,h.pz,fun j d=>?_,h.b0,h.z0,h.pm.congr rfl rfl (fun _=>Iff.rfl) (fun j d=>?_),h.hd⟩
 ·simp only;rw[aj (Ne.symm (t j d))];exact h.ids j d
 ·have w:j≠k:=by
   intro F;have:=d o q;rw[r o q]at this;omega
  simp only;rw[aj (Ne.symm w)];exact h.fz j fun i hi=>by have:=d i hi;rw[r i hi]at this;exact this
 ·simp only;rw[aj (Ne.symm (t j d))]
theorem HL.Inv.kill (h:s.Inv) (e:dO (some s) x=some s') (u:s'.Ok):s'.Inv:=by
 obtain⟨t,G,_,w,y,H⟩:=rn h.ok x;rw[G]at e;cases e;rcases H with rfl|⟨i,hi,z,r,I,F⟩
 ·exact h
 obtain⟨L,M,N,_⟩:=h.ok.sz hi;have o:2*i+(s.size (2*i)).toNat≤s.W.length:=by omega
 have m: ∀j,s'.st.getD j 0=1→j≠i∧s.st.getD j 0=1:=by
  intro j k;rw[r]at k;by_cases e:j=i
  ·subst e;have:=(h.ok.start hi).1;rw[aJ this]at k;cases k
  ·exact⟨e,by rw[aj (Ne.symm e)]at k;exact k⟩
 have l: ∀j,j≠i→s.st.getD j 0=1→ ∀t:Nat,2*j≤t→(t:Int)<((2*j:Nat):Int)+s.size (2*j)→s'.W.getD t 0=s.W.getD t 0:=fun j k d t O P=>by
  rw[F,gF o,if_neg];rcases Nat.lt_or_ge i j with q|q
  ·have:=h.ok.dj i j hi d q;omega
  ·have:=h.ok.dj j i d hi (by omega);omega
 have C: ∀j,j≠i→s.st.getD j 0=1→s'.size (2*j)=s.size (2*j):=fun j k d=>by
  unfold HL.size;have:=(h.ok.sz d).1;rw[l j k d (2*j+1) (by omega) (by omega)]
 refine⟨u,fun j k=>by rw[w]at k⊢;exact h.bf j k,fun j k=>?_,fun j k=>?_,fun t J=>?_,by rw[w];exact h.b0,fun e=>h.z0 (m 0 e).2,h.pm.kill hi z y (fun j=>⟨m j,fun e=>by rw[r,aj (Ne.symm e.1)];exact e.2⟩) (fun j k d=>l j k d (2*j) (by omega) (by have:=(h.ok.sz d).1;omega)),fun j k=>by rw[w];exact h.hd j (m j k).2⟩
 ·obtain⟨D,d⟩:=m j k;have:=(h.ok.sz d).1;rw[l j D d (2*j) (by omega) (by omega)];exact h.ids j d
 ·rw[I];by_cases e:j=i
  ·subst e;by_cases E:j<s.pn.length
   ·rw[aJ E]
   ·simp[List.getD_eq_getElem?_getD,List.getElem?_eq_none (Nat.not_lt.1 E),E]
  ·rw[aj (Ne.symm e)];refine h.pz j fun K=>k ?_;rw[r,aj (Ne.symm e)];exact K
 ·rw[F,gF o];by_cases c:2*i≤t∧t<2*i+(s.size (2*i)).toNat
  ·rw[if_pos c]
  ·rw[if_neg c];refine h.fz t fun j k=>?_;by_cases e:j=i
   ·subst e;omega
   ·have:=J j (by rw[r,aj (Ne.symm e)];exact k);rw[C j e k]at this;exact this
theorem HL.Inv.pS (h:s.Inv) {B':List (Int×Int)} (j:B'.length=s.B.length) (k: ∀i,i<s.B.length→(B'.getD i (0,0)).1=0→B'.getD i (0,0)=(0,0)) (d:B'.getD 0 (0,0)=s.B.getD 0 (0,0)) (l: ∀i,s.st.getD i 0=1→(s.B.getD (i/32) (0,0)).1=1∨(s.B.getD (i/32) (0,0)).1=2→(B'.getD (i/32) (0,0)).1=1∨(B'.getD (i/32) (0,0)).1=2):HL.Inv {s with B:=B'}:=
 ⟨h.ok.pS j,fun i hi=>k i (by rw[←j];exact hi),h.ids,h.pz,h.fz,by simp only[d];exact h.b0,h.z0,h.pm.congr rfl rfl (fun _=>Iff.rfl) (fun _ _=>rfl),fun i hi=>l i hi (h.hd i hi)⟩
theorem vc (h:s.Inv) (k:Nat) (sp:Int):s.abs.a8 (k:Int) sp=a8 (some s) (k:Int) 1 (1,sp)∧ ∃s',bn (some s) (k:Int) 1 (1,sp) (0,0)=some s'∧s'.abs=s.abs.bn (k:Int) sp∧s'.Inv∧s'.born=s.born∧s'.B.length=s.B.length:=by
 have q:s.abs.a8 (k:Int) sp=a8 (some s) (k:Int) 1 (1,sp):=by
  unfold RL.a8 a8 dq;have r:s.abs.B=s.B:=rfl;rw[r];simp only;by_cases b: ¬(1≤(k:Int)∧(k:Int)<(s.B.length:Int))∨cP sp=false
  ·rw[if_pos b,if_pos];rcases b with b|b
   ·left;simp only[Bool.and_eq_false_iff,decide_eq_false_iff_not];omega
   ·exact .inr (.inr (.inr b))
  ·have t:1≤(k:Int)∧(k:Int)<(s.B.length:Int):=Decidable.byContradiction fun e=>b (.inl e);have m: ¬cP sp=false:=fun e=>b (.inr e);have u: ¬((decide (1≤(k:Int))&&decide ((k:Int)<(s.B.length:Int)))=false∨(1:Int)<1∨(s.B.length:Int)-(k:Int)<1∨cP sp=false):=by
    rintro(j|j|j|j)
    ·simp only[Bool.and_eq_false_iff,decide_eq_false_iff_not]at j;omega
    ·omega
    ·omega
    ·exact m j
   have d:k<s.B.length:=by omega
   have w:(s.B.drop k).take 1=[s.B.getD k (0,0)]:=by
    rw[List.drop_eq_getElem_cons d,List.take_succ_cons,List.take_zero,List.getD_eq_getElem?_getD,List.getElem?_eq_getElem d];rfl
   rw[if_neg b,if_neg u,cf,show(1:Int).toNat=1 from rfl,w];simp only[List.any_cons,List.any_nil,Bool.or_false];by_cases o:(s.B.getD k (0,0)).1=0
   ·rw[h.bf k d o];rfl
   ·rw[if_pos o,if_pos];simp only[bne_iff_ne,ne_eq];intro e;exact o (by rw[e])
 refine⟨q,?_⟩;unfold bn RL.bn;simp only;rw[←q];by_cases c:s.abs.a8 (k:Int) sp=0;rotate_left
 ·rw[if_neg c,if_neg c];exact⟨s,rfl,rfl,h,rfl,rfl⟩
 rw[if_pos c,if_pos c];obtain⟨y,d⟩:1≤k∧k<s.B.length:=by
  unfold RL.a8 at c;by_cases b: ¬(1≤(k:Int)∧(k:Int)<(s.abs.B.length:Int))∨cP sp=false
  ·rw[if_pos b]at c;cases c
  ·have:1≤(k:Int)∧(k:Int)<(s.abs.B.length:Int):=Decidable.byContradiction fun e=>b (.inl e);exact⟨by omega,Int.ofNat_lt.1 this.2⟩
 have z:(fG s.B (k:Int).toNat (0,0) (1:Int).toNat).set (k:Int).toNat (1,sp)=s.B.set k (1,sp):=by
  rw[cf,show(1:Int).toNat=1 from rfl];simp only[fG,Nat.add_zero,List.set_set]
 rw[z,cf];refine⟨_,rfl,rfl,h.pS (by simp) (fun i hi l=>?_) (aj (by omega)) (fun i _ B=>?_),rfl,by simp⟩;rotate_left
 ·by_cases e:k=i/32
  ·rw[←e,aJ d];exact .inl rfl
  ·rw[aj e];exact B
 by_cases e:k=i
 ·subst e;rw[aJ d]at l;cases l
 ·rw[aj e]at l⊢;exact h.bf i hi l
theorem df (B:List (Int×Int)) (k:Nat) (x:Int×Int): ∀n,k+n≤B.length→ ∀i,(fG B k x n).getD i (0,0)=if k≤i∧i<k+n then x else B.getD i (0,0)
 |0,_,i=>by rw[if_neg (by omega)];rfl
 |n+1,h,i=>by
  unfold fG
  by_cases e:k+n=i
  ·subst e
   rw[aJ (by rw[bF];omega),if_pos (by omega)]
  ·rw[aj e,df B k x n (by omega) i]
   by_cases c:k≤i∧i<k+n
   ·rw[if_pos c,if_pos (by omega)]
   ·rw[if_neg c,if_neg (by omega)]
theorem pW {k:Nat} {sp:Int} (h:s.abs.fN (k:Int) (n:Int) sp=0) {j:Nat} (l:j<n):(s.B.getD (k+j) (0,0)).1=0:=by
 unfold RL.fN at h;have m:s.abs.B=s.B:=rfl;rw[m]at h;by_cases b: ¬(1≤(k:Int)∧(k:Int)<(s.B.length:Int))∨(n:Int)<1∨(s.B.length:Int)-(k:Int)<(n:Int)∨cP sp=false
 ·rw[if_pos b]at h;cases h
 rw[if_neg b]at h;simp only[cf]at h;by_cases d:(List.range n).any (fun j=>(s.B.getD (k+j) (0,0)).1 !=0)=true
 ·rw[if_pos d]at h;cases h
 ·refine Decidable.byContradiction fun c=>d ?_;rw[List.any_eq_true];exact⟨j,List.mem_range.2 l,by simpa using c⟩
theorem sO (h:s.Inv) (k n:Nat) (sp:Int):s.abs.fN (k:Int) (n:Int) sp=a8 (some s) (k:Int) (n:Int) (2,sp)∧ ∃s',bn (some s) (k:Int) (n:Int) (2,sp) (3,sp)=some s'∧s'.abs=s.abs.tK (k:Int) (n:Int) sp∧s'.Inv∧s'.born=s.born∧s'.B.length=s.B.length:=by
 have E:s.abs.fN (k:Int) (n:Int) sp=a8 (some s) (k:Int) (n:Int) (2,sp):=by
  unfold RL.fN a8 dq;have F:s.abs.B=s.B:=rfl;rw[F];simp only;by_cases b: ¬(1≤(k:Int)∧(k:Int)<(s.B.length:Int))∨(n:Int)<1∨(s.B.length:Int)-(k:Int)<(n:Int)∨cP sp=false
  ·rw[if_pos b,if_pos];rcases b with b|b|b|b
   ·left;simp only[Bool.and_eq_false_iff,decide_eq_false_iff_not];omega
   ·exact .inr (.inl b)
   ·exact .inr (.inr (.inl b))
   ·exact .inr (.inr (.inr b))
  ·have y:1≤(k:Int)∧(k:Int)<(s.B.length:Int):=Decidable.byContradiction fun e=>b (.inl e);have q: ¬(n:Int)<1:=fun e=>b (.inr (.inl e));have r: ¬(s.B.length:Int)-(k:Int)<(n:Int):=fun e=>b (.inr (.inr (.inl e)));have z: ¬cP sp=false:=fun e=>b (.inr (.inr (.inr e)));have G: ¬((decide (1≤(k:Int))&&decide ((k:Int)<(s.B.length:Int)))=false∨(n:Int)<1∨(s.B.length:Int)-(k:Int)<(n:Int)∨cP sp=false):=by
    rintro(l|l|l|l)
    ·simp only[Bool.and_eq_false_iff,decide_eq_false_iff_not]at l;omega
    ·exact q l
    ·exact r l
    ·exact z l
   rw[if_neg b,if_neg G,cf,cf];have key:(List.range n).any (fun j=>(s.B.getD (k+j) (0,0)).1 !=0)=true↔((s.B.drop k).take n).any (fun x=>x !=(0,0))=true:=by
    simp only[List.any_eq_true];constructor
    ·rintro⟨j,d,u⟩;have B:=List.mem_range.1 d;have m:k+j<s.B.length:=by omega
     refine⟨s.B.getD (k+j) (0,0),List.mem_iff_getElem?.2 ⟨j,?_⟩,?_⟩
     ·rw[List.getElem?_take,if_pos B,List.getElem?_drop];simp[m]
     ·simp only[bne_iff_ne,ne_eq]at u⊢;intro e;exact u (by rw[e])
    ·rintro⟨x,u,t⟩;obtain⟨j,d⟩:=List.mem_iff_getElem?.1 u;rw[List.getElem?_take]at d;split at d
     ·rename_i C;rw[List.getElem?_drop]at d;have m:k+j<s.B.length:=(List.getElem?_eq_some_iff.1 d).1;have e:s.B.getD (k+j) (0,0)=x:=by rw[List.getD_eq_getElem?_getD,d];rfl
      refine⟨j,List.mem_range.2 C,?_⟩;rw[e];simp only[bne_iff_ne,ne_eq]at t⊢;intro H;have:=h.bf (k+j) m (by rw[e];exact H);rw[e]at this;exact t this
     ·cases d
   by_cases c:(List.range n).any (fun j=>(s.B.getD (k+j) (0,0)).1 !=0)=true
   ·rw[if_pos c,if_pos (key.1 c)]
   ·rw[if_neg c,if_neg (fun e=>c (key.2 e))]
 refine⟨E,?_⟩;unfold bn RL.tK;simp only;rw[←E];by_cases c:s.abs.fN (k:Int) (n:Int) sp=0;rotate_left
 ·rw[if_neg c,if_neg c];exact⟨s,rfl,rfl,h,rfl,rfl⟩
 rw[if_pos c,if_pos c];have D:1≤k∧k+n≤s.B.length∧1≤n:=by
  unfold RL.fN at c;by_cases b: ¬(1≤(k:Int)∧(k:Int)<(s.abs.B.length:Int))∨(n:Int)<1∨(s.abs.B.length:Int)-(k:Int)<(n:Int)∨cP sp=false
  ·rw[if_pos b]at c;cases c
  ·have I:s.abs.B.length=s.B.length:=rfl;rw[I]at b;have y:1≤(k:Int)∧(k:Int)<(s.B.length:Int):=Decidable.byContradiction fun e=>b (.inl e);have q: ¬(n:Int)<1:=fun e=>b (.inr (.inl e));have r: ¬(s.B.length:Int)-(k:Int)<(n:Int):=fun e=>b (.inr (.inr (.inl e)));omega
 rw[cf,cf];refine⟨_,rfl,rfl,h.pS (by simp[bF]) (fun i hi o=>?_) (by rw[aj (by omega),df _ _ _ _ D.2.1,if_neg (by omega)]) (fun i _ J=>?_),rfl,by simp[bF]⟩;rotate_left
 ·by_cases e:k=i/32
  ·rw[←e,aJ (by rw[bF];omega)];exact .inr rfl
  ·rw[aj e,df _ _ _ _ D.2.1];by_cases w:k≤i/32∧i/32<k+n
   ·exfalso;have K:=pW c (j:=i/32-k) (by omega);rw[show k+(i/32-k)=i/32 by omega]at K;omega
   ·rw[if_neg w];exact J
 by_cases e:k=i
 ·subst e;rw[aJ (by rw[bF];exact hi)]at o;cases o
 ·rw[aj e,df _ _ _ _ D.2.1]at o⊢;by_cases w:k≤i∧i<k+n
  ·rw[if_pos w]at o;cases o
  ·rw[if_neg w]at o⊢;exact h.bf i hi o
theorem zD (d:2≤n) (j:n≤64): ∃s,dY (n:Int)=some s∧s.Inv∧s.abs=⟨List.replicate n (0,0),[],[],0⟩∧s.born=0∧s.B.length=n:=by
 have e:dY (n:Int)=some ⟨List.replicate n (0,0),List.replicate (64*n) 0,List.replicate (32*n) 0,List.replicate (32*n) 0,[],[],0⟩:=by
  unfold dY;rw[if_pos ⟨by omega,by omega⟩];simp only[cf]
 have z: ∀(m i:Nat),(List.replicate m (0:Nat)).getD i 0=0:=fun m i=>by
  simp only[List.getD_eq_getElem?_getD,List.getElem?_replicate];split<;>rfl
 have b: ∀(m i:Nat),(List.replicate m (0:Int)).getD i 0=0:=fun m i=>by
  simp only[List.getD_eq_getElem?_getD,List.getElem?_replicate];split<;>rfl
 refine⟨_,e,⟨tB e,fun i hi _=>?_,fun i hi=>?_,fun i _=>z _ i,fun k _=>b _ k,by simp[show 0<n by omega],by simp only;rw[z];omega,⟨List.nodup_nil,fun i hi=>?_,fun k v e=>?_,fun i hi=>?_⟩,fun i hi=>by simp only at hi;rw[z]at hi;cases hi⟩,?_,rfl,by simp⟩
 ·simp only[List.length_replicate]at hi;simp[hi]
 ·simp only at hi;rw[z]at hi;cases hi
 ·simp only at hi;rw[z]at hi;cases hi
 ·cases e
 ·simp only at hi;rw[z]at hi;cases hi
 ·show RL.mk _ _ [] 0=_;congr 1;have:(HL.mk (List.replicate n (0,0)) (List.replicate (64*n) 0) (List.replicate (32*n) 0) (List.replicate (32*n) 0) [] [] 0).aw=[]:=by
   unfold HL.aw aX;rw[List.filter_eq_nil_iff];intro i _;simp only[z];simp
  rw[this];rfl
end
set_option maxRecDepth 8000
theorem rr {w:World} {a:Option Addr} {fp:List Nat} {m:HO} (h:HR w a fp m) (x n sp:Int) (b:x≤4611686018427387904) (d:n≤4611686018427387904):Cs Tryz.prog 247 [.pointer a,.int .i64 x,.int .i64 n,.int .i64 sp] w fun v w'=>v=.int .i64 (a8 m x n (2,sp))∧HR w' a fp (bn m x n (2,sp) (3,sp))∧ad fp w w':=by
 refine en [] ?_;refine gO ?_;rw[ai rfl rfl,ai rfl rfl];refine gO ?_;rw[ai rfl rfl,ai rfl rfl];refine gO ?_;refine ak (tC h x n (2,sp) (3,sp) b d) ?_;rintro v w' ⟨rfl,j,k⟩;refine gO ?_;exact⟨j,k⟩
def M9 (P:Int→Prop) (q:RL):Prop:= ∀o,o∈q.O→ ∀r,r∈o.rf→P r
theorem tM (s:HL):s.abs.O.length=s.aw.length:=by simp[HL.abs]
section
section
variable {s:HL} {i:Nat}
theorem lJ (h:s.Ok) (b:s.st.getD i 0=1):b' (some s) ((2*i:Nat):Int)=0:=by
 unfold b';rw[(b5 h).2 ⟨i,rfl,b⟩];rfl
theorem cy (h:s.Ok) (b:s.st.getD i 0=1):aU (some s) ((2*i:Nat):Int)=((s.aq i).sh,0):=by
 unfold aU;simp only[lJ h b,if_true];rfl
theorem kh (h:s.Ok) (m:s.st.getD i 0=1) {j:Nat} (b:j<(s.aq i).rf.length):ic (some s) ((2*i:Nat):Int) (j:Int)=((s.aq i).rf.getD j 0,0):=by
 obtain⟨r,d,k,t,o,u,w,q,y⟩:=dH h m;have l:s.cu ((2*i:Nat):Int)=((r:Int),(d:Int),(k:Int)):=o;rw[q]at b⊢;simp only[List.length_map,List.length_range]at b;unfold ic ba;simp only[lJ h m,ne_eq,not_true_eq_false,if_false,cond_false,l];rw[if_neg (show¬((j:Int)<0∨(r:Int)≤(j:Int)) by omega)];simp only[if_true];rw[show(((2*i:Nat):Int)+2+(j:Int)).toNat=2*i+2+j by omega];simp[b]
theorem f' (h:s.Ok) (b:s.st.getD i 0=1):(((s.aq i).rf.length:Nat):Int)=(s.aq i).sh.1∧(((s.aq i).dt.length:Nat):Int)=(s.aq i).sh.2.1∧aM (s.aq i).sh=true:=by
 obtain⟨r,d,k,j,q,t,l,m,o⟩:=dH h b;rw[l,m,o];exact⟨by simp,by simp,j⟩
end
end
section
set_option maxRecDepth 8000
variable {s s':HL} {to x:Int} {j k:Nat}
theorem qh (h:s.Ok) (b:s.st.getD k 0=1):gD (some s) ((2*k:Nat):Int)=(s.aq k).rf:=by
 obtain⟨j,_,_⟩:=f' h b;unfold gD;rw[cy h b];have e:(s.aq k).sh.1.toNat=(s.aq k).rf.length:=by omega
 simp only[e];refine List.ext_getElem (by simp) fun i j d=>?_;simp only[List.getElem_map,List.getElem_range];rw[kh h b d];simp[d]
def jq (s:HL) (to:Int):Prop:=to=0∨ ∃k:Nat,to=((2*k:Nat):Int)∧s.st.getD k 0=1
theorem jq.le (h:jq s to) (b:s.Ok):0≤to∧to≤4096:=by
 rcases h with rfl|⟨k,rfl,d⟩
 ·omega
 ·have:=(b.start d).1;have:=b.sl;have:=b.ju;omega
theorem cn (b:s.Ok) (d:s.st.getD k 0=1):2*k≤4096:=by
 have:=(b.start d).1;have:=b.sl;have:=b.ju;omega
theorem yt (h:s.Ok) (l:s.st.getD k 0=1) (m:j<(s.aq k).rf.length):ba (some s) ((2*k:Nat):Int) (j:Int) false=(((2*k+2+j:Nat):Int),0):=by
 obtain⟨r,d,o,u,q,w,y,t,z⟩:=dH h l;have b:s.cu ((2*k:Nat):Int)=((r:Int),(d:Int),(o:Int)):=q;rw[t]at m;simp only[List.length_map,List.length_range]at m;unfold ba;simp only[lJ h l,ne_eq,not_true_eq_false,if_false,cond_false,b];rw[if_neg (show¬((j:Int)<0∨(r:Int)≤(j:Int)) by omega)];refine Prod.ext ?_ rfl;simp only;omega
theorem km (h:s.Ok) (l:s.st.getD k 0=1) (m:j<(s.aq k).rf.length) (o:jq s to):bz (some s) ((2*k:Nat):Int) (j:Int) to=0:=by
 unfold bz;simp only[yt h l m,ne_eq,not_true_eq_false,if_false];rw[if_neg];rintro⟨q,d⟩;rcases o with rfl|⟨k',rfl,b⟩
 ·exact q rfl
 ·rw[(b5 h).2 ⟨k',rfl,b⟩]at d;cases d
theorem nY (h:s.Ok) (b:s.st.getD k 0=1):(s.aq k).rf.length≤15:=by
 obtain⟨j,_,d⟩:=f' h b;simp only[aM,Bool.and_eq_true,decide_eq_true_eq]at d;omega
theorem sQ (h:s.Ok) (e:(aU (some s) x).2=0): ∃k:Nat,x=((2*k:Nat):Int)∧s.st.getD k 0=1:=by
 unfold aU at e;cases b:bw (some s) x with
 |true=>exact(b5 h).1 b
 |false=>simp[b',b]at e
def HL.RF (s:HL) (i j:Nat):Int:=(s.aq i).rf.getD j 0
theorem gd (h:s.Ok) {i:Int} (e:aP (some s) x i to=some s'):s'.Ok:=by
 unfold aP at e;by_cases c:bz (some s) x i to=0;rotate_left
 ·simp only[if_neg c,Option.some.injEq]at e;subst e;exact h
 simp only[if_pos c,Option.some.injEq]at e;subst e;have d:(ba (some s) x i false).2=0:=by
  unfold bz at c;by_cases b:(ba (some s) x i false).2=0
  ·exact b
  ·simp only[ne_eq,b,not_false_eq_true,if_true]at c
 obtain⟨o,k,rfl,j,l,m,q,r⟩:=ff h d;rw[l,cf];exact h.AL (h.inside j m q)
theorem dK (h:s.Ok) (y:s'.Ok) (u:s.st.getD k 0=1) (z:j<(s.aq k).rf.length) (B:jq s to) (e:aP (some s) ((2*k:Nat):Int) (j:Int) to=some s') (i:Nat) (C:s.st.getD i 0=1):
  s'.aq i=if i=k then {s.aq k with rf:=(s.aq k).rf.set j to}else s.aq i:=by
 obtain⟨t,D,E,K,F,L,M⟩:=dx h ((2*k:Nat):Int) (j:Int) to;have o:s'=t:=Option.some.inj (e.symm.trans D);subst o;have w:s'.aw=s.aw:=by unfold HL.aw;rw[F]
 obtain⟨a,q,b⟩:=gT u;obtain⟨c,r,d⟩:=gT C;have G:s.abs.lI ((2*k:Nat):Int) (j:Int) to=0:=by rw[kV h];exact km h u z B
 have H:s'.abs.O.getD c default=s'.aq i:=kb (by rw[w];exact r) (by rw[w];exact d);have I:s.abs.O.getD c default=s.aq i:=kb r d;have J:s.abs.O.getD a default=s.aq k:=kb q b;rw[←H,E];unfold RL.aP;rw[if_pos G];unfold RL.GP;rw[mZ q b];show(s.abs.O.set a {s.abs.O.getD a default with rf:=(s.abs.O.getD a default).rf.set (j:Int).toNat to}).getD c default=_;have N:s.abs.O.length=s.aw.length:=by simp[HL.abs]
 rw[J,cf];by_cases l:i=k
 ·subst l;rw[if_pos rfl];have m:a=c:=by
   have:=(mZ q b).symm.trans (mZ r d);exact Option.some.inj this
  subst m;rw[List.getD_eq_getElem?_getD,List.getElem?_set_self (by omega)];rfl
 ·rw[if_neg l];have m:a≠c:=fun e=>l (by rw[←d,←b,e]);rw[List.getD_eq_getElem?_getD,List.getElem?_set_ne m,←List.getD_eq_getElem?_getD,I]
end
def jb (s:HL) (x:Int):Prop:= ∃k:Nat,x=((2*k:Nat):Int)∧s.st.getD k 0=1
def yM (b:Bool) (s:HL) (x:Int):Prop:=x=0∨b=true∧jb s x
def Bz (P:Int→Prop) (R:Rt.MS):Prop:=(∀x,x∈R.S→P x)∧(∀x,x∈R.G→P x)∧ ∀x,x∈R.Q→P x
def rF (b:Bool) (s:HL) (R:Rt.MS):Prop:=M9 (yM b s) s.abs∧Bz (yM b s) R
theorem Bz.mono {P Q:Int→Prop} {R:Rt.MS} (h:Bz P R) (d: ∀x,P x→Q x):Bz Q R:=⟨fun x b=>d x (h.1 x b),fun x b=>d x (h.2.1 x b),fun x b=>d x (h.2.2 x b)⟩
def cR (kd:Int) (i:Nat):Bool:=(i==0&&(kd==1||kd==2))||(i==1&&kd==2)
theorem tS: ∀ {l m:List Int},l.Nodup→(∀x,x∈l→x∈m)→l.length≤m.length:=by
 intro l
 induction l with
 |nil=>intro m _ _;exact Nat.zero_le _
 |cons y l k=>
  intro m h b;obtain⟨o,q⟩:=List.nodup_cons.1 h;have d:y∈m:=b y (by simp);have:=k (m:=m.erase y) q fun x j=>(List.mem_erase_of_ne (fun e=>o (by rw[←e];exact j))).2 (b x (by simp[j]));rw[List.length_erase_of_mem d]at this;have:=List.length_pos_of_mem d;simp only[List.length_cons];omega
section
open Go.MapKept Go.ChangeMaps
end
section
variable {x:Int} {K:List Int} {b:Nat} {w w':World}
def cC (K:List Int):IM:=K.map fun x=>(x,Value.bool true)
def MB (w:World) (b:Nat) (K:List Int):Prop:=bP w b (cC K)
theorem oM (K:List Int):(cC K).map (·.1)=K:=by
 induction K with
 |nil=>rfl
 |cons y K b=>exact congrArg (y:: ·) b
theorem wu (K:List Int):(cC K).length=K.length:=by simp[cC]
theorem yu (K:List Int) (x:Int):getM (cC K) x=if x∈K then some (.bool true)else none:=by
 induction K with
 |nil=>rfl
 |cons y K d=>
  have e:cC (y::K)=(y,Value.bool true)::cC K:=rfl;rw[e];unfold getM;by_cases c:y=x
  ·rw[if_pos c,if_pos (by simp[c])]
  ·rw[if_neg c,d];by_cases b:x∈K
   ·rw[if_pos b,if_pos (by simp[b])]
   ·rw[if_neg b,if_neg (by simp[b];exact fun e=>c e.symm)]
theorem tZ (K:List Int) (x:Int):(getM (cC K) x).getD (.bool false)=.bool (decide (x∈K)):=by
 rw[yu];by_cases c:x∈K
 ·rw[if_pos c,bc c];rfl
 ·rw[if_neg c,bt c];rfl
theorem yv (h:x∉K):b9 (cC K) x (.bool true)=cC (K++[x]):=by
 rw[(Dp (m:=cC K) (k:=x) (.bool true) fun p b e=>h ?_).2.1]
 ·simp[cC]
 ·simp only[cC,List.mem_map]at b;obtain⟨y,d,rfl⟩:=b;simp only at e;rw[←e];exact d
theorem AW (b:K.Nodup) (h:x∈K):b9 (cC K) x (.bool true)=cC K:=by
 obtain⟨j,d,rfl⟩:=List.mem_iff_getElem.1 h;have k:(cC K)[j]? =some (K[j],.bool true):=by simp[cC,d]
 rw[(Dn (v:=.bool true) (by rw[oM];exact b) k).2.1];refine List.ext_getElem (by simp) fun i l m=>?_;rw[List.getElem_set];split
 ·rename_i e;subst e;simp[cC]
 ·rfl
theorem vX:eh (cC K) x=cC (K.erase x):=by
 induction K with
 |nil=>rfl
 |cons y K b=>
  have e:cC (y::K)=(y,Value.bool true)::cC K:=rfl;rw[e];unfold eh;by_cases c:y=x
  ·rw[if_pos c,c,List.erase_cons_head]
  ·rw[if_neg c,b,List.erase_cons_tail (by simpa using c)];rfl
theorem MB.ae {S:List Nat} (h:MB w b K) (k:ad S w w') (d:b∉S):MB w' b K:=bP.ae h k d
theorem MB.aa (h:MB w b K) (k:ad [] w w'):MB w' b K:=bP.aa h k
theorem MB.nodup (h:MB w b K):K.Nodup:=by
 have:=bP.nodup h;rwa[oM]at this
end
set_option maxRecDepth 8000
theorem Ga (w:World) (kd:Int) (i:Nat):Cs Tryz.prog 304 [.int .i64 kd,.int .i64 (i:Int)] w fun v w'=>v=.bool (cR kd i)∧w'=w:=by
 refine en [] ?_;unfold cR;by_cases m:i=0
 ·have j:((i:Int)==0)=true:=fx (by omega);have b:((i:Int)==1)=false:=fj (by omega);have k:(i==0)=true:=by simp[m]
  have d:(i==1)=false:=by simp[m]
  by_cases o:kd=1
  ·refine jr j b k d (fx o) ?_;simp
  ·by_cases l:kd=2
   ·refine kZ j b k d (fj o) (fx l) ?_;simp
   ·refine kZ j b k d (fj o) (fj l) ?_;simp
 ·have j:((i:Int)==0)=false:=fj (by omega);have k:(i==0)=false:=by simp[m]
  by_cases q:i=1
  ·have b:((i:Int)==1)=true:=fx (by omega);have d:(i==1)=true:=by simp[q]
   by_cases l:kd=2
   ·refine jr j b k d (fx l) ?_;simp
   ·refine jr j b k d (fj l) ?_;simp
  ·have b:((i:Int)==1)=false:=fj (by omega);have d:(i==1)=false:=by simp[q]
   refine jI j b k d ?_;simp
theorem AX {s:HL} (h:s.Ok) (x:Int):(gD (some s) x).length≤15:=by
 unfold gD;rw[List.length_map,List.length_range];by_cases c:(aU (some s) x).2=0
 ·obtain⟨k,rfl,b⟩:=sQ h c;rw[cy h b];have:=nY h b;have:=(f' h b).1;simp only;omega
 ·unfold aU at c⊢;cases d:bw (some s) x with
  |true=>simp[b',d]at c
  |false=>simp[b',d]
set_option maxRecDepth 8000
theorem jb.le {s:HL} (h:s.Ok) {x:Int} (b:jb s x):0≤x∧x≤4096:=by
 obtain⟨k,rfl,d⟩:=b;have:=cn h d;omega
set_option maxRecDepth 8000
theorem ta {w:World} {a:Option Addr} {fp:List Nat} {m:HO} (h:HR w a fp m) (x:Int) (t:x≤4611686018427387904):Cs Tryz.prog 185 [.pointer a,.int .i64 x] w fun v w'=>v=.int .i64 (aU m x).1.2.2∧ad [] w w':=by
 refine en [] ?_;refine gO ?_;refine ak (pQ h x t) ?_;rintro _ D ⟨rfl,j⟩;refine gO ?_;refine bm fun q E F u d k=>?_;refine gO ?_;refine dR (cs:=c8 (aU m x).1) d rfl (by simp[c8]) (fH _) fun o z b l=>?_;rw[fI]at b;have B:ad [] w o:=j.nil (k.trans l fun y r=>by simp only[bp]at r;subst r;exact .inr (by omega));have C:o.cell? ⟨q,2,none⟩=some (.int .i64 (aU m x).1.2.2):=by rw[b.cell];rfl
 refine aQ C ?_;exact B
set_option maxRecDepth 8000
theorem cQ {s:HL} {x:Int}:x∈du (some s)↔jb s x:=by
 show x∈dy s.aw↔_;unfold dy;rw[List.mem_map];exact⟨fun⟨k,h,e⟩=>⟨k,e.symm,aR.1 h⟩,fun⟨k,e,h⟩=>⟨k,aR.2 h,e.symm⟩⟩
theorem fZ (s:HL):(du (some s)).length=s.aw.length:=by show(dy s.aw).length=_;unfold dy;rw[List.length_map]
section
set_option maxRecDepth 8000
variable {hp:Addr} {s:HL} {x y:Int} {fh:List Nat} {R:Rt.MS} {w:World}
theorem sR {b:List Int}:y∈Rt.dD b x↔y∈b∨y=x:=by
 unfold Rt.dD;by_cases c:b.contains x=true
 ·rw[if_pos c];exact⟨.inl,fun h=>h.elim id fun e=>e▸List.contains_iff_mem.1 c⟩
 ·rw[if_neg c,List.mem_append,bp]
theorem iK: ∀(l b:List Int) (y:Int),y∈l.foldl Rt.dD b↔y∈b∨y∈l
 | [],b,y=>by simp
 |x::l,b,y=>by rw[List.foldl_cons,iK l,sR,List.mem_cons,or_assoc]
theorem sT {p:Rt.PT×Int} (h:p∈Rt.filled R):p.2∈R.S∨p.2∈R.G∨p.2∈R.Q:=by
 have j:=(List.mem_filter.1 h).1;have d:=(List.of_mem_zip (a:=p.1) (b:=p.2) j).2;unfold Rt.MS.V at d;simp only[List.mem_append]at d;exact d.elim (fun h=>h.elim .inl fun h=>.inr (.inl h)) fun h=>.inr (.inr h)
theorem vd (h:y∈Rt.bG (some R)):y∈R.S∨y∈R.G∨y∈R.Q:=by
 unfold Rt.bG at h;rw[iK]at h;rcases h with h|h
 ·cases h
 ·obtain⟨p,hp,rfl⟩:=List.mem_map.1 h;exact sT hp
theorem yw {P:Int→Prop} (h:Bz P R) (d:y∈Rt.bG (some R)):P y:=by
 rcases vd d with b|b|b
 ·exact h.1 y b
 ·exact h.2.1 y b
 ·exact h.2.2 y b
theorem yx {q:Nat} {m:HO} (b:At w q [.pointer (some hp)]) (h:HR w (some hp) fh m) (x:Int) (d:x≤4611686018427387904):
  Cs Tryz.prog 279 [.int .i64 x,.pointer (some ⟨q,0,none⟩)] w fun v w'=>v=.bool (x !=0&&!bw m x)∧ad [] w w':=by
 refine en [] ?_;by_cases c:x=0
 ·refine aQ (ep c) ?_;exact⟨by rw[Bool.false_and],ad.refl _ _⟩
 ·refine bj (gm c) b.cell ?_;refine ak (oT h x d) ?_;rintro _ k ⟨rfl,j⟩;refine gO ?_;exact⟨by rw[Bool.true_and],j⟩
theorem ru (b:s.Ok) (h:yM true s x):(x !=0&&!bw (some s) x)=false:=by
 rcases h with rfl|⟨_,h⟩
 ·rfl
 ·rw[(b5 b).2 h];simp
theorem yM.le {b:Bool} (d:s.Ok) (h:yM b s x):0≤x∧x≤4096:=by
 rcases h with rfl|⟨_,h⟩
 ·omega
 ·exact h.le d
theorem rF.ref (h:rF true s R) {k j:Nat} (b:s.st.getD k 0=1) (d:j<(s.aq k).rf.length):yM true s (s.RF k j):=by
 refine h.1 (s.aq k) (by simp only[HL.abs,List.mem_map];exact⟨k,aR.2 b,rfl⟩) _ ?_;unfold HL.RF;simp[d]
theorem ql {ar:Option Addr} {fr:List Nat} (H:HR w (some hp) fh (some s)) (m:s.Ok) (hR:Rt.PR w ar fr (some R)) (I:rF true s R) (DL:s.aw.length≤2000) (J:(Rt.bG (some R)).length≤1000):
  Cs Tryz.prog 99 [.pointer (some hp),.pointer ar] w fun v w'=>v=.bool true∧ad [] w w':=by
 refine en [] ?_;refine gO ?_;refine bm fun q w1 hq qb K L=>?_;refine gO ?_;refine ak (Rt.oV (hR.aa L)) ?_;rintro v w2 ⟨M,fl,B,_⟩;obtain⟨l,N⟩: ∃l,l=Rt.bG (some R):=⟨_,rfl⟩;rw[←N]at B J;obtain⟨al,cl,rfl⟩:=B.val;have o2:=L.nil M;have O:=K.aa M;have P: ∀x,x∈l→yM true s x:=fun x Q=>yw I.2 (by rw[←N];exact Q);refine gO ?_;refine ak (j6 (p:=fun x=>x !=0&&!bw (some s) x) (F:=279) (caps:=#[.pointer (some ⟨q,0,none⟩)]) (fun EB=>?_) (by kernel_rfl) J fun w' x ho Q=>?_) ?_
 ·obtain⟨g,M',ys,e,BI,_⟩:=B.pos (by have:=List.length_pos_iff.2 EB;omega);cases e;exact⟨g,ys,rfl,BI⟩
 ·exact yx (O.aa ho) (H.aa (o2.nil ho)) x (by have:=(P x Q).le m;omega)
 rintro _ w3 ⟨rfl,S⟩;have T:(l.any fun x=>x !=0&&!bw (some s) x)=false:=List.any_eq_false.2 fun x Q=>by rw[ru m (P x Q)];simp
 rw[T];have o3:=o2.nil S;have U:=O.aa S;refine aQ U.cell ?_;refine ak (tQ (H.aa o3)) ?_;rintro v w4 ⟨V,fA,hA,_⟩;obtain⟨A,C⟩: ∃A,A=du (some s):=⟨_,rfl⟩;rw[←C]at hA;have Jc:A.length≤2000:=by rw[C,fZ];exact DL
 obtain⟨aA,cA,rfl⟩:=hA.val;have o4:=o3.nil V;have DK:=U.aa V;refine gO ?_;refine aE (7::8::9::10::11::12::21::22::23::24::25::26::27::28::29::30::31::32::33::34::35::36::37::38::39::40::41::42::43::44::45::46::47::[]) (fun g w'=> ∃i:Nat,g 21=.int .i64 (i:Int)∧i≤A.length∧ad [] w4 w') (fun g _=>bU A.length 21 g) ⟨0,by simp only[go_sem];rfl,by omega,ad.refl _ _⟩ fun g w5 hI D=>?_;obtain⟨i,o,hi,b⟩:=hI;by_cases c1:i<A.length;rotate_left
 ·refine bj o (bt (show¬(i:Int)<(A.length:Int) by omega)) ?_;exact o4.nil b
 obtain⟨gl,_,yl,el,W,_,_⟩:=(hA.aa b).pos (by omega);cases el;have ci:(0:Int)≤(i:Int)∧(i:Int)<(A.length:Int):=by omega
 have vr:w5.cell? ⟨gl,i,none⟩=some (.int .i64 (A.getD i 0)):=by rw[W.cell];exact aC yl (by omega)
 obtain⟨k,Gn,G⟩:jb s (A.getD i 0):=cQ.1 (by rw[←C];simp[c1]);rw[Gn]at vr;have Ea:=cn m G;have X:=DK.aa b;have o5:=o4.nil b;refine nX o (bc ci.2) (eq_true ci) @Int.toNat_natCast @Nat.mul_one vr X.cell ?_;refine ak (pQ (H.aa o5) ((2*k:Nat):Int) (by omega)) ?_;rintro _ w6 ⟨rfl,p9⟩;rw[cy m G];refine gO ?_;refine bm fun q8 w7 Gl Bb Y lx=>?_;refine gO ?_;refine dR (cs:=c8 (s.aq k).sh) Y rfl (by simp[c8]) (fH _) fun w8 F2 z nw=>?_;rw[fI]at z;have E:ad [] w5 w8:=p9.nil (lx.trans nw fun y hy=>by simp only[bp]at hy;subst hy;exact .inr (by omega));have Na:=(f' m G).1;have Nb:w8.cell? ⟨q8,0,none⟩=some (.int .i64 ((s.aq k).rf.length:Int)):=by rw[z.cell,Na];rfl
 have rl:=nY m G;have Z:=X.aa E;refine aQ Nb ?_;refine aE (10::11::12::33::34::35::36::37::38::39::40::41::42::43::44::45::46::[]) (fun g w'=> ∃j:Nat,g 33=.int .i64 (j:Int)∧j≤(s.aq k).rf.length∧ad [] w8 w') (fun g _=>bU (s.aq k).rf.length 33 g) ⟨0,by simp only[go_sem];rfl,by omega,ad.refl _ _⟩ fun g2 w9 hJ r=>?_;obtain⟨j,t,hj,u⟩:=hJ;have o9:=o5.nil (E.nil u);by_cases c2:j<(s.aq k).rf.length;rotate_left
 ·refine jI o t (bt (show¬(j:Int)<((s.aq k).rf.length:Int) by omega)) (au i (by omega)) ?_;refine D _ w9 ⟨i+1,?_,by omega,b.nil (E.nil u)⟩ ?_
  ·simp only[go_sem]
  ·exact aZ o
 have Es:=Z.aa u;refine db t (bc (show(j:Int)<((s.aq k).rf.length:Int) by omega)) Es.cell ?_;refine ak (vQ (H.aa o9) ((2*k:Nat):Int) (j:Int) (by omega)) ?_;rintro _ yI ⟨rfl,d⟩;rw[kh m G c2];have J1:=I.ref G c2;refine gO ?_;refine di (bA 279 #[] [.int .i64 ((s.aq k).rf.getD j 0)] #[.pointer (some ⟨q,0,none⟩)]) (by kernel_rfl) (yx (Es.aa d) (H.aa (o9.nil d)) ((s.aq k).rf.getD j 0) (by have:=J1.le m;unfold HL.RF at this;omega)) ?_;rintro _ vZ ⟨rfl,IP⟩;have J2:=ru m J1;unfold HL.RF at J2;rw[J2];refine bj t (au j (by omega)) ?_;refine r _ vZ ⟨j+1,?_,by omega,(u.nil d).nil IP⟩ ?_
 ·simp only[go_sem]
 ·exact aZ t
end
section
variable {caps:Array Value} {p:Int→Bool} {xs:List Int} {F cap:Nat} {w:World}
def IQ (p:Int→Bool) (xs:List Int) (k:Int):Prop:=(k= -1∧xs.any p=false)∨ ∃i:Nat,k=(i:Int)∧i<xs.length∧p (xs.getD i 0)=true∧(xs.take i).any p=false
theorem sU {a:Option Addr} (C:xs≠ []→ ∃s rest,a=some ⟨s,0,none⟩∧At w s (ints xs++rest)) (r:okF Tryz.prog F=true)
  (z:xs.length≤4000) (D: ∀w' x,ad [] w w'→x∈xs→Cs Tryz.prog F ([.int .i64 x]++caps.toList) w' fun v j=>v=.bool (p x)∧ad [] w' j):
  Cs Tryz.prog 266 [.slice a xs.length cap,.func (.func F) #[] caps] w fun v w'=>(∃k:Int,v=.int .i64 k∧IQ p xs k)∧ad [] w w':=by
 refine en [] ?_;refine gO ?_;refine aE [5,8,9,10,11,12,13,14,15,16,18] (fun g w'=> ∃i:Nat,g 8=.int .i64 i∧i≤xs.length∧(xs.take i).any p=false∧ad [] w w') (fun g _=>bU xs.length 8 g) ⟨0,by simp only[go_sem];rfl,by omega,by simp,ad.refl _ _⟩ fun g w' E l=>?_;obtain⟨i,q,H,b,m⟩:=E;by_cases d:i<xs.length;rotate_left
 ·refine bj q (bt (show¬(i:Int)<(xs.length:Int) by omega)) ?_;rw[List.take_of_length_le (by omega)]at b;exact⟨⟨-1,rfl,.inl ⟨rfl,b⟩⟩,m⟩
 obtain⟨s,rest,rfl,t⟩:=C (by intro e;subst e;simp at d);have B:(0:Int)≤(i:Int)∧(i:Int)<(xs.length:Int):=⟨by omega,by omega⟩;(repeat(first|with_reducible(first|refine nx ?_|refine ch rfl ?_)|simp only[go_sem,q,bc B.2,if_pos B,(t.aa m).cell,aC rest d,cf,Nat.mul_one]));have u:Cs Tryz.prog F ((#[]:Array Value).toList++[.int .i64 (xs.getD i 0)]++caps.toList) w' fun v j=>v=.bool (p (xs.getD i 0))∧ad [] w' j:=by
  have:=D w' (xs.getD i 0) m (by simp[d]);simpa using this
 refine di (bA F #[] [.int .i64 (xs.getD i 0)] caps) r u ?_;rintro v G ⟨rfl,o⟩;refine gO ?_;refine cD (fun y=>?_) (fun y=>?_)
 ·refine gO ?_;exact⟨⟨i,rfl,.inr ⟨i,rfl,d,y,b⟩⟩,m.nil o⟩
 ·refine bj q (au i (by omega)) ?_;refine l _ G ⟨i+1,?_,by omega,by rw[fV d,b,y];rfl,m.nil o⟩ ?_
  ·simp only[go_sem]
  ·exact aZ q
theorem DD {size n h:Nat} {k:IntKind} {g:Nat} (d:h≤cap):nI size (.slice (some ⟨g,0,none⟩) n cap) none (some (.int k (h:Int)))=some (.slice (some ⟨g,0,none⟩) h cap):=by
 have b:(0:Int)≤(h:Int)∧(h:Int)≤(cap:Int):=by omega
 have j:(⟨g,0,none⟩:Addr).add (0*size)=⟨g,0,none⟩:=by rw[bX];simp
 simp[nI,il,b];intro _;rw[bX]
theorem eC {i:Nat} (h:i<xs.length):(xs.take (i+1)).filter p=(xs.take i).filter p++if p (xs.getD i 0)then [xs.getD i 0]else []:=by
 rw[List.take_succ_eq_append_getElem h,List.filter_append];congr 1;simp[List.filter_cons,h]
theorem lL {v0:Value} {J:List Nat} (u:Sl w 1 v0 xs.length (ints xs) J) (L:okF Tryz.prog F=true)
  (M:xs.length≤4000) (hF: ∀w' x,ad J w w'→x∈xs→Cs Tryz.prog F ([.int .i64 x]++caps.toList) w' fun v D=>v=.bool (p x)∧ad [] w' D):
  Cs Tryz.prog 93 [v0,.func (.func F) #[] caps] w fun v w'=>ad J w w'∧Sl w' 1 v (xs.filter fun x=>!p x).length (ints (xs.filter fun x=>!p x)) J:=by
 obtain⟨a0,cap,rfl⟩:=u.val;refine en [] ?_;refine gO ?_;refine ak (sU (p:=p) (fun W=>?_) L M fun w' x ho y=>hF w' x (ho.mono (by simp)) y) ?_
 ·obtain⟨g,N,ys,e,E,_⟩:=u.pos (List.length_pos_iff.2 W);cases e;exact⟨g,ys,rfl,E⟩
 rintro _ w1 ⟨⟨k,rfl,X⟩,z⟩;rcases X with⟨rfl,X⟩|⟨o,rfl,B,O,Y⟩
 ·refine gO ?_;have e:(xs.filter fun x=>!p x)=xs:=List.filter_eq_self.2 fun x y=>by
   have:=List.any_eq_false.1 X x y;simpa using this
  rw[e];exact⟨z.mono (by simp),u.aa z⟩
 obtain⟨g,ys,e,E,rfl,P⟩: ∃g ys,a0=some ⟨g,0,none⟩∧At w g (ints xs++ys)∧J=[g]∧(ints xs++ys).length=cap:=by
  rcases u.2 with⟨_,h0,_⟩|⟨g,N,ys,T,h1,h2,h3,h4,G⟩
  ·omega
  ·cases h1;exact⟨g,ys,rfl,⟨T,h3⟩,h2,by simpa using h4⟩
 subst e;have F7:xs.length≤cap:=by rw[gZ,aG]at P;omega
 have e1:((o:Int)== -1)=false:=fj (by omega);refine bj e1 (au o (by omega)) ?_;have f0:(xs.take o).filter (fun x=>!p x)=xs.take o:=List.filter_eq_self.2 fun x y=>by
  have:=List.any_eq_false.1 Y x y;simpa using this
 refine aE (5::6::7::16::17::18::19::20::21::22::23::24::25::26::27::28::29::30::31::32::33::34::35::[]) (fun Q w'=> ∃(i j:Nat) (mid:List Int),Q 5=.int .i64 (i:Int)∧Q 6=.int .i64 (j:Int)∧j≤xs.length∧((xs.take j).filter fun x=>!p x).length=i∧i+mid.length=j∧0<mid.length∧ad [g] w w'∧At w' g (ints ((xs.take j).filter (fun x=>!p x)++mid++xs.drop j)++ys))
  (fun Q _=>bU xs.length 6 Q) ⟨o,o+1,[xs.getD o 0],by simp only[go_sem],by simp only[go_sem],by omega,?_,rfl,Nat.one_pos,z.mono (by simp),?_⟩ fun Q R hI q=>?_
 ·rw[eC B,f0];simp only[O,Bool.not_true,Bool.false_eq_true,if_false,List.append_nil,List.length_take];omega
 ·rw[eC B,f0];have:xs.take o++[xs.getD o 0]++xs.drop (o+1)=xs:=by
   conv=>rhs;rw[←List.take_append_drop o xs,List.drop_eq_getElem_cons B]
   simp[B]
  simp only[O,Bool.not_true,Bool.false_eq_true,if_false,List.append_nil,this];exact E.aa z
 obtain⟨i,j,mid,G,I,hj,m,S,hm,C,b⟩:=hI;by_cases c:j<xs.length;rotate_left
 ·have Z:j=xs.length:=by omega
  subst Z;rw[List.take_length]at m b;rw[List.drop_length,List.append_nil]at b;refine db G I (bt (show¬((xs.length:Nat):Int)<(xs.length:Int) by omega)) ?_;rw[Dk (show i≤xs.length by omega) (by omega)];refine db @bX @Nat.zero_add @Nat.mul_one ?_;refine yk Tryz.underlying35 (Tryz.zeroValue3 R) rfl b (by rw[gZ,aG,gZ];omega) fun w3 vw d r=>?_;refine aQ G ?_;rw[DD (show i≤cap by omega)];refine gO ?_;refine⟨C.trans r (fun x y=>.inl y),?_⟩;rw[cH,List.append_assoc,List.append_assoc,List.take_left' (by rw[aG];exact m)]at d;rw[m];refine Sl.AN (d) (by rw[aG];exact m) ?_;rw[←P];simp only[gZ,aG,List.length_replicate,List.length_drop,m];omega
 obtain⟨m0,l,rfl⟩:=List.exists_cons_of_length_pos hm;have H:xs.drop j=xs.getD j 0::xs.drop (j+1):=by rw[List.drop_eq_getElem_cons c];simp[c]
 have cj:(0:Int)≤(j:Int)∧(j:Int)<(xs.length:Int):=by omega
 obtain⟨K,U⟩: ∃K,K=(xs.take j).filter fun x=>!p x:=⟨_,rfl⟩;rw[←U]at m b;have vr:R.cell? ⟨g,j,none⟩=some (.int .i64 (xs.getD j 0)):=by
  rw[b.cell,aC ys (by simp only[gZ,List.length_drop,m]at*;omega),H];congr 2;rw[List.getD_eq_getElem?_getD,List.getElem?_append_right (by simp only[gZ,m];omega),show j-(K++m0::l).length=0 by simp only[gZ,m];omega];rfl
 refine nX G I (bc cj.2) (eq_true cj) @Int.toNat_natCast @Nat.mul_one vr ?_;have Bo:Cs Tryz.prog F ((#[]:Array Value).toList++[.int .i64 (xs.getD j 0)]++caps.toList) R fun v D=>v=.bool (p (xs.getD j 0))∧ad [] R D:=by
  have:=hF R (xs.getD j 0) C (by simp[c]);simpa using this
 refine di (bA F #[] [.int .i64 (xs.getD j 0)] caps) L Bo ?_;rintro v w3 ⟨rfl,r⟩;have d:=b.aa r;cases V:p (xs.getD j 0)with
 |true=>
  refine bj I (au j (by omega)) ?_;refine q _ w3 ⟨i,j+1,m0::l++[xs.getD j 0],?_,?_,by omega,?_,?_,by simp,C.nil r,?_⟩ ?_
  ·simp only[go_sem,G]
  ·simp only[go_sem]
  ·rw[eC c,V];simp[←U,m]
  ·simp at S⊢;omega
  ·rw[eC c,V,←U];rw[H]at d;simpa using d
  ·exact aZ I
 |false=>
  have ci:(0:Int)≤(i:Int)∧(i:Int)<(xs.length:Int):=by omega
  refine jI G (eq_true ci) @Int.toNat_natCast @Nat.mul_one ?_;refine nt d (by simp only[gZ,aG,List.length_drop,m];omega) rfl fun w4 tR t ll=>?_;refine jI G I (au i (by omega)) (au j (by omega)) ?_;refine q _ w4 ⟨i+1,j+1,l++[xs.getD j 0],?_,?_,by omega,?_,?_,by simp,(C.nil r).trans ll (fun x y=>.inl y),?_⟩ ?_
  ·simp only[go_sem]
  ·simp only[go_sem]
  ·rw[eC c,V];simp[←U,m]
  ·simp at S⊢;omega
  ·rw[eC c,V,←U];rw[H]at t;have e:(ints (K++m0::l++xs.getD j 0::xs.drop (j+1))++ys).set i (.int .i64 (xs.getD j 0))=ints (K++[xs.getD j 0]++(l++[xs.getD j 0])++xs.drop (j+1))++ys:=by
    rw[List.set_append_left _ _ (by simp only[gZ,aG,m,List.length_cons];omega)];congr 1;simp only[cH,List.append_assoc];rw[List.set_append_right _ _ (by rw[aG,m];exact Nat.le_refl _),aG,m,Nat.sub_self];simp[ints]
   rw[e]at t;simpa using t
  ·exact aZ I
end
section
open Classical in
open Classical in
end
set_option maxRecDepth 8000
theorem vV {w:World} {a:Option Addr} {fp:List Nat} {m:HO} (h:HR w a fp m) (x:Int) (z:x≤4611686018427387904):
  Cs Tryz.prog 272 [.pointer a,.int .i64 x] w fun v w'=>v=.int .i64 (ay (aU m x).1)∧ad [] w w':=by
 refine en [] ?_;refine gO ?_;refine ak (pQ h x z) ?_;rintro _ E ⟨rfl,j⟩;refine gO ?_;refine bm fun q F G B d k=>?_;refine gO ?_;refine dR (cs:=c8 (aU m x).1) d rfl (by simp[c8]) (fH _) fun l C b o=>?_;rw[fI]at b;have D:ad [] w l:=j.nil (k.trans o fun y u=>by simp only[bp]at u;subst u;exact .inr (by omega));have r:aI l ⟨q,0,none⟩ 3=some (c8 (aU m x).1):=by
  rw[ax b 0 3 (by simp[c8])];rfl
 refine aQ r ?_;refine ak (mW l (aU m x).1) ?_;rintro _ H ⟨rfl,t⟩;refine gO ?_;exact D.nil t
set_option maxRecDepth 8000
theorem sV {b j:Type} (f:b→j→b) (a:b) (l:List j) (d:j) {i:Nat} (h:i<l.length):(l.take (i+1)).foldl f a=f ((l.take i).foldl f a) (l.getD i d):=by
 rw[List.take_succ_eq_append_getElem h,List.foldl_append];simp[h]
def yN (s:HL) (b:Int) (x:Int):Int:=IntKind.i64.wrap (b+s.size x.toNat)
theorem EL {w:World} {E:Addr} {fp:List Nat} {s:HL} (h:HR w (some E) fp (some s)) (z:s.aw.length≤5000):
  Cs Tryz.prog 104 [.pointer (some E)] w fun v w'=>v=.int .i64 ((du (some s)).foldl (yN s) 0)∧ad [] w w':=by
 refine en [] ?_;refine gO ?_;refine ak (tQ h) ?_;rintro v H ⟨t,T,l,U⟩;obtain⟨A,m⟩: ∃A,A=du (some s):=⟨_,rfl⟩;have V:A.length≤5000:=by rw[m,fZ];exact z
 have B: ∀x,x∈A→jb s x:=fun x I=>cQ.1 (by rw[←m];exact I);rw[←m]at l⊢;obtain⟨W,X,rfl⟩:=l.val;obtain⟨b,e,Y,Z,cB,cW,yB,yW,sb,sg,pb,pg,bl,bf,h2,J⟩:=id h;cases e;refine gO ?_;refine aE (3::5::9::10::11::12::13::14::15::16::17::18::[]) (fun g w'=> ∃i:Nat,g 9=.int .i64 (i:Int)∧i≤A.length∧g 3=.int .i64 ((A.take i).foldl (yN s) 0)∧ad [] H w') (fun g _=>bU A.length 9 g)
  ⟨0,by simp only[go_sem];rfl,by omega,by simp only[go_sem];rfl,ad.refl _ _⟩ fun g K L o=>?_
 obtain⟨i,y,hi,d,j⟩:=L;by_cases c:i<A.length;rotate_left
 ·refine db y d (bt (show¬(i:Int)<(A.length:Int) by omega)) ?_;rw[List.take_of_length_le (by omega)];exact⟨rfl,t.nil j⟩
 obtain⟨M,_,N,O,u,_,_⟩:=(l.aa j).pos (by omega);cases O;have F:(0:Int)≤(i:Int)∧(i:Int)<(A.length:Int):=by omega
 obtain⟨k,G,C⟩:=B (A.getD i 0) (by simp[c]);have P:K.cell? ⟨M,i,none⟩=some (.int .i64 ((2*k:Nat):Int)):=by rw[u.cell,←G];exact aC N c
 have q:=sV (yN s) 0 A 0 c;rw[G]at q;obtain⟨r,Q⟩: ∃r,r=(A.take i).foldl (yN s) 0:=⟨_,rfl⟩;rw[←Q]at q d;have R:yN s r ((2*k:Nat):Int)=IntKind.i64.wrap (r+s.size (2*k)):=by unfold yN;rw[cf]
 refine nX y d (bc F.2) (eq_true F) @Int.toNat_natCast @Nat.mul_one P ?_;refine ak (Bm (J.aa (t.nil j)) C) ?_;rintro _ S ⟨rfl,D⟩;refine db y d (au i (by omega)) ?_;refine o _ S ⟨i+1,?_,by omega,?_,j.nil D⟩ ?_
 ·simp only[go_sem]
 ·simp only[go_sem];rw[q,R]
 ·exact aZ y
def kW (s:HL) (k:Nat):Int:=if k=0 then 1 else if(s.B.getD k (0,0)).1≠1∧(s.B.getD k (0,0)).1≠2 then 5 else 0
theorem Gb {w:World} {b:Nat} {s:HL} {q r t cW:Nat} {yB yW:List Value} {u y z B C D:Nat} (h:ke w b s q r t cW yB yW u y z B C D) (k:Nat) (E:k<s.B.length):
  Cs Tryz.prog 383 [.pointer (some ⟨b,0,none⟩),.int .i64 (k:Int),.bool true] w fun v w'=>v=.int .i64 (kW s k)∧w'=w:=by
 have F:=h.ok.ju;have get:(bN s.B++yB)[k*2]? =some (.int .i64 (s.B.getD k (0,0)).1):=by
  rw[List.getElem?_append_left (by rw[cd];omega),Nat.mul_comm];exact(fe E).1
 have l:(0:Int)≤(k:Int)∧(k:Int)<(s.B.length:Int):=⟨by omega,by omega⟩;refine en [] ?_;refine gO ?_;refine ao (xY h) ?_;refine gO ?_;refine ao (sC (HR.intro h) (k:Int)) ?_;unfold kW;by_cases m:k=0
 ·have d:dq (some s) (k:Int)=false:=by simp[dq,m]
  refine aQ d ?_;rw[if_pos m]
 have d:dq (some s) (k:Int)=true:=by simp only[dq,Bool.and_eq_true,decide_eq_true_eq];omega
 rw[if_neg m];by_cases j:(s.B.getD k (0,0)).1=1
 ·refine nX d h.hb.cell h.hB.cell (eq_true l) @Int.toNat_natCast @get (ep j) ?_;rw[if_neg (by omega)]
 by_cases o:(s.B.getD k (0,0)).1=2
 ·refine vS d h.hb.cell h.hB.cell (eq_true l) @Int.toNat_natCast @get (gm j) (ep o) ?_;rw[if_neg (by omega)]
 refine vS d h.hb.cell h.hB.cell (eq_true l) @Int.toNat_natCast @get (gm j) (gm o) ?_;rw[if_pos ⟨j,o⟩]
section
variable {s s':HL}
def eH (s s':HL):Prop:= ∃W,s'= {s with W:=W}
theorem eH.refl (s:HL):eH s s:=⟨s.W,rfl⟩
theorem eH.trans {a b c:HL} (h:eH a b) (k:eH b c):eH a c:=by
 obtain⟨W,rfl⟩:=h;obtain⟨V,rfl⟩:=k;exact⟨V,rfl⟩
theorem eH.st (h:eH s s'):s'.st=s.st:=by obtain⟨W,rfl⟩:=h;rfl
theorem eH.B (h:eH s s'):s'.B=s.B:=by obtain⟨W,rfl⟩:=h;rfl
theorem eH.born (h:eH s s'):s'.born=s.born:=by obtain⟨W,rfl⟩:=h;rfl
theorem eH.aw (h:eH s s'):s'.aw=s.aw:=by unfold HL.aw;rw[h.st]
theorem eI {x i to:Int} (e:aP (some s) x i to=some s'):eH s s':=by
 unfold aP at e;by_cases c:bz (some s) x i to=0
 ·simp only[if_pos c,Option.some.injEq]at e;exact⟨_,e.symm⟩
 ·simp only[if_neg c,Option.some.injEq]at e;exact e▸eH.refl s
end
section
set_option maxRecDepth 8000
variable {s:HL}
theorem iN (h:s.Inv) {k:Nat} (B:s.st.getD k 0=1): ∃s',dO (some s) ((2*k:Nat):Int)=some s'∧s'.Inv∧s'.B=s.B∧s'.born=s.born∧
  (∀i,s'.st.getD i 0=1↔i≠k∧s.st.getD i 0=1)∧(∀i,i≠k→s.st.getD i 0=1→s'.aq i=s.aq i)∧s'.aw=s.aw.filter (fun i=>i !=k):=by
 obtain⟨s',b,R,o,O,P⟩:=rn h.ok ((2*k:Nat):Int);have w:=lJ h.ok B;have D:s'≠s:=by
  intro e;subst e;unfold dO at b;simp only[w,if_true]at b;have E:=Option.some.inj b;have q:=congrArg HL.st E;simp only[cf,Nat.mul_div_cancel_left k (show 0<2 by omega)]at q;have d:k<s'.st.length:=(h.ok.start B).1;rw[←q,aJ d]at B;omega
 obtain⟨i,r,S,u,L,C⟩:=P.resolve_left D;have F:i=k:=by
  unfold dO at b;simp only[w,if_true]at b;have E:=Option.some.inj b;have q:=congrArg HL.st E;simp only[cf,Nat.mul_div_cancel_left k (show 0<2 by omega)]at q;rw[u]at q;have d:k<s.st.length:=(h.ok.start B).1;have M:i<s.st.length:=(h.ok.start r).1;refine Decidable.byContradiction fun c=>?_;have Q:(s.st.set k 0).getD k 0=(s.st.set i 0).getD k 0:=by rw[q]
  rw[aJ d,aj c]at Q;omega
 subst F;obtain⟨T,U,V,_⟩:=h.ok.sz r;have G:2*i+(s.size (2*i)).toNat≤s.W.length:=by omega
 have H:s'.Ok:=by
  have:=h.ok.kill r (pn:=s.pn.set i 0) (pl:=eh s.pl (s.W.getD (2*i) 0)) (by rw[List.length_set];exact h.ok.pl);refine⟨by rw[o];exact h.ok.b2,by rw[o];exact h.ok.ju,by rw[C,o];exact this.wl,by rw[u,o];exact this.sl,by rw[L,o];exact this.pl,fun j y=>?_,fun j l y N I=>?_⟩
  ·rw[u]at y;rw[C];exact this.fit j y
  ·rw[u]at y N;have:=this.dj j l y N I;unfold HL.size at this⊢;rw[C];exact this
 have J: ∀j,s'.st.getD j 0=1↔j≠i∧s.st.getD j 0=1:=fun j=>by
  rw[u];by_cases c:j=i
  ·subst c;rw[aJ (h.ok.start r).1];simp
  ·rw[aj (Ne.symm c)];exact⟨fun e=>⟨c,e⟩,fun e=>e.2⟩
 refine⟨s',b,h.kill b H,o,O,J,fun j K m=>?_,?_⟩
 ·refine jA h.ok m (fun t W X=>?_) (by rw[L];exact aj (Ne.symm K));rw[C,gF G,if_neg];rcases Nat.lt_or_ge i j with z|z
  ·have:=h.ok.dj i j r m z;omega
  ·have:=h.ok.dj j i m r (by omega);omega
 ·unfold HL.aw;rw[u,List.length_set];exact oJ (by omega)
def dk (s:HL) (l:List Nat):Int:=(l.map fun i=>ay (s.aq i).sh).sum
theorem ve (s:HL) (l:List Nat) (i:Nat):dk s (l++[i])=dk s l+ay (s.aq i).sh:=by unfold dk;simp
theorem jL (s:HL): ∀l:List Nat,0≤dk s l∧dk s l≤218*l.length
 | []=>⟨Int.le_refl _,Int.le_refl _⟩
 |i::l=>by
  have h:=jL s l
  have b:=iQ (s.aq i).sh
  have e:dk s (i::l)=ay (s.aq i).sh+dk s l:=by unfold dk;simp
  rw[e,List.length_cons]
  omega
theorem ua (h:s.Inv):(du (some s)).foldl (yN s) 0=dk s s.aw:=by
 have key: ∀n,n≤s.aw.length→(dy (s.aw.take n)).foldl (yN s) 0=dk s (s.aw.take n):=by
  intro n
  induction n with
  |zero=>intro _;rfl
  |succ n m=>
   intro o;have b:n<s.aw.length:=o;obtain⟨k,l⟩: ∃k,k=s.aw[n]:=⟨_,rfl⟩;have j:s.st.getD k 0=1:=aR.1 (by rw[l];exact List.getElem_mem b);have z:s.aw.length≤2048:=by
    have:=iZ s.st 0 s.st.length;have:=h.ok.sl;have:=h.ok.ju;unfold HL.aw;omega
   rw[List.take_succ_eq_append_getElem b,←l,kT,List.foldl_append,m (by omega),ve];show yN s _ ((2*k:Nat):Int)=_;unfold yN;rw[cf];obtain⟨r,d,q,B,C,t,u,D,E⟩:=dH h.ok j;rw[t,u];have w:=jL s (s.aw.take n);have y:=iQ ((r:Int),(d:Int),(q:Int));rw[List.length_take]at w;rw[IntWalk.i64_in _ (by omega)]
 have:=key s.aw.length (Nat.le_refl _);rwa[List.take_length]at this
end
section
variable {hp:Addr} {s:HL} {fp:List Nat} {w:World}
def cX (s:HL) (k:Nat):List Nat:=aX s.st (32*k) (32*(k+1))
theorem rv {b:Nat} {j l m cW:Nat} {yB yW:List Value} {o q r t u z:Nat} (h:ke w b s j l m cW yB yW o q r t u z) (k:Nat) (G:k<s.B.length):
  Cs Tryz.prog 285 [.pointer (some ⟨b,0,none⟩),.int .i64 (k:Int)] w fun v w'=>ad [] w w'∧ ∃d,Sl w' 1 v (cX s k).length (ints (dy (cX s k))) d∧ ∀y,y∈d→w.heap.size≤y:=by
 have H:=h.ok.ju;have B:IntKind.i64.wrap ((k:Int)*64)=((2*(32*k):Nat):Int):=by rw[IntWalk.i64_in _ (by omega)];omega
 have C:IntKind.i64.wrap (((k+1:Nat):Int)*64)=((2*(32*(k+1)):Nat):Int):=by rw[IntWalk.i64_in _ (by omega)];omega
 refine en [] ?_;refine gO ?_;refine ao (xY h) ?_;refine kZ (bt (show¬(k:Int)<0 by omega)) h.hb.cell (bt (show¬(s.B.length:Int)≤(k:Int) by omega)) (au k (by omega)) B C ?_;refine ak (rk h (32*k) (32*(k+1)) (by omega) (by omega)) ?_;rintro v w' ⟨D,d,E,F⟩;refine gO ?_;exact⟨D,d,E,F⟩
def na (s:HL) (k:Nat):Int:=if kW s k≠0 then kW s k else if(cX s k).length≠0 then 8 else 0
def kK (s:HL) (k:Nat):HL:=if na s k=0 then {s with B:=fG s.B k (0,0) (s.span k)}else s
theorem yy (s:HL) (k:Nat):(kK s k).B.length=s.B.length:=by
 unfold kK;split
 ·exact bF _ _ _ _
 ·rfl
set_option maxHeartbeats 1000000 in
theorem yA (G:HR w (some hp) fp (some s)) (k:Nat) (y:k<s.B.length):
  Cs Tryz.prog 273 [.pointer (some hp),.int .i64 (k:Int)] w fun v w'=>v=.int .i64 (na s k)∧HR w' (some hp) fp (some (kK s k))∧ad fp w w':=by
 obtain⟨b,Y,C,J,K,cW,yB,yW,L,M,O,P,Q,R,S,h⟩:=id G;cases Y;have hB:=h.ok.ju;refine en [] ?_;refine gO ?_;refine ao (Gb h k y) ?_;by_cases o:kW s k=0;rotate_left
 ·refine aQ (gm o) ?_;have e:na s k=kW s k:=by unfold na;rw[if_pos o]
  refine⟨by rw[e],?_,ad.refl _ _⟩;unfold kK;rw[e,if_neg o];exact G
 refine aQ (ep o) ?_;refine ak (rv h k y) ?_;rintro v Z ⟨d,fq,H,g1⟩;obtain⟨a1,OT,rfl⟩:=H.val;by_cases T:(cX s k).length=0;rotate_left
 ·refine aQ (bc (show(0:Int)<((cX s k).length:Int) by omega)) ?_;have e:na s k=8:=by unfold na;rw[if_neg (by simp[o]),if_pos T]
  refine⟨by rw[e],?_,d.of_nil⟩;unfold kK;rw[e,if_neg (by omega)];exact G.aa d
 have U:=h.aa d;refine aQ (bt (show¬(0:Int)<((cX s k).length:Int) by omega)) ?_;refine ao (Bn U k y) ?_;have V:na s k=0:=by unfold na;rw[if_neg (by simp[o]),if_neg (by simp[T])]
 have hM:kK s k= {s with B:=fG s.B k (0,0) (s.span k)}:=by unfold kK;rw[if_pos V]
 rw[V,hM];obtain⟨N,hN⟩: ∃N,N=s.span k:=⟨_,rfl⟩;have q:=pR (s:=s) y;rw[←hN]at q⊢;refine gO ?_;refine aE (6::21::22::23::24::25::26::27::28::29::30::31::32::33::34::35::36::37::38::39::40::[]) (fun g w'=> ∃n:Nat,∃B':List (Int×Int),g 6=.int .i64 (n:Int)∧n≤N∧B'.length=s.B.length∧(∀i,B'.getD i (0,0)=if k+n≤i∧i<k+N then(0,0)else s.B.getD i (0,0))∧ke w' b {s with B:=B'} C J K cW yB yW L M O P Q R∧ad [C] Z w') (fun g _=>pO 6 g)
  ⟨N,s.B,by simp only[go_sem],Nat.le_refl _,rfl,fun i=>by rw[if_neg (by omega)],U,ad.refl _ _⟩ fun g w2 hI m=>?_
 obtain⟨n,B',D,hn,W,j,E,r⟩:=hI;have t:C∈fp:=by rw[S];simp
 by_cases c3:0<n;rotate_left
 ·have n0:n=0:=by omega
  subst n0;refine bj D (bt (show¬(0:Int)<((0:Nat):Int) by omega)) ?_;have:B'=fG s.B k (0,0) N:=by
   refine List.nT (0,0) (by rw[W,bF]) fun i _=>?_;rw[j,df _ _ _ _ q.1];rfl
  rw[←this];exact⟨⟨b,rfl,C,J,K,cW,yB,yW,L,M,O,P,Q,R,S,E⟩,(d.of_nil).trans r fun z X=>by simp only[bp]at X;subst X;exact .inl t⟩
 have e4:IntKind.i64.wrap (IntKind.i64.wrap ((k:Int)+(n:Int))-1)=((k+n-1:Nat):Int):=by
  rw[IntWalk.i64_in ((k:Int)+(n:Int)) (by omega),IntWalk.i64_in _ (by omega)];omega
 have e5:(0:Int)≤((k+n-1:Nat):Int)∧((k+n-1:Nat):Int)<(B'.length:Int):=⟨by omega,by omega⟩;have e6:IntKind.i64.wrap ((n:Int)-1)=((n-1:Nat):Int):=by rw[IntWalk.i64_in _ (by omega)];omega
 refine kZ D (bc (show(0:Int)<(n:Int) by omega)) E.hb.cell e4 (eq_true e5) @Int.toNat_natCast ?_;refine dR (cs:=bV (0,0)) (n:=2) (i:=(k+n-1)*2) E.hB rfl (by simp only[gZ,cd];omega) (kF _) fun w5 yG l u=>?_;have I:k+n-1<B'.length:=by omega
 rw[mX yB I]at l;refine bj D e6 ?_;refine m _ w5 ⟨n-1,B'.set (k+n-1) (0,0),?_,by omega,by rw[List.length_set];exact W,fun i=>?_,?_,r.same u⟩ ?_
 ·simp only[go_sem]
 ·by_cases c:k+n-1=i
  ·subst c;rw[aJ (by omega),if_pos ⟨by omega,by omega⟩]
  ·rw[aj c,j];by_cases F:k+n≤i∧i<k+N
   ·rw[if_pos F,if_pos ⟨by omega,F.2⟩]
   ·rw[if_neg F,if_neg (fun e=>F ⟨by omega,e.2⟩)]
 ·have:=E.pS (B':=B'.set (k+n-1) (0,0)) (by simp) l u;exact this
 ·rw[gP D,gP (k:=.i64) (i:=((n-1:Nat):Int)) (by simp only[go_sem])];omega
def dA (s:HL) (n:Nat):HL:=(List.range n).foldl kK s
theorem iL (s:HL) (n:Nat):dA s (n+1)=kK (dA s n) n:=by unfold dA;rw[List.range_succ,List.foldl_append];rfl
theorem jB (s:HL): ∀n,(dA s n).B.length=s.B.length
 |0=>rfl
 |n+1=>by rw[iL,yy,jB s n]
theorem wi (h:HR w (some hp) fp (some s)) (t:s.B.length≤64):
  Cs Tryz.prog 96 [.pointer (some hp)] w fun _ w'=>HR w' (some hp) fp (some (dA s s.B.length))∧ad fp w w':=by
 refine en [] ?_;refine gO ?_;refine ao (cq h) ?_;have o:((bq (some s):Nat):Int)=(s.B.length:Int):=rfl;refine aQ o ?_;refine aE (2::5::6::7::8::9::10::11::[]) (fun g w'=> ∃i:Nat,g 5=.int .i64 (i:Int)∧i≤s.B.length∧HR w' (some hp) fp (some (dA s i))∧ad fp w w') (fun g _=>bU s.B.length 5 g)
  ⟨0,by simp only[go_sem];rfl,by omega,h,ad.refl _ _⟩ fun g u q b=>?_
 obtain⟨i,d,y,l,m⟩:=q;by_cases c:i<s.B.length;rotate_left
 ·refine bj d (bt (show¬(i:Int)<(s.B.length:Int) by omega)) ?_;rw[show s.B.length=i by omega];exact⟨l,m⟩
 refine bj d (bc (show(i:Int)<(s.B.length:Int) by omega)) ?_;refine ak (yA l i (by rw[jB];exact c)) ?_;rintro _ r ⟨rfl,j,k⟩;refine bj d (au i (by omega)) ?_;refine b _ r ⟨i+1,?_,by omega,by rw[iL];exact j,m.same k⟩ ?_
 ·simp only[go_sem]
 ·exact aZ d
end
section
theorem nc (B:List (Int×Int)) (b:Nat): ∀f n j,n≤j→j<tails B b f n→(B.getD (b+j) (0,0)).1=3
 |0,n,j,k,d=>by unfold tails at d;omega
 |f+1,n,j,k,d=>by
  unfold tails at d
  by_cases c:b+n<B.length∧(B.getD (b+n) (0,0)).1=3
  ·rw[if_pos c]at d
   by_cases e:j=n
   ·subst e;exact c.2
   ·exact nc B b f (n+1) j (by omega) d
  ·rw[if_neg c]at d;omega
theorem vf {s:HL} {k j:Nat} (d:1≤j) (b:j<s.span k):(s.B.getD (k+j) (0,0)).1=3:=by
 unfold HL.span at b;split at b
 ·exact nc _ _ _ _ _ d b
 ·omega
theorem yC {s:HL} (h:s.Inv) {k:Nat} (r:k<s.B.length):(kK s k).Inv:=by
 unfold kK;by_cases c:na s k=0;rotate_left
 ·rw[if_neg c];exact h
 rw[if_pos c];have t:k≠0:=fun e=>by
  subst e;unfold na kW at c;simp at c
 have b:=pR (s:=s) r;refine h.pS (bF _ _ _ _) (fun i _ d=>?_) ?_ ?_
 ·rw[df _ _ _ _ b.1]at d⊢;split
  ·rfl
  ·rename_i l;rw[if_neg l]at d;by_cases m:i<s.B.length
   ·exact h.bf i m d
   ·rw[List.getD_eq_getElem?_getD,List.getElem?_eq_none (by omega)];rfl
 ·rw[df _ _ _ _ b.1,if_neg (by omega)]
 ·intro i d u;rw[df _ _ _ _ b.1];by_cases w:k≤i/32∧i/32<k+s.span k
  ·exfalso;by_cases z:i/32=k
   ·have m:(cX s k).length=0:=by
     unfold na at c;by_cases o:kW s k≠0
     ·rw[if_pos o]at c;exact absurd c o
     ·rw[if_neg o]at c;refine Decidable.byContradiction fun y=>?_;rw[if_pos y]at c;cases c
    have q:i∈cX s k:=by
     unfold cX;rw[de];exact⟨by omega,d⟩
    rw[List.length_eq_zero_iff.1 m]at q;cases q
   ·have:=vf (s:=s) (k:=k) (j:=i/32-k) (by omega) (by omega);rw[show k+(i/32-k)=i/32 by omega]at this;omega
  ·rw[if_neg w];exact u
theorem yD (s:HL) (k:Nat): ∃B,kK s k= {s with B:=B}:=by
 unfold kK;split
 ·exact⟨_,rfl⟩
 ·exact⟨s.B,rfl⟩
theorem kM {s:HL} (h:s.Inv): ∀n,n≤s.B.length→(∃B,dA s n= {s with B:=B})∧(dA s n).Inv
 |0,_=>⟨⟨s.B,rfl⟩,h⟩
 |n+1,d=>by
  obtain⟨⟨B,e⟩,i⟩:=kM h n (by omega)
  rw[iL]
  refine⟨?_,yC i (by rw[jB];omega)⟩
  obtain⟨B',b⟩:=yD (dA s n) n
  exact⟨B',by rw[b,e]⟩
end
section
set_option maxRecDepth 8000
variable {s:HL} {a sp:Int} {sh:Sh}
theorem sX (h:s.Inv) (e:(bx (some s) a sh).2=0): ∃s' k,bM (some s) a sh=some s'∧a=((2*k:Nat):Int)∧s.st.getD k 0≠1∧s'.Inv∧s'.B=s.B∧s'.born=s.born+1∧(∀i,s'.st.getD i 0=1↔i=k∨s.st.getD i 0=1)∧(∀i,s.st.getD i 0=1→s'.aq i=s.aq i)∧s'.aq k=s.abs.ka a sh:=by
 obtain⟨s',D,I,J,K,Q⟩:=oL h a sh;have L:=m9 h a sh;have q:aM sh=true:=by
  cases q:aM sh with
  |true=>rfl
  |false=>simp[bx,q]at e
 have M:ct s a (ay sh) (-1)=0:=by
  by_cases c:ct s a (ay sh) (-1)=0
  ·exact c
  ·simp[bx,q,c]at e
 have r:=bY q;obtain⟨k,rfl,E,N,t⟩:=kE h.ok r.1 r.2.2.1 r.2.1 M;have F:s'= {s with W:=(s.W.set ((2*k:Nat):Int).toNat ((s.born+1:Nat):Int)).set (((2*k:Nat):Int).toNat+1) (dv sh),st:=s.st.set (((2*k:Nat):Int).toNat/2) 1,pl:=b9 s.pl ((s.born+1:Nat):Int) (.int .i64 ((2*k:Nat):Int)),born:=s.born+1}:=by
  have b:=D;unfold bM at b;simp only[if_pos e]at b;exact(Option.some.inj b).symm
 have G:s'.st=s.st.set k 1:=by rw[F];simp only[cf,Nat.mul_div_cancel_left k (show 0<2 by omega)]
 have O:s'.born=s.born+1:=by rw[F]
 have u:s'.abs.O=s.abs.O.take (lh s.abs.O ((2*k:Nat):Int))++[s.abs.ka ((2*k:Nat):Int) sh]++s.abs.O.drop (lh s.abs.O ((2*k:Nat):Int)):=by
  rw[I];unfold RL.bM;rw[L,if_pos e];rfl
 have l:s'.aw.length=s.aw.length+1:=by
  rw[←tM,u,←tM s];simp only[gZ,List.length_take,List.length_drop,List.length_singleton];omega
 have w:s.st.getD k 0≠1:=fun c=>by
  have:s'.aw=s.aw:=by
   unfold HL.aw;rw[G,List.length_set];refine iJ fun j _ _=>?_;by_cases H:k=j
   ·subst H;rw[aJ E,c]
   ·exact aj H
  rw[this]at l;omega
 have y: ∀i,s'.st.getD i 0=1↔i=k∨s.st.getD i 0=1:=fun i=>by
  rw[G];by_cases c:i=k
  ·subst c;rw[aJ E];simp
  ·rw[aj (Ne.symm c)];exact⟨.inr,fun h=>h.resolve_left c⟩
 have m: ∀o,o∈s'.abs.O→ ∃i,s'.st.getD i 0=1∧o=s'.aq i:=fun o P=>by
  obtain⟨i,z,rfl⟩:=List.mem_map.1 (show o∈s'.aw.map s'.aq from P);exact⟨i,aR.1 z,rfl⟩
 refine⟨s',k,D,rfl,w,J,K,O,y,fun i z=>?_,?_⟩
 ·have B:s.aq i∈s.abs.O:=List.mem_map.2 ⟨i,aR.2 z,rfl⟩;have C:s.aq i∈s'.abs.O:=by
   rw[u];rw[←List.take_append_drop (lh s.abs.O ((2*k:Nat):Int)) s.abs.O]at B;simp only[List.mem_append,bp]at B⊢;exact B.elim (fun h=>.inl (.inl h)) .inr
  obtain⟨j,_,d⟩:=m _ C;have:(s.aq i).a=(s'.aq j).a:=by rw[d]
  have:((2*i:Nat):Int)=((2*j:Nat):Int):=this;have:i=j:=by omega
  rw[this];rw[this]at d;exact d.symm
 ·have C:s.abs.ka ((2*k:Nat):Int) sh∈s'.abs.O:=by rw[u];simp
  obtain⟨j,_,d⟩:=m _ C;have:(s.abs.ka ((2*k:Nat):Int) sh).a=(s'.aq j).a:=by rw[d]
  have:((2*k:Nat):Int)=((2*j:Nat):Int):=this;have:k=j:=by omega
  rw[←this]at d;exact d.symm
def ng (s:HL) (st:List (Int×Int)×Int) (x:Int):List (Int×Int)×Int:=(if st.2<x then st.1++[(st.2,x-st.2)]else st.1,x+s.size x.toNat)
def bK (s:HL) (k:Nat) (l:List Nat):List (Int×Int)×Int:=(dy l).foldl (ng s) ([],((64*k:Nat):Int))
def jn (s:HL) (k:Nat):List (Int×Int):=(if(bK s k (cX s k)).2<((64*(k+1):Nat):Int)then(bK s k (cX s k)).1++[((bK s k (cX s k)).2,((64*(k+1):Nat):Int)-(bK s k (cX s k)).2)]else(bK s k (cX s k)).1)
def dP (s:HL) (sp:Int) (n:Nat):List Nat:=(List.range n).filter fun b=>decide ((s.B.getD b (0,0)).1=1)&&decide ((s.B.getD b (0,0)).2=sp)
def nP (b:Int) (l:List (Int×Int)):List (Int×Int):=l.filter fun g=>decide (b≤g.2)
def fQ (s:HL) (sp d:Int) (l:List Nat):List (Int×Int):=l.flatMap fun b=>nP d (jn s b)
def dQ (s:HL) (many:Int) (b:Int×Int):Nat→Nat→Option Nat
 |0,_=>none
 |f+1,i=>if a8 (some s) (i:Int) many b=0 then some i else dQ s many b f (i+1)
def dW (s:HL) (d sp:Int):Option (Int×HL):=
 if 32<d then(dQ s ((d+63)/64) (2,sp) (s.B.length-((d+63)/64).toNat) 1).map fun b=>(((64*b:Nat):Int),(bn (some s) (b:Int) ((d+63)/64) (2,sp) (3,sp)).getD s)
 else match fQ s sp d (dP s sp s.B.length)with
  |g::_=>some (g.1,s)
  | []=>(dQ s 1 (1,sp) (s.B.length-1) 1).map fun b=>(((64*b:Nat):Int),(bn (some s) (b:Int) 1 (1,sp) (0,0)).getD s)
def ck (s:HL) (sh:Sh) (sp:Int):(Int×Int)×HL:=match dW s (ay sh) sp with
 |none=>((0,6),s)
 |some (a,b)=>if dr (some b) (a/64)=sp∧(bx (some b) a sh).2=0 then((a,0),(bM (some b) a sh).getD b)else((0,6),b)
theorem tN {s':HL} {b many:Int} {f m:Int×Int} (e:bn (some s) b many f m=some s'): ∃B,s'= {s with B:=B}:=by
 unfold bn at e;simp only at e;split at e
 ·exact⟨_,(Option.some.inj e).symm⟩
 ·exact⟨s.B,(Option.some.inj e).symm⟩
theorem jC {s:HL} {many:Int} {d:Int×Int}: ∀ {f i b:Nat},dQ s many d f i=some b→i≤b∧b<i+f∧a8 (some s) (b:Int) many d=0
 |0,_,_,h=>by cases h
 |f+1,i,b,h=>by
  unfold dQ at h
  split at h
  ·rename_i c;cases h;exact⟨Nat.le_refl _,by omega,c⟩
  ·have:=jC h;exact⟨by omega,by omega,this.2.2⟩
theorem oN (h:s.Inv) {d:Int} {j:HL} (t:2≤d∧d≤218) (e:dW s d sp=some (a,j)):j.Inv∧j.born=s.born∧j.B.length=s.B.length∧(∃B,j= {s with B:=B}):=by
 unfold dW at e;split at e
 ·obtain⟨b,q,e⟩:=Option.map_eq_some_iff.1 e;cases e;obtain⟨n,r⟩: ∃n:Nat,(d+63)/64=(n:Int):=⟨((d+63)/64).toNat,by omega⟩;obtain⟨_,s',k,_,l,m,o⟩:=sO h b n sp;rw[r,k];exact⟨l,m,o,tN k⟩
 ·split at e
  ·cases e;exact⟨h,rfl,rfl,s.B,rfl⟩
  ·obtain⟨b,q,e⟩:=Option.map_eq_some_iff.1 e;cases e;obtain⟨_,s',k,_,l,m,o⟩:=vc h b sp;rw[k];exact⟨l,m,o,tN k⟩
theorem jt (h : s.Inv) (m : aM sh = true) : ∃ a e s', ck s sh sp = ((a, e), s') ∧ s'.Inv ∧ s'.B.length = s.B.length ∧ s'.born ≤ s.born + 1 ∧
    ((e = 6 ∧ a = 0 ∧ s'.st = s.st ∧ ∀ i, s.st.getD i 0 = 1 → s'.aq i = s.aq i) ∨
      (e = 0 ∧ ∃ k, a = ((2 * k : Nat) : Int) ∧ s.st.getD k 0 ≠ 1 ∧ (∀ i, s'.st.getD i 0 = 1 ↔ i = k ∨ s.st.getD i 0 = 1) ∧ (∀ i, s.st.getD i 0 = 1 → s'.aq i = s.aq i) ∧ s'.aq k = s.abs.ka a sh)) := by
  unfold ck;cases e : dW s (ay sh) sp with
  | none => exact ⟨0, 6, s, rfl, h, rfl, by omega, .inl ⟨rfl, rfl, rfl, fun _ _ => rfl⟩⟩
  | some p =>
    obtain ⟨a, z⟩ := p;have d := bY m;obtain ⟨j, C, l, B, rfl⟩ := oN h ⟨d.1, d.2.1⟩ e;simp only;by_cases c : dr (some { s with B := B }) (a / 64) = sp ∧ (bx (some { s with B := B }) a sh).2 = 0
    · rw [if_pos c];obtain ⟨s', k, o, rfl, q, r, t, u, b, w, en⟩ := sX j c.2;rw [o, Option.getD_some];refine ⟨_, _, s', rfl, r, by rw [t]; exact l, by rw [u]; exact Nat.le_refl _, .inr ⟨rfl, k, rfl, q, b, fun i y => ?_, ?_⟩⟩
      · exact w i y
      · rw [en]; rfl
    · rw [if_neg c];exact ⟨0, 6, _, rfl, j, l, Nat.le_add_right _ _, .inl ⟨rfl, rfl, rfl, fun _ _ => rfl⟩⟩
end
section
set_option maxRecDepth 8000
variable {s:HL} {a:Int} {R:List (Int×Int)} {fs:List Nat} {yB yW:List Value} {b bf bl cB cW gB gW o p pb pg sb sg:Nat} {v:Value} {w w':World}
theorem DE (h:ke w b s gB gW cB cW yB yW sb sg pb pg bl bf) (k:Nat) (j:k<s.B.length) (q:1≤k) (l:(s.B.getD k (0,0)).1=1):
  Cs Tryz.prog 481 [.pointer (some ⟨b,0,none⟩),.int .i64 (k:Int)] w fun v w'=>v=.bool true∧w'=w:=by
 have m:(0:Int)≤(k:Int)∧(k:Int)<(s.B.length:Int):=⟨by omega,by omega⟩;have d:(bN s.B++yB)[k*2]? =some (.int .i64 (s.B.getD k (0,0)).1):=by
  rw[List.getElem?_append_left (by rw[cd];omega),Nat.mul_comm];exact(fe j).1
 rw[l]at d;refine en [] ?_;refine gO ?_;refine ao (sC (HR.intro h) (k:Int)) ?_;have o:dq (some s) (k:Int)=true:=by simp[dq];omega
 rw[o];(repeat(first|with_reducible(first|refine nx ?_|refine ch rfl ?_)|simp only[go_sem,h.hb.cell,h.hB.cell,if_pos m,cf,d]))
structure vu (w:World) (p o:Nat) (R:List (Int×Int)) (at_:Int) (v:Value) (fs:List Nat):Prop where
 oc:At w o [v]
 pc:At w p [.int .i64 at_]
 sc:Sl w 2 v R.length (bN R) fs
 ne:p≠o
 no:o∉fs
 np:p∉fs
theorem vu.ae {S:List Nat} (h:vu w p o R a v fs) (k:ad S w w') (b: ∀y,y∈p::o::fs→y∉S):vu w' p o R a v fs:=
 ⟨h.oc.ae k (b o (by simp)),h.pc.ae k (b p (by simp)),h.sc.ae k fun y d=>b y (by simp[d]),h.ne,h.no,h.np⟩
theorem vu.aa (h:vu w p o R a v fs) (k:ad [] w w'):vu w' p o R a v fs:=h.ae k fun _ _=>by simp
theorem vu.lt (h:vu w p o R a v fs): ∀y,y∈p::o::fs→y<w.heap.size:=by
 intro y b;simp only[List.mem_cons]at b;rcases b with rfl|rfl|b
 ·exact h.pc.lt
 ·exact h.oc.lt
 ·exact h.sc.lt y b
theorem Bp {b to:Int} (h:vu w p o R b v fs) (S:R.length≤100000) (U:0≤b) (V:to≤100000) (W:0≤to) (X:b≤100000):
  Cs Tryz.prog 482 [.int .i64 to,.pointer (some ⟨p,0,none⟩),.pointer (some ⟨o,0,none⟩)] w fun _ w'=>ad (o::fs) w w'∧ ∃K r,vu w' p o (if b<to then R++[(b,to-b)]else R) b K r∧ ∀y,y∈r→y∈fs∨w.heap.size≤y:=by
 refine en [] ?_;by_cases c:b<to;rotate_left
 ·refine bj h.pc.cell (bt c) ?_;rw[if_neg c];exact⟨(ad.refl _ _),v,fs,h,fun y d=>.inl d⟩
 have L:IntKind.i64.wrap (to-b)=to-b:=IntWalk.i64_in _ (by omega);refine jI h.pc.cell h.oc.cell (bc c) L ?_;rw[ai rfl rfl,ai rfl rfl];refine gO ?_;rw[jJ (n:=2) rfl rfl];refine gO ?_;refine jc fun q Y Z M t j=>?_;have k:=h.aa j;refine gO ?_;refine nu (sz:=2) (us:=bV (b,to-b)) k.sc (bO.at t rfl) (kF _) (by omega) (by omega) ?_;intro N w4 F u G l _;have z3:=j.size;have B:=h.lt;have C: ∀y,y∈F→y∈fs∨w.heap.size≤y:=fun y d=>by
  rcases G with e|e<;>rw[e]at d
  ·exact .inl d
  ·simp only[bp]at d;exact .inr (by omega)
 have I: ∀z,z<w.heap.size→z∉fs→z∉F:=fun z hz O e=>(C z e).elim O fun h'=>by omega
 have D:=k.oc.ae l h.no;have H:=k.pc.ae l h.np;refine gO ?_;refine nt D (by simp) u.nS fun w5 P E m=>?_;refine gO ?_;rw[if_pos c];have J:=I o (B o (by simp)) h.no;have Q:=I p (B p (by simp)) h.np;refine⟨((j.of_nil (T:=o::fs)).same (l.mono fun y d=>.inl (by simp[d]))).same (m.mono fun y d=>.inl (by simp only[bp]at d;simp[d])),N,F,⟨E,H.ae m (by simpa using h.ne),?_,h.ne,J,Q⟩,C⟩;have:=u.ae m fun y d e=>by simp only[bp]at e;exact J (e▸d)
 rw[kU,gZ];simpa[bN,bV]using this
theorem jD (s:HL) (k:Nat) (l:List Nat) (i:Nat):bK s k (l++[i])=ng s (bK s k l) ((2*i:Nat):Int):=by
 unfold bK;rw[kT,List.foldl_append];rfl
theorem kL (s:HL) (k:Nat): ∀n (l:List Nat),l.length=n→(bK s k l).1.length≤n
 |0,l,h=>by rw[List.length_eq_zero_iff.1 h];exact Nat.le_refl _
 |n+1,l,h=>by
  rcases List.eq_nil_or_concat l with rfl|⟨m,x,rfl⟩
  ·cases h
  ·have b:=kL s k n m (by simpa using h)
   rw[List.concat_eq_append,jD]
   unfold ng
   simp only
   split
   ·rw[gZ,List.length_singleton];omega
   ·omega
theorem oO (s:HL) (k:Nat):(jn s k).length≤(cX s k).length+1:=by
 have:=kL s k _ (cX s k) rfl;unfold jn;split
 ·rw[gZ,List.length_singleton];omega
 ·omega
theorem Gc (h:ke w b s gB gW cB cW yB yW sb sg pb pg bl bf) (k:Nat) (hk:k<s.B.length) (h1:1≤k) (hu:(s.B.getD k (0,0)).1=1):
  Cs Tryz.prog 480 [.pointer (some ⟨b,0,none⟩),.int .i64 (k:Int)] w fun v w'=>ad [] w w'∧ ∃fq,Sl w' 2 v (jn s k).length (bN (jn s k)) fq∧ ∀y,y∈fq→w.heap.size≤y:=by
 have m:=h.ok;have hB:=m.ju;have GL:=m.wl;refine en [] ?_;have e1:IntKind.i64.wrap ((k:Int)*64)=((64*k:Nat):Int):=by rw[IntWalk.i64_in _ (by omega)];omega
 have e2:IntKind.i64.wrap (((k+1:Nat):Int)*64)=((64*(k+1):Nat):Int):=by rw[IntWalk.i64_in _ (by omega)];omega
 refine gO ?_;refine ao (DE h k hk h1 hu) ?_;refine gO ?_;refine bm fun o w1 ho qb B P=>?_;refine aQ e1 ?_;refine bm fun p w2 hp D7 Q D=>?_;have E:=B.aa D;refine gO ?_;refine nt Q (by simp) rfl fun w3 vw R S=>?_;have F:At w3 p [.int .i64 ((64*k:Nat):Int)]:=R;have z1:=P.size;have z2:=D.size;have q:p≠o:=by have:=B.lt;omega
 have np: ∀y,y∈[p]→y∈([]:List Nat)∨w.heap.size≤y:=fun y d=>by simp only[bp]at d;subst d;exact .inr (by omega)
 have o3:ad [] w w3:=(P.nil D).trans S np;have g3:vu w3 p o [] ((64*k:Nat):Int) (.slice none 0 0) []:=⟨E.ae S (by simpa using Ne.symm q),F,Sl.zg _,q,by simp,by simp⟩;refine gO ?_;refine ak (rv (h.aa o3) k hk) ?_;rintro vl T ⟨G,fl,r,gl⟩;obtain⟨O,hO⟩: ∃O,O=cX s k:=⟨_,rfl⟩;have Jw:=oO s k;rw[←hO]at r Jw;have OU:O.length≤4096:=by
  have:=iZ s.st (32*k) (32*(k+1));rw[hO];unfold cX;omega
 have Nc: ∀i,i<O.length→s.st.getD (O.getD i 0) 0=1∧32*k≤O.getD i 0∧O.getD i 0<32*(k+1):=fun i hi=>by
  have:O.getD i 0∈cX s k:=by rw[←hO];simp[hi]
  have:=de.1 this;exact⟨this.2,this.1.1,this.1.2⟩
 rw[←eJ]at r;obtain⟨al,cl,rfl⟩:=r.val;have g4:=g3.aa G;have U:=g4.lt;have o4:=o3.nil G;have z3:=o3.size;have z12:w1.heap.size=w.heap.size+1:=qb;have po:w.heap.size≤p∧w.heap.size≤o:=⟨by omega,by omega⟩;refine gO ?_;refine aE (9::21::22::23::24::25::26::27::28::29::30::31::32::33::[]) (fun g w'=> ∃(i:Nat) (v:Value) (fs:List Nat),g 21=.int .i64 (i:Int)∧i≤O.length∧vu w' p o (bK s k (O.take i)).1 (bK s k (O.take i)).2 v fs∧0≤(bK s k (O.take i)).2∧(bK s k (O.take i)).2≤4096∧(∀y,y∈fs→T.heap.size≤y)∧ad [p,o] T w') (fun g _=>bU O.length 21 g)
  ⟨0,_,[],by simp only[go_sem];rfl,by omega,g4,by show(0:Int)≤((64*k:Nat):Int);omega,by show((64*k:Nat):Int)≤4096;omega,by simp,ad.refl _ _⟩ fun g w5 hI H=>?_
 obtain⟨i,v,fs,t,hi,g5,a0,a1,j,l⟩:=hI;have I:(bK s k (O.take i)).1.length≤i:=kL s k i (O.take i) (by rw[List.length_take];omega);have OV: ∀z,z<T.heap.size→z∉fs:=fun z hz e=>by have:=j z e;omega
 have Nd: ∀ {a c:World},ad [p,o] a c→w.heap.size≤a.heap.size→ad [] w a→ad [] w c:=fun h1 _ h3=>h3.trans h1 fun y d=>by
  simp only[List.mem_cons,List.not_mem_nil,or_false]at d;rcases d with rfl|rfl<;>exact .inr (by omega)
 have V:ad [] w w5:=Nd l o4.size o4;by_cases c:i<O.length;rotate_left
 ·refine jI t (bt (show¬(i:Int)<((dy O).length:Int) by rw[eJ];omega)) (au k (by omega)) e2 ?_;rw[List.take_of_length_le (by omega)]at g5 a0 a1 I;refine di (bA 482 #[] [.int .i64 ((64*(k+1):Nat):Int)] #[.pointer (some ⟨p,0,none⟩),.pointer (some ⟨o,0,none⟩)]) (by kernel_rfl) (Bp g5 (by omega) a0 (by omega) (by omega) (by omega)) ?_;rintro _ w6 ⟨u,v6,M,g6,J⟩;refine aQ g6.oc.cell ?_;have eG:(if(bK s k O).2<((64*(k+1):Nat):Int)then(bK s k O).1++[((bK s k O).2,((64*(k+1):Nat):Int)-(bK s k O).2)]else(bK s k O).1)=jn s k:=by unfold jn;rw[←hO]
  have W:=g6.sc;rw[eG]at W;have z4:=G.size;have z5:=l.size;refine⟨V.trans u fun y d=>?_,M,W,fun y d=>(J y d).elim (fun h'=>by have:=j y h';omega) fun h'=>by omega⟩;rcases List.mem_cons.1 d with rfl|d
  ·exact .inr po.2
  ·exact .inr (by have:=j y d;omega)
 obtain⟨m1,m2,m3⟩:=Nc i c;obtain⟨x,hx⟩: ∃x,x=O.getD i 0:=⟨_,rfl⟩;rw[←hx]at m1 m2 m3;have cA:i<(dy O).length:=by rw[eJ];exact c
 have ci:(0:Int)≤(i:Int)∧(i:Int)<((dy O).length:Int):=by omega
 have X: ∀y,y∈fl→y∉ [p,o]:=fun y d e=>by
  have:=gl y d;simp only[List.mem_cons,List.not_mem_nil,or_false]at e;have h1:=U p (by simp);have h2:=U o (by simp);have h3:=g3.pc.lt;have h4:=g3.oc.lt;rcases e with rfl|rfl<;>omega
 obtain⟨gr,_,yr,er,C,_,_⟩:=(r.ae l X).pos (by omega);cases er;have ex:(dy O).getD i 0=((2*x:Nat):Int):=by rw[hx];unfold dy;simp[c]
 have vr:w5.cell? ⟨gr,i,none⟩=some (.int .i64 ((2*x:Nat):Int)):=by rw[C.cell,←ex];exact aC yr cA
 have Nf:gr<w5.heap.size:=C.lt;obtain⟨OW,OX,OY,_⟩:=m.sz m1;obtain⟨OZ,Ng,r_,d_,k_,k1,k2,k3,k4,k5,k6⟩:=m.start m1;refine kZ t (bc ci.2) (eq_true ci) @Int.toNat_natCast @Nat.mul_one vr ?_;refine di (bA 482 #[] [.int .i64 ((2*x:Nat):Int)] #[.pointer (some ⟨p,0,none⟩),.pointer (some ⟨o,0,none⟩)]) (by kernel_rfl) (Bp g5 (by omega) a0 (by omega) (by omega) (by omega)) ?_;rintro _ w6 ⟨u,v6,M,g6,J⟩;have z5:=l.size;have Y: ∀y,y∈M→T.heap.size≤y:=fun y d=>(J y d).elim (j y) fun h'=>by omega
 have Nh:ad [] w w6:=V.trans u fun y d=>by
  rcases List.mem_cons.1 d with rfl|d
  ·exact .inr po.2
  ·exact .inr (by have:=j y d;have:=o4.size;omega)
 have h6:=h.aa Nh;refine gO ?_;refine ak (ym (i:=x) h6.hb h6.hW Ng (by omega) (by rw[k2];exact k4) (by rw[k2];exact k5)) ?_;rintro _ w7 ⟨rfl,Z⟩;have N:=g6.aa Z;have es:ay (bL (s.W.getD (2*x+1) 0))=s.size (2*x):=rfl;have e5:IntKind.i64.wrap (((2*x:Nat):Int)+s.size (2*x))=((2*x:Nat):Int)+s.size (2*x):=IntWalk.i64_in _ (by omega);refine bj es e5 ?_;refine nt N.pc (by simp) rfl fun w8 F2 yj K=>?_;have O0: ∀z,z<T.heap.size→z∉M:=fun z hz e=>by have:=Y z e;omega
 have p6:p∉M:=N.np;have et:O.take (i+1)=O.take i++[x]:=by rw[List.take_succ_eq_append_getElem c,hx];simp[c]
 have eg:bK s k (O.take (i+1))=ng s (bK s k (O.take i)) ((2*x:Nat):Int):=by rw[et,jD]
 have L:ng s (bK s k (O.take i)) ((2*x:Nat):Int)=(if(bK s k (O.take i)).2<((2*x:Nat):Int)then(bK s k (O.take i)).1++[((bK s k (O.take i)).2,((2*x:Nat):Int)-(bK s k (O.take i)).2)]else(bK s k (O.take i)).1,((2*x:Nat):Int)+s.size (2*x)):=by unfold ng;rw[cf]
 refine bj t (au i (by omega)) ?_;refine H _ w8 ⟨i+1,v6,M,?_,by omega,?_,?_,?_,Y,?_⟩ ?_
 ·simp only[go_sem]
 ·rw[eg,L];exact⟨N.oc.ae K (by simpa using Ne.symm q),yj,N.sc.ae K fun y d e=>by simp only[bp]at e;exact p6 (e▸d),q,N.no,N.np⟩
 ·rw[eg,L];simp only;omega
 ·rw[eg,L];simp only;omega
 ·refine((l.trans u fun y d=>?_).same Z.of_nil).same (K.mono fun y d=>.inl (by simp only[bp]at d;simp[d]));rcases List.mem_cons.1 d with rfl|d
  ·exact .inl (by simp)
  ·exact .inr (j y d)
 ·exact aZ t
end
section
def lk (w:World) (a:Nat) (b:Addr) (sp:Int):Prop:=At w a [.pointer (some b),.int .i64 sp,.int .i64 0,.int .i64 0,.int .i64 0,.int .i64 0,.int .i64 0]
theorem jE (s:HL) (sp:Int) (n:Nat):dP s sp (n+1)=dP s sp n++(if(s.B.getD n (0,0)).1=1∧(s.B.getD n (0,0)).2=sp then [n]else []):=by
 unfold dP;rw[List.range_succ,List.filter_append];congr 1;by_cases c:(s.B.getD n (0,0)).1=1∧(s.B.getD n (0,0)).2=sp
 ·rw[if_pos c,List.filter_cons_of_pos (by rw[bc c.1,bc c.2];rfl)];rfl
 ·rw[if_neg c,List.filter_cons_of_neg (by simpa using fun b d=>c ⟨b,d⟩)];rfl
theorem oP (s:HL) (sp:Int) (n:Nat):(dP s sp n).length≤n:=by
 unfold dP;have:=List.length_filter_le (fun b=>decide ((s.B.getD b (0,0)).1=1)&&decide ((s.B.getD b (0,0)).2=sp)) (List.range n);simpa using this
theorem ry {s:HL} (h:s.Ok) {k:Nat} (o:k<s.B.length): ∀n (l:List Nat),l.length=n→(∀x,x∈l→s.st.getD x 0=1)→(∀g,g∈(bK s k l).1→0≤g.1∧g.1≤4096)∧0≤(bK s k l).2∧(bK s k l).2≤4096
 |0,l,e,_=>by
  have q:=h.ju
  rw[List.length_eq_zero_iff.1 e]
  refine⟨fun g b=>absurd b (by show g∉([]:List (Int×Int));simp),?_,?_⟩
  ·show(0:Int)≤((64*k:Nat):Int);omega
  ·show((64*k:Nat):Int)≤4096;omega
 |n+1,l,e,d=>by
  have q:=h.ju
  have w:=h.wl
  rcases List.eq_nil_or_concat l with rfl|⟨m,x,rfl⟩
  ·cases e
  ·rw[List.concat_eq_append]at e d⊢
   obtain⟨j,r,t⟩:=ry h o n m (by simpa using e) fun y u=>d y (by simp[u])
   obtain⟨z,B,C,_⟩:=h.sz (d x (by simp))
   rw[jD]
   unfold ng
   simp only[cf]
   refine⟨fun g b=>?_,by omega,by omega⟩
   split at b
   ·rcases List.mem_append.1 b with b|b
    ·exact j g b
    ·simp only[bp]at b;rw[b];exact⟨r,t⟩
   ·exact j g b
theorem rz {s:HL} (h:s.Ok) {k:Nat} (j:k<s.B.length): ∀g,g∈jn s k→0≤g.1∧g.1≤4096:=by
 obtain⟨d,l,m⟩:=ry h j _ (cX s k) rfl fun x o=>(de.1 o).2;intro g b;unfold jn at b;split at b
 ·rcases List.mem_append.1 b with b|b
  ·exact d g b
  ·simp only[bp]at b;rw[b];exact⟨l,m⟩
 ·exact d g b
def kc (l:List Nat):List Int:=l.map fun(b:Nat)=>((b:Nat):Int)
theorem rC (l:List Nat):(kc l).length=l.length:=by simp[kc]
theorem rD (l m:List Nat):kc (l++m)=kc l++kc m:=by simp[kc]
section
variable {w:World} {a:Nat} {hp:Addr} {fh:List Nat} {s:HL} {sp:Int}
theorem Gd (h:lk w a hp sp):Cs Tryz.prog 360 [.pointer (some ⟨a,0,none⟩)] w fun v w'=>v=.bool true∧w'=w:=by
 refine en [] ?_;(repeat(first|with_reducible(first|refine nx ?_|refine ch rfl ?_)|simp only[go_sem,h.cell]))
theorem AY (h:lk w a hp sp) (F:HR w (some hp) fh (some s)) (T:s.B.length≤64):
  Cs Tryz.prog 479 [.pointer (some ⟨a,0,none⟩)] w fun v w'=>ad [] w w'∧ ∃k,Sl w' 1 v (kc (dP s sp s.B.length)).length (ints (kc (dP s sp s.B.length))) k∧ ∀y,y∈k→w.heap.size≤y:=by
 refine en [2,5,8,11,14,18,20,23,26,29,32,35,38,44,47,50,53,42,56,59,0] ?_;refine aQ h.cell ?_;refine ao (cq F) ?_;have K:((bq (some s):Nat):Int)=(s.B.length:Int):=rfl;refine aQ K ?_;refine aE (3::4::10::11::12::13::14::15::16::17::18::19::20::21::22::23::24::25::26::27::28::29::30::31::32::33::34::35::36::37::[]) (fun g w'=> ∃(i:Nat) (k:List Nat),g 10=.int .i64 (i:Int)∧i≤s.B.length∧ad [] w w'∧Sl w' 1 (g 3) (kc (dP s sp i)).length (ints (kc (dP s sp i))) k∧ ∀y,y∈k→w.heap.size≤y) (fun g _=>bU s.B.length 10 g)
  ⟨0,[],by simp only[go_sem];rfl,by omega,ad.refl _ _,by simp only[go_sem];exact Sl.pe _,by simp⟩ fun g t L d=>?_
 obtain⟨i,k,b,U,l,m,u⟩:=L;by_cases c:i<s.B.length;rotate_left
 ·refine bj b (bt (show¬(i:Int)<(s.B.length:Int) by omega)) ?_;have:i=s.B.length:=by omega
  subst this;exact⟨l,k,m,u⟩
 have G:=au i (by omega);have V:=oP s sp i;have M:=rC (dP s sp i);have N:iG (some s) (i:Int)=(s.B.getD i (0,0)).1:=by unfold iG HL.b;simp only;rw[if_pos (by omega),cf]
 have O:dr (some s) (i:Int)=(s.B.getD i (0,0)).2:=by unfold dr HL.b;simp only;rw[if_pos (by omega),cf]
 have P:lk t a hp sp:=h.aa l;have r:=ad.drew [] t;have z:lk t.drew a hp sp:=P.aa r;have j:=l.nil r;refine bj b (bc (show(i:Int)<(s.B.length:Int) by omega)) ?_;refine bk [a] ?_;refine aQ z.cell ?_;refine fR (xW (F.aa j) (i:Int)) (.inr (SB.refl _ _)) ?_;rw[N];by_cases D:(s.B.getD i (0,0)).1=1
 ·refine bj (fx D) z.cell ?_;refine fR (sD (F.aa j) (i:Int)) (.inr (SB.refl _ _)) ?_;rw[O];by_cases E:(s.B.getD i (0,0)).2=sp
  ·refine aQ (fx E) ?_;rw[ai rfl rfl];refine gO ?_;refine jc fun q W X Q B o=>?_;refine gO ?_;refine nu (us:=[.int .i64 (i:Int)]) ((m.aa r).aa o) (bO.at B rfl) (by simp[bu]) (by omega) (by omega) ?_;intro Y R S H I J _;have Z:=l.size;have z3:=o.size;have zd:=r.size;refine bj b G ?_;refine d _ R ⟨i+1,S,?_,by omega,(j.nil o).trans J fun y C=>.inr (u y C),?_,?_⟩ ?_
   ·simp only[go_sem]
   ·simp only[go_sem];rw[jE,if_pos ⟨D,E⟩,rD,gZ,cH];exact H
   ·intro y C;rcases I with e|e<;>rw[e]at C
    ·exact u y C
    ·simp only[bp]at C;omega
   ·exact aZ b
  ·refine db (fj E) b G ?_;refine d _ t.drew ⟨i+1,k,?_,by omega,j,?_,u⟩ ?_
   ·simp only[go_sem]
   ·simp only[go_sem];rw[jE,if_neg (fun e=>E e.2),List.append_nil];exact m.aa r
   ·exact aZ b
 ·refine db (fj D) b G ?_;refine d _ t.drew ⟨i+1,k,?_,by omega,j,?_,u⟩ ?_
  ·simp only[go_sem]
  ·simp only[go_sem];rw[jE,if_neg (fun e=>D e.1),List.append_nil];exact m.aa r
  ·exact aZ b
theorem vh {w':World} {g i cap:Nat} {L:List (Int×Int)} {ys:List Value} (h:At w' g (bN L++ys)) (b:i<L.length):aI w' ⟨g,i*2,none⟩ 2=some (bV (L.getD i (0,0))):=by
 have d:i*2+2≤(bN L++ys).length:=by rw[gZ,cd];omega
 rw[ax h (i*2) 2 d];exact congrArg some (oE ys b)
theorem Ge (h:lk w a hp sp) (hr:HR w (some hp) fh (some s)) (hi:s.Inv) (d:Int) (Ni:d≤1000):
  Cs Tryz.prog 477 [.pointer (some ⟨a,0,none⟩),.int .i64 0,.int .i64 d] w fun v w'=>ad [] w w'∧ ∃u,Sl w' 2 v (fQ s sp d (dP s sp s.B.length)).length (bN (fQ s sp d (dP s sp s.B.length))) u∧ ∀y,y∈u→w.heap.size≤y:=by
 have hB:=hi.ok.ju;have GM:=hi.ok.sl;refine en [] ?_;refine gO ?_;refine ak (AY h hr hB) ?_;rintro vb w1 ⟨E,fb,M,gb⟩;obtain⟨K,hK⟩: ∃K,K=dP s sp s.B.length:=⟨_,rfl⟩;rw[←hK]at M⊢;have O1:K.length≤64:=by rw[hK];exact Nat.le_trans (oP _ _ _) hB
 have Nj: ∀i,i<K.length→K.getD i 0<s.B.length∧(s.B.getD (K.getD i 0) (0,0)).1=1∧1≤K.getD i 0:=fun i S=>by
  have:K.getD i 0∈dP s sp s.B.length:=by rw[←hK];simp[S]
  obtain⟨U,Q⟩:=List.mem_filter.1 this;simp only[Bool.and_eq_true,decide_eq_true_eq]at Q;have m3:=List.mem_range.1 U;refine⟨m3,Q.1,?_⟩;by_cases c:K.getD i 0=0
  ·have:=hi.b0;rw[c]at Q;omega
  ·omega
 obtain⟨ab,cb,rfl⟩:=M.val;have O2:=rC K;refine gO ?_;refine aE (7::9::11::12::16::17::18::19::20::21::22::23::24::25::26::27::28::29::30::31::32::33::34::35::36::37::38::39::40::41::42::43::44::45::46::47::48::49::50::51::52::53::[]) (fun g w'=> ∃(i:Nat) (u:List Nat),g 16=.int .i64 (i:Int)∧i≤K.length∧ad [] w1 w'∧Sl w' 2 (g 7) (fQ s sp d (K.take i)).length (bN (fQ s sp d (K.take i))) u∧(fQ s sp d (K.take i)).length≤i*5000∧ ∀y,y∈u→w1.heap.size≤y) (fun g _=>bU K.length 16 g)
  ⟨0,[],by simp only[go_sem];rfl,by omega,ad.refl _ _,by simp only[go_sem];exact Sl.zg _,by simp[fQ],by simp⟩ fun g w2 hI N=>?_
 obtain⟨i,u,F,S,z,H,D1,g2⟩:=hI;by_cases c:i<K.length;rotate_left
 ·refine bj F (bt (show¬(i:Int)<((kc K).length:Int) by omega)) ?_;rw[List.take_of_length_le (by omega)]at H;exact⟨E.nil z,u,H,fun y l=>by have:=g2 y l;have:=E.size;omega⟩
 obtain⟨U,Q,m3⟩:=Nj i c;obtain⟨k,hk⟩: ∃k,k=K.getD i 0:=⟨_,rfl⟩;rw[←hk]at U Q m3;obtain⟨gr,_,yr,er,V,_,_⟩:=(M.aa z).pos (by omega);cases er;have ci:(0:Int)≤(i:Int)∧(i:Int)<((kc K).length:Int):=by omega
 have ek:(kc K).getD i 0=(k:Int):=by rw[hk];unfold kc;simp[c]
 have vr:w2.cell? ⟨gr,i,none⟩=some (.int .i64 (k:Int)):=by rw[V.cell,←ek];exact aC yr (by omega)
 have o2:=E.nil z;have h2:lk w2 a hp sp:=h.aa o2;obtain⟨b,eb,gB,gW,cB,cW,yB,yW,sb,sg,pb,pg,bl,bf,_,hm⟩:=hr.aa o2;cases eb;refine nX F (bc ci.2) (eq_true ci) @Int.toNat_natCast @Nat.mul_one vr h2.cell ?_;refine ak (Gc hm k U m3 Q) ?_;rintro vg w3 ⟨I,fg,O,gg⟩;obtain⟨G,hG⟩: ∃G,G=jn s k:=⟨_,rfl⟩;have O3:G.length≤4097:=by
  have h1:=oO s k;have h2:=iZ s.st (32*k) (32*(k+1));rw[hG];unfold cX at h1;omega
 rw[←hG]at O;obtain⟨ag,cg,rfl⟩:=O.val;have z1:=E.size;have z2:=z.size;refine gO ?_;refine aE (7::11::12::27::28::29::30::31::32::33::34::35::36::37::38::39::40::41::42::43::44::45::46::47::48::49::50::51::52::[]) (fun W w'=> ∃(j:Nat) (R:List Nat),W 27=.int .i64 (j:Int)∧j≤G.length∧ad u w3 w'∧Sl w' 2 (W 7) (fQ s sp d (K.take i)++nP d (G.take j)).length (bN (fQ s sp d (K.take i)++nP d (G.take j))) R∧ ∀y,y∈R→y∈u∨w3.heap.size≤y) (fun W _=>bU G.length 27 W)
  ⟨0,u,by simp only[go_sem];rfl,by omega,ad.refl _ _,by simp only[go_sem];rw[show nP d (G.take 0)=[]from rfl,List.append_nil];exact H.aa I,fun y l=>.inl l⟩ fun W w4 hJ o=>?_
 obtain⟨j,R,t,hj,B,J,g4⟩:=hJ;have O4:=I.size;have o4:ad [] w1 w4:=(z.nil I).trans B fun y l=>.inr (g2 y l);have Nk: ∀y,y∈R→w1.heap.size≤y:=fun y l=>(g4 y l).elim (g2 y) fun h'=>by omega
 have BO:=H.lt;have Nl: ∀y,y∈fg→y∉u:=fun y l e=>by have:=gg y l;have:=BO y e;omega
 have Nn:(nP d (G.take j)).length≤j:=by
  have:=List.length_filter_le (fun g=>decide (d≤g.2)) (G.take j);rw[List.length_take]at this;unfold nP;omega
 have eW:fQ s sp d (K.take (i+1))=fQ s sp d (K.take i)++nP d G:=by
  rw[List.take_succ_eq_append_getElem c];unfold fQ;rw[List.flatMap_append,hG];have:K[i]=k:=by rw[hk];simp[c]
  simp[this]
 by_cases c2:j<G.length;rotate_left
 ·refine jI F t (bt (show¬(j:Int)<(G.length:Int) by omega)) (au i (by omega)) ?_;have No:G.take j=G:=List.take_of_length_le (by omega);rw[No]at J Nn;refine N _ w4 ⟨i+1,R,?_,by omega,o4,?_,?_,Nk⟩ ?_
  ·simp only[go_sem]
  ·simp only[go_sem];rw[eW];exact J
  ·rw[eW,gZ];omega
  ·exact aZ F
 obtain⟨X,_,yl,el,Y,_,_⟩: ∃X cap ys,Value.slice ag G.length cg=.slice (some ⟨X,0,none⟩) G.length cap∧At w4 X (bN G++ys)∧True∧True:=by
  rcases(O.ae B Nl).2 with⟨_,_,e⟩|⟨X,cap,ys,T,e1,_,e3,_⟩
  ·exact absurd e (by omega)
  ·exact⟨X,cap,ys,e1,⟨T,e3⟩,trivial,trivial⟩
 cases el;have cj:(0:Int)≤(j:Int)∧(j:Int)<(G.length:Int):=by omega
 have Z:=vh (cap:=0) Y c2;obtain⟨r,C,eg⟩: ∃r C,G.getD j (0,0)=(r,C):=⟨_,_,rfl⟩;rw[eg]at Z;have eT:nP d (G.take (j+1))=nP d (G.take j)++(if d≤C then [(r,C)]else []):=by
  have:G[j]=(r,C):=by rw[←eg];simp[c2]
  rw[List.take_succ_eq_append_getElem c2,this];unfold nP;rw[List.filter_append];congr 1;by_cases L:d≤C
  ·rw[if_pos L,List.filter_cons_of_pos (by simpa using L)];rfl
  ·rw[if_neg L,List.filter_cons_of_neg (by simpa using L)];rfl
 refine jr t (bc cj.2) (eq_true cj) @Int.toNat_natCast Z ?_;refine bm fun q w5 hq yG vT pZ=>?_;refine gO ?_;refine dR (cs:=bV (r,C)) (n:=2) (i:=0) vT rfl (by simp) (kF _) fun w6 vm pa p9=>?_;have m:At w6 q [.int .i64 r,.int .i64 C]:=pa;have z3:=I.size;have z4:=B.size;have D:ad [] w4 w6:=pZ.trans p9 fun y l=>by simp only[bp]at l;subst l;exact .inr (by omega)
 have Ju:0≤r∧r≤4096:=by
  have:=rz hi.ok U (r,C) (by rw[←hG,←eg];simp[c2]);exact this
 have e0:IntKind.i64.wrap (0-r)=0-r:=IntWalk.i64_in _ (by omega);by_cases L:d≤C
 ·refine jr m.cell e0 (bt (show¬0<0-r by omega)) (bc L) (ax m 0 2 (by simp)) ?_;rw[jJ (n:=2) rfl rfl];refine gO ?_;refine jc fun q7 w7 BU Bb o' P=>?_;refine gO ?_;refine nu (sz:=2) (us:=bV (r,C)) ((J.aa D).aa P) (bO.at o' rfl) (kF _) (by rw[gZ];omega) (by rw[gZ];omega) ?_;intro v8 w8 f8 F2 Np nw _;have z46:=D.size;have z7:=P.size;refine bj t (au j (by omega)) ?_;refine o _ w8 ⟨j+1,f8,?_,by omega,((B.same D.of_nil).same P.of_nil).trans nw fun y l=>g4 y l,?_,?_⟩ ?_
  ·simp only[go_sem]
  ·simp only[go_sem];rw[eT,if_pos L,←List.append_assoc,kU,gZ];simpa[bN,bV]using F2
  ·intro y l;rcases Np with e|e<;>rw[e]at l
   ·exact g4 y l
   ·simp only[bp]at l;exact .inr (by omega)
  ·exact aZ t
 ·refine kZ m.cell e0 (bt (show¬0<0-r by omega)) (bt L) t (au j (by omega)) ?_;refine o _ w6 ⟨j+1,R,?_,by omega,B.same D.of_nil,?_,g4⟩ ?_
  ·simp only[go_sem]
  ·simp only[go_sem];rw[eT,if_neg L,List.append_nil];exact J.aa D
  ·exact aZ t
end
end
section
section
variable {w:World} {a:Nat} {hp:Addr} {fh:List Nat} {s:HL} {sp:Int}
theorem rE {s:HL} {b many:Int} {f m:Int×Int} (h:a8 (some s) b many f≠0):bn (some s) b many f m=some s:=by
 unfold bn;simp only;rw[if_neg h]
theorem nh {s:HL} {many:Int} {f:Int×Int} {i n:Nat} (h:a8 (some s) (i:Int) many f≠0) (b:i<n):dQ s many f (n-i) i=dQ s many f (n-(i+1)) (i+1):=by
 have e:n-i=(n-(i+1))+1:=by omega
 rw[e];show(if a8 (some s) (i:Int) many f=0 then some i else dQ s many f (n-(i+1)) (i+1))=_;rw[if_neg h]
theorem DF (h:lk w a hp sp) (Q:HR w (some hp) fh (some s)) (hB:2≤s.B.length∧s.B.length≤64) (W:a∉fh):
  Cs Tryz.prog 478 [.pointer (some ⟨a,0,none⟩)] w fun v w'=> ∃x y L s',v=.tuple #[.agg ⟨[.int .i64 x,.int .i64 y]⟩,.bool L]∧HR w' (some hp) fh (some s')∧ad fh w w'∧
   ((L=false∧s'=s∧dQ s 1 (1,sp) (s.B.length-1) 1=none)∨(L=true∧ ∃b:Nat,x=((64*b:Nat):Int)∧dQ s 1 (1,sp) (s.B.length-1) 1=some b∧bn (some s) (b:Int) 1 (1,sp) (0,0)=some s')):=by
 refine en [0] ?_;refine gO ?_;refine bm fun q R hq X H k=>?_;have Y:lk R a hp sp:=h.aa k;have M:=Q.aa k;refine gO ?_;have l:q∉fh:=fun e=>by have:=Q.lt q e;omega
 refine aE (3::4::5::6::7::8::9::10::11::12::13::14::15::16::17::18::19::20::21::22::23::24::25::26::27::28::29::30::31::[]) (fun g w'=> ∃i:Nat,g 4=.int .i64 (i:Int)∧1≤i∧i≤s.B.length∧dQ s 1 (1,sp) (s.B.length-1) 1=dQ s 1 (1,sp) (s.B.length-i) i∧HR w' (some hp) fh (some s)∧ad fh R w') (fun g _=>bU s.B.length 4 g)
  ⟨1,by simp only[go_sem];rfl,by omega,by omega,rfl,M,ad.refl _ _⟩ fun g D Z t=>?_
 obtain⟨i,E,O5,hi,N,u,d⟩:=Z;have S:lk D a hp sp:=Y.ae d W;have r:=H.ae d l;have T:((bq (some s):Nat):Int)=(s.B.length:Int):=rfl;have U: ∀y,y∈[q]→y∈fh∨w.heap.size≤y:=fun y F=>by simp only[bp]at F;subst F;exact .inr (by omega)
 refine bj E S.cell ?_;refine ao (cq u) ?_;by_cases c:i<s.B.length;rotate_left
 ·refine db E T (bt (show¬(i:Int)<(s.B.length:Int) by omega)) ?_;refine dR (n:=2) (i:=0) r rfl (by simp) (by simp[bu]) fun K vw j m=>?_;have z:At K q [.int .i64 0,.int .i64 0]:=j;have O:=ax z 0 2 (by simp);refine aQ O ?_;refine⟨_,_,false,s,rfl,u.ae m fun y F e=>?_,((k.of_nil).same d).trans m U,.inl ⟨rfl,rfl,?_⟩⟩
  ·simp only[bp]at e;exact l (e▸F)
  ·rw[N,show s.B.length-i=0 by omega];rfl
 have P:lk D.drew a hp sp:=S.aa (ad.drew [] D);refine jI E T (bc (show(i:Int)<(s.B.length:Int) by omega)) P.cell ?_;refine ak (Dt (u.aa (ad.drew [] D)) (i:Int) sp (by omega)) ?_;rintro _ K ⟨rfl,o,m⟩;have B:ad fh D K:=(ad.drew fh D).same m;by_cases G:a8 (some s) (i:Int) 1 (1,sp)=0
 ·have e1:IntKind.i64.wrap ((i:Int)*64)=((64*i:Nat):Int):=by rw[IntWalk.i64_in _ (by omega)];omega
  have e2:IntKind.i64.wrap (((i+1:Nat):Int)*64)=((64*(i+1):Nat):Int):=by rw[IntWalk.i64_in _ (by omega)];omega
  have j:=r.ae B l;obtain⟨s',V⟩: ∃s',bn (some s) (i:Int) 1 (1,sp) (0,0)=some s':=by
   unfold bn;simp only;rw[if_pos G];exact⟨_,rfl⟩
  rw[V]at o;refine jr (fx G) E e1 (au i (by omega)) e2 ?_;rw[ai rfl rfl,ai rfl rfl];refine gO ?_;refine dR (n:=2) (i:=0) j rfl (by simp) (by simp[bu]) fun w4 tR I J=>?_;have C:At w4 q [.int .i64 ((64*i:Nat):Int),.int .i64 ((64*(i+1):Nat):Int)]:=I;have O:=ax C 0 2 (by simp);refine aQ O ?_;refine⟨_,_,true,s',rfl,o.ae J fun y F e=>?_,(((k.of_nil).same d).same B).trans J U,.inr ⟨rfl,i,rfl,?_,V⟩⟩
  ·simp only[bp]at e;exact l (e▸F)
  ·rw[N,show s.B.length-i=(s.B.length-i-1)+1 by omega];show(if a8 (some s) (i:Int) 1 (1,sp)=0 then some i else _)=_;rw[if_pos G]
 ·rw[rE G]at o;refine db (fj G) E (au i (by omega)) ?_;refine t _ K ⟨i+1,?_,by omega,by omega,by rw[N,nh G (by omega)],o,d.same B⟩ ?_
  ·simp only[go_sem]
  ·exact aZ E
def tO (s:HL) (o:Option (Int×HL)) (x:Int) (b:Bool) (s':HL):Prop:=(b=false∧s'=s∧o=none)∨(b=true∧o=some (x,s'))
theorem DG {V:Value} (H:V=.agg #[]) (h:lk w a hp sp) (W:HR w (some hp) fh (some s)) (I:s.Inv) (ha:a∉fh) (d:Int) (Ni:d≤32):
  Cs Tryz.prog 475 [V,.pointer (some ⟨a,0,none⟩),.int .i64 d] w fun v w'=> ∃x m s',v=.tuple #[.int .i64 x,.bool m]∧HR w' (some hp) fh (some s')∧ad fh w w'∧tO s (dW s d sp) x m s':=by
 subst H;have hB:=I.ok.ju;have J:=I.ok.b2;refine en [] ?_;refine gO ?_;refine bm fun q w1 hq qb X t=>?_;refine gO ?_;have h1:lk w1 a hp sp:=h.aa t;refine ak (Ge h1 (W.aa t) I d (by omega)) ?_;rintro vl B ⟨K,fq,o,g2⟩;have L:=t.nil K;have h2:lk B a hp sp:=h.aa L;have C:=W.aa L;obtain⟨G,M⟩: ∃G,G=fQ s sp d (dP s sp s.B.length):=⟨_,rfl⟩;rw[←M]at o;have j:dW s d sp=match (generalizing:=false) G with
   |g::_=>some (g.1,s)
   | []=>(dQ s 1 (1,sp) (s.B.length-1) 1).map fun b=>(((64*b:Nat):Int),(bn (some s) (b:Int) 1 (1,sp) (0,0)).getD s):=by
  unfold dW;rw[if_neg (by omega),←M]<;>(clear o M;cases G<;>rfl)
 obtain⟨Y,cl,rfl⟩:=o.val;have st:Cs Tryz.prog 476 [.pointer (some ⟨a,0,none⟩),.slice Y G.length cl] B fun v w'=> ∃x m s',v=.tuple #[.int .i64 x,.bool m]∧HR w' (some hp) fh (some s')∧ad fh B w'∧tO s (dW s d sp) x m s':=by
  refine en [] ?_;by_cases c:0<G.length
  ·obtain⟨z,k,el⟩: ∃z,(∃ys,At B z (bN G++ys))∧Y=some ⟨z,0,none⟩:=by
    rcases o.2 with⟨_,_,e⟩|⟨z,cap,ys,T,e1,_,e3,_⟩
    ·exact absurd e (by omega)
    ·cases e1;exact⟨z,⟨ys,T,e3⟩,rfl⟩
   subst el;obtain⟨ys,k⟩:=k;cases G with
   |nil=>exact absurd c (by simp)
   |cons g G'=>
    have N:B.cell? ⟨z,0,none⟩=some (.int .i64 g.1):=by rw[k.cell];rfl
    have O:(0:Int)≤0∧(0:Int)<((G'.length+1:Nat):Int):=by omega
    refine jr (bc O.2) (eq_true O) (eq_true O.2) (show Int.toNat 0*2=0 from rfl) N ?_;exact⟨_,_,s,rfl,C,ad.refl _ _,.inr ⟨rfl,j⟩⟩
  ·have e0:G=[]:=List.eq_nil_of_length_eq_zero (by omega);refine aQ (bt (show¬(0:Int)<((G.length:Nat):Int) by omega)) ?_;refine ak (DF h2 C ⟨J,hB⟩ ha) ?_;rintro _ Z ⟨x,y,m,s',rfl,u,r,l⟩;refine gO ?_;refine bm fun q2 w4 GW tR D P=>?_;refine gO ?_;refine dR (cs:=[.int .i64 x,.int .i64 y]) (n:=2) (i:=0) D rfl (by simp) (by simp[bu]) fun w5 yG E Q=>?_;have N:w5.cell? ⟨q2,0,none⟩=some (.int .i64 x):=by rw[E.cell];rfl
   have z3:=r.size;have F:ad [] Z w5:=P.trans Q fun y hy=>by simp only[bp]at hy;subst hy;exact .inr (by omega)
   refine aQ N ?_;refine⟨x,m,s',rfl,u.aa F,r.same F.of_nil,?_⟩;rw[e0]at j;rw[j];rcases l with⟨R,S,U⟩|⟨R,b,S,U,r4⟩
   ·exact .inl ⟨R,S,by simp only[U];rfl⟩
   ·exact .inr ⟨R,by simp only[U,Option.map_some,r4,Option.getD_some,S]⟩
 refine gO ?_;refine ak st ?_;rintro _ Z ⟨x,m,s',rfl,u,r,l⟩;refine gO ?_;exact⟨x,m,s',rfl,u,L.of_nil.same r,l⟩
theorem DH (h:lk w a hp sp) (K:HR w (some hp) fh (some s)) (E:s.Inv) (L:a∉fh) (d:Int) (z:32<d) (M:d≤218):
  Cs Tryz.prog 361 [.pointer (some ⟨a,0,none⟩),.int .i64 d] w fun v w'=> ∃x F s',v=.tuple #[.int .i64 x,.bool F]∧HR w' (some hp) fh (some s')∧ad fh w w'∧tO s (dW s d sp) x F s':=by
 have W:=E.ok.ju;have N:=E.ok.b2;obtain⟨many,O⟩: ∃m:Nat,(d+63)/64=(m:Int):=⟨((d+63)/64).toNat,by omega⟩;have P:many≤4∧1≤many:=by omega
 have l:dW s d sp=(dQ s (many:Int) (2,sp) (s.B.length-many) 1).map fun b=>(((64*b:Nat):Int),(bn (some s) (b:Int) (many:Int) (2,sp) (3,sp)).getD s):=by
  unfold dW;rw[if_pos z,O,cf]
 have Q:IntKind.i64.wrap ((IntKind.i64.wrap (IntKind.i64.wrap (d+64)-1)).tdiv 64)=(many:Int):=by
  rw[IntWalk.i64_in (d+64) (by omega),IntWalk.i64_in (d+64-1) (by omega),Int.tdiv_eq_ediv_of_nonneg (by omega),IntWalk.i64_in _ (by omega)];omega
 refine en [0] ?_;refine aQ Q ?_;refine aE (4::5::7::12::13::14::15::16::17::18::19::20::21::22::23::24::25::26::27::28::29::30::31::32::33::34::35::36::[]) (fun g w'=> ∃i:Nat,g 7=.int .i64 (i:Int)∧1≤i∧i≤s.B.length+1∧dQ s (many:Int) (2,sp) (s.B.length-many) 1=dQ s (many:Int) (2,sp) (s.B.length-many+1-i) i∧HR w' (some hp) fh (some s)∧ad fh w w') (fun g _=>bU (s.B.length+1) 7 g)
  ⟨1,by simp only[go_sem];rfl,by omega,by omega,by rw[Nat.add_sub_cancel],K,ad.refl _ _⟩ fun g r R o=>?_
 obtain⟨i,t,S,T,B,q,j⟩:=R;have G:lk r a hp sp:=h.ae j L;have H:((bq (some s):Nat):Int)=(s.B.length:Int):=rfl;have U:IntKind.i64.wrap ((i:Int)+(many:Int))=((i+many:Nat):Int):=by rw[IntWalk.i64_in _ (by omega)];omega
 refine db t G.cell U ?_;refine ao (cq q) ?_;by_cases c:i+many≤s.B.length;rotate_left
 ·refine db t H (bt (show¬((i+many:Nat):Int)≤(s.B.length:Int) by omega)) ?_;refine⟨_,_,s,rfl,q,j,.inl ⟨rfl,rfl,?_⟩⟩;rw[l,B,show s.B.length-many+1-i=0 by omega];rfl
 have C:lk r.drew a hp sp:=G.aa (ad.drew [] r);refine jI t H (bc (show((i+many:Nat):Int)≤(s.B.length:Int) by omega)) C.cell ?_;refine ak (rr (q.aa (ad.drew [] r)) (i:Int) (many:Int) sp (by omega) (by omega)) ?_;rintro _ I ⟨rfl,k,D⟩;have y:ad fh r I:=(ad.drew fh r).same D;by_cases u:a8 (some s) (i:Int) (many:Int) (2,sp)=0
 ·have V:IntKind.i64.wrap ((i:Int)*64)=((64*i:Nat):Int):=by rw[IntWalk.i64_in _ (by omega)];omega
  obtain⟨s',J⟩: ∃s',bn (some s) (i:Int) (many:Int) (2,sp) (3,sp)=some s':=by
   unfold bn;simp only;rw[if_pos u];exact⟨_,rfl⟩
  rw[J]at k;refine db (fx u) t V ?_;refine⟨_,_,s',rfl,k,j.same y,.inr ⟨rfl,?_⟩⟩;have:dQ s (many:Int) (2,sp) (s.B.length-many) 1=some i:=by
   rw[B,show s.B.length-many+1-i=(s.B.length-many-i)+1 by omega];show(if a8 (some s) (i:Int) (many:Int) (2,sp)=0 then some i else _)=_;rw[if_pos u]
  rw[l,this,Option.map_some,J,Option.getD_some]
 ·rw[rE u]at k;refine db (fj u) t (au i (by omega)) ?_;refine o _ I ⟨i+1,?_,by omega,by omega,by rw[B,nh u (by omega)],k,j.same y⟩ ?_
  ·simp only[go_sem]
  ·exact aZ t
end
theorem iM {P:Program} {t:TypeId} {v:Value} {w:World} {x:Array Field} (b:P.underlying t=some (.struct x)):(Instr.makeInterface t v).run P w=.ok (.iface t v) w:=by
 simp[Instr.makeInterface,run_underlying b,Result.andThen]
end
section
variable {hp:Addr} {s:HL} {sp:Int} {fh:List Nat} {w:World}
def ifs (t:TypeId):Value:=.iface t (.agg #[])
theorem oQ (w:World):Cs Tryz.prog 359 [] w fun v w'=>ad [] w w'∧ ∃g,v=.slice (some ⟨g,0,none⟩) 5 5∧At w' g [ifs 356,ifs 357,ifs 358,ifs 359,ifs 360]:=by
 refine en [] ?_;refine gO ?_;refine runT (iM Tryz.underlying356) ?_;refine gO ?_;refine runT (iM Tryz.underlying357) ?_;refine gO ?_;refine runT (iM Tryz.underlying358) ?_;refine gO ?_;refine runT (iM Tryz.underlying359) ?_;refine gO ?_;refine runT (iM Tryz.underlying360) ?_;refine gO ?_;rw[ai rfl rfl,ai rfl rfl,ai rfl rfl,ai rfl rfl,ai rfl rfl];refine gO ?_;refine jc fun g k l j b d=>?_;refine gO ?_;exact⟨d,g,rfl,b⟩
theorem GZ (k:HR w (some hp) fh (some s)) (o:2≤s.B.length) (sp:Int) (q:0≤sp) (r:sp<8):
  Cs Tryz.prog 218 [.pointer (some hp),.int .i64 sp,.int .i64 0] w fun v w'=>ad [] w w'∧ ∃a,v=.tuple #[.pointer (some ⟨a,0,none⟩),.int .i64 0]∧lk w' a hp sp∧w.heap.size≤a:=by
 refine en [] ?_;have l:((bq (some s):Nat):Int)=(s.B.length:Int):=rfl;refine gO ?_;refine ao (cq k) ?_;refine jI l (fj (show¬((s.B.length:Nat):Int)=0 by omega)) (bt (show¬sp<0 by omega)) (bt (show¬(8:Int)≤sp by omega)) ?_;refine ak (oQ w) ?_;rintro _ t ⟨b,g,rfl,u⟩;refine aQ (show decide (((5:Nat):Int)≤0)=false from rfl) ?_;rw[ai rfl rfl,ai rfl rfl,ai rfl rfl];refine gO ?_;refine bm fun a y z m d j=>?_;refine gO ?_;have:=b.size;exact⟨b.nil j,a,rfl,d,by omega⟩
theorem sY (w:World):(method (Tryz.prog.types.size+Made.depth) 356 (.agg #[]) "dustcart/alloc.place").run Tryz.prog w=.ok (475,.agg #[]) w:=by kernel_rfl
theorem AZ (h:s.Inv) {d x:Int} {l:HL} (q:2≤d∧d≤218) (e:dW s d sp=some (x,l)):0≤x∧x≤4096:=by
 have r:=h.ok.ju;unfold dW at e;split at e
 ·obtain⟨b,j,e⟩:=Option.map_eq_some_iff.1 e;have m:=jC j;cases e;omega
 ·split at e
  ·rename_i g G o;cases e;have k:g∈fQ s sp d (dP s sp s.B.length):=by rw[o];simp
   obtain⟨b,j,k⟩:=List.mem_flatMap.1 k;exact rz h.ok (List.mem_range.1 (List.mem_filter.1 j).1) g (List.mem_filter.1 k).1
  ·obtain⟨b,j,e⟩:=Option.map_eq_some_iff.1 e;have m:=jC j;cases e;omega
theorem BD {a:Nat} (h:lk w a hp sp) (hr:HR w (some hp) fh (some s)) (hi:s.Inv) (W:a∉fh) {sh:Sh} (hv:aM sh=true) (J3:s.born≤4611686018427387900):
  Cs Tryz.prog 219 [.pointer (some ⟨a,0,none⟩),.agg ⟨c8 sh⟩] w fun v w'=>v=.tuple #[.int .i64 (ck s sh sp).1.1,.int .i64 (ck s sh sp).1.2]∧HR w' (some hp) fh (some (ck s sh sp).2)∧ad (a::fh) w w':=by
 have Y:=bY hv;have K: ∀y,w.heap.size≤y→y∉fh:=fun y d e=>by have:=hr.lt y e;omega
 obtain⟨b,L⟩: ∃b,b=ay sh:=⟨_,rfl⟩;have e0:ck s sh sp=(match dW s b sp with
   |none=>((0,6),s)
   |some (x,r)=>if dr (some r) (x/64)=sp∧(bx (some r) x sh).2=0 then((x,0),(bM (some r) x sh).getD r)else((0,6),r)):=by
  unfold ck;rw[L]<;>(cases dW s (ay sh) sp<;>rfl)
 rw[←L]at Y;refine en [5,8,11,14,3,17,21,23,26,29,0,2,5,8,11,14,17,23,26,29,32,21,35,0,2,5,8,11,14,17,22,23,26,29,32,0] ?_;refine gO ?_;refine bm fun q w1 hq qb E Z=>?_;have h1:lk w1 a hp sp:=h.aa Z;have Il:aI w1 ⟨q,0,none⟩ 3=some (c8 sh):=ax E 0 3 (by simp[c8]);refine gO ?_;refine ao (Gd h1) ?_;refine aQ Il ?_;refine aH (oZ w1 sh) fun w2 vn=>?_;rw[hv];have F:=E.aa vn;have Im:aI w2 ⟨q,0,none⟩ 3=some (c8 sh):=ax F 0 3 (by simp[c8]);refine aQ Im ?_;refine aH (mW w2 sh) fun w3 kX=>?_;rw[←L];have o3:=(Z.nil vn).nil kX;have h3:lk w3 a hp sp:=h.aa o3;refine gO ?_;refine bk [a] ?_;have od:=ad.drew [] w3;have M:lk w3.drew a hp sp:=h3.aa od;refine aQ M.cell ?_;refine eL (oQ w3.drew) ?_;rintro _ X ⟨t,gp,rfl,Nq⟩;refine⟨.inr ((SB.refl _ _).only t fun z hz=>⟨by simp only[bp]at hz;subst hz;exact M.lt,by simp⟩),?_⟩;have Nr:X.cell? ⟨gp,0,none⟩=some (ifs 356):=by rw[Nq.cell];rfl
 have i5:(0:Int)≤0∧(0:Int)<((5:Nat):Int):=by decide
 have o4:ad [] w X:=(o3.nil od).nil t;have h4:lk X a hp sp:=h.aa o4;have A8:=hr.aa o4;refine bj (show((5:Nat):Int)=5 from rfl) (show Int.toNat 0*1=0 from rfl) ?_;refine Mb (p:=⟨gp,0,none⟩) (by simp only[go_sem]) Nr (.inr ((SB.refl _ _).only t fun z hz=>⟨by simp only[bp]at hz;subst hz;exact M.lt,by simp⟩)) ?_;simp only[go_sem,ifs];refine run_seq ?_;refine fB (7::31::32::[]) (fun J4 w'=>w'=X∧((32<b∧J4 7=.func (.func 361) #[] #[])∨(¬32<b∧J4 7=.func (.method "dustcart/alloc.place") #[ifs 356] #[]))) (fun kk Du=>?_) (fun g w5 hJ=>?_)
 ·by_cases u:32<b
  ·refine aQ (bc u) ?_;refine Du _ X ⟨rfl,.inl ⟨u,?_⟩⟩
   ·simp only[go_sem]
  ·refine aQ (bt u) ?_;refine Du _ X ⟨rfl,.inr ⟨u,?_⟩⟩
   ·simp only[go_sem,ifs]
 obtain⟨rfl,hJ⟩:=hJ;have Ns:=ax h4 0 7 (by simp);have ko:=((F.aa kX).aa od).aa t;refine aQ Ns ?_;refine bm fun N w6 Gl vm pa p9=>?_;refine gO ?_;refine dR (n:=7) (i:=0) pa rfl (by simp) (by simp[bu]) fun w7 Bb o' lx=>?_;have l:ad [] w5 w7:=p9.trans lx fun y d=>by simp only[bp]at d;subst d;exact .inr (by omega)
 have O:At w7 N [.pointer (some hp),.int .i64 sp,.int .i64 0,.int .i64 0,.int .i64 0,.int .i64 0,.int .i64 0]:=o';have h7:=h4.aa l;have A9:=A8.aa l;have P:=ko.aa l;refine gO ?_;refine CN (R:=fun v w'=> ∃x ok s',v=.tuple #[.int .i64 x,.bool ok]∧HR w' (some hp) fh (some s')∧ad fh w7 w'∧tO s (dW s b sp) x ok s') ?_ ?_
 ·rcases hJ with⟨c,e⟩|⟨c,e⟩
  ·rw[e];exact .inl ⟨_,_,bA _ _ _ _,by kernel_rfl,by simpa using DH h7 A9 hi W b c (by omega)⟩
  ·rw[e];exact .inr (.inr ⟨_,_,_,_,_,rfl,sY,by kernel_rfl,DG rfl h7 A9 hi W b (by omega)⟩)
 rintro _ G ⟨x,ok,r,rfl,B,C,IS⟩;have h8:lk G a hp sp:=h7.ae C W;have HV:ad [] w w7:=o4.nil l;have o8:ad fh w G:=HV.of_nil.same C;have z4:=o4.size;have O6:=l.size;have H:w.heap.size≤N:=by omega
 have Nt:w.heap.size≤q:=by omega
 have yj:=P.ae C (K q Nt);have m:=O.ae C (K N H);rcases IS with⟨r1,Q,r3⟩|⟨r1,Q⟩
 ·subst r1 Q;refine gO ?_;rw[e0,r3];exact⟨rfl,B,o8.mono fun y d=>.inl (by simp[d])⟩
 subst r1;have Nu:=AZ hi ⟨Y.1,Y.2.1⟩ Q;obtain⟨i1,b1,_,_⟩:=oN hi ⟨Y.1,Y.2.1⟩ Q;have e9:IntKind.i64.wrap (x.tdiv 64)=x/64:=by rw[Int.tdiv_eq_ediv_of_nonneg Nu.1,IntWalk.i64_in _ (by omega)]
 refine gO ?_;refine bk [a] ?_;have j:=ad.drew [] G;have S:lk G.drew a hp sp:=h8.aa j;refine bj S.cell e9 ?_;refine fR (sD (B.aa j) (x/64)) (.inr (SB.refl _ _)) ?_;have O7:a≠N:=by have:=h.lt;omega
 by_cases cs:dr (some r) (x/64)=sp;rotate_left
 ·have T:=m.aa j;have DN:aI G.drew ⟨N,0,none⟩ 7=some [.pointer (some hp),.int .i64 sp,.int .i64 0,.int .i64 0,.int .i64 0,.int .i64 0,.int .i64 0]:=ax T 0 7 (by simp);refine db (fj cs) (gm (show¬(5:Int)=0 by omega)) DN ?_;refine dR (n:=7) (i:=0) S rfl (by simp) (by simp[bu]) fun w9 yH I k=>?_;refine gO ?_;rw[e0,Q];simp only;rw[if_neg (fun e=>cs e.1)];exact⟨rfl,(B.aa j).ae k fun y d e=>by simp only[bp]at e;exact W (e▸d),((o8.mono fun y d=>.inl (by simp[d])).same j.of_nil).same (k.mono fun y d=>.inl (by simp only[bp]at d;simp[d]))⟩
 refine aQ (fx cs) ?_;refine bk [a,q] ?_;have o:=ad.drew [] G.drew;have J5:lk G.drew.drew a hp sp:=S.aa o;have U:=(yj.aa j).aa o;have V:=(m.aa j).aa o;have B2:aI G.drew.drew ⟨q,0,none⟩ 3=some (c8 sh):=ax U 0 3 (by simp[c8]);refine bj J5.cell B2 ?_;refine eL (AM ((B.aa j).aa o) x sh (by omega) (fun s' e=>by cases e;omega)) ?_;rintro _ w9 ⟨rfl,D,k⟩;refine⟨.inl rfl,?_⟩;have o9:ad (a::fh) w w9:=(((o8.same j.of_nil).same o.of_nil).same k).mono fun y d=>.inl (by simp[d]);by_cases ce:(bx (some r) x sh).2=0
 ·obtain⟨s2,e2,_⟩:=oL i1 x sh;rw[e2]at D;refine aQ (ep ce) ?_;rw[e0,Q];simp only;rw[if_pos ⟨cs,ce⟩,e2];exact⟨rfl,D,o9⟩
 ·have e2:bM (some r) x sh=some r:=by unfold bM;simp only;rw[if_neg ce]
  rw[e2]at D;have h9:=J5.ae k W;have I:=V.ae k (K N H);have IU:aI w9 ⟨N,0,none⟩ 7=some [.pointer (some hp),.int .i64 sp,.int .i64 0,.int .i64 0,.int .i64 0,.int .i64 0,.int .i64 0]:=ax I 0 7 (by simp);refine bj (gm ce) IU ?_;refine dR (n:=7) (i:=0) h9 rfl (by simp) (by simp[bu]) fun yI zu oj J=>?_;refine gO ?_;rw[e0,Q];simp only;rw[if_neg (fun e=>ce e.2)];exact⟨rfl,D.ae J fun y d e=>by simp only[bp]at e;exact W (e▸d),o9.same (J.mono fun y d=>.inl (by simp only[bp]at d;simp[d]))⟩
end
section
set_option maxRecDepth 8000
variable {fp:List Nat} {cs:List Value} {b:Nat} {w:World}
theorem rQ {p:Addr} (h:At w b (.pointer (some p)::cs)):Cs Tryz.prog 296 [.pointer (some ⟨b,0,none⟩)] w fun v w'=>v=.bool true∧w'=w:=by
 refine en [] ?_;(repeat(first|with_reducible(first|refine nx ?_|refine ch rfl ?_)|simp only[go_sem,h.cell]))
theorem J9 {p:Value} {k kind:Int} (h:At w b (p::.int .i64 k::cs)):Cs Tryz.prog 303 [.pointer (some ⟨b,0,none⟩),.int .i64 kind] w fun v w'=>v=.bool (dz .and .i64 k kind !=0)∧w'=w:=by
 refine en [] ?_;(repeat(first|with_reducible(first|refine nx ?_|refine ch rfl ?_)|simp only[go_sem,h.cell]))
theorem EC {a:Option Addr} {s:HL} (h:HR w a fp (some s)) (k y:Int) (G:1≤k) (H:k≤63) (I:0≤y) (J:y<8):Cs Tryz.prog 28 [.pointer a,.int .i64 k,.int .i64 y] w fun v w'=> ∃b j l,v=.tuple #[.pointer (some ⟨b,0,none⟩),.int .i64 0]∧
  At w' b [.pointer a,.int .i64 k,.int .i64 y,.map (some j),.map (some l),.slice none 0 0,.slice none 0 0]∧bP w' j []∧bP w' l []∧w.heap.size≤j∧j<l∧l<b∧ad [] w w':=by
 have K:=(h.ok s rfl).b2;refine en [] ?_;refine gO ?_;refine ao (cq h) ?_;have u:decide (((bq (some s):Nat):Int)≤0)=false:=bt (by simp only[bq];omega);refine jr u (bt (show¬k<1 by omega)) (bt (show¬(63:Int)<k by omega)) (bt (show¬y<0 by omega)) (bt (show¬(8:Int)≤y by omega)) ?_;refine pd fun j L z B q r=>?_;refine gO ?_;refine pd fun l M C D t m=>?_;refine gO ?_;rw[ai rfl rfl,ai rfl rfl,ai rfl rfl,ai rfl rfl,ai rfl rfl];refine gO ?_;refine bm fun b N E F o d=>?_;refine gO ?_;exact⟨b,j,l,by simp,o,(q.aa m).aa d,t.aa d,by omega,by omega,by omega,(r.nil m).nil d⟩
def cY (m:HO) (b x:Int):Bool:=bw m x&&(iG m (x/64)==1&&dr m (x/64)==b)
theorem BC {y:Addr} {m:HO} {k:Value} {B:Int} (h:HR w (some y) fp m) (u:At w b (.pointer (some y)::k::.int .i64 B::cs)) (x:Int) (G:0≤x) (D:x≤4611686018427387904):Cs Tryz.prog 396 [.pointer (some ⟨b,0,none⟩),.int .i64 x] w fun v w'=>v=.bool (cY m B x)∧ad [] w w':=by
 refine en [2,5,8,11,14,18,20,23,26,29,32,35,39,41,44,47,50,53,56,59,62,68,71,74,77,66,80,83,86,0] ?_;obtain⟨n,rfl⟩: ∃n:Nat,x=n:=⟨x.toNat,by omega⟩;have E:(n:Int)/64=((n/64:Nat):Int):=by omega
 unfold cY;rw[E];refine aQ (pN n (by omega)) ?_;refine bk [b] ?_;have l:=u.drew;have d:=u.lt;refine aQ l.cell ?_;refine rU (oT (h.aa (ad.drew [] w)) (n:Int) D) (.inr ⟨SB.refl _ _,fun z o=>⟨by simp only[bp]at o;rw[o];exact d,by simp⟩⟩) fun C j=>?_;have F:=l.aa j;have q:SB [b] w.drew C:=(SB.refl _ _).only j fun z o=>⟨by simp only[bp]at o;rw[o];exact d,by simp⟩;have r:ad [] w C:=(ad.drew [] w).nil j;cases H:bw m (n:Int)with
 |false=>
  refine gO ?_;exact⟨by simp,r⟩
 |true=>
  refine aQ u.cell ?_;refine fR (xW (h.aa r) ((n/64:Nat):Int)) (.inr q) ?_;cases t:(iG m ((n/64:Nat):Int)==1)with
  |false=>
   refine aQ t ?_;exact⟨by simp,r⟩
  |true=>
   refine bj t u.cell ?_;refine fR (sD (h.aa r) ((n/64:Nat):Int)) (.inr q) ?_;refine gO ?_;exact⟨by simp,r⟩
end
set_option maxRecDepth 8000
theorem D5 {w:World} {b:Nat} {m:IM} (h:bP w b m) (k:Int):Cs Tryz.prog 309 [.map (some b),.int .i64 k] w fun v w'=>v=.tuple #[]∧bP w' b (b9 m k (.agg ⟨[]⟩))∧ad [b] w w':=by
 refine en [] ?_;refine gO ?_;refine nZ Tryz.underlying187 Tryz.underlying3 h fun o l d j=>?_;refine gO ?_;exact⟨d,j⟩
section
set_option maxRecDepth 8000
theorem ad.ji {S T:List Nat} {a b:World} (h:ad S a b) (d: ∀x,x∈S→x∈T):ad T a b:=h.mono fun x j=>.inl (d x j)
structure LM where
 o:Int
 r:List Int
 v:Value
 f:List Nat
instance:Inhabited LM:=⟨⟨0,[],.slice none 0 0,[]⟩⟩
def LM.V (m:LM):List Value:=[.int .i64 m.o,m.v]
def oX (M:List LM):List Value:=M.flatMap LM.V
def hX (M:List LM):List Nat:=M.flatMap LM.f
theorem oY (M:List LM):(oX M).length=M.length*2:=by
 induction M with
 |nil=>rfl
 |cons m M b=>
  have:oX (m::M)=m.V++oX M:=rfl;rw[this,gZ,b];simp[LM.V];omega
theorem lS (L M:List LM):oX (L++M)=oX L++oX M:=by simp[oX]
theorem js (L M:List LM):hX (L++M)=hX L++hX M:=by simp[hX]
theorem rN {M:List LM} {i:Nat} (ys:List Value) (h:i<M.length):((oX M++ys).drop (i*2)).take 2=(M.getD i default).V:=by
 induction M generalizing i with
 |nil=>simp at h
 |cons m M b=>
  have e:oX (m::M)=m.V++oX M:=rfl;cases i with
  |zero=>rw[e];simp[LM.V]
  |succ i=>
   rw[e,show(i+1)*2=m.V.length+i*2 by simp[LM.V];omega,List.append_assoc,List.drop_append,List.drop_of_length_le (by omega),List.nil_append,Nat.add_sub_cancel_left];have:=b (i:=i) (by simpa using h);rw[this];simp
theorem dX {M:List LM} {m:LM} {x:Nat} (b:m∈M) (d:x∈m.f):x∈hX M:=by
 simp only[hX,List.mem_flatMap];exact⟨m,b,d⟩
def LM.ok (w:World) (m:LM):Prop:=Sl w 1 m.v m.r.length (ints m.r) m.f
structure BS where
 kinds:Int
 cJ:Int
 D:IM
 O:IM
 S:List Int
 L:List (Int×List Int)
def LM.im (m:LM):Int×List Int:=(m.o,m.r)
structure rO (w:World) (b:Nat) (hp:Addr) (t:BS) (bd bo:Nat) (vs vl:Value) (fs fl:List Nat) (M:List LM):Prop where
 hb:At w b [.pointer (some hp),.int .i64 t.kinds,.int .i64 t.cJ,.map (some bd),.map (some bo),vs,vl]
 hd:bP w bd t.D
 ho:bP w bo t.O
 hs:Sl w 1 vs t.S.length (ints t.S) fs
 hl:Sl w 2 vl M.length (oX M) fl
 eq:t.L=M.map LM.im
 om: ∀m,m∈M→m.ok w
 nd:(b::bd::bo::(fs++(fl++hX M))).Nodup
def BM (w:World) (b:Nat) (l:Addr) (t:BS) (fp:List Nat):Prop:= ∃d j vs m k fl M,fp=b::d::j::(k++(fl++hX M))∧rO w b l t d j vs m k fl M
section
variable {w w':World} {b:Nat} {hp:Addr} {t:BS} {bd bo:Nat} {vs vl:Value} {fs fl S fp:List Nat} {M:List LM}
theorem rO.ae (h:rO w b hp t bd bo vs vl fs fl M) (k:ad S w w') (hd: ∀x,x∈b::bd::bo::(fs++(fl++hX M))→x∉S):rO w' b hp t bd bo vs vl fs fl M:=
 ⟨h.hb.ae k (hd b (by simp)),h.hd.ae k (hd bd (by simp)),h.ho.ae k (hd bo (by simp)),h.hs.ae k fun x d=>hd x (by simp[d]),h.hl.ae k fun x d=>hd x (by simp[d]),h.eq,fun m j=>Sl.ae (h.om m j) k fun x d=>hd x (by simp[dX j d]),h.nd⟩
theorem rO.aa (h:rO w b hp t bd bo vs vl fs fl M) (k:ad [] w w'):rO w' b hp t bd bo vs vl fs fl M:=h.ae k fun _ _=>by simp
theorem BM.ae (h:BM w b hp t fp) (k:ad S w w') (d: ∀x,x∈fp→x∉S):BM w' b hp t fp:=by
 obtain⟨bd,bo,vs,vl,fs,fl,M,rfl,h⟩:=h;exact⟨bd,bo,vs,vl,fs,fl,M,rfl,h.ae k d⟩
theorem BM.aa (h:BM w b hp t fp) (k:ad [] w w'):BM w' b hp t fp:=h.ae k fun _ _=>by simp
theorem rO.lt (h:rO w b hp t bd bo vs vl fs fl M): ∀x,x∈b::bd::bo::(fs++(fl++hX M))→x<w.heap.size:=by
 intro x d;simp only[List.mem_cons,List.mem_append]at d;rcases d with rfl|rfl|rfl|d|d|d
 ·exact h.hb.lt
 ·exact h.hd.lt
 ·exact h.ho.lt
 ·exact h.hs.lt x d
 ·exact h.hl.lt x d
 ·simp only[hX,List.mem_flatMap]at d;obtain⟨m,j,d⟩:=d;exact Sl.lt (h.om m j) x d
theorem BM.lt (h:BM w b hp t fp): ∀x,x∈fp→x<w.heap.size:=by
 obtain⟨bd,bo,vs,vl,fs,fl,M,rfl,h⟩:=h;exact h.lt
theorem rO.len (h:rO w b hp t bd bo vs vl fs fl M):M.length=t.L.length:=by rw[h.eq,List.length_map]
structure vj (b bd bo:Nat) (fs fl F:List Nat):Prop where
 b1:b≠bd
 b2:b≠bo
 d1:bd≠bo
 b3: ∀x,x∈fs∨x∈fl∨x∈F→x≠b∧x≠bd∧x≠bo
 s: ∀x,x∈fs→x∉fl∧x∉F
 l: ∀x,x∈fl→x∉F
 n1:fs.Nodup
 n2:fl.Nodup
 n3:F.Nodup
theorem vj.of {F:List Nat} (h:(b::bd::bo::(fs++(fl++F))).Nodup):vj b bd bo fs fl F:=by
 simp only[List.nodup_cons,List.mem_cons,List.mem_append,not_or,List.nodup_append]at h;obtain⟨⟨w,y,z,B,C⟩,⟨D,E,G,H⟩,⟨k,m,o⟩,q,⟨r,t,u⟩,j⟩:=h;refine⟨w,y,D,fun x d=>?_,fun x d=>⟨fun h=>j x d x (.inl h) rfl,fun h=>j x d x (.inr h) rfl⟩,fun x d h=>u x d x h rfl,q,r,t⟩;rcases d with d|d|d
 ·exact⟨fun e=>z (e▸d),fun e=>E (e▸d),fun e=>k (e▸d)⟩
 ·exact⟨fun e=>B (e▸d),fun e=>G (e▸d),fun e=>m (e▸d)⟩
 ·exact⟨fun e=>C (e▸d),fun e=>H (e▸d),fun e=>o (e▸d)⟩
theorem vj.mk' {F:List Nat} (h:vj b bd bo fs fl F):(b::bd::bo::(fs++(fl++F))).Nodup:=by
 obtain⟨t,u,w,d,r,z,m,o,q⟩:=h;simp only[List.nodup_cons,List.mem_cons,List.mem_append,not_or,List.nodup_append];exact⟨⟨t,u,fun h=>(d b (.inl h)).1 rfl,fun h=>(d b (.inr (.inl h))).1 rfl,fun h=>(d b (.inr (.inr h))).1 rfl⟩,⟨w,fun h=>(d bd (.inl h)).2.1 rfl,fun h=>(d bd (.inr (.inl h))).2.1 rfl,fun h=>(d bd (.inr (.inr h))).2.1 rfl⟩,
  ⟨fun h=>(d bo (.inl h)).2.2 rfl,fun h=>(d bo (.inr (.inl h))).2.2 rfl,fun h=>(d bo (.inr (.inr h))).2.2 rfl⟩,m,⟨o,q,fun x k y j e=>z x k (e▸j)⟩,fun x k y j e=>by
   subst e;rcases j with j|j
   ·exact(r x k).1 j
   ·exact(r x k).2 j⟩
end
def hU (S:List Int) (x:Int):List Int:=if x≠0∧S.contains x=false then S++[x]else S
def BS.jH (t:BS) (x:Int):BS:= {t with S:=hU t.S x}
def kj:List (Int×List Int)→Int→Option Nat
 | [],_=>none
 |p::L,x=>if p.1=x then some 0 else(kj L x).map (· +1)
theorem tT {L:List (Int×List Int)} {x:Int} (h: ∀j,j<L.length→(L.getD j default).1≠x):kj L x=none:=by
 induction L with
 |nil=>rfl
 |cons o L d=>
  have b:=h 0 (by simp);simp only[List.getD_cons_zero]at b;unfold kj;rw[if_neg b,d fun j k=>by have:=h (j+1) (by simpa using k);simpa using this];rfl
theorem tU {L:List (Int×List Int)} {x:Int} {i:Nat} (b:i<L.length) (e:(L.getD i default).1=x) (h: ∀j,j<i→(L.getD j default).1≠x):kj L x=some i:=by
 induction L generalizing i with
 |nil=>simp at b
 |cons o L k=>
  unfold kj;cases i with
  |zero=>simp only[List.getD_cons_zero]at e;rw[if_pos e]
  |succ i=>
   have d:=h 0 (by omega);simp only[List.getD_cons_zero]at d;rw[if_neg d,k (i:=i) (by simpa using b) (by simpa using e) fun j l=>by have:=h (j+1) (by omega);simpa using this];rfl
theorem BM.jH {w:World} {b:Nat} {Q:Addr} {t:BS} {fp:List Nat} (h:BM w b Q t fp) (X:t.S.length≤100000) (x:Int):Cs Tryz.prog 305 [.pointer (some ⟨b,0,none⟩),.int .i64 x] w fun v w'=>v=.tuple #[]∧ad fp w w'∧ ∃l,BM w' b Q (t.jH x) l∧ ∀y,y∈l→y∈fp∨w.heap.size≤y:=by
 have Y:=h;obtain⟨C,D,vs,Z,G,fl,M,I,k⟩:=h;have j:=vj.of k.nd;have u:hU t.S x=t.S→ ∃l,BM w b Q (t.jH x) l∧ ∀y,y∈l→y∈fp∨w.heap.size≤y:=fun e=>⟨fp,by unfold BS.jH;rw[e];exact Y,fun y d=>.inl d⟩;refine en [] ?_;by_cases O:x=0
 ·refine aQ (ep O) ?_;exact⟨ad.refl _ _,u (by unfold hU;rw[if_neg (fun h=>h.1 O)])⟩
 refine bj (gm O) k.hb.cell ?_;refine ao (gG k.hs.rd X x) ?_;cases V:t.S.contains x with
 |true=>
  refine gO ?_;exact⟨ad.refl _ _,u (by unfold hU;rw[V,if_neg (fun h=>by cases h.2)])⟩
 |false=>
  refine aQ k.hb.cell ?_;rw[ai rfl rfl];refine gO ?_;refine jc fun q w1 hq qb J r=>?_;refine gO ?_;refine nu (m:=1) (us:=[.int .i64 x]) (k.hs.aa r) (bO.at J rfl) (by simp[bu]) (by omega) (by omega) ?_;intro v2 w2 P E R K _;have D8:=r.size;have S:=k.lt;have U:=(k.hb.aa r).ae K fun e=>(j.b3 b (.inl e)).1 rfl;have B: ∀y,y∈P→y∈G∨w.heap.size≤y:=fun y d=>by
   rcases R with rfl|rfl
   ·exact .inl d
   ·simp only[bp]at d;exact .inr (by omega)
  refine gO ?_;refine nt U (by simp) E.nS fun w3 vw L N=>?_;simp only[List.set_cons_zero,List.set_cons_succ]at L;refine gO ?_;have H: ∀y,y∈P→y≠b∧y≠C∧y≠D∧y∉fl∧y∉hX M:=fun y d=>by
   rcases B y d with h|h
   ·have:=j.b3 y (.inl h);exact⟨this.1,this.2.1,this.2.2,(j.s y h).1,(j.s y h).2⟩
   ·have g: ∀z,z∈b::C::D::(G++(fl++hX M))→y≠z:=fun z hz=>by have:=S z hz;omega
    exact⟨g b (by simp),g C (by simp),g D (by simp),fun h=>g y (by simp[h]) rfl,fun h=>g y (by simp[h]) rfl⟩
  have o:ad (b::G) w w3:=((r.of_nil (T:=b::G)).same (K.ji fun y d=>by simp[d])).same (N.ji fun y d=>by simp only[bp]at d;simp[d]);have off: ∀y,y≠b→y∉G→y∉b::G:=fun y h1 h2 W=>by simp only[List.mem_cons]at W;exact W.elim h1 h2
  refine⟨o.ji fun y d=>by rw[I];simp only[List.mem_cons]at d;rcases d with rfl|d<;>simp[*],b::C::D::(P++(fl++hX M)),⟨C,D,v2,Z,P,fl,M,rfl,?_⟩,fun y d=>?_⟩
  ·have e:(t.jH x).S=t.S++[x]:=by show hU t.S x=_;unfold hU;rw[if_pos ⟨O,V⟩]
   refine⟨L,k.hd.ae o (off C j.b1.symm fun h=>(j.b3 C (.inl h)).2.1 rfl),k.ho.ae o (off D j.b2.symm fun h=>(j.b3 D (.inl h)).2.2 rfl),?_,k.hl.ae o fun y d=>off y (j.b3 y (.inr (.inl d))).1 fun h=>(j.s y h).1 d,k.eq,fun m F=>Sl.ae (k.om m F) o fun y d=>off y (j.b3 y (.inr (.inr (dX F d)))).1 fun h=>(j.s y h).2 (dX F d),vj.mk' ⟨j.b1,j.b2,j.d1,?_,fun y d=>⟨(H y d).2.2.2.1,(H y d).2.2.2.2⟩,j.l,E.nodup,j.n2,j.n3⟩⟩
   ·rw[e];have:=E.ae N fun y d=>aW (H y d).1;simpa[ints]using this
   ·rintro y (d|d)
    ·exact⟨(H y d).1,(H y d).2.1,(H y d).2.2.1⟩
    ·exact j.b3 y (.inr d)
  ·rw[I];simp only[List.mem_cons,List.mem_append]at d⊢;rcases d with d|d|d|d|d|d
   ·simp[d]
   ·simp[d]
   ·simp[d]
   ·rcases B y d with h|h
    ·simp[h]
    ·exact .inr h
   ·simp[d]
   ·simp[d]
end
section
variable {F:List Int}
def cS (kd:Int) (i:Nat):Bool:=!(i==0&&cR kd 0)
def cT (kd:Int):Nat→List Int→List Int
 |_,[]=>[]
 |i,x::l=>(if x≠0∧cS kd i=true then [x]else [])++cT kd (i+1) l
theorem gi {kd:Int}: ∀ {l:List Int} {i:Nat} {y:Int},y∈cT kd i l↔ ∃j,j<l.length∧y=l.getD j 0∧y≠0∧cS kd (i+j)=true
 | [],i,y=>by simp[cT]
 |x::l,i,y=>by
  unfold cT
  rw[List.mem_append,gi]
  constructor
  ·rintro(h|⟨j,m,b,d,k⟩)
   ·split at h
    ·rename_i c
     simp only[bp]at h
     subst h
     exact⟨0,by simp,by simp,c.1,by simpa using c.2⟩
    ·cases h
   ·exact⟨j+1,by simpa using m,by simpa using b,d,by rw[←Nat.add_assoc,Nat.add_right_comm];exact k⟩
  ·rintro⟨j,m,b,d,k⟩
   cases j with
   |zero=>
    left
    simp only[List.getD_cons_zero]at b
    subst b
    rw[if_pos ⟨d,by simpa using k⟩];simp
   |succ j=>exact .inr ⟨j,by simpa using m,by simpa using b,d,by rw[Nat.add_right_comm,Nat.add_assoc];exact k⟩
theorem gn {kd:Int}: ∀ {l:List Int} {i:Nat},(cT kd i l).length≤l.length
 | [],_=>Nat.le_refl _
 |x::l,i=>by
  unfold cT
  have:=gn (kd:=kd) (l:=l) (i:=i+1)
  rw[gZ,List.length_cons]
  split<;>simp<;>omega
theorem oR {kd:Int}: ∀(l:List Int) (i:Nat) (x:Int),cT kd i (l++[x])=cT kd i l++(if x≠0∧cS kd (i+l.length)=true then [x]else [])
 | [],i,x=>by simp[cT]
 |y::l,i,x=>by
  simp only[List.cons_append,cT]
  rw[oR l (i+1) x,List.append_assoc,List.length_cons,Nat.add_right_comm,Nat.add_assoc]
def eM (s:HL) (x:Int):List Int:=cT (aU (some s) x).1.2.2 0 (gD (some s) x)
theorem fC {s:HL} (h:s.Ok) {k:Nat} (b:s.st.getD k 0=1):eM s ((2*k:Nat):Int)=cT (s.aq k).sh.2.2 0 (s.aq k).rf:=by
 unfold eM;rw[cy h b,qh h b]
structure CT where
 wd:Nat
 l:List Nat
 S:List Int
 lg:Option (List (Int×List Int))
def CT.val (t:CT) (x:Int):Nat:=t.l.getD (x.toNat/2) 0
def CT.most (t:CT):Nat:=2^t.wd-1
def yF (L:List (Int×List Int)):BS:=⟨32,0,[],[],[],L⟩
def fm (S:List Int) (x:Int):List Int:=if x∈S then S else S++[x]
def CT.up (t:CT) (x:Int):CT:= {t with l:=t.l.set (x.toNat/2) (dC t.wd (t.val x) 1)}
def CT.dn (s:HL) (t:CT) (x:Int):CT:=if bw (some s) x=true then {t with l:=t.l.set (x.toNat/2) (dC t.wd (t.val x) (-1)),S:=if dC t.wd (t.val x) (-1)<t.val x then fm t.S x else t.S}else t
def CT.kY (t:CT) (L:List Int):CT:=L.foldl CT.up t
def CT.rG (s:HL) (t:CT) (L:List Int):CT:=L.foldl (CT.dn s) t
def CT.IV (s:HL) (t:CT):CT:=(du (some s)).foldl (fun t a=>t.kY (eM s a)) t
def CT.zt (t:CT) (L:List Int):CT:= {t with S:=L.foldl fm t.S}
def bR (s:HL) (t:CT) (x:Int×List Int):CT:=if bw (some s) x.1=true then(t.kY (eM s x.1)).rG s (cT (aU (some s) x.1).1.2.2 0 x.2)else t
def CT.bring (s:HL) (t:CT):CT:=match t.lg with
 |none=>t
 |some L=> {L.foldl (bR s) t with lg:=some []}
def bT (s:HL) (t:CT) (F:List Int):List Int:=(du (some s)).filter fun a=>decide (t.val a=0)&&!F.contains a
def gj (s:HL) (x:Int):HL:=(dO (some s) x).getD s
def CT.free (s:HL) (t:CT) (x:Int):CT:=CT.rG (gj s x) {t with l:=t.l.set (x.toNat/2) 0,S:=t.S.erase x} ((eM s x).filter fun y=>bw (some (gj s x)) y)
structure QS where
 s:HL
 t:CT
 n:Int
 ws:Int
def QS.free (q:QS) (x:Int):QS:=⟨gj q.s x,q.t.free q.s x,q.n+1,q.ws+ay (aU (some q.s) x).1⟩
def gV (F:List Int) (p:QS×List Int):QS×List Int:=match bT p.1.s p.1.t F with
 | []=>p
 |x::_=>(p.1.free x,fm p.2 x)
def rH {b:Type} (f:b→b):Nat→b→b
 |0,a=>a
 |n+1,a=>f (rH f n a)
theorem tP {b:Type} (f:b→b) (m:Nat): ∀(n:Nat) (a:b),rH f (m+n) a=rH f m (rH f n a):=by
 induction m with
 |zero=>intro n a;rw[Nat.zero_add];rfl
 |succ m d=>intro n a;rw[Nat.add_right_comm];show f (rH f (m+n) a)=f (rH f m (rH f n a));rw[d]
theorem pX {b:Type} {f:b→b} {a:b} (h:f a=a): ∀n,rH f n a=a
 |0=>rfl
 |n+1=>by show f (rH f n a)=a;rw[pX h n,h]
theorem A0 {d:Type} {f:d→d} {a b c:d} {m n:Nat} (j:rH f m a=b) (o:f b=b) (l:rH f n a=c) (q:f c=c):b=c:=by
 rcases Nat.le_total m n with h|h
 ·obtain⟨k,rfl⟩:=Nat.exists_eq_add_of_le' h;rw[tP,j,pX o]at l;exact l
 ·obtain⟨k,rfl⟩:=Nat.exists_eq_add_of_le' h;rw[tP,l,pX q]at j;exact j.symm
theorem oS {p:QS×List Int} (h:bT p.1.s p.1.t F=[]):gV F p=p:=by unfold gV;rw[h]
def DO (F:List Int) (q b:QS) (g:List Int):Prop:=(∃n,rH (gV F) n (q,[])=(b,g))∧bT b.s b.t F=[]
theorem DO.uniq {q a b:QS} {g h:List Int} (d:DO F q a g) (j:DO F q b h):a=b∧g=h:=by
 obtain⟨⟨m,k⟩,l⟩:=d;obtain⟨⟨n,o⟩,r⟩:=j;have:=A0 k (oS l) o (oS r);exact⟨congrArg (·.1) this,congrArg (·.2) this⟩
def gU (g:List Int) (p:HL×CT×Nat) (a:Int):HL×CT×Nat:=
 if cR (aU (some p.1) a).1.2.2 0=true∧(ic (some p.1) a 0).1∈g then
  let b:=(aP (some p.1) a 0 0).getD p.1
  let v:=(ic (some b) a 1).1
  if(aU (some p.1) a).1.2.2=2∧v≠0 then
   let d:=(aP (some b) a 1 0).getD b
   (d,CT.dn d p.2.1 v,p.2.2+1)
  else(b,p.2.1,p.2.2+1)
 else p
def cp (s:HL) (t:CT) (g:List Int):HL×CT×Nat:=(du (some s)).foldl (gU g) (s,t,0)
inductive wh (F:List Int):QS→Nat→QS→Nat→Prop
 |done {q q':QS} {c:Nat} (h:DO F q q' []):wh F q c q' c
 |more {q q1 q':QS} {c c':Nat} {g:List Int} (h:DO F q q1 g) (hg:g≠ []) (k:wh F {q1 with s:=(cp q1.s q1.t g).1,t:=(cp q1.s q1.t g).2.1} (c+(cp q1.s q1.t g).2.2) q' c'):wh F q c q' c'
theorem wh.uniq {q a b:QS} {c d e:Nat} (m:wh F q c a d) (l:wh F q c b e):a=b∧d=e:=by
 induction m generalizing b e with
 |done h=>
  cases l with
  |done j=>exact⟨(h.uniq j).1,rfl⟩
  |more j k _=>exact absurd (h.uniq j).2.symm k
 |more h k _ o=>
  cases l with
  |done j=>exact absurd (h.uniq j).2 k
  |more j _ k'=>
   obtain⟨rfl,rfl⟩:=h.uniq j;exact o k'
structure EE (s:HL) (t:CT) (F:List Int) (s':HL) (t':CT) (DM:List Int) (q:QS) (c:Nat):Prop where
 Lr:wh F ⟨s,t.bring s,0,0⟩ 0 q c
 s4:s'=dA q.s q.s.B.length
 t4:t'=q.t.zt F
 rp:DM=[(s'.aw.length:Int),dk s' s'.aw,q.n,q.ws,0,0,q.n,(c:Int)]
def EA (s:HL) (wd:Nat) (b:Bool) (F:List Int):CT:=CT.zt (CT.IV s ⟨wd,List.replicate (32*s.B.length) 0,[],if b then some []else none⟩) F
end
set_option maxRecDepth 8000
theorem Bq {w:World} {a:Option Addr} {S:List Nat} {m:MT} (h:gI w a S m) (i d:Int):Cs Tryz.prog 343 [.pointer a,.int .i64 i,.int .i64 d] w fun r w'=>r=.tuple #[.int .i64 (m.qW i d),.int .i64 (m.kA i d)]∧gI w' a S (m.qX i d)∧ad S w w':=by
 refine en [] ?_;refine gO ?_;refine aH (xQ h i rfl) fun X o=>?_
 match m,h with
 |none,h=>
  refine aQ @MT.mU ?_;exact⟨rfl,h.aa o,o.of_nil⟩
 |some (wd,l),⟨b,g,P,K,y⟩=>
  subst P K;have y:=y.ae o (by simp) (by simp);have T:=y.hw;rcases MT.kR (wd:=wd) (l:=l) (i:=i) (vs:=[])with⟨e,Q,Y⟩|⟨e,Q⟩
  ·obtain⟨k,rfl,R⟩:=mT Q;by_cases q:d< -255∨255<d
   ·have t:MT.kA (some (wd,l)) (k:Int) d=1:=by simp only[MT.kA,e,if_true,if_pos q]
    have C:MT.qW (some (wd,l)) (k:Int) d=0:=by simp only[MT.qW,t];rfl
    have D:MT.qX (some (wd,l)) (k:Int) d=some (wd,l):=by simp only[MT.qX,t];rfl
    by_cases u:d< -255
    ·refine bj e (bc u) ?_;rw[t,C,D];exact⟨rfl,.mk y,o.of_nil⟩
    ·have z:=q.resolve_left u;refine db e (bt u) (bc z) ?_;rw[t,C,D];exact⟨rfl,.mk y,o.of_nil⟩
   ·have t:MT.kA (some (wd,l)) (k:Int) d=0:=by simp only[MT.kA,e,if_true,if_neg q]
    have C:MT.qW (some (wd,l)) (k:Int) d=((dC wd (l.getD k 0) d:Nat):Int):=by simp only[MT.qW,t,if_true,cf]
    have D:MT.qX (some (wd,l)) (k:Int) d=some (wd,l.set k (dC wd (l.getD k 0) d)):=by simp only[MT.qX,t,if_true,cf]
    have u: ¬d< -255:=fun h=>q (.inl h);have z: ¬255<d:=fun h=>q (.inr h);rw[t,C,D];refine db e (bt u) (bt z) ?_;refine aH (lF y R) fun Z B=>?_;have I:=y.ae B (by simp) (by simp);refine gO ?_;refine ao (iD I) ?_;have U:2^wd-1<256:=by rcases T with rfl|rfl|rfl|rfl<;>decide
    have V:=y.el k;generalize L:l.getD k 0=x at V⊢;refine gO ?_;refine cD (fun E=>?_) (fun F=>?_)
    ·have E:(x:Int)<((2^wd-1:Nat):Int):=by simpa using E
     have G:IntKind.i64.wrap ((x:Int)+d)=x+d:=IntWalk.i64_in _ (by omega);have J:dC wd x d=(min (max ((x:Int)+d) 0) ((2^wd-1:Nat):Int)).toNat:=if_pos (by omega);have M:(min (max ((x:Int)+d) 0) ((2^wd-1:Nat):Int))=((dC wd x d:Nat):Int):=by rw[J];omega
     have N:dC wd x d<2^wd:=by rw[J];have:=Nat.two_pow_pos wd;omega
     refine aQ G ?_;refine ao (iD I) ?_;refine aQ M ?_;refine ak (tx I R N) ?_;rintro r w5 ⟨rfl,W,O⟩;refine gO ?_;exact⟨.mk W,(o.same B).of_nil.same O.g⟩
    ·have F: ¬(x:Int)<((2^wd-1:Nat):Int):=by simpa using F
     have J:dC wd x d=x:=if_neg (by omega);have H:l.set k x=l:=by
      apply List.ext_getElem (by simp);intro j P K;rw[List.getElem_set];split
      ·rename_i e;subst e;rw[←L];simp[K]
      ·rfl
     refine gO ?_;rw[J,H];exact⟨rfl,.mk I,(o.same B).of_nil⟩
  ·have t:MT.kA (some (wd,l)) i d=1:=by simp[MT.kA,e]
   have C:MT.qW (some (wd,l)) i d=0:=by simp only[MT.qW,t];rfl
   have D:MT.qX (some (wd,l)) i d=some (wd,l):=by simp only[MT.qX,t];rfl
   rw[t,C,D];refine aQ e ?_;exact⟨.mk y,o.of_nil⟩
section
def vi (w:World) (j:Addr) (lg:Option (List (Int×List Int))) (b:Value) (fl:List Nat):Prop:=match lg with
 |none=>b=.pointer none∧fl=[]
 |some L=> ∃d,b=.pointer (some ⟨d,0,none⟩)∧BM w d j (yF L) fl
structure sZ (w:World) (b:Nat) (hp:Addr) (ar:Option Addr) (t:CT) (tb tg mb:Nat) (lv:Value) (fl:List Nat):Prop where
 hb:At w b [.pointer (some hp),.pointer ar,.pointer (some ⟨tb,0,none⟩),lv,.map (some mb)]
 ht:dh w tb tg t.l.length t.wd t.l
 hs:MB w mb t.S
 hl:vi w hp t.lg lv fl
 nd:(b::tb::tg::mb::fl).Nodup
def CM (w:World) (b:Nat) (l:Addr) (m:Option Addr) (t:CT) (fp:List Nat):Prop:= ∃d j k o fl,fp=b::d::j::k::fl∧sZ w b l m t d j k o fl
section
variable {w w':World} {b:Nat} {hp:Addr} {ar:Option Addr} {t:CT} {tb tg mb:Nat} {lv:Value} {fl S fp:List Nat} {lg:Option (List (Int×List Int))}
theorem vi.ae (h:vi w hp lg lv fl) (k:ad S w w') (b: ∀x,x∈fl→x∉S):vi w' hp lg lv fl:=by
 cases lg with
 |none=>exact h
 |some L=>obtain⟨d,e,h⟩:=h;exact⟨d,e,h.ae k b⟩
theorem vi.lt (h:vi w hp lg lv fl): ∀x,x∈fl→x<w.heap.size:=by
 cases lg with
 |none=>rw[h.2];simp
 |some L=>obtain⟨b,e,h⟩:=h;exact h.lt
theorem dh.BO {n wd:Nat} {l:List Nat} (h:dh w tb tg n wd l):tb<w.heap.size∧tg<w.heap.size:=by
 have:=(gI.mk h).lt;exact⟨this tb (by simp),this tg (by simp)⟩
theorem sZ.ae (h:sZ w b hp ar t tb tg mb lv fl) (k:ad S w w') (d: ∀x,x∈b::tb::tg::mb::fl→x∉S):sZ w' b hp ar t tb tg mb lv fl:=
 ⟨h.hb.ae k (d b (by simp)),h.ht.ae k (d tb (by simp)) (d tg (by simp)),h.hs.ae k (d mb (by simp)),h.hl.ae k fun x j=>d x (by simp[j]),h.nd⟩
theorem sZ.aa (h:sZ w b hp ar t tb tg mb lv fl) (k:ad [] w w'):sZ w' b hp ar t tb tg mb lv fl:=h.ae k fun _ _=>by simp
theorem CM.ae (h:CM w b hp ar t fp) (k:ad S w w') (d: ∀x,x∈fp→x∉S):CM w' b hp ar t fp:=by
 obtain⟨tb,tg,mb,lv,fl,rfl,h⟩:=h;exact⟨tb,tg,mb,lv,fl,rfl,h.ae k d⟩
theorem CM.aa (h:CM w b hp ar t fp) (k:ad [] w w'):CM w' b hp ar t fp:=h.ae k fun _ _=>by simp
theorem sZ.lt (h:sZ w b hp ar t tb tg mb lv fl): ∀x,x∈b::tb::tg::mb::fl→x<w.heap.size:=by
 intro x d;simp only[List.mem_cons]at d;rcases d with rfl|rfl|rfl|rfl|d
 ·exact h.hb.lt
 ·exact h.ht.BO.1
 ·exact h.ht.BO.2
 ·exact bP.lt h.hs
 ·exact h.hl.lt x d
theorem CM.lt (h:CM w b hp ar t fp): ∀x,x∈fp→x<w.heap.size:=by
 obtain⟨tb,tg,mb,lv,fl,rfl,h⟩:=h;exact h.lt
theorem CM.len (h:CM w b hp ar t fp):t.l.length≤4096:=by
 obtain⟨tb,tg,mb,lv,fl,rfl,h⟩:=h;exact h.ht.n2
theorem sZ.zc (h:sZ w b hp ar t tb tg mb lv fl) (o:ad [tb,tg] w w') {l:List Nat} (ht:dh w' tb tg l.length t.wd l):sZ w' b hp ar {t with l:=l} tb tg mb lv fl:=by
 have nd:=h.nd;simp only[List.nodup_cons,List.mem_cons,not_or]at nd;obtain⟨⟨j,k,y,z⟩,⟨B,m,q⟩,⟨r,u⟩,C,_⟩:=nd;refine⟨h.hb.ae o (by simp;exact⟨j,k⟩),ht,h.hs.ae o (by simp;exact⟨Ne.symm m,Ne.symm r⟩),h.hl.ae o fun x d e=>?_,h.nd⟩;simp only[List.mem_cons,List.not_mem_nil,or_false]at e;rcases e with rfl|rfl
 ·exact q d
 ·exact u d
theorem sZ.ze (h:sZ w b hp ar t tb tg mb lv fl) (o:ad [mb] w w') {K:List Int} (hs:MB w' mb K):sZ w' b hp ar {t with S:=K} tb tg mb lv fl:=by
 have nd:=h.nd;simp only[List.nodup_cons,List.mem_cons,not_or]at nd;obtain⟨⟨q,r,d,u⟩,⟨y,j,z⟩,⟨k,B⟩,l,_⟩:=nd;refine⟨h.hb.ae o (by simpa using d),h.ht.ae o (by simpa using j) (by simpa using k),hs,h.hl.ae o fun x m e=>?_,h.nd⟩;simp only[bp]at e;subst e;exact l m
end
theorem vO (k:Nat) (h:k≤100000):IntKind.i64.wrap (((2*k:Nat):Int).tdiv 2)=(k:Int):=by
 rw[Int.tdiv_eq_ediv_of_nonneg (by omega),IntWalk.i64_in _ (by omega)];omega
theorem get_at {wd k:Nat} {l:List Nat} (b:k<l.length):MT.get (some (wd,l)) (k:Int)=((l.getD k 0:Nat):Int):=by
 show(if hasB l.length (k:Int)=true then((l.getD (k:Int).toNat 0:Nat):Int)else-1)=_;rw[if_pos (iP b),cf]
theorem s5 {wd k:Nat} {l:List Nat} (j:k<l.length) {d:Int} (m: ¬(d< -255∨255<d)):MT.kA (some (wd,l)) (k:Int) d=0∧MT.qW (some (wd,l)) (k:Int) d=((dC wd (l.getD k 0) d:Nat):Int)∧MT.qX (some (wd,l)) (k:Int) d=some (wd,l.set k (dC wd (l.getD k 0) d)):=by
 have o:MT.check (some (wd,l)) (k:Int) []=0:=by
  show(if(hasB l.length (k:Int)&& [].all (ib wd))=true then(0:Int)else 1)=0;rw[if_pos (by rw[iP j];rfl)]
 have b:MT.kA (some (wd,l)) (k:Int) d=0:=by
  show(if MT.check (some (wd,l)) (k:Int) []=0 then(if d< -255∨255<d then(1:Int)else 0)else _)=0;rw[if_pos o,if_neg m]
 refine⟨b,?_,?_⟩
 ·show(if MT.kA (some (wd,l)) (k:Int) d=0 then((dC wd (l.getD (k:Int).toNat 0) d:Nat):Int)else 0)=_;rw[if_pos b,cf]
 ·show(if MT.kA (some (wd,l)) (k:Int) d=0 then some (wd,l.set (k:Int).toNat (dC wd (l.getD (k:Int).toNat 0) d))else some (wd,l))=_;rw[if_pos b,cf]
section
variable {w:World} {b:Nat} {hp:Addr} {ar:Option Addr} {t:CT} {fp:List Nat}
theorem hT (h:CM w b hp ar t fp):Cs Tryz.prog 178 [.pointer (some ⟨b,0,none⟩)] w fun v w'=>v=.bool true∧w'=w:=by
 obtain⟨d,j,k,l,fl,_,h⟩:=h;refine en [] ?_;(repeat(first|with_reducible(first|refine nx ?_|refine ch rfl ?_)|simp only[go_sem,h.hb.cell]))
theorem GR (h:CM w b hp ar t fp) {k:Nat} (j:k<t.l.length):Cs Tryz.prog 186 [.pointer (some ⟨b,0,none⟩),.int .i64 ((2*k:Nat):Int)] w fun v w'=>v=.int .i64 ((t.l.getD k 0:Nat):Int)∧ad [] w w':=by
 have d:=h.len;obtain⟨m,o,q,r,fl,_,h⟩:=h;refine en [] ?_;refine bj h.hb.cell (vO k (by omega)) ?_;refine ak (Bk (gI.mk h.ht) (k:Int)) ?_;rintro _ w' ⟨rfl,l⟩;rw[get_at j];refine gO ?_;exact l
theorem G0 (h:CM w b hp ar t fp) {k:Nat} (u:k<t.l.length):Cs Tryz.prog 181 [.pointer (some ⟨b,0,none⟩),.int .i64 ((2*k:Nat):Int)] w fun _ w'=>CM w' b hp ar (t.up ((2*k:Nat):Int)) fp∧ad fp w w':=by
 have o:=h.len;obtain⟨y,z,B,C,fl,j,h⟩:=h;refine en [] ?_;refine bj h.hb.cell (vO k (by omega)) ?_;refine ak (Bq (gI.mk h.ht) (k:Int) 1) ?_;rintro _ w' ⟨rfl,m,q⟩;rw[(s5 u (d:=1) (by omega)).2.2]at m;obtain⟨D,E,F,G,m⟩:=m;cases F;cases G;refine gO ?_;have e:t.up ((2*k:Nat):Int)= {t with l:=t.l.set k (dC t.wd (t.l.getD k 0) 1)}:=by
  unfold CT.up CT.val;rw[cf,Nat.mul_div_cancel_left k (by omega)]
 rw[e];refine⟨⟨y,z,B,C,fl,j,h.zc q m⟩,q.mono fun x r=>.inl ?_⟩;rw[j];simp only[List.mem_cons,List.not_mem_nil,or_false]at r⊢;rcases r with rfl|rfl<;>simp
theorem lu {K:List Int} {x:Int} (b:K.Nodup):b9 (cC K) x (.bool true)=cC (fm K x):=by
 unfold fm;by_cases c:x∈K
 ·rw[if_pos c];exact AW b c
 ·rw[if_neg c];exact yv c
theorem Gf {s:HL} {t:CT} {k:Nat} (b:bw (some s) ((2*k:Nat):Int)=true):t.dn s ((2*k:Nat):Int)= {t with l:=t.l.set k (dC t.wd (t.l.getD k 0) (-1)),S:=if dC t.wd (t.l.getD k 0) (-1)<t.l.getD k 0 then fm t.S ((2*k:Nat):Int)else t.S}:=by
 unfold CT.dn CT.val;rw[if_pos b,cf,Nat.mul_div_cancel_left k (by omega)]
theorem n9 {N:List Nat} {s:HL} (h:CM w b hp ar t fp) (O:HR w (some hp) N (some s)) (E:s.Ok) (W:s.st.length≤t.l.length) (x:Int) (m:x≤4611686018427387904):
  Cs Tryz.prog 183 [.pointer (some ⟨b,0,none⟩),.int .i64 x] w fun _ w'=>CM w' b hp ar (t.dn s x) fp∧ad fp w w':=by
 have F:=h.len;have G:=h;obtain⟨H,I,J,K,fl,j,h⟩:=h;refine en [] ?_;refine aQ h.hb.cell ?_;refine ak (oT O x m) ?_;rintro _ X ⟨rfl,l⟩;cases B:bw (some s) x with
 |false=>
  refine gO ?_;have e:t.dn s x=t:=by unfold CT.dn;rw[B];rfl
  rw[e];exact⟨G.aa l,l.of_nil⟩
 |true=>
  obtain⟨k,rfl,P⟩:=(b5 E).1 B;have o:k<t.l.length:=by have:=(E.start P).1;omega
  refine gO ?_;refine ak (GR (G.aa l) o) ?_;rintro _ Y ⟨rfl,C⟩;have L:=l.nil C;have D:=h.aa L;refine bj D.hb.cell (vO k (by omega)) ?_;refine ak (Bq (gI.mk D.ht) (k:Int) (-1)) ?_;rintro _ Q ⟨rfl,z,q⟩;rw[(s5 o (d:= -1) (by omega)).2.2]at z;rw[(s5 o (d:= -1) (by omega)).2.1];obtain⟨R,S,T,U,z⟩:=z;cases T;cases U;have r:=D.zc q z;have M:ad fp w Q:=L.of_nil.same (q.mono fun x m=>.inl (by
   rw[j];simp only[List.mem_cons,List.not_mem_nil,or_false]at m⊢;rcases m with rfl|rfl<;>simp))
  rw[Gf B];by_cases c:dC t.wd (t.l.getD k 0) (-1)<t.l.getD k 0
  ·refine bj (bc (show((dC t.wd (t.l.getD k 0) (-1):Nat):Int)<((t.l.getD k 0:Nat):Int) by omega)) r.hb.cell ?_;refine nZ Tryz.underlying130 Tryz.underlying3 r.hs fun Z V u y=>?_;rw[lu r.hs.nodup]at u;refine gO ?_;rw[if_pos c];refine⟨⟨H,I,J,K,fl,j,r.ze y u⟩,M.same (y.mono fun x m=>.inl (by rw[j];simp only[bp]at m;simp[m]))⟩
  ·refine aQ (bt (show¬((dC t.wd (t.l.getD k 0) (-1):Nat):Int)<((t.l.getD k 0:Nat):Int) by omega)) ?_;rw[if_neg c];exact⟨⟨H,I,J,K,fl,j,r⟩,M⟩
end
end
section
def Br (ex:Bool) (mx x n:Nat):Prop:=(x=n∧n<mx)∨(ex=false∧x=mx)
theorem A1 (wd x:Nat) (h:x<2^wd-1):dC wd x (-1)=x-1:=by
 unfold dC;rw[if_pos h];omega
theorem A2 (wd x:Nat) (d:Int) (h: ¬x<2^wd-1):dC wd x d=x:=by
 unfold dC;rw[if_neg h]
theorem Br.dn {ex:Bool} {wd x n:Nat} (h:Br ex (2^wd-1) x (n+1)):Br ex (2^wd-1) (dC wd x (-1)) n:=by
 rcases h with⟨rfl,h⟩|⟨h,rfl⟩
 ·rw[A1 wd _ h];exact .inl ⟨by omega,by omega⟩
 ·rw[A2 _ _ _ (by omega)];exact .inr ⟨h,rfl⟩
theorem Br.pos {ex:Bool} {mx x n:Nat} (h:Br ex mx x n) (d:0<mx) (b:x=0):n=0:=by
 rcases h with⟨rfl,_⟩|⟨_,rfl⟩
 ·exact b
 ·omega
def CT.Fl (ex:Bool) (s:HL) (t:CT) (N:Int→Nat):Prop:= ∀k,s.st.getD k 0=1→Br ex t.most (t.val ((2*k:Nat):Int)) (N ((2*k:Nat):Int))
theorem kf (t:CT) (k:Nat):t.val ((2*k:Nat):Int)=t.l.getD k 0:=by
 unfold CT.val;rw[cf,Nat.mul_div_cancel_left k (by omega)]
theorem rR (t:CT) (x:Int):(t.up x).l.length=t.l.length:=by unfold CT.up;simp
theorem rM (s:HL) (t:CT) (x:Int):(t.dn s x).l.length=t.l.length:=by
 unfold CT.dn;split
 ·simp
 ·rfl
theorem A4 (s:HL) (t:CT) (x:Int):(t.dn s x).wd=t.wd:=by
 unfold CT.dn;split<;>rfl
theorem A5 (s:HL) (t:CT) (x:Int):(t.dn s x).lg=t.lg:=by
 unfold CT.dn;split<;>rfl
theorem kp: ∀(L:List Int) (t:CT),(t.kY L).wd=t.wd∧(t.kY L).lg=t.lg∧(t.kY L).S=t.S∧(t.kY L).l.length=t.l.length
 | [],t=>⟨rfl,rfl,rfl,rfl⟩
 |x::L,t=>by
  have h:=kp L (t.up x)
  exact⟨h.1,h.2.1,h.2.2.1,h.2.2.2.trans (rR t x)⟩
theorem pY (s:HL): ∀(L:List Int) (t:CT),(t.rG s L).wd=t.wd∧(t.rG s L).lg=t.lg∧(t.rG s L).l.length=t.l.length
 | [],t=>⟨rfl,rfl,rfl⟩
 |x::L,t=>by
  have h:=pY s L (t.dn s x)
  exact⟨h.1.trans (A4 s t x),h.2.1.trans (A5 s t x),h.2.2.trans (rM s t x)⟩
section
variable {ex:Bool} {s:HL} {t:CT} {N:Int→Nat}
theorem CT.Fl.congr {M:Int→Nat} (h:t.Fl ex s N) (e: ∀k,s.st.getD k 0=1→N ((2*k:Nat):Int)=M ((2*k:Nat):Int)):t.Fl ex s M:=fun k b=>by rw[←e k b];exact h k b
theorem CT.Fl.dn {x:Int} (m:s.Ok) (h:t.Fl ex s N) (u:s.st.length≤t.l.length) (q: ∀k,x=((2*k:Nat):Int)→s.st.getD k 0=1→0<N x):(t.dn s x).Fl ex s (fun a=>N a-if a=x then 1 else 0):=by
 unfold CT.dn;cases c:bw (some s) x with
 |false=>
  rw[if_neg (by simp)];refine h.congr fun j b=>?_;rw[if_neg (fun e=>?_),Nat.sub_zero];rw[←e,(b5 m).2 ⟨j,rfl,b⟩]at c;cases c
 |true=>
  rw[if_pos rfl];obtain⟨k,rfl,o⟩:=(b5 m).1 c;intro j b;rw[kf];rw[kf,cf,Nat.mul_div_cancel_left k (by omega)];show Br ex t.most ((t.l.set k (dC t.wd (t.l.getD k 0) (-1))).getD j 0) (N ((2*j:Nat):Int)-if((2*j:Nat):Int)=((2*k:Nat):Int)then 1 else 0);have d:=h j b;rw[kf]at d;by_cases e:j=k
  ·subst e;rw[aJ (by have:=(m.start b).1;omega),if_pos rfl];have w:=q j rfl o;obtain⟨n,r⟩: ∃n,N ((2*j:Nat):Int)=n+1:=⟨N ((2*j:Nat):Int)-1,by omega⟩;rw[r]at d⊢;exact d.dn
  ·rw[aj (Ne.symm e),if_neg (by omega),Nat.sub_zero];exact d
theorem CT.Fl.rG (d:s.Ok): ∀ {L:List Int} {t:CT} {N:Int→Nat},t.Fl ex s N→s.st.length≤t.l.length→(∀k,s.st.getD k 0=1→L.count ((2*k:Nat):Int)≤N ((2*k:Nat):Int))→(t.rG s L).Fl ex s fun a=>N a-L.count a
 | [],t,N,h,_,_=>h
 |x::L,t,N,h,j,m=>by
  have o:=h.dn (x:=x) d j fun k e b=>by
   have:=m k b
   rw[←e,List.count_cons_self]at this
   omega
  refine(CT.Fl.rG d (L:=L) o (by rw[rM];exact j) fun k b=>?_).congr fun k b=>?_
  ·have:=m k b
   rw[List.count_cons]at this
   by_cases c:((2*k:Nat):Int)=x
   ·rw[if_pos c];rw[if_pos (by simp[c])]at this;omega
   ·rw[if_neg c];omega
  ·rw[List.count_cons]
   by_cases c:((2*k:Nat):Int)=x
   ·rw[if_pos c,if_pos (by simp[c])];omega
   ·rw[if_neg c,if_neg (by simpa using fun e=>c e.symm)];omega
end
theorem eK {k:Nat} {O:List Nat} (h:k∉O):O.filter (fun i=>i !=k)=O:=List.filter_eq_self.2 fun i b=>by
 have:i≠k:=fun e=>h (by rw[←e];exact b)
 simpa using this
def bH (O:List Nat) (c:Nat→List Int) (a:Int):Nat:=(O.map fun i=>(c i).count a).sum
theorem ni {O:List Nat} {c c':Nat→List Int} {a:Int} (h: ∀i,i∈O→c' i=c i):bH O c' a=bH O c a:=by
 unfold bH;congr 1;exact List.map_congr_left fun i b=>by rw[h i b]
theorem lN: ∀ {O:List Nat} {c c':Nat→List Int} {k:Nat},O.Nodup→k∈O→(∀i,i∈O→i≠k→c' i=c i)→ ∀a,bH O c' a+(c k).count a=bH O c a+(c' k).count a
 | [],_,_,_,_,h,_,_=>absurd h (by simp)
 |o::O,c,c',k,l,m,h,a=>by
  have b:=List.nodup_cons.1 l
  have e: ∀f:Nat→List Int,bH (o::O) f a=(f o).count a+bH O f a:=fun f=>by unfold bH;simp
  rw[e,e]
  by_cases j:o=k
  ·subst j
   rw[ni (c':=c') (c:=c) fun i d=>h i (by simp[d]) fun e=>b.1 (by rw[←e];exact d)]
   omega
  ·have:=lN b.2 ((List.mem_cons.1 m).resolve_left (Ne.symm j)) (fun i d=>h i (by simp[d])) a
   rw[h o (by simp) j]
   omega
theorem nj: ∀ {O:List Nat} {c:Nat→List Int} {k:Nat},O.Nodup→k∈O→ ∀a,bH (O.filter fun i=>i !=k) c a+(c k).count a=bH O c a
 | [],_,_,_,h,_=>absurd h (by simp)
 |o::O,c,k,j,l,a=>by
  have b:=List.nodup_cons.1 j
  have e: ∀(f:Nat→List Int) (P:List Nat),bH (o::P) f a=(f o).count a+bH P f a:=fun f P=>by unfold bH;simp
  rw[e]
  by_cases d:o=k
  ·subst d
   rw[List.filter_cons_of_neg (by simp),eK b.1]
   omega
  ·rw[List.filter_cons_of_pos (by simpa using d),e]
   have:=nj (c:=c) b.2 ((List.mem_cons.1 l).resolve_left (Ne.symm d)) a
   omega
theorem yE: ∀ {l:List Nat} {x:Nat},x∈l→x≤l.sum
 | [],_,h=>absurd h (by simp)
 |y::l,x,h=>by
  rw[List.sum_cons]
  rcases List.mem_cons.1 h with rfl|h
  ·omega
  ·have:=yE h;omega
theorem A3 {O:List Nat} {c:Nat→List Int} {k:Nat} (b:k∈O) (a:Int):(c k).count a≤bH O c a:=by
 unfold bH;exact yE (List.mem_map.2 ⟨k,b,rfl⟩)
theorem qd {O:List Nat} {c:Nat→List Int} {a:Int}:0<bH O c a↔ ∃k,k∈O∧a∈c k:=by
 induction O with
 |nil=>simp[bH]
 |cons o O j=>
  have e:bH (o::O) c a=(c o).count a+bH O c a:=by unfold bH;simp
  rw[e];constructor
  ·intro h;by_cases l:0<(c o).count a
   ·exact⟨o,by simp,List.count_pos_iff.1 l⟩
   ·obtain⟨k,b,d⟩:=j.1 (by omega);exact⟨k,by simp[b],d⟩
  ·rintro⟨k,b,d⟩;rcases List.mem_cons.1 b with rfl|b
   ·have:=List.count_pos_iff.2 d;omega
   ·have:=j.2 ⟨k,b,d⟩;omega
theorem lM {kd:Int}: ∀(l:List Int) (i j:Nat) (to a:Int),j<l.length→a≠0→(cT kd i (l.set j to)).count a+(if cS kd (i+j)=true∧l.getD j 0=a then 1 else 0)=(cT kd i l).count a+(if cS kd (i+j)=true∧to=a then 1 else 0)
 | [],_,_,_,_,h,_=>absurd h (by simp)
 |x::l,i,0,to,a,_,b=>by
  simp only[List.set_cons_zero,cT,List.count_append,List.getD_cons_zero,Nat.add_zero]
  have one: ∀z:Int,((if z≠0∧cS kd i=true then [z]else []):List Int).count a=if cS kd i=true∧z=a then 1 else 0:=fun z=>by
   by_cases c:cS kd i=true
   ·by_cases d:z=a
    ·subst d;rw[if_pos ⟨b,c⟩,if_pos ⟨c,rfl⟩];simp
    ·rw[if_neg (show¬(cS kd i=true∧z=a)from fun e=>d e.2)]
     by_cases z0:z=0
     ·rw[if_neg (fun e=>e.1 z0)];rfl
     ·rw[if_pos ⟨z0,c⟩,List.count_cons_of_ne d];rfl
   ·rw[if_neg (show¬(z≠0∧cS kd i=true)from fun e=>c e.2),if_neg (show¬(cS kd i=true∧z=a)from fun e=>c e.1)];rfl
  rw[one,one];omega
 |x::l,i,j+1,to,a,h,b=>by
  simp only[List.set_cons_succ,cT,List.count_append,List.getD_cons_succ]
  have:=lM (kd:=kd) l (i+1) j to a (by simpa using h) b
  rw[show i+1+j=i+(j+1) by omega]at this
  omega
end
section
set_option maxRecDepth 8000
theorem kn (w:World) (kd:Int):Cs Tryz.prog 304 [.int .i64 kd,.int .i64 0] w fun v w'=>v=.bool (cR kd 0)∧w'=w:=Ga w kd 0
theorem qk {w:World} {X:Value} {kd:Int} {T:Value} {l:List Int} {fr:List Nat} (U:Sl w 1 T l.length (ints l) fr) (V:l.length≤100000):
  Cs Tryz.prog 184 [X,.int .i64 kd,T] w fun v w'=>ad [] w w'∧ ∃t,Sl w' 1 v (cT kd 0 l).length (ints (cT kd 0 l)) t∧ ∀y,y∈t→w.heap.size≤y:=by
 obtain⟨ar,cr,rfl⟩:=U.val;refine en [] ?_;refine gO ?_;refine aE (7::8::9::12::13::14::15::16::17::18::19::20::21::22::23::24::25::26::27::28::29::30::31::32::[]) (fun g w'=> ∃(i:Nat) (t:List Nat),g 12=.int .i64 (i:Int)∧i≤l.length∧ad [] w w'∧Sl w' 1 (g 7) (cT kd 0 (l.take i)).length (ints (cT kd 0 (l.take i))) t∧ ∀y,y∈t→w.heap.size≤y) (fun g _=>bU l.length 12 g)
  ⟨0,[],by simp only[go_sem];rfl,by omega,ad.refl _ _,by simp only[go_sem];exact Sl.pe _,fun y k=>absurd k (by simp)⟩ fun g J Y d=>?_
 obtain⟨i,t,b,hi,j,q,m⟩:=Y;by_cases L:i<l.length;rotate_left
 ·refine bj b (bt (show¬(i:Int)<(l.length:Int) by omega)) ?_;rw[List.take_of_length_le (by omega)]at q;exact⟨j,t,q,fun y k=>m y k⟩
 obtain⟨Z,_,yr,er,G,_,_⟩:=(U.aa j).pos (by omega);cases er;have E:(0:Int)≤(i:Int)∧(i:Int)<(l.length:Int):=by omega
 have M:J.cell? ⟨Z,i,none⟩=some (.int .i64 (l.getD i 0)):=by rw[G.cell];exact aC yr (by omega)
 have u:cT kd 0 (l.take (i+1))=cT kd 0 (l.take i)++(if l.getD i 0≠0∧cS kd i=true then [l.getD i 0]else []):=by
  rw[List.take_succ_eq_append_getElem L,oR];simp[L,Nat.min_eq_left (Nat.le_of_lt L)]
 have N:=gn (kd:=kd) (l:=l.take i) (i:=0);rw[List.length_take]at N;have K:=au i (by omega);have skip: ¬(l.getD i 0≠0∧cS kd i=true)→cT kd 0 (l.take (i+1))=cT kd 0 (l.take i):=fun c=>by rw[u,if_neg c,List.append_nil]
 by_cases F:l.getD i 0=0
 ·refine vS b (bc E.2) (eq_true E) @Int.toNat_natCast @Nat.mul_one M (ep F) K ?_;refine d _ J ⟨i+1,t,?_,by omega,j,?_,m⟩ ?_
  ·simp only[go_sem]
  ·simp only[go_sem];rw[skip fun h=>h.1 F];exact q
  ·exact aZ b
 by_cases W:i=0
 ·have O:((i:Int)==0)=true:=fx (by omega);refine vS b (bc E.2) (eq_true E) @Int.toNat_natCast @Nat.mul_one M (gm F) @O ?_;refine ao (kn J kd) ?_;cases H:cR kd 0 with
  |true=>
   refine bj b K ?_;refine d _ J ⟨i+1,t,?_,by omega,j,?_,m⟩ ?_
   ·simp only[go_sem]
   ·simp only[go_sem];rw[skip fun h=>by have:=h.2;unfold cS at this;rw[H,W]at this;simp at this];exact q
   ·exact aZ b
  |false=>
   have P:cS kd i=true:=by unfold cS;rw[H,Bool.and_false];rfl
   refine aQ b ?_;rw[ai rfl rfl];refine gO ?_;refine jc fun q6 w6 Q R r o=>?_;refine gO ?_;refine nu (q.aa o) (bO.at (us:=[.int .i64 (l.getD i 0)]) r rfl) (by simp[bu]) (by omega) (by omega) ?_;intro v7 I S z B C _;have z5:=j.size;have D:ad [] w I:=(j.nil o).trans C fun y k=>.inr (m y k);refine bj b K ?_;refine d _ I ⟨i+1,S,?_,by omega,D,?_,?_⟩ ?_
   ·simp only[go_sem]
   ·simp only[go_sem];rw[u,if_pos ⟨F,P⟩,gZ,cH];exact z
   ·intro y k;have:=o.size;rcases B with e|e<;>rw[e]at k
    ·exact m y k
    ·simp only[bp]at k;omega
   ·exact aZ b
 ·have O:((i:Int)==0)=false:=fj (by omega);have P:cS kd i=true:=by
   unfold cS;have:(i==0)=false:=by simpa using W
   rw[this];rfl
  refine vS b (bc E.2) (eq_true E) @Int.toNat_natCast @Nat.mul_one M (gm F) @O ?_;rw[ai rfl rfl];refine gO ?_;refine jc fun q6 w6 Q R r o=>?_;refine gO ?_;refine nu (q.aa o) (bO.at (us:=[.int .i64 (l.getD i 0)]) r rfl) (by simp[bu]) (by omega) (by omega) ?_;intro v7 I S z B C _;have z5:=j.size;have D:ad [] w I:=(j.nil o).trans C fun y k=>.inr (m y k);refine bj b K ?_;refine d _ I ⟨i+1,S,?_,by omega,D,?_,?_⟩ ?_
  ·simp only[go_sem]
  ·simp only[go_sem];rw[u,if_pos ⟨F,P⟩,gZ,cH];exact z
  ·intro y k;have:=o.size;rcases B with e|e<;>rw[e]at k
   ·exact m y k
   ·simp only[bp]at k;omega
  ·exact aZ b
section
variable {w:World} {b:Nat} {hp:Addr} {ar:Option Addr} {t:CT} {fp fh:List Nat} {s:HL}
theorem CM.head (h:CM w b hp ar t fp): ∃d j k,At w b [.pointer (some hp),.pointer ar,d,j,k]:=by
 obtain⟨l,m,o,q,fl,_,h⟩:=h;exact⟨_,_,_,h.hb⟩
theorem rT (h:CM w b hp ar t fp) (r:HR w (some hp) fh (some s)) (E:s.Ok) (x:Int) (u:x≤4611686018427387904):
  Cs Tryz.prog 182 [.pointer (some ⟨b,0,none⟩),.int .i64 x] w fun v w'=>ad [] w w'∧ ∃B,Sl w' 1 v (eM s x).length (ints (eM s x)) B∧ ∀y,y∈B→w.heap.size≤y:=by
 obtain⟨F,G,L,H⟩:=h.head;refine en [2,5,8,11,14,17,23,26,29,32,35,21,40,43,44,0] ?_;refine gO ?_;refine bk [b] ?_;have k:=ad.drew [] w;have j:=H.aa k;refine aQ j.cell ?_;refine eL (ta (r.aa k) x u) ?_;rintro _ M ⟨rfl,d⟩;refine⟨.inr ((SB.refl _ _).only d fun z C=>⟨by simp only[bp]at C;subst C;exact j.lt,by simp⟩),?_⟩;refine gO ?_;refine eL (A7 (r.aa (k.nil d)) x u) ?_;rintro F N ⟨l,O,m,P⟩;refine⟨.inl rfl,?_⟩;have Q:=AX E x;refine gO ?_;refine eL (qk m (by omega)) ?_;rintro G R ⟨o,I,q,J⟩;refine⟨.inl rfl,?_⟩;refine gO ?_;have D:=(k.nil d).nil l;exact⟨D.nil o,I,q,fun y K=>by have:=J y K;have:=D.size;omega⟩
theorem Bs {w:World} {F:Nat} {p:Value} {r:Value} {L:List Int} {t S:List Nat} {St:Nat→World→Prop} (u:Sl w 1 r L.length (ints L) t) (B: ∀x,x∈t→x∉S) (y:L.length≤100000) (o:okF Tryz.prog F=true) (C:St 0 w)
  (D: ∀i w',St i w'→ad S w w') (b: ∀i w',i<L.length→St i w'→Cs Tryz.prog F [p,.int .i64 (L.getD i 0)] w' fun _ E=>St (i+1) E):
  Cs Tryz.prog 180 [.func (.func F) #[p] #[],r] w fun _ w'=>St L.length w':=by
 obtain⟨N,O,rfl⟩:=u.val;refine en [] ?_;refine gO ?_;refine aE (5::8::9::10::11::12::13::14::15::[]) (fun g w'=> ∃i:Nat,g 8=.int .i64 (i:Int)∧i≤L.length∧St i w') (fun g _=>bU L.length 8 g) ⟨0,by simp only[go_sem];rfl,by omega,C⟩ fun g q G d=>?_;obtain⟨i,m,P,j⟩:=G;by_cases c:i<L.length;rotate_left
 ·refine bj m (bt (show¬(i:Int)<(L.length:Int) by omega)) ?_;have:i=L.length:=by omega
  subst this;exact j
 obtain⟨H,_,I,J,k,_,_⟩:=(u.ae (D i q j) B).pos (by omega);cases J;have z:(0:Int)≤(i:Int)∧(i:Int)<(L.length:Int):=by omega
 have K:q.cell? ⟨H,i,none⟩=some (.int .i64 (L.getD i 0)):=by rw[k.cell];exact aC I (by omega)
 refine kZ m (bc z.2) (eq_true z) @Int.toNat_natCast @Nat.mul_one K ?_;refine di (bA F #[p] [.int .i64 (L.getD i 0)] #[]) o (by simpa using b i q c j) ?_;rintro _ M l;refine bj m (au i (by omega)) ?_;refine d _ M ⟨i+1,?_,by omega,l⟩ ?_
 ·simp only[go_sem]
 ·exact aZ m
theorem ja {b:Type} {f:b→Int→b} {a:b} {L:List Int} {i:Nat} (h:i<L.length):(L.take (i+1)).foldl f a=f ((L.take i).foldl f a) (L.getD i 0):=by
 rw[List.take_succ_eq_append_getElem h,List.foldl_append];simp[h]
theorem He {l:Value} {L:List Int} {m:List Nat} (h:CM w b hp ar t fp) (q:Sl w 1 l L.length (ints L) m) (r: ∀x,x∈m→x∉fp) (d:L.length≤100000) (u: ∀y,y∈L→ ∃k:Nat,y=((2*k:Nat):Int)∧k<t.l.length):
  Cs Tryz.prog 180 [.func (.func 181) #[.pointer (some ⟨b,0,none⟩)] #[],l] w fun _ w'=>CM w' b hp ar (t.kY L) fp∧ad fp w w':=by
 refine(Bs (S:=fp) (St:=fun i w'=>CM w' b hp ar (t.kY (L.take i)) fp∧ad fp w w') q r d (by kernel_rfl) ⟨h,ad.refl _ _⟩ (fun i w' h=>h.2) fun i w' o j=>?_).mono fun v w' h=>by
  rw[List.take_length]at h;exact h
 obtain⟨k,e,z⟩:=u (L.getD i 0) (by simp[o]);rw[e];refine(G0 j.1 (k:=k) (by rw[(kp _ _).2.2.2];exact z)).mono ?_;rintro v D ⟨B,C⟩;refine⟨?_,j.2.same C⟩;have:t.kY (L.take (i+1))=(t.kY (L.take i)).up ((2*k:Nat):Int):=by unfold CT.kY;rw[ja o,e]
 rw[this];exact B
theorem vU {m:Value} {L:List Int} {o:List Nat} (h:CM w b hp ar t fp) (r:HR w (some hp) fh (some s)) (u:s.Ok) (k:s.st.length≤t.l.length) (l: ∀x,x∈fh→x∉fp) (z:Sl w 1 m L.length (ints L) o) (B: ∀x,x∈o→x∉fp) (j:L.length≤100000) (C: ∀y,y∈L→y≤4611686018427387904):
  Cs Tryz.prog 180 [.func (.func 183) #[.pointer (some ⟨b,0,none⟩)] #[],m] w fun _ w'=>CM w' b hp ar (t.rG s L) fp∧ad fp w w':=by
 refine(Bs (S:=fp) (St:=fun i w'=>CM w' b hp ar (t.rG s (L.take i)) fp∧ad fp w w') z B j (by kernel_rfl) ⟨h,ad.refl _ _⟩ (fun i w' h=>h.2) fun i w' q d=>?_).mono fun v w' h=>by
  rw[List.take_length]at h;exact h
 refine(n9 d.1 (r.ae d.2 l) u (by rw[(pY s _ _).2.2];exact k) (L.getD i 0) (C _ (by simp[q]))).mono ?_;rintro v F ⟨D,E⟩;refine⟨?_,d.2.same E⟩;have:t.rG s (L.take (i+1))=(t.rG s (L.take i)).dn s (L.getD i 0):=by unfold CT.rG;rw[ja q]
 rw[this];exact D
end
end
section
set_option maxRecDepth 8000
theorem s6 {k:Nat} {L:List Int} {x:Int} (b:x∈L) (d:x≠0): ∃p,(p,x)∈Rt.fl k L:=by
 obtain⟨i,j,rfl⟩:=List.mem_iff_getElem.1 b;refine⟨Rt.pl k i,?_⟩;unfold Rt.fl;refine List.mem_filter.2 ⟨?_,by simpa using d⟩;rw[List.mem_iff_getElem];exact⟨i,by simp[j],by simp⟩
theorem vC {R:Rt.MS} (h:R.Ok) {x:Int} (b:x∈R.S∨x∈R.G∨x∈R.Q) (j:x≠0):x∈Rt.bG (some R):=by
 show x∈((Rt.filled R).map (·.2)).foldl Rt.dD [];rw[iK];refine .inr (List.mem_map.2 ?_);rw[Rt.kS h];rcases b with b|b|b
 ·obtain⟨p,d⟩:=s6 (k:=0) b j;exact⟨(p,x),by simp[d],rfl⟩
 ·obtain⟨p,d⟩:=s6 (k:=1) b j;exact⟨(p,x),by simp[d],rfl⟩
 ·obtain⟨p,d⟩:=s6 (k:=2) b j;exact⟨(p,x),by simp[d],rfl⟩
end
section
def cO (s:HL) (i:Nat):List Int:=cT (s.aq i).sh.2.2 0 (s.aq i).rf
def vG:List (Int×List Int)→Int→Option (List Int)
 | [],_=>none
 |p::L,x=>if p.1=x then some p.2 else vG L x
structure Ed (s:HL) (L:List (Int×List Int)):Prop where
 nd:(L.map (·.1)).Nodup
 D2: ∀p,p∈L→jb s p.1
 rf: ∀p,p∈L→ ∀r,r∈p.2→r=0∨jb s r
theorem rF.cO {s:HL} {R:Rt.MS} (h:rF true s R) {k:Nat} (b:s.st.getD k 0=1) {y:Int} (d:y∈cO s k):jb s y:=by
 obtain⟨j,l,m,o,_⟩:=gi.1 d;have:=h.ref b l;unfold HL.RF at this;rw[←m]at this;exact(this.resolve_left o).2
theorem jb.pair {s:HL} {x:Int} (h:jb s x) (b:s.Ok): ∃k:Nat,x=((2*k:Nat):Int)∧k<s.st.length:=by
 obtain⟨k,e,d⟩:=h;exact⟨k,e,(b.start d).1⟩
theorem qj (s:HL) (t:CT) (x:Int×List Int):(bR s t x).wd=t.wd∧(bR s t x).lg=t.lg∧(bR s t x).l.length=t.l.length:=by
 unfold bR;split
 ·have b:=kp (eM s x.1) t;have d:=pY s (cT (aU (some s) x.1).1.2.2 0 x.2) (t.kY (eM s x.1));exact⟨d.1.trans b.1,d.2.1.trans b.2.1,d.2.2.trans b.2.2.2⟩
 ·exact⟨rfl,rfl,rfl⟩
theorem pf (s:HL) (t:CT):(t.bring s).wd=t.wd∧(t.bring s).l.length=t.l.length∧(t.bring s).lg=t.lg.map fun _=>[]:=by
 have key: ∀(L:List (Int×List Int)) (t:CT),(L.foldl (bR s) t).wd=t.wd∧(L.foldl (bR s) t).l.length=t.l.length:=by
  intro L
  induction L with
  |nil=>intro t;exact⟨rfl,rfl⟩
  |cons p L j=>
   intro t;have b:=qj s t p;have d:=j (bR s t p);exact⟨d.1.trans b.1,d.2.trans b.2.2⟩
 unfold CT.bring;cases e:t.lg with
 |none=>exact⟨rfl,rfl,e⟩
 |some L=>exact⟨(key L t).1,(key L t).2,rfl⟩
structure kg (s:HL) (R:Rt.MS) (g:List Int):Prop where
 rf: ∀i j,s.st.getD i 0=1→j<(s.aq i).rf.length→s.RF i j=0∨jb s (s.RF i j)∨(j=0∧cR (s.aq i).sh.2.2 0=true∧s.RF i j∈g)
 rt:Bz (yM true s) R
theorem rF.g {s:HL} {R:Rt.MS} (h:rF true s R):kg s R []:=⟨fun _ _ b d=>(h.ref b d).imp id fun h=>.inl h.2,h.2⟩
theorem kg.cO {s:HL} {R:Rt.MS} {g:List Int} (h:kg s R g) {k:Nat} (l:s.st.getD k 0=1) {y:Int} (m:y∈cO s k):jb s y:=by
 obtain⟨j,o,q,r,d⟩:=gi.1 m;have:=h.rf k j l o;unfold HL.RF at this;rw[←q]at this;rcases this with b|b|⟨rfl,b,_⟩
 ·exact absurd b r
 ·exact b
 ·unfold cS at d;rw[b]at d;simp at d
theorem cw {p:Int→Bool} {a:Int} (h:p a=true): ∀l:List Int,(l.filter p).count a=l.count a
 | []=>rfl
 |x::l=>by
  by_cases c:x=a
  ·subst c
   rw[List.filter_cons_of_pos h,List.count_cons_self,List.count_cons_self,cw h l]
  ·rw[List.count_cons_of_ne c]
   rw[←cw h l]
   by_cases e:p x=true
   ·rw[List.filter_cons_of_pos e,List.count_cons_of_ne c]
   ·rw[List.filter_cons_of_neg e]
theorem yQ {ex:Bool} {s s':HL} {t:CT} {k:Nat} (q:s.Inv) (r:s.st.getD k 0=1) (e:dO (some s) ((2*k:Nat):Int)=some s') (O:s.st.length≤t.l.length) (h:t.Fl ex s (bH s.aw (cO s))):(t.free s ((2*k:Nat):Int)).Fl ex s' (bH s'.aw (cO s')):=by
 obtain⟨P,C,o,D,Q,E,F,G⟩:=iN q r;obtain rfl:=Option.some.inj (e.symm.trans C);have u:gj s ((2*k:Nat):Int)=s':=by unfold gj;rw[e];rfl
 unfold CT.free;rw[u,fC q.ok r];have b:s'.st.length≤t.l.length:=by
  have:=o.ok.sl;have:=q.ok.sl;rw[D]at*;omega
 have H:CT.Fl ex s' {t with l:=t.l.set (((2*k:Nat):Int).toNat/2) 0,S:=t.S.erase ((2*k:Nat):Int)} (bH s.aw (cO s)):=fun j d=>by
  obtain⟨I,J⟩:=(E j).1 d;have z:=h j J;rw[kf]at z⊢;rw[cf,Nat.mul_div_cancel_left k (by omega)];show Br ex t.most ((t.l.set k 0).getD j 0) _;rw[aj (Ne.symm I)];exact z
 have m:k∈s.aw:=aR.2 r;refine(CT.Fl.rG o.ok H (by simpa using b) fun j d=>?_).congr fun j d=>?_
 ·have w:bw (some s') ((2*j:Nat):Int)=true:=(b5 o.ok).2 ⟨j,rfl,d⟩;rw[cw w];exact A3 (c:=cO s) m _
 ·have w:bw (some s') ((2*j:Nat):Int)=true:=(b5 o.ok).2 ⟨j,rfl,d⟩;have R:=nj (c:=cO s) (bQ s) m ((2*j:Nat):Int);have K:bH s'.aw (cO s') ((2*j:Nat):Int)=bH (s.aw.filter fun i=>i !=k) (cO s) ((2*j:Nat):Int):=by
   rw[G];refine ni fun i y=>?_;obtain⟨L,M⟩:=List.mem_filter.1 y;unfold cO;rw[F i (by simpa using M) (aR.1 L)]
  rw[K];have B:=cw w (cT (s.aq k).sh.2.2 0 (s.aq k).rf);have N:cO s k=cT (s.aq k).sh.2.2 0 (s.aq k).rf:=rfl;rw[←N]at B⊢;rw[B];omega
theorem qe (s:HL) (t:CT) (x:Int):(t.free s x).wd=t.wd∧(t.free s x).lg=t.lg∧(t.free s x).l.length=t.l.length:=by
 unfold CT.free;have h:=pY (gj s x) ((eM s x).filter fun y=>bw (some (gj s x)) y) {t with l:=t.l.set (x.toNat/2) 0,S:=t.S.erase x};exact⟨h.1,h.2.1,by rw[h.2.2];simp⟩
theorem nV {ex:Bool} {s:HL} {t:CT} {F:List Int} {x:Int} (j:0<t.most) (h:t.Fl ex s (bH s.aw (cO s))) (l:x∈bT s t F): ∃k:Nat,x=((2*k:Nat):Int)∧s.st.getD k 0=1∧x∉F∧ ∀i,s.st.getD i 0=1→x∉cO s i:=by
 obtain⟨m,b⟩:=List.mem_filter.1 l;obtain⟨k,rfl,d⟩:=cQ.1 m;simp only[Bool.and_eq_true,decide_eq_true_eq,Bool.not_eq_true']at b;refine⟨k,rfl,d,fun e=>?_,fun i o e=>?_⟩
 ·have:=List.contains_iff_mem.2 e;rw[this]at b;cases b.2
 ·have q:=(h k d).pos j b.1;have r:=qd.2 ⟨i,aR.2 o,e⟩;omega
theorem vE {s s':HL} {R:Rt.MS} {g:List Int} {k:Nat} (D:s.Inv) (E:s.st.getD k 0=1) (e:dO (some s) ((2*k:Nat):Int)=some s') (h:kg s R g) (q: ∀x,x∈R.S∨x∈R.G∨x∈R.Q→x≠((2*k:Nat):Int)) (H: ∀i,s.st.getD i 0=1→((2*k:Nat):Int)∉cO s i):kg s' R (fm g ((2*k:Nat):Int)):=by
 obtain⟨M,I,N,O,P,F,J,Q⟩:=iN D E;obtain rfl:=Option.some.inj (e.symm.trans I);have z0:k≠0:=fun e=>by subst e;exact D.z0 E
 have G: ∀x,jb s x→x≠((2*k:Nat):Int)→jb s' x:=fun x b r=>by
  obtain⟨i,rfl,l⟩:=b;exact⟨i,rfl,(F i).2 ⟨fun e=>r (by rw[e]),l⟩⟩
 have t: ∀y,y∈g→y∈fm g ((2*k:Nat):Int):=fun y K=>by unfold fm;split<;>simp[K]
 have u:((2*k:Nat):Int)∈fm g ((2*k:Nat):Int):=by
  unfold fm;split
  ·assumption
  ·simp
 have w: ∀x,x≠((2*k:Nat):Int)→yM true s x→yM true s' x:=fun x r b=>b.imp id fun h=>⟨rfl,G x h.2 r⟩;refine⟨fun i j l z=>?_,⟨fun x b=>w x (q x (.inl b)) (h.rt.1 x b),fun x b=>w x (q x (.inr (.inl b))) (h.rt.2.1 x b),fun x b=>w x (q x (.inr (.inr b))) (h.rt.2.2 x b)⟩⟩;obtain⟨B,m⟩:=(F i).1 l;have L:=J i B m;unfold HL.RF;rw[L]at z⊢;have d:=h.rf i j m z;unfold HL.RF at d;by_cases c:(s.aq i).rf.getD j 0=((2*k:Nat):Int)
 ·right;right;have C:=H i m;have o: ¬cS (s.aq i).sh.2.2 j=true:=fun e=>C (gi.2 ⟨j,z,c.symm,by omega,by rwa[Nat.zero_add]⟩);unfold cS at o;simp only[Bool.not_eq_true',Bool.not_eq_false,Bool.and_eq_true,beq_iff_eq]at o;exact⟨o.1,o.2,by rw[c];exact u⟩
 ·rcases d with d|d|⟨d,C,o⟩
  ·exact .inl d
  ·exact .inr (.inl (G _ d c))
  ·exact .inr (.inr ⟨d,C,t _ o⟩)
end
section
set_option maxRecDepth 8000
theorem nm (s:HL): ∀(A:List Int) (t:CT),(A.foldl (fun t a=>t.kY (eM s a)) t).wd=t.wd∧(A.foldl (fun t a=>t.kY (eM s a)) t).lg=t.lg∧(A.foldl (fun t a=>t.kY (eM s a)) t).S=t.S∧(A.foldl (fun t a=>t.kY (eM s a)) t).l.length=t.l.length
 | [],t=>⟨rfl,rfl,rfl,rfl⟩
 |a::A,t=>by
  have b:=kp (eM s a) t
  have d:=nm s A (t.kY (eM s a))
  exact⟨d.1.trans b.1,d.2.1.trans b.2.1,d.2.2.1.trans b.2.2.1,d.2.2.2.trans b.2.2.2⟩
section
variable {w:World} {b:Nat} {hp:Addr} {ar:Option Addr} {t:CT} {fp fh fr:List Nat} {s:HL} {R:Rt.MS}
theorem wa (h:CM w b hp ar t fp) (hr:HR w (some hp) fh (some s)) (F:s.Ok) (P: ∀x,x∈fh→x∉fp) (Q:s.aw.length≤5000) (hc: ∀k y,s.st.getD k 0=1→y∈cO s k→ ∃i:Nat,y=((2*i:Nat):Int)∧i<t.l.length):
  Cs Tryz.prog 214 [.pointer (some ⟨b,0,none⟩)] w fun _ w'=>CM w' b hp ar (t.IV s) fp∧ad fp w w':=by
 obtain⟨v2,v3,v4,hb⟩:=h.head;refine en [] ?_;refine aQ hb.cell ?_;refine ak (tQ hr) ?_;rintro v w1 ⟨u,fA,R,gA⟩;obtain⟨A,d⟩: ∃A,A=du (some s):=⟨_,rfl⟩;rw[←d]at R;have Jc:A.length≤5000:=by rw[d,fZ];exact Q
 obtain⟨aA,cA,rfl⟩:=R.val;have S:=h.lt;have T: ∀x,x∈fA→x∉fp:=fun x U e=>by have:=gA x U;have:=S x e;omega
 unfold CT.IV;rw[←d];refine gO ?_;refine aE (3::5::12::13::14::15::16::17::18::19::20::21::22::23::24::25::26::27::28::[]) (fun g w'=> ∃i:Nat,g 12=.int .i64 (i:Int)∧i≤A.length∧CM w' b hp ar ((A.take i).foldl (fun t a=>t.kY (eM s a)) t) fp∧ad fp w1 w') (fun g _=>bU A.length 12 g)
  ⟨0,by simp only[go_sem];rfl,by omega,h.aa u,ad.refl _ _⟩ fun g w2 hI z=>?_
 obtain⟨i,l,hi,D,o⟩:=hI;by_cases c:i<A.length;rotate_left
 ·refine bj l (bt (show¬(i:Int)<(A.length:Int) by omega)) ?_;rw[List.take_of_length_le (by omega)]at D;exact⟨D,u.of_nil.same o⟩
 obtain⟨gr,_,yr,er,G,_,_⟩:=(R.ae o T).pos (by omega);cases er;have ci:(0:Int)≤(i:Int)∧(i:Int)<(A.length:Int):=by omega
 obtain⟨k,H,I⟩:jb s (A.getD i 0):=cQ.1 (by rw[←d];simp[c]);have vr:w2.cell? ⟨gr,i,none⟩=some (.int .i64 ((2*k:Nat):Int)):=by rw[G.cell,←H];exact aC yr (by omega)
 obtain⟨E,J⟩: ∃E,E=(A.take i).foldl (fun t a=>t.kY (eM s a)) t:=⟨_,rfl⟩;have K:=nm s (A.take i) t;rw[←J]at D K;have o2:ad fp w w2:=u.of_nil.same o;refine kZ l (bc ci.2) (eq_true ci) @Int.toNat_natCast @Nat.mul_one vr ?_;refine ak (rT D (hr.ae o2 P) F ((2*k:Nat):Int) (by have:=cn F I;omega)) ?_;rintro v w3 ⟨M,f3,B,g3⟩;obtain⟨L,O⟩: ∃L,L=eM s ((2*k:Nat):Int):=⟨_,rfl⟩;rw[←O]at B;have IX:L.length≤15:=by rw[O,fC F I];exact Nat.le_trans gn (nY F I)
 obtain⟨aL,cL,rfl⟩:=B.val;have V:=D.lt;have W: ∀x,x∈f3→x∉fp:=fun x U e=>by have:=g3 x U;have:=V x e;omega
 have X: ∀y,y∈L→ ∃i:Nat,y=((2*i:Nat):Int)∧i<t.l.length:=fun y hy=>hc k y I (by rw[O,fC F I]at hy;exact hy);refine gO ?_;refine aE (5::20::21::22::23::24::25::26::27::[]) (fun g w'=> ∃j:Nat,g 20=.int .i64 (j:Int)∧j≤L.length∧CM w' b hp ar (E.kY (L.take j)) fp∧ad fp w3 w') (fun g _=>bU L.length 20 g)
  ⟨0,by simp only[go_sem];rfl,by omega,D.aa M,ad.refl _ _⟩ fun g2 Y hJ q=>?_
 obtain⟨j,r,hj,Z,C⟩:=hJ;by_cases c2:j<L.length;rotate_left
 ·refine jI l r (bt (show¬(j:Int)<(L.length:Int) by omega)) (au i (by omega)) ?_;rw[List.take_of_length_le (by omega)]at Z;refine z _ Y ⟨i+1,?_,by omega,?_,(o.same M.of_nil).same C⟩ ?_
  ·simp only[go_sem]
  ·rw[List.take_succ_eq_append_getElem c,List.foldl_append,←J];have:A[i]=((2*k:Nat):Int):=by rw[←H];simp[c]
   show CM Y b hp ar (E.kY (eM s A[i])) fp;rw[this,←O];exact Z
  ·exact aZ l
 obtain⟨gl,_,yl,el,N,_,_⟩:=(B.ae C W).pos (by omega);cases el;have cj:(0:Int)≤(j:Int)∧(j:Int)<(L.length:Int):=by omega
 obtain⟨m,hm,I8⟩:=X (L.getD j 0) (by simp[c2]);have vl:Y.cell? ⟨gl,j,none⟩=some (.int .i64 ((2*m:Nat):Int)):=by rw[N.cell,←hm];exact aC yl (by omega)
 refine kZ r (bc cj.2) (eq_true cj) @Int.toNat_natCast @Nat.mul_one vl ?_;refine ak (G0 Z (k:=m) (by rw[(kp _ _).2.2.2,K.2.2.2];exact I8)) ?_;rintro _ w5 ⟨h5,pZ⟩;refine bj r (au j (by omega)) ?_;refine q _ w5 ⟨j+1,?_,by omega,?_,C.same pZ⟩ ?_
 ·simp only[go_sem]
 ·have:E.kY (L.take (j+1))=(E.kY (L.take j)).up ((2*m:Nat):Int):=by unfold CT.kY;rw[ja c2,hm]
  rw[this];exact h5
 ·exact aZ r
theorem BV {L:List Int} (h:CM w b hp ar t fp) (G:Rt.PR w ar fr (some R)) (hd: ∀x,x∈fr→x∉fp) (H:L=Rt.bG (some R)) (I:L.length≤5000):
  Cs Tryz.prog 191 [.pointer (some ⟨b,0,none⟩)] w fun _ w'=>CM w' b hp ar (t.zt L) fp∧ad fp w w':=by
 obtain⟨v2,v3,v4,J⟩:=h.head;refine en [] ?_;refine gO ?_;refine ao (hT h) ?_;refine aQ J.cell ?_;refine ak (Rt.oV G) ?_;rintro v K ⟨m,fl,j,M⟩;rw[←H]at j;obtain⟨al,cl,rfl⟩:=j.val;have B:=h.lt;have C: ∀x,x∈fl→x∉fp:=fun x y e=>by have:=M x y;have:=B x e;omega
 refine gO ?_;refine aE (3::13::14::15::16::17::18::19::20::21::22::[]) (fun g w'=> ∃i:Nat,g 13=.int .i64 (i:Int)∧i≤L.length∧CM w' b hp ar (t.zt (L.take i)) fp∧ad fp K w') (fun g _=>bU L.length 13 g)
  ⟨0,by simp only[go_sem];rfl,by omega,h.aa m,ad.refl _ _⟩ fun g N O k=>?_
 obtain⟨i,d,hi,D,l⟩:=O;by_cases c:i<L.length;rotate_left
 ·refine bj d (bt (show¬(i:Int)<(L.length:Int) by omega)) ?_;rw[List.take_of_length_le (by omega)]at D;exact⟨D,m.of_nil.same l⟩
 obtain⟨P,_,Q,T,o,_,_⟩:=(j.ae l C).pos (by omega);cases T;have F:(0:Int)≤(i:Int)∧(i:Int)<(L.length:Int):=by omega
 have U:N.cell? ⟨P,i,none⟩=some (.int .i64 (L.getD i 0)):=by rw[o.cell];exact aC Q (by omega)
 obtain⟨V,W,X,Y,E,q,z⟩:=D;refine nX d (bc F.2) (eq_true F) @Int.toNat_natCast @Nat.mul_one U z.hb.cell ?_;refine nZ Tryz.underlying130 Tryz.underlying3 z.hs fun Z tR r u=>?_;rw[lu z.hs.nodup]at r;refine bj d (au i (by omega)) ?_;refine k _ Z ⟨i+1,?_,by omega,⟨V,W,X,Y,E,q,?_⟩,l.same (u.mono fun x y=>.inl (by rw[q];simp only[bp]at y;simp[y]))⟩ ?_
 ·simp only[go_sem]
 ·have e:t.zt (L.take (i+1))= {t.zt (L.take i)with S:=fm (t.zt (L.take i)).S (L.getD i 0)}:=by unfold CT.zt;rw[ja c]
  rw[e];exact z.ze u r
 ·exact aZ d
end
end
end Go.Proofs.YthamnonkfepafaaGreat
