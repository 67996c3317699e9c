import Derived.Test.YthamnonkfepafaaGreatZPk2
import Derived.ChangeSlices
import Derived.Test.YthamnonkfepafaaGreatZCode
import Derived.Test.YthamnonkfepafaaGreatZCodeD
set_option linter.unusedSimpArgs false
set_option linter.unusedVariables false
namespace Go.Proofs.YthamnonkfepafaaGreat
set_option maxRecDepth 100000
section
set_option maxRecDepth 8000
variable {s s':HL} {m:IM} {k:Int} {i:Nat}
theorem qV (m:IM) (k:Int) (v:Value) (x:Int):getM (dG m k v) x=if x=k then some v else getM m x:=by
 induction m with
 |nil=>
  unfold dG getM getM;by_cases c:x=k
  ·rw[if_pos c,if_pos c.symm]
  ·rw[if_neg c,if_neg (fun e=>c e.symm)]
 |cons p m d=>
  unfold dG;by_cases c:p.1=k
  ·rw[if_pos c];unfold getM;by_cases b:x=k
   ·rw[if_pos b.symm,if_pos b]
   ·rw[if_neg (fun e=>b e.symm),if_neg b,if_neg (fun e=>b (by rw[←e];exact c))]
  ·rw[if_neg c];unfold getM;by_cases b:p.1=x
   ·rw[if_pos b,if_neg (fun e=>c (by rw[b];exact e)),if_pos b]
   ·rw[if_neg b,d,if_neg b]
theorem Da {v:Value} {y:Int} (h:y∈(dG m k v).map (·.1)):y=k∨y∈m.map (·.1):=by
 induction m with
 |nil=>left;simpa[dG]using h
 |cons p m b=>
  unfold dG at h;by_cases c:p.1=k
  ·rw[if_pos c]at h;rcases List.mem_cons.1 h with e|e
   ·exact .inl e
   ·exact .inr (List.mem_cons_of_mem _ e)
  ·rw[if_neg c]at h;rcases List.mem_cons.1 h with e|e
   ·exact .inr (by rw[e];exact List.mem_cons_self)
   ·rcases b e with e|e
    ·exact .inl e
    ·exact .inr (List.mem_cons_of_mem _ e)
theorem AR (h:(m.map (·.1)).Nodup) (k:Int) (v:Value):((dG m k v).map (·.1)).Nodup:=by
 induction m with
 |nil=>simp[dG]
 |cons p m j=>
  obtain⟨b,d⟩:=List.nodup_cons.1 h;unfold dG;by_cases c:p.1=k
  ·rw[if_pos c];exact List.nodup_cons.2 ⟨by rw[←c];exact b,d⟩
  ·rw[if_neg c];refine List.nodup_cons.2 ⟨fun e=>?_,j d⟩;rcases Da e with e|e
   ·exact c e
   ·exact b e
theorem getM_none (h:k∉m.map (·.1)):getM m k=none:=by
 induction m with
 |nil=>rfl
 |cons p m b=>
  unfold getM;simp only[List.map_cons,List.mem_cons,not_or]at h;rw[if_neg (fun e=>h.1 e.symm),b h.2]
theorem vt (h:(m.map (·.1)).Nodup) (k x:Int):getM (iv m k) x=if x=k then none else getM m x:=by
 induction m with
 |nil=>unfold iv getM;split<;>rfl
 |cons p m d=>
  obtain⟨j,l⟩:=List.nodup_cons.1 h;unfold iv;by_cases c:p.1=k
  ·rw[if_pos c];by_cases b:x=k
   ·rw[if_pos b];subst b;exact getM_none (by rw[←c];exact j)
   ·rw[if_neg b];show _=getM (p::m) x;rw[getM,if_neg (fun e=>b (by rw[←e];exact c))]
  ·rw[if_neg c];show(if p.1=x then some p.2 else getM (iv m k) x)=if x=k then none else if p.1=x then some p.2 else getM m x
   rw[d l];by_cases b:x=k
   ·rw[if_pos b,if_pos b,if_neg (fun e=>c (by rw[e];exact b))]
   ·rw[if_neg b,if_neg b]
theorem AS (h:(m.map (·.1)).Nodup) (k:Int):((iv m k).map (·.1)).Nodup:=by
 have sub: ∀m:IM,((iv m k).map (·.1)).Sublist (m.map (·.1)):=fun m=>by
  induction m with
  |nil=>exact List.Sublist.slnil
  |cons p m b=>
   unfold iv;by_cases c:p.1=k
   ·rw[if_pos c];exact List.sublist_cons_self _ _
   ·rw[if_neg c];exact List.Sublist.cons_cons _ b
 exact List.Nodup.sublist (sub m) h
structure HL.r0 (s:HL):Prop where
 nd:(s.pl.map (·.1)).Nodup
 a: ∀i,s.st.getD i 0=1→getM s.pl (s.W.getD (2*i) 0)=some (.int .i64 ((2*i:Nat):Int))
 b: ∀k v,getM s.pl k=some v→ ∃i,s.st.getD i 0=1∧v=.int .i64 ((2*i:Nat):Int)∧s.W.getD (2*i) 0=k
 c: ∀i,s.st.getD i 0=1→s.W.getD (2*i) 0≤s.born
theorem HL.r0.inj (h:s.r0) {j:Nat} (k:s.st.getD i 0=1) (l:s.st.getD j 0=1) (e:s.W.getD (2*i) 0=s.W.getD (2*j) 0):i=j:=by
 have d:=h.a i k;rw[e,h.a j l]at d;have:((2*j:Nat):Int)=((2*i:Nat):Int):=by injection d with d;injection d
 omega
theorem HL.r0.congr (h:s.r0) (l:s'.pl=s.pl) (q:s'.born=s.born) (d: ∀i,s'.st.getD i 0=1↔s.st.getD i 0=1) (m: ∀i,s.st.getD i 0=1→s'.W.getD (2*i) 0=s.W.getD (2*i) 0):s'.r0:=
 ⟨by rw[l];exact h.nd,fun i j=>by rw[l,m i ((d i).1 j)];exact h.a i ((d i).1 j),fun k v e=>by
  rw[l]at e
  obtain⟨i,o,r,t⟩:=h.b k v e
  exact⟨i,(d i).2 o,r,by rw[m i o];exact t⟩,fun i j=>by rw[q,m i ((d i).1 j)];exact h.c i ((d i).1 j)⟩
theorem HL.r0.kill (h:s.r0) (w:s.st.getD i 0=1) (o:s'.pl=iv s.pl (s.W.getD (2*i) 0)) (y:s'.born=s.born) (q: ∀j,s'.st.getD j 0=1↔j≠i∧s.st.getD j 0=1) (r: ∀j,j≠i→s.st.getD j 0=1→s'.W.getD (2*j) 0=s.W.getD (2*j) 0):s'.r0:=by
 refine⟨by rw[o];exact AS h.nd _,fun j t=>?_,fun k v e=>?_,fun j t=>?_⟩
 ·obtain⟨l,d⟩:=(q j).1 t;rw[o,r j l d,vt h.nd,if_neg fun e=>l (h.inj d w e)];exact h.a j d
 ·rw[o,vt h.nd]at e;by_cases c:k=s.W.getD (2*i) 0
  ·rw[if_pos c]at e;cases e
  rw[if_neg c]at e;obtain⟨j,l,d,u⟩:=h.b k v e;have m:j≠i:=fun e=>c (by rw[←u,e]);exact⟨j,(q j).2 ⟨m,l⟩,d,by rw[r j m l];exact u⟩
 ·obtain⟨l,d⟩:=(q j).1 t;rw[y,r j l d];exact h.c j d
theorem HL.r0.place (h:s.r0) {k:Nat} (w:s.st.getD k 0≠1) (o:s'.pl=dG s.pl ((s.born+1:Nat):Int) (.int .i64 ((2*k:Nat):Int))) (y:s'.born=s.born+1) (m: ∀j,s'.st.getD j 0=1↔j=k∨s.st.getD j 0=1) (l:s'.W.getD (2*k) 0=((s.born+1:Nat):Int)) (q: ∀j,j≠k→s.st.getD j 0=1→s'.W.getD (2*j) 0=s.W.getD (2*j) 0):s'.r0:=by
 refine⟨by rw[o];exact AR h.nd _ _,fun j r=>?_,fun x v e=>?_,fun j r=>?_⟩
 ·rw[o,qV];by_cases c:j=k
  ·rw[c,if_pos l]
  have d:=((m j).1 r).resolve_left c;have:=h.c j d;rw[q j c d,if_neg (by omega)];exact h.a j d
 ·rw[o,qV]at e;by_cases c:x=((s.born+1:Nat):Int)
  ·rw[if_pos c]at e;injection e with e;exact⟨k,(m k).2 (.inl rfl),e.symm,by rw[l,c]⟩
  rw[if_neg c]at e;obtain⟨j,t,z,C⟩:=h.b x v e;have u:j≠k:=fun e=>w (e▸t);exact⟨j,(m j).2 (.inr t),z,by rw[q j u t];exact C⟩
 ·rw[y];by_cases c:j=k
  ·rw[c,l];exact Int.le_refl _
  have d:=((m j).1 r).resolve_left c;have:=h.c j d;rw[q j c d];omega
end
section
variable {s:HL} {x:Int} {i j:Nat}
def HL.ai (s : HL) (i : Nat) : Ob :=
  ⟨((2 * i : Nat) : Int), s.W.getD (2 * i) 0, du (s.W.getD (2 * i + 1) 0), (List.range (du (s.W.getD (2 * i + 1) 0)).1.toNat).map (fun j => s.W.getD (2 * i + 2 + j) 0),
    (List.range (du (s.W.getD (2 * i + 1) 0)).2.1.toNat).map (fun j => s.W.getD (2 * i + 2 + (du (s.W.getD (2 * i + 1) 0)).1.toNat + j) 0), decide (s.pn.getD i 0 = 1)⟩
def HL.abs (s:HL):RL:=⟨s.B,s.aj.map s.ai,[],s.born⟩
structure HL.Inv (s:HL):Prop where
 ok:s.Ok
 bf: ∀i,i<s.B.length→(s.B.getD i (0,0)).1=0→s.B.getD i (0,0)=(0,0)
 ids: ∀i,s.st.getD i 0=1→1≤s.W.getD (2*i) 0
 pz: ∀i,s.st.getD i 0≠1→s.pn.getD i 0=0
 fz: ∀k,(∀i,s.st.getD i 0=1→k<2*i∨((2*i:Nat):Int)+s.size (2*i)≤(k:Int))→s.W.getD k 0=0
 b0:(s.B.getD 0 (0,0)).1=0
 z0:s.st.getD 0 0≠1
 pm:s.r0
 hd: ∀i,s.st.getD i 0=1→(s.B.getD (i/32) (0,0)).1=1∨(s.B.getD (i/32) (0,0)).1=2
theorem bq:i∈s.aj↔s.st.getD i 0=1:=by
 unfold HL.aj;rw[dL];constructor
 ·exact fun h=>h.2
 ·intro h;refine⟨⟨Nat.zero_le _,?_⟩,h⟩;rcases Nat.lt_or_ge i s.st.length with b|b
  ·exact b
  ·rw[List.getD_eq_getElem?_getD,List.getElem?_eq_none b]at h;simp at h
theorem fQ (s:HL):s.aj.Nodup:=List.Nodup.sublist List.filter_sublist List.nodup_range
theorem oK (d:j<s.aj.length) (m:s.aj.getD j 0=i):p9 s.abs.O ((2*i:Nat):Int)=some j:=by
 have r:s.abs.O.length=s.aj.length:=by simp[HL.abs]
 have get: ∀k,k<s.aj.length→(s.abs.O.getD k default).a=((2*s.aj.getD k 0:Nat):Int):=fun k l=>by simp[HL.abs,l,HL.ai]
 refine ze (by omega) (by rw[get j d,m]) fun k l=>?_;rw[get k (by omega)];intro e;have o:s.aj.getD k 0=s.aj.getD j 0:=by omega
 have b:k<s.aj.length:=by omega
 have q:s.aj[k]=s.aj[j]:=by simpa[b,d]using o
 have:=(List.getElem_inj (h₀:=b) (h₁:=d) (fQ s)).1 q;omega
theorem jO (h:s.st.getD i 0=1): ∃j,j<s.aj.length∧s.aj.getD j 0=i:=by
 obtain⟨j,b,e⟩:=List.mem_iff_getElem.1 (bq.2 h);exact⟨j,b,by simpa[b]using e⟩
theorem F6 (h: ∀i,s.st.getD i 0=1→((2*i:Nat):Int)≠x):p9 s.abs.O x=none:=by
 refine zd fun j d=>?_;have b:j<s.aj.length:=by simpa[HL.abs]using d
 have:(s.abs.O.getD j default).a=((2*s.aj.getD j 0:Nat):Int):=by simp[HL.abs,b,HL.ai]
 rw[this];exact h _ (bq.1 (by simp[b]))
theorem dH (h:s.Ok):bE (some s) x=true↔ ∃i:Nat,x=((2*i:Nat):Int)∧s.st.getD i 0=1:=by
 constructor
 ·exact iw h
 ·rintro⟨i,rfl,d⟩;have b:=(h.start d).1;simp only[bE,Bool.and_eq_true,decide_eq_true_eq];refine⟨⟨by omega,by omega⟩,?_⟩;show(if hasB s.st.length (((2*i:Nat):Int)/2)=true then((s.st.getD (((2*i:Nat):Int)/2).toNat 0:Nat):Int)else-1)=1;rw[show((2*i:Nat):Int)/2=(i:Int) by omega,if_pos (nc b),c9,d];rfl
theorem nq (h:s.Ok) (x:Int):(bE (some s) x=false∧p9 s.abs.O x=none)∨ ∃i j:Nat,x=((2*i:Nat):Int)∧s.st.getD i 0=1∧bE (some s) x=true∧j<s.aj.length∧s.aj.getD j 0=i∧p9 s.abs.O x=some j:=by
 cases d:bE (some s) x with
 |true=>
  obtain⟨i,rfl,b⟩:=(dH h).1 d;obtain⟨j,k,e⟩:=jO b;exact .inr ⟨i,j,rfl,b,rfl,k,e,oK k e⟩
 |false=>
  refine .inl ⟨rfl,F6 fun i b e=>?_⟩;have:bE (some s) x=true:=(dH h).2 ⟨i,e.symm,b⟩;rw[d]at this;cases this
theorem xq (h:s.Ok) (x:Int):s.abs.has x=bE (some s) x:=by
 unfold RL.has;rcases nq h x with⟨b,d⟩|⟨i,j,_,_,b,_,_,d⟩
 ·rw[b,d];rfl
 ·rw[b,d];rfl
theorem ga (h:s.Ok) (x:Int):s.abs.f' x=cK (some s) x:=by
 unfold RL.f' cK;rw[xq h]
theorem ns (b:j<s.aj.length) (e:s.aj.getD j 0=i):s.abs.O.getD j default=s.ai i:=by
 subst e;simp[HL.abs,b]
theorem MI (h:s.Ok) (x:Int):(bE (some s) x=false∧s.abs.ob x=none)∨ ∃i:Nat,x=((2*i:Nat):Int)∧s.st.getD i 0=1∧bE (some s) x=true∧s.abs.ob x=some (s.ai i):=by
 unfold RL.ob;rcases nq h x with⟨b,d⟩|⟨i,j,k,l,b,m,e,d⟩
 ·exact .inl ⟨b,by rw[d];rfl⟩
 ·exact .inr ⟨i,k,l,b,by rw[d,Option.map_some,ns m e]⟩
theorem eX (h:s.Ok) (l:s.st.getD i 0=1): ∃r d k:Nat,aS (r,d,k)=true∧du (s.W.getD (2*i+1) 0)=((r:Int),(d:Int),(k:Int))∧s.size (2*i)=aE (r,d,k)∧(s.ai i).sh=((r:Int),(d:Int),(k:Int))∧(s.ai i).rf=(List.range r).map (fun j=>s.W.getD (2*i+2+j) 0)∧(s.ai i).dt=(List.range d).map (fun j=>s.W.getD (2*i+2+r+j) 0):=by
 obtain⟨_,_,_,r,d,k,m,b,o⟩:=h.sz l;refine⟨r,d,k,m,b,o,b,?_,?_⟩
 ·simp only[HL.ai,b,c9]
 ·simp only[HL.ai,b,c9]
theorem tT {f:Nat→Int} {n:Nat} (h:i<n):((List.range n).map f).getD i 0=f i:=by simp[h]
theorem mN (h:s.Ok) (x i to:Int):s.abs.dn x i to=cf (some s) x i to:=by
 unfold RL.dn cf br cK;rcases MI h x with⟨b,j⟩|⟨o,rfl,m,b,j⟩
 ·rw[b,j];rfl
 ·obtain⟨r,d,k,u,q,w,y,t,_⟩:=eX h m;rw[b,j];simp only[if_true,ne_eq,not_true_eq_false,if_false,cond_false];have l:s.dy ((2*o:Nat):Int)=((r:Int),(d:Int),(k:Int)):=q;rw[l,t,List.length_map,List.length_range,xq h];by_cases c:i<0∨(r:Int)≤i
  ·rw[if_pos c,if_pos c];rfl
  ·rw[if_neg c,if_neg c];rfl
theorem BP {s':HL} {f:Ob→Ob} (m:s.st.getD i 0=1) (o:s'.B=s.B) (q:s'.st=s.st) (r:s'.born=s.born) (t:s'.ai i=f (s.ai i)) (u: ∀k,k≠i→s.st.getD k 0=1→s'.ai k=s.ai k):s'.abs=s.abs.vm ((2*i:Nat):Int) f:=by
 obtain⟨j,b,e⟩:=jO m;unfold RL.vm;rw[oK b e];have w:s'.aj=s.aj:=by unfold HL.aj;rw[q]
 show RL.mk s'.B (s'.aj.map s'.ai) [] s'.born=RL.mk s.B (s.abs.O.set j (f (s.abs.O.getD j default))) [] s.born;rw[o,r,w,ns b e,←t];congr 1;show s.aj.map s'.ai=(s.aj.map s.ai).set j (s'.ai i);apply List.ext_getElem
 ·simp
 intro k y C;have l:k<s.aj.length:=by simpa using y
 rw[List.getElem_set];by_cases d:j=k
 ·subst d;rw[if_pos rfl,List.getElem_map];congr 1;simpa[b]using e
 ·rw[if_neg d,List.getElem_map,List.getElem_map];refine u _ (fun z=>d ?_) (bq.1 (List.getElem_mem l));have B:s.aj[j]=s.aj[k]:=by rw[z];simpa[b]using e
  exact(List.getElem_inj (h₀:=b) (h₁:=l) (fQ s)).1 B
theorem gV (h:s.Ok) (x i to:Int): ∃s',bj (some s) x i to=some s'∧s'.abs=s.abs.bj x i to∧s'.B=s.B∧s'.st=s.st∧s'.born=s.born∧s'.pn=s.pn:=by
 unfold bj RL.bj;rw[mN h];by_cases c:cf (some s) x i to=0;rotate_left
 ·rw[if_neg c];simp only[if_neg c];exact⟨s,rfl,rfl,rfl,rfl,rfl,rfl⟩
 rw[if_pos c];simp only[if_pos c];refine⟨_,rfl,?_,rfl,rfl,rfl,rfl⟩;have z:(br (some s) x i false).2=0:=by
  unfold cf at c;by_cases B:(br (some s) x i false).2=0
  ·exact B
  ·simp only[ne_eq,B,not_false_eq_true,if_true]at c
 obtain⟨o,k,rfl,w,K,O,P,Q⟩:=fS h z;obtain⟨r,d,q,R,L,hz,e1,e2,e3⟩:=eX h w;have S:=dk R;simp only at S
 have E:br (some s) ((2*o:Nat):Int) i false=(((2*o:Nat):Int)+2+i,0)∧0≤i∧i<(r:Int):=by
  have F:s.dy ((2*o:Nat):Int)=((r:Int),(d:Int),(q:Int)):=L;have T:cK (some s) ((2*o:Nat):Int)=0:=by unfold cK;rw[(dH h).2 ⟨o,rfl,w⟩];rfl
  unfold br at z⊢;simp only[T,ne_eq,not_true_eq_false,if_false,cond_false,F]at z⊢;by_cases B:i<0∨(r:Int)≤i
  ·rw[if_pos B]at z;cases z
  ·rw[if_neg B];exact⟨rfl,by omega,by omega⟩
 obtain⟨C,i0,ir⟩:=E;obtain⟨n,rfl⟩: ∃n:Nat,i=n:=⟨i.toNat,by omega⟩;have G:k=2*o+2+n:=by
  have M:=K;rw[C]at M;simp only at M;omega
 rw[K,c9];have b: ∀j,j≠k→(s.W.set k to).getD j 0=s.W.getD j 0:=fun j y=>aI (Ne.symm y);have U:=h.inside w O P;refine BP (s:=s) (s':= {s with W:=s.W.set k to}) w rfl rfl rfl ?_ fun t ht u=>?_
 ·unfold HL.ai;simp only[b (2*o) (by omega),b (2*o+1) (by omega),L,c9];congr 1
  ·apply List.ext_getElem
   ·simp
   intro j V j2;have j3:j<r:=by simpa using V
   rw[List.getElem_set];simp only[List.getElem_map,List.getElem_range];by_cases N:n=j
   ·subst N;rw[if_pos rfl,←G];exact a8 Q
   ·rw[if_neg N,b _ (by omega)]
  ·apply List.map_congr_left;intro j y;exact b _ (by omega)
 ·obtain⟨r',d',q',H,I,m,_,_,_⟩:=eX h u;have J:=dk H;simp only at J;have l: ∀j:Nat,2*t≤j→(j:Int)<((2*t:Nat):Int)+s.size (2*t)→j≠k:=by
   intro j X Y e;subst e;rcases Nat.lt_or_ge o t with D|D
   ·have:=h.dj o t w u D;omega
   ·have:=h.dj t o u w (by omega);omega
  unfold HL.ai;have Z:=b (2*t) (l _ (by omega) (by rw[m];omega));have a1:=b (2*t+1) (l _ (by omega) (by rw[m];omega));simp only[Z,a1,I,c9];congr 1
  ·apply List.map_congr_left;intro j y;have:=List.mem_range.1 y;exact b _ (l _ (by omega) (by rw[m];omega))
  ·apply List.map_congr_left;intro j y;have:=List.mem_range.1 y;exact b _ (l _ (by omega) (by rw[m];omega))
end
section
set_option maxRecDepth 8000
variable {s:HL} {l:List Nat} {i:Nat}
theorem lH {s':HL} (h:s.Ok) (o:s.st.getD i 0=1) (b: ∀k:Nat,2*i≤k→(k:Int)<((2*i:Nat):Int)+s.size (2*i)→s'.W.getD k 0=s.W.getD k 0) (t:s'.pn.getD i 0=s.pn.getD i 0):s'.ai i=s.ai i:=by
 obtain⟨r,d,q,u,w,l,_,_,_⟩:=eX h o;have y:=dk u;simp only at y;have z:=b (2*i) (by omega) (by rw[l];omega);have B:=b (2*i+1) (by omega) (by rw[l];omega);unfold HL.ai;simp only[z,B,w,c9,t];congr 1
 ·apply List.map_congr_left;intro j m;have:=List.mem_range.1 m;exact b _ (by omega) (by rw[l];omega)
 ·apply List.map_congr_left;intro j m;have:=List.mem_range.1 m;exact b _ (by omega) (by rw[l];omega)
theorem IS (h:s.Ok) (x:Int) (v:Nat) (u:v≤1): ∃s',iL (some s) x v=some s'∧s'.abs=s.abs.iL x (decide (v=1))∧s'.B=s.B∧s'.W=s.W∧s'.st=s.st∧s'.born=s.born∧(∀i,s.st.getD i 0≠1→s'.pn.getD i 0=s.pn.getD i 0):=by
 simp only[iL,RL.iL];rw[←ga h];rcases nq h x with⟨b,o⟩|⟨i,j,rfl,d,b,w,e,o⟩
 ·have:s.abs.f' x=4:=by rw[ga h];unfold cK;rw[b];rfl
  simp only[this];refine⟨s,rfl,?_,rfl,rfl,rfl,rfl,fun _ _=>rfl⟩;unfold RL.vm;rw[o]
 ·have:s.abs.f' ((2*i:Nat):Int)=0:=by rw[ga h];unfold cK;rw[b];rfl
  simp only[this,if_true,c9,Nat.mul_div_cancel_left i (show 0<2 by omega)];have q:=(h.start d).1;have r:=h.sl;have t:=h.pl;refine⟨_,rfl,?_,rfl,rfl,rfl,rfl,fun k l=>aI (by rintro rfl;exact l d)⟩;refine BP (s:=s) (s':= {s with pn:=s.pn.set i v}) d rfl rfl rfl ?_ fun k l m=>lH (s':= {s with pn:=s.pn.set i v}) h m (fun _ _ _=>rfl) (aI (Ne.symm l));unfold HL.ai;simp only[a8 (show i<s.pn.length by omega)]
theorem erase_filter (b:l.Nodup) {j:Nat} (d:j<l.length):l.eraseIdx j=l.filter fun k=>k !=l.getD j 0:=by
 induction l generalizing j with
 |nil=>simp at d
 |cons a l m=>
  rw[List.nodup_cons]at b;cases j with
  |zero=>
   rw[List.eraseIdx_cons_zero,List.getD_cons_zero,List.filter_cons_of_neg (by simp)];refine(List.filter_eq_self.2 fun k o=>?_).symm;simp only[bne_iff_ne,ne_eq];rintro rfl;exact b.1 o
  |succ j=>
   rw[List.eraseIdx_cons_succ,List.getD_cons_succ,List.filter_cons_of_pos,m b.2 (by simpa using d)];simp only[bne_iff_ne,ne_eq];rintro rfl;exact b.1 (by simp[show j<l.length by simpa using d])
theorem vu {d j v:Nat} (m:v≠1):bk (l.set i v) d j=(bk l d j).filter fun k=>k !=i:=by
 unfold bk;rw[List.filter_filter];apply List.filter_congr;intro k _;by_cases e:k=i
 ·subst e;have:(l.set k v).getD k 0≠1:=by
   by_cases b:k<l.length
   ·rw[a8 b];exact m
   ·simp[List.getD_eq_getElem?_getD,List.getElem?_eq_none (Nat.not_lt.1 b),b]
  rw[aX this];simp
 ·rw[aI (Ne.symm e)];simp[e]
theorem tU (h:s.Ok) (x:Int): ∃s',dh (some s) x=some s'∧s'.abs=s.abs.dh x∧s'.B=s.B∧s'.born=s.born∧
  ((s'=s)∨ ∃i:Nat,s.st.getD i 0=1∧s'.pl=iv s.pl (s.W.getD (2*i) 0)∧s'.st=s.st.set i 0∧s'.pn=s.pn.set i 0∧s'.W=kc s.W (2*i) (s.size (2*i)).toNat):=by
 simp only[dh,RL.dh];rw[←ga h];rcases nq h x with⟨m,o⟩|⟨i,j,rfl,l,m,u,e,o⟩
 ·have:s.abs.f' x=4:=by rw[ga h];unfold cK;rw[m];rfl
  simp only[this];refine⟨s,rfl,?_,rfl,rfl,.inl rfl⟩;rw[o]
 ·have:s.abs.f' ((2*i:Nat):Int)=0:=by rw[ga h];unfold cK;rw[m];rfl
  simp only[this,if_true,c9,Nat.mul_div_cancel_left i (show 0<2 by omega)];refine⟨_,rfl,?_,rfl,rfl,.inr ⟨i,l,rfl,rfl,rfl,rfl⟩⟩;rw[o];obtain⟨B,C,D,_⟩:=h.sz l;have q:2*i+(s.size (2*i)).toNat≤s.W.length:=by omega
  show RL.mk s.B _ [] s.born=RL.mk s.B (s.abs.O.eraseIdx j) [] s.born;congr 1;show List.map _ (bk (s.st.set i 0) 0 (s.st.set i 0).length)=(s.aj.map s.ai).eraseIdx j;rw[List.length_set,vu (by omega),qQ,erase_filter (fQ s) u,e];apply List.map_congr_left;intro k w;obtain⟨y,z⟩:=List.mem_filter.1 w;have b:s.st.getD k 0=1:=bq.1 y;have r:k≠i:=by simpa using z
  refine lH h b (fun t E F=>?_) (aI (Ne.symm r));simp only;rw[kZ q,if_neg];rcases Nat.lt_or_ge i k with d|d
  ·have:=h.dj i k l b d;omega
  ·have:=h.dj k i b l (by omega);omega
theorem zi {t:HL} (h:s.B=t.B) (a b:Int):bX s a b=bX t a b:=by
 unfold bX HL.b HL.span;rw[h]
theorem find_spec (h:s.Ok) {x:Int} (e:(gT (some s) x).2=0): ∃i:Nat,s.st.getD i 0=1∧(gT (some s) x).1=((2*i:Nat):Int)∧((2*i:Nat):Int)≤x∧x<((2*i:Nat):Int)+s.size (2*i):=by
 unfold gT at e⊢;simp only at e⊢;split at e
 ·cases e
 ·rename_i j;rw[if_neg j];split at e
  ·cases e
  ·rename_i i d;split at e
   ·cases e
   ·rename_i l;have m:s.jF.nG (x/2+1) 1=mE (fun k=>decide ((k:Int)<x/2+1)&&decide (((s.st.getD k 0:Nat):Int)=1)) s.st.length:=rfl;have b:=d;rw[m]at b;obtain⟨q,o⟩:=oz b;simp only[Bool.and_eq_true,decide_eq_true_eq]at o;refine⟨i,by omega,?_,by omega,by omega⟩;simp only[d,if_neg l];omega
theorem F7 (h:s.Inv) (a:Int) (k:Sh) (G:aS k=true):s.abs.jN a k 0=fc s a (aE k) (-1):=by
 have V:=dk G;have H:=h.ok.wl;unfold RL.jN fc;have y:s.abs.B=s.B:=rfl;by_cases l:a<0∨a%2≠0∨((64*s.abs.B.length:Nat):Int)≤a
 ·rw[if_pos l,if_pos];rw[y]at l;simp only[pT,Bool.or_eq_true,decide_eq_true_eq];omega
 have I:pT s a=false:=by
  rw[y]at l;simp only[pT,Bool.or_eq_false_iff,decide_eq_false_iff_not];omega
 rw[if_neg l,I];simp only[Bool.false_eq_true,if_false];rw[zi (t:=s) (show s.abs.hl.B=s.B from rfl)];by_cases u:bX s a (aE k)=true
 ·rw[if_pos u,if_pos u]
 rw[if_neg u,if_neg u];have key:s.abs.O.any (jM a (aE k) 0)=true↔(List.range ((aE k+1)/2).toNat).any (eT s a (-1))=true:=by
  simp only[List.any_eq_true];constructor
  ·rintro⟨o,J,m⟩;obtain⟨i,K,rfl⟩:=List.mem_map.1 J;have b:=bq.1 K;obtain⟨r,d,q,z,L,B,C,_,_⟩:=eX h.ok b;have E:(((2*i:Nat):Int)<a+aE k)∧a<((2*i:Nat):Int)+s.size (2*i):=by
    simp only[jM,Bool.and_eq_true,decide_eq_true_eq]at m;obtain⟨⟨_,M⟩,F⟩:=m;rw[C]at F;exact⟨M,by rw[B];exact F⟩
   obtain⟨N,O,P,_⟩:=h.ok.sz b;rw[y]at l;have Q:a%2=0:=by omega
   refine⟨((max a ((2*i:Nat):Int)-a)/2).toNat,List.mem_range.2 (by omega),?_⟩;have R:a+2*((((max a ((2*i:Nat):Int)-a)/2).toNat:Nat):Int)=(((max a ((2*i:Nat):Int)).toNat:Nat):Int):=by omega
   unfold eT;rw[R,pV h.ok b (by omega) (by omega)];simp;omega
  ·rintro⟨j,S,D⟩;have T:=List.mem_range.1 S;unfold eT at D;simp only[Bool.and_eq_true,beq_iff_eq]at D;obtain⟨i,b,_,W,X⟩:=find_spec h.ok D.1;obtain⟨r,d,q,z,L,B,C,_,_⟩:=eX h.ok b;obtain⟨N,O,P,_⟩:=h.ok.sz b;refine⟨s.ai i,List.mem_map.2 ⟨i,bq.2 b,rfl⟩,?_⟩;have U:=h.ids i b;simp only[jM,Bool.and_eq_true,decide_eq_true_eq,bne_iff_ne,ne_eq];rw[C,←B];refine⟨⟨?_,?_⟩,?_⟩
   ·show¬s.W.getD (2*i) 0=0;omega
   ·show((2*i:Nat):Int)<_;omega
   ·show a<((2*i:Nat):Int)+_;omega
 by_cases w:s.abs.O.any (jM a (aE k) 0)=true
 ·rw[if_pos w,if_pos (key.1 w)]
 ·rw[if_neg w,if_neg (fun h=>w (key.2 h))]
end
section
set_option maxRecDepth 8000
variable {s s':HL} {x:Int} {hi lo n:Nat}
theorem kf (l:List Nat) {m:Nat} (j:lo≤m) (k:m≤hi):bk l lo hi=bk l lo m++bk l m hi:=by
 obtain⟨d,rfl⟩: ∃d,hi=m+d:=⟨hi-m,by omega⟩
 induction d with
 |zero=>rw[Nat.add_zero,jA,List.append_nil]
 |succ d b=>
  rw[show m+(d+1)=m+d+1 by omega,fR,fR,b (by omega),List.append_assoc];congr 2;by_cases h:l.getD (m+d) 0=1
  ·rw[if_pos ⟨by omega,h⟩,if_pos ⟨by omega,h⟩]
  ·rw[if_neg (fun e=>h e.2),if_neg (fun e=>h e.2)]
theorem rG {l b:List Nat} (h: ∀j,lo≤j→j<hi→l.getD j 0=b.getD j 0):bk l lo hi=bk b lo hi:=by
 unfold bk;apply List.filter_congr;intro j k;have:=List.mem_range.1 k;by_cases d:lo≤j
 ·rw[h j d this]
 ·simp[d]
theorem vv (l:List Nat) (k:Nat):bk l k (k+1)=if l.getD k 0=1 then [k]else []:=by
 rw[fR,jA,List.nil_append];by_cases h:l.getD k 0=1
 ·rw[if_pos ⟨Nat.le_refl _,h⟩,if_pos h]
 ·rw[if_neg (fun e=>h e.2),if_neg h]
theorem tV (h:s.Inv) (a:Int) (b:Sh):s.abs.bC a b=bC (some s) a b:=by
 unfold RL.bC bC;cases d:aS b with
 |false=>rfl
 |true=>
  simp only[Bool.true_eq_false,if_false];rw[F7 h a b d];rfl
theorem qW (h:s.Inv) (a:Int) (b:Sh): ∃s',bK (some s) a b=some s'∧s'.abs=s.abs.bK a b∧s'.Inv∧s'.B=s.B∧s'.born≤s.born+1:=by
 have hR:=tV h a b;by_cases c:(bC (some s) a b).2=0;rotate_left
 ·refine⟨s,by unfold bK;simp only[if_neg c],?_,h,rfl,by omega⟩;unfold RL.bK;rw[hR,if_neg c]
 have y:aS b=true:=by
  cases y:aS b with
  |true=>rfl
  |false=>simp[bC,y]at c
 have t:fc s a (aE b) (-1)=0:=by
  by_cases e:fc s a (aE b) (-1)=0
  ·exact e
  ·simp[bC,y,e]at c
 have Z:=dk y;obtain⟨k,rfl,L,Ir,m⟩:=vh h.ok Z.1 Z.2.2.1 Z.2.1 t;have EZ:=h.ok.sl;have OL:=h.ok.wl;have H2:=h.ok.pl;have M:bC (some s) ((2*k:Nat):Int) b=(((s.born+1:Nat):Int),0):=by
  unfold bC;simp only[y,Bool.true_eq_false,if_false];rw[if_neg (fun e=>e t)]
 have hPM:bK (some s) ((2*k:Nat):Int) b=some {s with W:=(s.W.set (2*k) ((s.born+1:Nat):Int)).set (2*k+1) (hU b),st:=s.st.set k 1,pl:=dG s.pl ((s.born+1:Nat):Int) (.int .i64 ((2*k:Nat):Int)),born:=s.born+1}:=by
  unfold bK;simp only[M,if_true,c9,Nat.mul_div_cancel_left k (show 0<2 by omega)]
 have H: ∀i,s.st.getD i 0=1→((2*i:Nat):Int)+s.size (2*i)≤((2*k:Nat):Int)∨((2*k:Nat):Int)+aE b≤((2*i:Nat):Int):=by
  intro i hi;obtain⟨g1,g2,g3,_⟩:=h.ok.sz hi;by_cases c1:k≤i
  ·right;refine Decidable.byContradiction fun c2=>?_;have N:=lC (m (i-k) (by omega));have e1:((2*k:Nat):Int)+2*((i-k:Nat):Int)=((2*i:Nat):Int):=by omega
   rw[e1,pV h.ok hi (Nat.le_refl _) (by omega)]at N;exact N rfl
  ·left;refine Decidable.byContradiction fun c2=>?_;have N:=lC (m 0 (by omega));have e1:((2*k:Nat):Int)+2*((0:Nat):Int)=((2*k:Nat):Int):=by omega
   rw[e1,pV h.ok hi (by omega) (by omega)]at N;exact N rfl
 have z:s.st.getD k 0≠1:=fun e=>by
  have:=H k e;have:=(h.ok.sz e).1;omega
 obtain⟨r,d,q,B⟩: ∃r d q:Nat,b=((r:Int),(d:Int),(q:Int)):=by
  obtain⟨sa,sb,sc⟩:=b;have V5:=y;simp only[aS,Bool.and_eq_true,decide_eq_true_eq]at V5;exact⟨sa.toNat,sb.toNat,sc.toNat,by rw[Prod.mk.injEq,Prod.mk.injEq];omega⟩
 have O:du (hU b)=b:=by rw[B];rw[B]at y;exact jg y
 have o: ∀j:Nat,2*k≤j→(j:Int)<((2*k:Nat):Int)+aE b→s.W.getD j 0=0:=fun j w D=>h.fz j fun i hi=>by
  have:=H i hi;have:=(h.ok.sz hi).1;omega
 have E: ∀j,j≠2*k→j≠2*k+1→((s.W.set (2*k) ((s.born+1:Nat):Int)).set (2*k+1) (hU b)).getD j 0=s.W.getD j 0:=fun j w D=>by
  rw[aI (Ne.symm D),aI (Ne.symm w)]
 have I:((s.W.set (2*k) ((s.born+1:Nat):Int)).set (2*k+1) (hU b)).getD (2*k) 0=((s.born+1:Nat):Int):=by
  rw[aI (by omega),a8 (by omega)]
 have P:((s.W.set (2*k) ((s.born+1:Nat):Int)).set (2*k+1) (hU b)).getD (2*k+1) 0=hU b:=a8 (by simp;omega);have F: ∀i,s.st.getD i 0=1→ ∀j:Nat,2*i≤j→(j:Int)<((2*i:Nat):Int)+s.size (2*i)→j≠2*k∧j≠2*k+1:=fun i hi j w D=>by
  have:=H i hi;omega
 rw[hPM];refine⟨_,rfl,?_,?_,rfl,Nat.le_refl _⟩
 ·unfold RL.bK;rw[hR,M,if_pos rfl];generalize u:(HL.mk s.B ((s.W.set (2*k) ((s.born+1:Nat):Int)).set (2*k+1) (hU b)) (s.st.set k 1) s.pn (dG s.pl ((s.born+1:Nat):Int) (.int .i64 ((2*k:Nat):Int))) s.fw (s.born+1))=s';have sW:s'.W=(s.W.set (2*k) ((s.born+1:Nat):Int)).set (2*k+1) (hU b):=by rw[←u]
  have sS:s'.st=s.st.set k 1:=by rw[←u]
  have sP:s'.pn=s.pn:=by rw[←u]
  have sB:s'.B=s.B:=by rw[←u]
  have sb:s'.born=s.born+1:=by rw[←u]
  have hA:bk s.st 0 s.st.length=bk s.st 0 k++bk s.st (k+1) s.st.length:=by
   rw[kf s.st (show 0≤k by omega) (show k≤s.st.length by omega),kf s.st (show k≤k+1 by omega) (show k+1≤s.st.length by omega),vv,if_neg z,List.nil_append]
  have hA':s'.aj=bk s.st 0 k++[k]++bk s.st (k+1) s.st.length:=by
   unfold HL.aj;rw[sS,List.length_set,kf (s.st.set k 1) (show 0≤k by omega) (show k≤s.st.length by omega),kf (s.st.set k 1) (show k≤k+1 by omega) (show k+1≤s.st.length by omega),vv,if_pos (a8 L),←List.append_assoc];congr 1
   ·congr 1;exact rG fun j _ C=>aI (by omega)
   ·exact rG fun j C _=>aI (by omega)
  have G: ∀i,s.st.getD i 0=1→s'.ai i=s.ai i:=fun i hi=>lH h.ok hi (fun j w D=>by rw[sW];exact E j (F i hi j w D).1 (F i hi j w D).2) (by rw[sP]);have Q:s'.ai k=s.abs.ke ((2*k:Nat):Int) b:=by
   unfold HL.ai RL.ke;rw[sW,sP,I,P,O,h.pz k z];have R:=Z;rw[B]at R⊢;simp only[c9]at R⊢;rw[B]at E o;congr 1
   ·apply List.ext_getElem
    ·simp
    intro j w D;have j3:j<r:=by simpa using w
    rw[List.getElem_map,List.getElem_range,List.getElem_replicate,E _ (by omega) (by omega)];exact o _ (by omega) (by omega)
   ·apply List.ext_getElem
    ·simp
    intro j w D;have j3:j<d:=by simpa using w
    rw[List.getElem_map,List.getElem_range,List.getElem_replicate,E _ (by omega) (by omega)];exact o _ (by omega) (by omega)
  have mA: ∀i,i∈bk s.st 0 k→i<k∧s.st.getD i 0=1:=fun i hi=>⟨(dL.1 hi).1.2,(dL.1 hi).2⟩;have mC: ∀i,i∈bk s.st (k+1) s.st.length→k<i∧s.st.getD i 0=1:=fun i hi=>⟨(dL.1 hi).1.1,(dL.1 hi).2⟩;have S:s.abs.O=(bk s.st 0 k).map s.ai++(bk s.st (k+1) s.st.length).map s.ai:=by
   show(bk s.st 0 s.st.length).map s.ai=_;rw[hA,List.map_append]
  have T:qS s.abs.O ((2*k:Nat):Int)=(bk s.st 0 k).length:=by
   refine xo (by rw[S];simp) (fun j C=>?_) fun hl=>?_
   ·have e:s.abs.O.getD j default=s.ai ((bk s.st 0 k)[j]):=by
     rw[S,List.getD_eq_getElem?_getD,List.getElem?_append_left (by simpa using C)];simp[C]
    rw[e];have:=(mA _ (List.getElem_mem C)).1;show((2*(bk s.st 0 k)[j]:Nat):Int)<_;omega
   ·have U:0<(bk s.st (k+1) s.st.length).length:=by rw[S]at hl;simpa using hl
    have e:s.abs.O.getD (bk s.st 0 k).length default=s.ai ((bk s.st (k+1) s.st.length)[0]):=by
     rw[S,List.getD_eq_getElem?_getD,List.getElem?_append_right (by simp)];simp[U]
    rw[e];have:=(mC _ (List.getElem_mem U)).1;show¬((2*(bk s.st (k+1) s.st.length)[0]:Nat):Int)<_;omega
  show RL.mk s'.B (s'.aj.map s'.ai) [] s'.born=RL.mk s.B (s.abs.O.take (qS s.abs.O ((2*k:Nat):Int))++[s.abs.ke ((2*k:Nat):Int) b]++s.abs.O.drop (qS s.abs.O ((2*k:Nat):Int))) [] (s.born+1);rw[sB,sb,T,hA',S,List.map_append,List.map_append,List.map_cons,List.map_nil,Q,List.take_append_of_le_length (by simp),List.drop_append_of_le_length (by simp)];congr 1;rw[List.take_of_length_le (by simp),List.drop_of_length_le (by simp),List.nil_append];congr 1
  ·congr 1;exact List.map_congr_left fun i hi=>G i (mA i hi).2
  ·exact List.map_congr_left fun i hi=>G i (mC i hi).2
 ·have J: ∀i,(s.st.set k 1).getD i 0=1→i=k∨(i≠k∧s.st.getD i 0=1):=fun i hi=>by
   by_cases e:i=k
   ·exact .inl e
   ·exact .inr ⟨e,by rw[aI (Ne.symm e)]at hi;exact hi⟩
  have ND: ∀i,i≠k→HL.size {s with W:=(s.W.set (2*k) ((s.born+1:Nat):Int)).set (2*k+1) (hU b),st:=s.st.set k 1,pl:=dG s.pl ((s.born+1:Nat):Int) (.int .i64 ((2*k:Nat):Int)),born:=s.born+1} (2*i)=s.size (2*i):=fun i hi=>by
   unfold HL.size;simp only;rw[E _ (by omega) (by omega)]
  have V:HL.size {s with W:=(s.W.set (2*k) ((s.born+1:Nat):Int)).set (2*k+1) (hU b),st:=s.st.set k 1,pl:=dG s.pl ((s.born+1:Nat):Int) (.int .i64 ((2*k:Nat):Int)),born:=s.born+1} (2*k)=aE b:=by
   unfold HL.size;simp only;rw[P,O]
  have P':k≠0:=fun e=>by
   subst e;have hb:=h.b0;by_cases X:pT s ((2*0:Nat):Int)=true
   ·unfold fc at t;rw[if_pos X]at t;cases t
   by_cases l:bX s ((2*0:Nat):Int) (aE b)=true
   ·unfold fc at t;rw[if_neg X,if_pos l]at t;cases t
   refine l ?_;unfold bX HL.b;split
   ·simp only[Bool.or_eq_true,decide_eq_true_eq];left;show(s.B.getD 0 (0,0)).1≠1;omega
   ·simp only[Bool.or_eq_true,decide_eq_true_eq];left;left;show(s.B.getD 0 (0,0)).1≠2;omega
  refine⟨h.ok.place y L Ir m,h.bf,fun i hi=>?_,fun i hi=>h.pz i fun e=>hi ?_,fun j C=>?_,h.b0,fun e=>h.z0 (by simp only at e;rw[aI P']at e;exact e),h.pm.place z rfl rfl (fun j=>⟨fun e=>(J j e).imp id And.right,fun e=>?_⟩) I (fun j C hj1=>E _ (by omega) (by omega)),fun i hi=>?_⟩;rotate_left 4
  ·rcases J i hi with rfl|⟨DB,K⟩
   ·show(s.B.getD (i/32) (0,0)).1=1∨(s.B.getD (i/32) (0,0)).1=2;by_cases X:pT s ((2*i:Nat):Int)=true
    ·unfold fc at t;rw[if_pos X]at t;cases t
    by_cases l:bX s ((2*i:Nat):Int) (aE b)=true
    ·unfold fc at t;rw[if_neg X,if_pos l]at t;cases t
    have e32:(((2*i:Nat):Int)/64).toNat=i/32:=by omega
    unfold bX HL.b at l;rw[e32]at l;split at l
    ·simp only[Bool.or_eq_true,decide_eq_true_eq,not_or]at l;omega
    ·simp only[Bool.or_eq_true,decide_eq_true_eq,not_or]at l;omega
   ·exact h.hd i K
  ·rcases J i hi with rfl|⟨DB,K⟩
   ·simp only;rw[I];omega
   ·simp only;rw[E _ (by omega) (by omega)];exact h.ids i K
  ·by_cases e2:i=k
   ·subst e2;exact a8 L
   ·simp only;rw[aI (Ne.symm e2)];exact e
  ·have GV:=C k (a8 L);rw[V]at GV;simp only;rw[E j (by omega) (by omega)];refine h.fz j fun i hi=>?_;have Y:i≠k:=fun e=>z (e▸hi);have:=C i (by simp only;rw[aI (Ne.symm Y)];exact hi);rw[ND i Y]at this;exact this
  ·by_cases c:j=k
   ·rw[c];exact a8 L
   ·simp only;rw[aI (Ne.symm c)];exact e.resolve_left c
theorem HL.Inv.wM (h:s.Inv) {i to:Int} (e:bj (some s) x i to=some s') (m:s'.Ok):s'.Inv:=by
 unfold bj at e;by_cases c:cf (some s) x i to=0;rotate_left
 ·simp only[if_neg c,Option.some.injEq]at e;subst e;exact h
 simp only[if_pos c,Option.some.injEq]at e;subst e;have C:(br (some s) x i false).2=0:=by
  unfold cf at c;by_cases y:(br (some s) x i false).2=0
  ·exact y
  ·simp only[ne_eq,y,not_false_eq_true,if_true]at c
 obtain⟨o,k,rfl,q,z,D,E,G⟩:=fS h.ok C;have u:=h.ok.inside q D E;rw[z,c9];have r: ∀j,s.st.getD j 0=1→HL.size {s with W:=s.W.set k to} (2*j)=s.size (2*j):=fun j d=>HL.size_set (u j d);have t: ∀j,s.st.getD j 0=1→2*j≠k:=fun j d=>by
  intro F;rcases Nat.lt_trichotomy o j with l|l|l
  ·have:=h.ok.dj o j q d l;omega
  ·subst l;omega
  ·have:=h.ok.dj j o d q l;have:=(h.ok.sz d).1;omega
 refine⟨by rw[z,c9]at m;exact m,h.bf,fun j d=>?_,h.pz,fun j d=>?_,h.b0,h.z0,h.pm.congr rfl rfl (fun _=>Iff.rfl) (fun j d=>?_),h.hd⟩
 ·simp only;rw[aI (Ne.symm (t j d))];exact h.ids j d
 ·have w:j≠k:=by
   intro F;have:=d o q;rw[r o q]at this;omega
  simp only;rw[aI (Ne.symm w)];exact h.fz j fun i hi=>by have:=d i hi;rw[r i hi]at this;exact this
 ·simp only;rw[aI (Ne.symm (t j d))]
theorem HL.Inv.pin (h:s.Inv) {v:Nat} (e:iL (some s) x v=some s') (d:s'.Ok) (j: ∀i,s.st.getD i 0≠1→s'.pn.getD i 0=s.pn.getD i 0):s'.Inv:=by
 unfold iL at e;by_cases c:cK (some s) x=0;rotate_left
 ·simp only[if_neg c,Option.some.injEq]at e;subst e;exact h
 simp only[if_pos c,Option.some.injEq]at e;subst e;exact⟨d,h.bf,h.ids,fun i hi=>(j i hi).trans (h.pz i hi),h.fz,h.b0,h.z0,h.pm.congr rfl rfl (fun _=>Iff.rfl) (fun _ _=>rfl),h.hd⟩
theorem HL.Inv.kill (h:s.Inv) (e:dh (some s) x=some s') (u:s'.Ok):s'.Inv:=by
 obtain⟨t,G,_,w,y,H⟩:=tU h.ok x;rw[G]at e;cases e;rcases H with rfl|⟨i,hi,z,r,I,F⟩
 ·exact h
 obtain⟨L,M,N,_⟩:=h.ok.sz hi;have o:2*i+(s.size (2*i)).toNat≤s.W.length:=by omega
 have m: ∀j,s'.st.getD j 0=1→j≠i∧s.st.getD j 0=1:=by
  intro j k;rw[r]at k;by_cases e:j=i
  ·subst e;have:=(h.ok.start hi).1;rw[a8 this]at k;cases k
  ·exact⟨e,by rw[aI (Ne.symm e)]at k;exact k⟩
 have l: ∀j,j≠i→s.st.getD j 0=1→ ∀t:Nat,2*j≤t→(t:Int)<((2*j:Nat):Int)+s.size (2*j)→s'.W.getD t 0=s.W.getD t 0:=fun j k d t O P=>by
  rw[F,kZ o,if_neg];rcases Nat.lt_or_ge i j with q|q
  ·have:=h.ok.dj i j hi d q;omega
  ·have:=h.ok.dj j i d hi (by omega);omega
 have C: ∀j,j≠i→s.st.getD j 0=1→s'.size (2*j)=s.size (2*j):=fun j k d=>by
  unfold HL.size;have:=(h.ok.sz d).1;rw[l j k d (2*j+1) (by omega) (by omega)]
 refine⟨u,fun j k=>by rw[w]at k⊢;exact h.bf j k,fun j k=>?_,fun j k=>?_,fun t J=>?_,by rw[w];exact h.b0,fun e=>h.z0 (m 0 e).2,h.pm.kill hi z y (fun j=>⟨m j,fun e=>by rw[r,aI (Ne.symm e.1)];exact e.2⟩) (fun j k d=>l j k d (2*j) (by omega) (by have:=(h.ok.sz d).1;omega)),fun j k=>by rw[w];exact h.hd j (m j k).2⟩
 ·obtain⟨D,d⟩:=m j k;have:=(h.ok.sz d).1;rw[l j D d (2*j) (by omega) (by omega)];exact h.ids j d
 ·rw[I];by_cases e:j=i
  ·subst e;by_cases E:j<s.pn.length
   ·rw[a8 E]
   ·simp[List.getD_eq_getElem?_getD,List.getElem?_eq_none (Nat.not_lt.1 E),E]
  ·rw[aI (Ne.symm e)];refine h.pz j fun K=>k ?_;rw[r,aI (Ne.symm e)];exact K
 ·rw[F,kZ o];by_cases c:2*i≤t∧t<2*i+(s.size (2*i)).toNat
  ·rw[if_pos c]
  ·rw[if_neg c];refine h.fz t fun j k=>?_;by_cases e:j=i
   ·subst e;omega
   ·have:=J j (by rw[r,aI (Ne.symm e)];exact k);rw[C j e k]at this;exact this
theorem HL.Inv.rY (h:s.Inv) {B':List (Int×Int)} (j:B'.length=s.B.length) (k: ∀i,i<s.B.length→(B'.getD i (0,0)).1=0→B'.getD i (0,0)=(0,0)) (d:B'.getD 0 (0,0)=s.B.getD 0 (0,0)) (l: ∀i,s.st.getD i 0=1→(s.B.getD (i/32) (0,0)).1=1∨(s.B.getD (i/32) (0,0)).1=2→(B'.getD (i/32) (0,0)).1=1∨(B'.getD (i/32) (0,0)).1=2):HL.Inv {s with B:=B'}:=
 ⟨h.ok.rY j,fun i hi=>k i (by rw[←j];exact hi),h.ids,h.pz,h.fz,by simp only[d];exact h.b0,h.z0,h.pm.congr rfl rfl (fun _=>Iff.rfl) (fun _ _=>rfl),fun i hi=>l i hi (h.hd i hi)⟩
theorem vw (h:s.Inv) (k:Nat) (b:Int):s.abs.bs (k:Int) b=bs (some s) (k:Int) 1 (1,b)∧ ∃s',bW (some s) (k:Int) 1 (1,b) (0,0)=some s'∧s'.abs=s.abs.bW (k:Int) b∧s'.Inv∧s'.born=s.born∧s'.B.length=s.B.length:=by
 have r:s.abs.bs (k:Int) b=bs (some s) (k:Int) 1 (1,b):=by
  unfold RL.bs bs iK;have t:s.abs.B=s.B:=rfl;rw[t];simp only;by_cases d: ¬(1≤(k:Int)∧(k:Int)<(s.B.length:Int))∨da b=false
  ·rw[if_pos d,if_pos];rcases d with d|d
   ·left;simp only[Bool.and_eq_false_iff,decide_eq_false_iff_not];omega
   ·exact .inr (.inr (.inr d))
  ·have u:1≤(k:Int)∧(k:Int)<(s.B.length:Int):=Decidable.byContradiction fun e=>d (.inl e);have o: ¬da b=false:=fun e=>d (.inr e);have w: ¬((decide (1≤(k:Int))&&decide ((k:Int)<(s.B.length:Int)))=false∨(1:Int)<1∨(s.B.length:Int)-(k:Int)<1∨da b=false):=by
    rintro(l|l|l|l)
    ·simp only[Bool.and_eq_false_iff,decide_eq_false_iff_not]at l;omega
    ·omega
    ·omega
    ·exact o l
   have j:k<s.B.length:=by omega
   have y:(s.B.drop k).take 1=[s.B.getD k (0,0)]:=by
    rw[List.drop_eq_getElem_cons j,List.take_succ_cons,List.take_zero,List.getD_eq_getElem?_getD,List.getElem?_eq_getElem j];rfl
   rw[if_neg d,if_neg w,c9,show(1:Int).toNat=1 from rfl,y];simp only[List.any_cons,List.any_nil,Bool.or_false];by_cases q:(s.B.getD k (0,0)).1=0
   ·rw[h.bf k j q];rfl
   ·rw[if_pos q,if_pos];simp only[bne_iff_ne,ne_eq];intro e;exact q (by rw[e])
 refine⟨r,?_⟩;unfold bW RL.bW;simp only;rw[←r];by_cases c:s.abs.bs (k:Int) b=0;rotate_left
 ·rw[if_neg c,if_neg c];exact⟨s,rfl,rfl,h,rfl,rfl⟩
 rw[if_pos c,if_pos c];obtain⟨z,j⟩:1≤k∧k<s.B.length:=by
  unfold RL.bs at c;by_cases d: ¬(1≤(k:Int)∧(k:Int)<(s.abs.B.length:Int))∨da b=false
  ·rw[if_pos d]at c;cases c
  ·have:1≤(k:Int)∧(k:Int)<(s.abs.B.length:Int):=Decidable.byContradiction fun e=>d (.inl e);exact⟨by omega,Int.ofNat_lt.1 this.2⟩
 have B:(dZ s.B (k:Int).toNat (0,0) (1:Int).toNat).set (k:Int).toNat (1,b)=s.B.set k (1,b):=by
  rw[c9,show(1:Int).toNat=1 from rfl];simp only[dZ,Nat.add_zero,List.set_set]
 rw[B,c9];refine⟨_,rfl,rfl,h.rY (by simp) (fun i hi m=>?_) (aI (by omega)) (fun i _ C=>?_),rfl,by simp⟩;rotate_left
 ·by_cases e:k=i/32
  ·rw[←e,a8 j];exact .inl rfl
  ·rw[aI e];exact C
 by_cases e:k=i
 ·subst e;rw[a8 j]at m;cases m
 ·rw[aI e]at m⊢;exact h.bf i hi m
theorem gi (B:List (Int×Int)) (k:Nat) (x:Int×Int): ∀n,k+n≤B.length→ ∀i,(dZ B k x n).getD i (0,0)=if k≤i∧i<k+n then x else B.getD i (0,0)
 |0,_,i=>by rw[if_neg (by omega)];rfl
 |n+1,h,i=>by
  unfold dZ
  by_cases e:k+n=i
  ·subst e
   rw[a8 (by rw[b5];omega),if_pos (by omega)]
  ·rw[aI e,gi B k x n (by omega) i]
   by_cases c:k≤i∧i<k+n
   ·rw[if_pos c,if_pos (by omega)]
   ·rw[if_neg c,if_neg (by omega)]
theorem xr {k:Nat} {b:Int} (h:s.abs.cg (k:Int) (n:Int) b=0) {j:Nat} (m:j<n):(s.B.getD (k+j) (0,0)).1=0:=by
 unfold RL.cg at h;have o:s.abs.B=s.B:=rfl;rw[o]at h;by_cases d: ¬(1≤(k:Int)∧(k:Int)<(s.B.length:Int))∨(n:Int)<1∨(s.B.length:Int)-(k:Int)<(n:Int)∨da b=false
 ·rw[if_pos d]at h;cases h
 rw[if_neg d]at h;simp only[c9]at h;by_cases l:(List.range n).any (fun j=>(s.B.getD (k+j) (0,0)).1 !=0)=true
 ·rw[if_pos l]at h;cases h
 ·refine Decidable.byContradiction fun c=>l ?_;rw[List.any_eq_true];exact⟨j,List.mem_range.2 m,by simpa using c⟩
theorem AT (h:s.Inv) (k n:Nat) (d:Int):s.abs.cg (k:Int) (n:Int) d=bs (some s) (k:Int) (n:Int) (2,d)∧ ∃s',bW (some s) (k:Int) (n:Int) (2,d) (3,d)=some s'∧s'.abs=s.abs.eY (k:Int) (n:Int) d∧s'.Inv∧s'.born=s.born∧s'.B.length=s.B.length:=by
 have F:s.abs.cg (k:Int) (n:Int) d=bs (some s) (k:Int) (n:Int) (2,d):=by
  unfold RL.cg bs iK;have G:s.abs.B=s.B:=rfl;rw[G];simp only;by_cases b: ¬(1≤(k:Int)∧(k:Int)<(s.B.length:Int))∨(n:Int)<1∨(s.B.length:Int)-(k:Int)<(n:Int)∨da d=false
  ·rw[if_pos b,if_pos];rcases b with b|b|b|b
   ·left;simp only[Bool.and_eq_false_iff,decide_eq_false_iff_not];omega
   ·exact .inr (.inl b)
   ·exact .inr (.inr (.inl b))
   ·exact .inr (.inr (.inr b))
  ·have z:1≤(k:Int)∧(k:Int)<(s.B.length:Int):=Decidable.byContradiction fun e=>b (.inl e);have r: ¬(n:Int)<1:=fun e=>b (.inr (.inl e));have t: ¬(s.B.length:Int)-(k:Int)<(n:Int):=fun e=>b (.inr (.inr (.inl e)));have B: ¬da d=false:=fun e=>b (.inr (.inr (.inr e)));have H: ¬((decide (1≤(k:Int))&&decide ((k:Int)<(s.B.length:Int)))=false∨(n:Int)<1∨(s.B.length:Int)-(k:Int)<(n:Int)∨da d=false):=by
    rintro(m|m|m|m)
    ·simp only[Bool.and_eq_false_iff,decide_eq_false_iff_not]at m;omega
    ·exact r m
    ·exact t m
    ·exact B m
   rw[if_neg b,if_neg H,c9,c9];have key:(List.range n).any (fun j=>(s.B.getD (k+j) (0,0)).1 !=0)=true↔((s.B.drop k).take n).any (fun x=>x !=(0,0))=true:=by
    simp only[List.any_eq_true];constructor
    ·rintro⟨j,l,w⟩;have C:=List.mem_range.1 l;have o:k+j<s.B.length:=by omega
     refine⟨s.B.getD (k+j) (0,0),List.mem_iff_getElem?.2 ⟨j,?_⟩,?_⟩
     ·rw[List.getElem?_take,if_pos C,List.getElem?_drop];simp[o]
     ·simp only[bne_iff_ne,ne_eq]at w⊢;intro e;exact w (by rw[e])
    ·rintro⟨x,w,u⟩;obtain⟨j,l⟩:=List.mem_iff_getElem?.1 w;rw[List.getElem?_take]at l;split at l
     ·rename_i D;rw[List.getElem?_drop]at l;have o:k+j<s.B.length:=(List.getElem?_eq_some_iff.1 l).1;have e:s.B.getD (k+j) (0,0)=x:=by rw[List.getD_eq_getElem?_getD,l];rfl
      refine⟨j,List.mem_range.2 D,?_⟩;rw[e];simp only[bne_iff_ne,ne_eq]at u⊢;intro I;have:=h.bf (k+j) o (by rw[e];exact I);rw[e]at this;exact u this
     ·cases l
   by_cases c:(List.range n).any (fun j=>(s.B.getD (k+j) (0,0)).1 !=0)=true
   ·rw[if_pos c,if_pos (key.1 c)]
   ·rw[if_neg c,if_neg (fun e=>c (key.2 e))]
 refine⟨F,?_⟩;unfold bW RL.eY;simp only;rw[←F];by_cases c:s.abs.cg (k:Int) (n:Int) d=0;rotate_left
 ·rw[if_neg c,if_neg c];exact⟨s,rfl,rfl,h,rfl,rfl⟩
 rw[if_pos c,if_pos c];have E:1≤k∧k+n≤s.B.length∧1≤n:=by
  unfold RL.cg at c;by_cases b: ¬(1≤(k:Int)∧(k:Int)<(s.abs.B.length:Int))∨(n:Int)<1∨(s.abs.B.length:Int)-(k:Int)<(n:Int)∨da d=false
  ·rw[if_pos b]at c;cases c
  ·have J:s.abs.B.length=s.B.length:=rfl;rw[J]at b;have z:1≤(k:Int)∧(k:Int)<(s.B.length:Int):=Decidable.byContradiction fun e=>b (.inl e);have r: ¬(n:Int)<1:=fun e=>b (.inr (.inl e));have t: ¬(s.B.length:Int)-(k:Int)<(n:Int):=fun e=>b (.inr (.inr (.inl e)));omega
 rw[c9,c9];refine⟨_,rfl,rfl,h.rY (by simp[b5]) (fun i hi q=>?_) (by rw[aI (by omega),gi _ _ _ _ E.2.1,if_neg (by omega)]) (fun i _ K=>?_),rfl,by simp[b5]⟩;rotate_left
 ·by_cases e:k=i/32
  ·rw[←e,a8 (by rw[b5];omega)];exact .inr rfl
  ·rw[aI e,gi _ _ _ _ E.2.1];by_cases y:k≤i/32∧i/32<k+n
   ·exfalso;have L:=xr c (j:=i/32-k) (by omega);rw[show k+(i/32-k)=i/32 by omega]at L;omega
   ·rw[if_neg y];exact K
 by_cases e:k=i
 ·subst e;rw[a8 (by rw[b5];exact hi)]at q;cases q
 ·rw[aI e,gi _ _ _ _ E.2.1]at q⊢;by_cases y:k≤i∧i<k+n
  ·rw[if_pos y]at q;cases q
  ·rw[if_neg y]at q⊢;exact h.bf i hi q
theorem BQ (d:2≤n) (j:n≤64): ∃s,my (n:Int)=some s∧s.Inv∧s.abs=⟨List.replicate n (0,0),[],[],0⟩∧s.born=0∧s.B.length=n:=by
 have e:my (n:Int)=some ⟨List.replicate n (0,0),List.replicate (64*n) 0,List.replicate (32*n) 0,List.replicate (32*n) 0,[],[],0⟩:=by
  unfold my;rw[if_pos ⟨by omega,by omega⟩];simp only[c9]
 have z: ∀(m i:Nat),(List.replicate m (0:Nat)).getD i 0=0:=fun m i=>by
  simp only[List.getD_eq_getElem?_getD,List.getElem?_replicate];split<;>rfl
 have b: ∀(m i:Nat),(List.replicate m (0:Int)).getD i 0=0:=fun m i=>by
  simp only[List.getD_eq_getElem?_getD,List.getElem?_replicate];split<;>rfl
 refine⟨_,e,⟨BA e,fun i hi _=>?_,fun i hi=>?_,fun i _=>z _ i,fun k _=>b _ k,by simp[show 0<n by omega],by simp only;rw[z];omega,⟨List.nodup_nil,fun i hi=>?_,fun k v e=>?_,fun i hi=>?_⟩,fun i hi=>by simp only at hi;rw[z]at hi;cases hi⟩,?_,rfl,by simp⟩
 ·simp only[List.length_replicate]at hi;simp[hi]
 ·simp only at hi;rw[z]at hi;cases hi
 ·simp only at hi;rw[z]at hi;cases hi
 ·cases e
 ·simp only at hi;rw[z]at hi;cases hi
 ·show RL.mk _ _ [] 0=_;congr 1;have:(HL.mk (List.replicate n (0,0)) (List.replicate (64*n) 0) (List.replicate (32*n) 0) (List.replicate (32*n) 0) [] [] 0).aj=[]:=by
   unfold HL.aj bk;rw[List.filter_eq_nil_iff];intro i _;simp only[z];simp
  rw[this];rfl
end
set_option maxRecDepth 8000
theorem zk {w:World} {a:Option Addr} {fp:List Nat} {m:HO} (h:HR w a fp m) (x n b:Int) (d:x≤4611686018427387904) (j:n≤4611686018427387904):Cs Tryz.prog 247 [.pointer a,.int .i64 x,.int .i64 n,.int .i64 b] w fun v w'=>v=.int .i64 (bs m x n (2,b))∧HR w' a fp (bW m x n (2,b) (3,b))∧ae fp w w':=by
 refine en [] ?_;refine gO ?_;rw[ag rfl rfl,ag rfl rfl];refine gO ?_;rw[ag rfl rfl,ag rfl rfl];refine gO ?_;refine aw (BC h x n (2,b) (3,b) d j) ?_;rintro v w' ⟨rfl,k,l⟩;refine gO ?_;exact⟨k,l⟩
section
structure nz (w:World) (b hb rb qb kb:Nat) (s:HL) (R:Rt.MS) (fh fr ff fk:List Nat):Prop where
 at_:At w b [.pointer (some ⟨hb,0,none⟩),.pointer (some ⟨rb,0,none⟩),.pointer (some ⟨qb,0,none⟩),.pointer (some ⟨kb,0,none⟩)]
 inv:s.Inv
 h:HR w (some ⟨hb,0,none⟩) fh (some s)
 r:Rt.PR w (some ⟨rb,0,none⟩) fr (some R)
 f:FM w qb s.abs ff
 k:Rt.RR w (some ⟨kb,0,none⟩) fk (some R)
 d1:b∉fh∧b∉fr∧b∉ff∧b∉fk
 d2: ∀x,x∈fh→x∉fr∧x∉ff∧x∉fk
 d3: ∀x,x∈fr→x∉ff∧x∉fk
 d4: ∀x,x∈ff→x∉fk
def SC (w:World) (b:Nat) (s:HL) (R:Rt.MS) (fp:List Nat):Prop:= ∃l m o q d fr j k,fp=b::(d++(fr++(j++k)))∧nz w b l m o q s R d fr j k
section
variable {w w':World} {b hb rb qb kb:Nat} {s:HL} {R:Rt.MS} {fh fr ff fk:List Nat}
theorem nz.keep {S:List Nat} (h:nz w b hb rb qb kb s R fh fr ff fk) (o:ae S w w') (j: ∀x,x∈b::(fh++(fr++(ff++fk)))→x∉S):nz w' b hb rb qb kb s R fh fr ff fk:=
 ⟨h.at_.keep o (j b (by simp)),h.inv,h.h.keep o fun x d=>j x (by simp[d]),h.r.keep o fun x d=>j x (by simp[d]),h.f.keep o fun x d=>j x (by simp[d]),h.k.keep o fun x d=>j x (by simp[d]),h.d1,h.d2,h.d3,h.d4⟩
theorem nz.ab (h:nz w b hb rb qb kb s R fh fr ff fk) (o:ae [] w w'):nz w' b hb rb qb kb s R fh fr ff fk:=h.keep o fun _ _=>by simp
theorem nz.lt (h:nz w b hb rb qb kb s R fh fr ff fk): ∀x,x∈b::(fh++(fr++(ff++fk)))→x<w.heap.size:=by
 intro x d;simp only[List.mem_cons,List.mem_append]at d;rcases d with rfl|d|d|d|d
 ·exact h.at_.lt
 ·exact h.h.lt x d
 ·exact h.r.lt x d
 ·exact h.f.lt x d
 ·exact h.k.lt x d
theorem nz.QB (h:nz w b hb rb qb kb s R fh fr ff fk) (o:ae ff w w') {t:RL} {j:List Nat} (B:FM w' qb t j) (m: ∀x,x∈j→x∈ff∨w.heap.size≤x):
  At w' b [.pointer (some ⟨hb,0,none⟩),.pointer (some ⟨rb,0,none⟩),.pointer (some ⟨qb,0,none⟩),.pointer (some ⟨kb,0,none⟩)]∧HR w' (some ⟨hb,0,none⟩) fh (some s)∧Rt.PR w' (some ⟨rb,0,none⟩) fr (some R)∧Rt.RR w' (some ⟨kb,0,none⟩) fk (some R)∧
   (b∉fh∧b∉fr∧b∉j∧b∉fk)∧(∀x,x∈fh→x∉fr∧x∉j∧x∉fk)∧(∀x,x∈fr→x∉j∧x∉fk)∧(∀x,x∈j→x∉fk):=by
 have lt:=h.lt;have u: ∀x,x∉ff→x<w.heap.size→x∉j:=fun x y C z=>by rcases m x z with q|q;exact y q;omega
 refine⟨h.at_.keep o h.d1.2.2.1,h.h.keep o fun x d=>(h.d2 x d).2.1,h.r.keep o fun x d=>(h.d3 x d).1,h.k.keep o fun x d l=>h.d4 x l d,⟨h.d1.1,h.d1.2.1,u b h.d1.2.2.1 (lt b (by simp)),h.d1.2.2.2⟩,fun x d=>⟨(h.d2 x d).1,u x (h.d2 x d).2.1 (lt x (by simp[d])),(h.d2 x d).2.2⟩,fun x d=>⟨u x (h.d3 x d).1 (lt x (by simp[d])),(h.d3 x d).2⟩,fun x d l=>?_⟩;rcases m x d with q|q
 ·exact h.d4 x q l
 ·have:=lt x (by simp[l]);omega
theorem nz.both {u q:World} (h:nz w b hb rb qb kb s R fh fr ff fk) {s':HL} {l:List Nat} (C:s'.Inv) (y:ae ff w u) (z:FM u qb s'.abs l) (m: ∀x,x∈l→x∈ff∨w.heap.size≤x) (o:ae fh u q) (D:HR q (some ⟨hb,0,none⟩) fh (some s')):
  nz q b hb rb qb kb s' R fh fr l fk∧ae (b::(fh++(fr++(ff++fk)))) w q:=by
 obtain⟨E,J,F,G,B,t,H,I⟩:=h.QB y z m;refine⟨⟨E.keep o B.1,C,D,F.keep o fun x j d=>(t x d).1 j,z.keep o fun x j d=>(t x d).2.1 j,G.keep o fun x j d=>(t x d).2.2 j,B,t,H,I⟩,?_⟩;exact(y.mono fun x j=>.inl (by simp[j])).same (o.mono fun x j=>.inl (by simp[j]))
end
def rH (s:HL) (n:Nat):Int:=if s.aj.length=0 then 0 else((2*s.aj.getD (n%s.aj.length) 0:Nat):Int)
theorem tW {s:HL} (h:s.Ok) (n:Nat):0≤rH s n∧rH s n≤4096:=by
 unfold rH;split
 ·omega
 ·rename_i d;have b:n%s.aj.length<s.aj.length:=Nat.mod_lt _ (by omega);have:=bq.1 (show s.aj.getD (n%s.aj.length) 0∈s.aj by simp[b]);have:=(h.start this).1;have:=h.sl;have:=h.jd;omega
theorem Wj {w:World} {b z:Nat} {s:HL} {B:List Nat} {C D E:Value} (l:At w b [C,D,.pointer (some ⟨z,0,none⟩),E]) (F:FM w z s.abs B) (n:Nat) (P:n<100):Cs Tryz.prog 72 [.pointer (some ⟨b,0,none⟩),.int .i64 (n:Int)] w fun v w'=>v=.int .i64 (rH s n)∧ae [] w w':=by
 obtain⟨Q,R,S,T,fO,U,L,G,q⟩:=F;have r:=q.len;have u:s.abs.O.length=s.aj.length:=by simp[HL.abs]
 have H:=q.ok.ol;obtain⟨V,W,m⟩:=q.C8;refine en [0] ?_;by_cases X:L.length=0
 ·refine xG (cU (show¬(n:Int)= -77 by omega)) (aX (show¬(1000:Int)≤(n:Int) by omega)) (aX (show¬(n:Int)<0 by omega)) (aX (show¬(100:Int)≤(n:Int) by omega)) l.cell q.hb.cell m (cZ (show((L.length:Nat):Int)=0 by omega)) ?_;refine⟨?_,ae.refl _ _⟩;unfold rH;rw[if_pos (by omega)]
 have o:=q.ab (ae.drew [] w);obtain⟨I,cap,ys,J,t,_,_⟩:=o.row (by omega);have d:=m;rw[J]at d;cases d;have k:n%L.length<L.length:=Nat.mod_lt _ (by omega);have K:(n:Int).tmod (L.length:Int)=((n%L.length:Nat):Int):=by rw[Int.tmod_eq_emod_of_nonneg (by omega)];omega
 have M:(0:Int)≤((n%L.length:Nat):Int)∧((n%L.length:Nat):Int)<(L.length:Int):=⟨by omega,by omega⟩;have y:ko (L.length:Int) (.int .i64 ((n%L.length:Nat):Int))=some (.int .i64 ((n%L.length:Nat):Int)):=wF (by omega) _;have N:w.drew.cell? ⟨I,n%L.length*8,none⟩=some (.int .i64 (rH s n)):=by
  have:=mL (j:=0) ys k (by omega);rw[t.cell,←Nat.add_zero (n%L.length*8),this];have O:=o.lV k;rw[show(L.getD (n%L.length) default).V[0]? =some (.int .i64 (L.getD (n%L.length) default).o.a)from rfl,←O,ns (s:=s) (i:=s.aj.getD (n%L.length) 0) (by omega) rfl];unfold rH;rw[if_neg (by omega),←u,←r];rfl
 (repeat(first|with_reducible(first|refine nx ?_|refine bA rfl ?_)|simp only[go_sem,cU (show¬(n:Int)= -77 by omega),aX (show¬(1000:Int)≤(n:Int) by omega),aX (show¬(n:Int)<0 by omega),aX (show¬(100:Int)≤(n:Int) by omega),l.cell,l.drew.cell,q.hb.cell,o.hb.cell,m,cU (show¬((L.length:Nat):Int)=0 by omega),K,y,if_pos M,c9,N]));exact ae.drew [] w
theorem NJ {w:World} {b d j k l:Nat} {s:HL} {R:Rt.MS} {m fr o q:List Nat} (h:nz w b d j k l s R m fr o q) (n:Nat) (r:n<100):Cs Tryz.prog 72 [.pointer (some ⟨b,0,none⟩),.int .i64 (n:Int)] w fun v w'=>v=.int .i64 (rH s n)∧ae [] w w':=Wj h.at_ h.f n r
theorem QD {w:World} {b D E F G:Nat} {s:HL} {R:Rt.MS} {o fr q r:List Nat} (h:nz w b D E F G s R o fr q r) (x i to:Int) (H:x≤4611686018427387904) (t:to≤4611686018427387904):
  Cs Tryz.prog 81 [.pointer (some ⟨b,0,none⟩),.int .i64 x,.int .i64 i,.int .i64 to] w fun v w'=>v=.bool true∧ ∃s',bj (some s) x i to=some s'∧nz w' b D E F G s' R o fr q r∧ae (b::(o++(fr++(q++r)))) w w':=by
 have l:=h.ab (ae.drew [] w);have I:=h.lt;obtain⟨s',u,J,N,O,P,Q⟩:=gV h.inv.ok x i to;refine en [2,5,8,11,14,17,20,26,29,32,35,38,41,44,24,49,50,53,0] ?_;refine gO ?_;refine aW [b] ?_;refine aQ l.at_.cell ?_;refine bI (IL l.f x i to) ?_;rintro v S ⟨rfl,k,d⟩;refine⟨.inr ((SB.refl _ _).only d fun z m=>by simp only[aK]at m;subst m;exact⟨I _ (by simp),h.d1.2.2.1⟩),?_⟩;refine gO ?_;refine bI (po (l.h.keep d fun z m=>(h.d2 z m).2.1) x i to H t) ?_;rintro v T ⟨rfl,j,B⟩;refine⟨.inl rfl,?_⟩;rw[u]at j;rw[←J]at k;have C:s.abs.dn x i to=cf (some s) x i to:=mN h.inv.ok x i to;refine aZ C (cZ (rfl:cf (some s) x i to=cf (some s) x i to)) ?_;obtain⟨K,L⟩:=l.both (h.inv.wM u (j.ok s' rfl)) d k (fun y M=>.inl M) B j;exact⟨s',u,K,(ae.drew _ w).same L⟩
end
section
set_option maxRecDepth 8000
variable {s:HL} {q:RL}
theorem iR (n m:Nat):((n:Int).tmod (m:Int))=((n%m:Nat):Int):=by rw[Int.tmod_eq_emod_of_nonneg (by omega)];omega
def gL (a:Nat):Value:=.int .u8 (a:Int)
theorem eC (a:Nat) (h:a<256):IntKind.i64.wrap (a:Int)=(a:Int):=IntWalk.i64_in _ (by omega)
theorem dv5 (v:Value):ko 5 v=some v:=Eq.trans rfl rfl
theorem dv6 (v:Value):ko 6 v=some v:=Eq.trans rfl rfl
theorem dv3 (v:Value):ko 3 v=some v:=Eq.trans rfl rfl
theorem QE (v:Value):ko 100 v=some v:=Eq.trans rfl rfl
theorem Wk (v:Value):ko 23 v=some v:=Eq.trans rfl rfl
theorem dv4 (v:Value):ko 4 v=some v:=Eq.trans rfl rfl
theorem Wl (v:Value):ko 40 v=some v:=Eq.trans rfl rfl
attribute [go_sem] dv5 dv6 dv3 QE Wk dv4 Wl
def dO (j b d:Nat):Sh:=
 if j%8=4 then(((1+b%5%3:Nat):Int),((d%6:Nat):Int),1)else if j%8=5 then(((2+b%5%3:Nat):Int),((d%6:Nat):Int),2)else if j%8=6 then(((b%5:Nat):Int),((d%6:Nat):Int),3)
 else if j%8=7 then(((b%5:Nat):Int),((32+d%100:Nat):Int),0)else(((b%5:Nat):Int),((d%6:Nat):Int),0)
theorem xt (b d j:Nat):aS (dO b d j)=true:=by
 unfold dO;split
 ·simp[aS];omega
 split
 ·simp[aS];omega
 split
 ·simp[aS];omega
 split
 ·simp[aS];omega
 ·simp[aS];omega
theorem MJ (w:World) (b d j T:Nat) (h0:b<256) (h1:d<256) (h2:j<256):Cs Tryz.prog 77 [.agg ⟨[gL b,gL d,gL j,gL T]⟩] w fun v w'=>v=.agg ⟨bS (dO b d j)⟩∧ae [] w w':=by
 have m5:((d:Int).tmod 5)=((d%5:Nat):Int):=iR d 5;have m6:((j:Int).tmod 6)=((j%6:Nat):Int):=iR j 6;have F:((j:Int).tmod 100)=((j%100:Nat):Int):=iR j 100;have m8:((b:Int).tmod 8)=((b%8:Nat):Int):=iR b 8;have m3:(((d%5:Nat):Int).tmod 3)=((d%5%3:Nat):Int):=iR (d%5) 3;have i0:(0:Int)≤0∧(0:Int)<((4:Nat):Int):=by decide
 have i1:(0:Int)≤1∧(1:Int)<((4:Nat):Int):=by decide
 have i2:(0:Int)≤2∧(2:Int)<((4:Nat):Int):=by decide
 have n0:Int.toNat 0=0:=rfl;have n1:Int.toNat 1=1:=rfl;have n2:Int.toNat 2=2:=rfl;refine en [] ?_;refine gO ?_;refine bp fun q w1 hq pf G U=>?_;refine gO ?_;refine bp fun p w2 hp yJ H I=>?_;have J:At w2 q [gL b,gL d,gL j,gL T]:=G.ab I;(repeat(first|with_reducible(first|refine nx ?_|refine bA rfl ?_)|simp only[go_sem,show((4:Nat):Int)=4 from rfl,n1,n2,Nat.mul_one,J.cell,gL,eC d h1,eC j h2,m5,m6]));rw[ag rfl rfl,ag rfl rfl];refine gO ?_;refine bp fun t w3 ht qt K V=>?_;refine gO ?_;refine dF K rfl (by simp) (by simp[bh]) fun C pk L W=>?_;have k:At C t [.int .i64 ((d%5:Nat):Int),.int .i64 ((j%6:Nat):Int),.int .i64 0]:=L;have D:ae [] w2 C:=V.trans W fun y B=>by simp only[aK]at B;subst B;exact .inr (by omega)
 have M:At C q [gL b,gL d,gL j,gL T]:=J.ab D;have X:=H.ab D;have o4:ae [] w C:=(U.nil I).nil D;have N: ∀(r:World) (sh:Sh),At r t (bS sh)→ae [t] C r→sh=dO b d j→ ∀(kx:List XI) (ρ:Env),True:=fun _ _ _ _ _ _ _=>trivial;clear N;simp only[go_sem];refine run_seq ?_;refine bH (13::14::15::16::17::18::19::20::21::22::23::24::25::26::27::28::29::30::31::32::33::34::35::36::37::38::39::40::41::42::[]) (fun _ r=>At r t (bS (dO b d j))∧ae [t] C r) (fun kk u=>?_) (fun g r hJ=>?_)
 ·(repeat(first|with_reducible(first|refine nx ?_|refine bA rfl ?_)|simp only[go_sem,show((4:Nat):Int)=4 from rfl,n0,Nat.mul_one,Nat.zero_mul,M.cell,gL,m8]));by_cases O:b%8=4
  ·have P:IntKind.i64.wrap (1+((d%5%3:Nat):Int))=((1+d%5%3:Nat):Int):=by rw[IntWalk.i64_in _ (by omega)];omega
   refine eZ (cZ (show((b%8:Nat):Int)=4 by omega)) k.cell m3 P ?_;refine fJ k (by simp) rfl fun r E l m=>?_;refine gO ?_;refine fJ l (by simp) rfl fun Q R o z=>?_;refine gO ?_;refine u _ Q ⟨?_,m.same z⟩
   ·have:dO b d j=(((1+d%5%3:Nat):Int),((j%6:Nat):Int),1):=by unfold dO;rw[if_pos O]
    rw[this];exact o
  by_cases S:b%8=5
  ·have P:IntKind.i64.wrap (2+((d%5%3:Nat):Int))=((2+d%5%3:Nat):Int):=by rw[IntWalk.i64_in _ (by omega)];omega
   refine lY (cU (show¬((b%8:Nat):Int)=4 by omega)) (cZ (show((b%8:Nat):Int)=5 by omega)) k.cell m3 P ?_;refine fJ k (by simp) rfl fun r E l m=>?_;refine gO ?_;refine fJ l (by simp) rfl fun Q R o z=>?_;refine gO ?_;refine u _ Q ⟨?_,m.same z⟩
   ·have:dO b d j=(((2+d%5%3:Nat):Int),((j%6:Nat):Int),2):=by unfold dO;rw[if_neg O,if_pos S]
    rw[this];exact o
  by_cases Y:b%8=6
  ·refine cT (cU (show¬((b%8:Nat):Int)=4 by omega)) (cU (show¬((b%8:Nat):Int)=5 by omega)) (cZ (show((b%8:Nat):Int)=6 by omega)) ?_;refine fJ k (by simp) rfl fun r E l m=>?_;refine gO ?_;refine u _ r ⟨?_,m⟩
   ·have:dO b d j=(((d%5:Nat):Int),((j%6:Nat):Int),3):=by unfold dO;rw[if_neg O,if_neg S,if_pos Y]
    rw[this];exact l
  by_cases c7:b%8=7
  ·have P:IntKind.i64.wrap (32+((j%100:Nat):Int))=((32+j%100:Nat):Int):=by rw[IntWalk.i64_in _ (by omega)];omega
   (repeat(first|with_reducible(first|refine nx ?_|refine bA rfl ?_)|simp only[go_sem,cU (show¬((b%8:Nat):Int)=4 by omega),cU (show¬((b%8:Nat):Int)=5 by omega),cU (show¬((b%8:Nat):Int)=6 by omega),cZ (show((b%8:Nat):Int)=7 by omega),show((4:Nat):Int)=4 from rfl,n2,Nat.mul_one,M.cell,gL,eC j h2,F,P]));refine fJ k (by simp) rfl fun r E l m=>?_;refine gO ?_;refine u _ r ⟨?_,m⟩
   ·have:dO b d j=(((d%5:Nat):Int),((32+j%100:Nat):Int),0):=by unfold dO;rw[if_neg O,if_neg S,if_neg Y,if_pos c7]
    rw[this];exact l
  refine eZ (cU (show¬((b%8:Nat):Int)=4 by omega)) (cU (show¬((b%8:Nat):Int)=5 by omega)) (cU (show¬((b%8:Nat):Int)=6 by omega)) (cU (show¬((b%8:Nat):Int)=7 by omega)) ?_;refine u _ C ⟨?_,ae.refl _ _⟩
  ·have:dO b d j=(((d%5:Nat):Int),((j%6:Nat):Int),0):=by unfold dO;rw[if_neg O,if_neg S,if_neg Y,if_neg c7]
   rw[this];exact k
 obtain⟨l,m⟩:=hJ;have Z:aC r ⟨t,0,none⟩ 3=some (bS (dO b d j)):=ay l 0 3 (by simp[bS]);have hpt:p≠t:=by omega
 have hp5:=X.keep m (bg hpt);refine aQ Z ?_;refine dF (cs:=bS (dO b d j)) hp5 rfl (by simp) (dm _) fun Q R o z=>?_;rw[dz]at o;have OK:aC Q ⟨p,0,none⟩ 3=some (bS (dO b d j)):=ay o 0 3 (by simp[bS]);refine aQ OK ?_;exact(o4.trans m fun y B=>by simp only[aK]at B;subst B;exact .inr (by omega)).trans z fun y B=>by simp only[aK]at B;subst B;exact .inr (by omega)
theorem vx (k:Int):s.abs.ft k=jB (some s) k:=rfl
theorem ae.jV {S T:List Nat} {a b:World} (h:ae S a b) (d: ∀x,x∈S→x∈T):ae T a b:=h.mono fun x j=>.inl (d x j)
def qe (P:Int→Prop) (q:RL):Prop:= ∀o,o∈q.O→ ∀r,r∈o.rf→P r
abbrev zl (q:RL):Prop:=qe (fun r=>0≤r∧r≤4096) q
theorem qe.mono {P Q:Int→Prop} (h:qe P q) (b: ∀x,P x→Q x):qe Q q:=fun o d r j=>b r (h o d r j)
theorem qe.bW {P:Int→Prop} (h:qe P q) (k b:Int):qe P (q.bW k b):=by
 unfold RL.bW;split
 ·exact h
 ·exact h
theorem qe.eY {P:Int→Prop} (h:qe P q) (k n b:Int):qe P (q.eY k n b):=by
 unfold RL.eY;split
 ·exact h
 ·exact h
theorem qe.bK {P:Int→Prop} (h:qe P q) (j:P 0) (a:Int) (k:Sh):qe P (q.bK a k):=by
 unfold RL.bK;split
 ·intro o b;simp only[RL.dG,List.mem_append,aK]at b;rcases b with(b|rfl)|b
  ·exact h o (List.mem_of_mem_take b)
  ·intro r d;simp only[RL.ke,List.mem_replicate]at d;rw[d.2];exact j
  ·exact h o (List.mem_of_mem_drop b)
 ·exact h
theorem BR {x:Int} {f:Ob→Ob} {o:Ob} (h:o∈(q.vm x f).O):o∈q.O∨ ∃p,p∈q.O∧o=f p:=by
 unfold RL.vm at h;split at h
 ·exact .inl h
 ·rename_i k b;have d:=(jK b).1;rcases List.mem_or_eq_of_mem_set h with h|h
  ·exact .inl h
  ·exact .inr ⟨_,by simp[d],h⟩
theorem qe.iL {P:Int→Prop} (h:qe P q) (x:Int) (p:Bool):qe P (q.iL x p):=by
 intro o b;rcases BR b with b|⟨d,j,rfl⟩
 ·exact h o b
 ·exact h d j
theorem qe.dh {P:Int→Prop} (h:qe P q) (x:Int):qe P (q.dh x):=by
 unfold RL.dh;split
 ·exact h
 ·exact fun o b=>h o (List.mem_of_mem_eraseIdx b)
theorem qe.bj {P:Int→Prop} (h:qe P q) (x i to:Int) (j:P to):qe P (q.bj x i to):=by
 unfold RL.bj;split
 ·intro o d;rcases BR d with d|⟨k,l,rfl⟩
  ·exact h o d
  ·intro r b;rcases List.mem_or_eq_of_mem_set b with b|b
   ·exact h k l r b
   ·rw[b];exact j
 ·exact h
def Step (s s':HL):Prop:=s'.Inv∧s'.born≤s.born+1∧s'.aj.length≤s.aj.length+1∧s'.B.length=s.B.length∧ ∀P:Int→Prop,P 0→qe P s.abs→qe P s'.abs
theorem AU (s:RL) (a:Int) (b:Sh):(s.bK a b).O.length≤s.O.length+1:=by
 unfold RL.bK;split
 ·simp only[RL.dG,cH,List.length_take,List.length_drop,List.length_singleton];omega
 ·omega
theorem kg (s:HL):s.abs.O.length=s.aj.length:=by simp[HL.abs]
theorem rI {t:HL} (h:s.abs.O.length=t.abs.O.length):s.aj.length=t.aj.length:=by rw[←kg,←kg];exact h
def AV (s:HL) (j:Sh) (b a:Int) (c:Nat) (d:HL):Prop:=(c=1∧d=s)∨(c=2∧bW (some s) (a/64) ((aE j+63)/64) (2,b) (3,b)=some d)∨(c=3∧bW (some s) (a/64) 1 (1,b) (0,0)=some d)
def mP (s:HL) (b:Sh) (d:Int) (s':HL):Prop:= ∃a c,s.abs.tS b d a c∧((c=0∧s'=s)∨ ∃j,AV s b d a c j∧bK (some j) a b=some s')
theorem mP.uniq {j k:HL} {l:Sh} {m:Int} (h:mP s l m j) (b:mP s l m k):j=k:=by
 obtain⟨a,c,u,h⟩:=h;obtain⟨E,F,q,b⟩:=b;obtain⟨rfl,r⟩:=u.uniq q;rcases h with⟨t,rfl⟩|⟨w,d,y⟩<;>rcases b with⟨z,rfl⟩|⟨B,o,C⟩
 ·rfl
 ·subst t;rcases o with⟨h,_⟩|⟨h,_⟩|⟨h,_⟩<;>cases h
 ·subst z;rcases d with⟨h,_⟩|⟨h,_⟩|⟨h,_⟩<;>cases h
 ·have D:c≠0:=fun e=>by subst e;rcases d with⟨h,_⟩|⟨h,_⟩|⟨h,_⟩<;>cases h
  obtain rfl:=r D;have:w=B:=by
   rcases d with⟨h,e⟩|⟨h,e⟩|⟨h,e⟩<;>rcases o with⟨g,f⟩|⟨g,f⟩|⟨g,f⟩<;>first|(rw[e,f];done)|exact Option.some.inj (e.symm.trans f)|(exfalso;omega)
  subst this;exact Option.some.inj (y.symm.trans C)
theorem MK {w:World} {b hb rb qb kb:Nat} {R:Rt.MS} {J fr K fk:List Nat} (h:nz w b hb rb qb kb s R J fr K fk) (y:Sh) (hv:aS y=true) (E:Int) (Ck:s.born≤1000) (SE:s.aj.length≤1000):
  Cs Tryz.prog 76 [.pointer (some ⟨b,0,none⟩),.agg ⟨bS y⟩,.int .i64 E] w fun v w'=>v=.bool true∧ ∃s' L,(Step s s'∧mP s y E s')∧nz w' b hb rb qb kb s' R J fr L fk∧ae (b::(J++(fr++(K++fk)))) w w'∧ ∀x,x∈L→x∈K∨w.heap.size≤x:=by
 refine en [2,5,8,11,14,17,22,23,26,29,32,35,0,2,5,8,11,14,17,23,21,28,29,0,2,5,8,11,14,17,22,23,26,29,32,35,0,2,5,8,11,14,17,22,23,26,29,32,35,0] ?_;refine gO ?_;refine bp fun q w1 hq pf gz ja=>?_;have h1:=h.ab ja;have B:=h.lt;have P2: ∀x,x∈b::(J++(fr++(K++fk)))→x≠q:=fun x d=>by have:=B x d;omega
 have F:aC w1.drew ⟨q,0,none⟩ 3=some (bS y):=ay gz.drew 0 3 (by simp[bS]);have hd:=h1.ab (ae.drew [] w1);have o1:=ja.nil (ae.drew [] w1);refine gO ?_;refine aW [b,q] ?_;refine aZ hd.at_.cell F ?_;refine bI (MH hd.f y E) ?_;rintro v M ⟨a,ok,t,c,rfl,C,jq,xH,ZP⟩;refine⟨.inl rfl,?_⟩;have NH:At M q (bS y):=gz.drew.keep jq fun e=>(P2 q (by simp[e])) rfl;have Z: ∀w' S,ae S M w'→q∉S→aC w' ⟨q,0,none⟩ 3=some (bS y):=fun w' S o hS=>ay (NH.keep o hS) 0 3 (by simp[bS]);obtain⟨g1,g2,g3,g4,d1,N,d3,d4⟩:=hd.QB jq C (fun x d=>.inl d);have ot: ∀ {u v:World},ae K u v→ae (b::(J++(fr++(K++fk)))) u v:=fun o=>o.jV fun x d=>by simp[d]
 have oh: ∀ {u v:World},ae J u v→ae (b::(J++(fr++(K++fk)))) u v:=fun o=>o.jV fun x d=>by simp[d]
 have o2:ae (b::(J++(fr++(K++fk)))) w M:=o1.of_nil.same (ot jq);have Wm:c=0→mP s y E s:=fun e=>⟨a,c,ZP,.inl ⟨e,rfl⟩⟩;have hpu: ∀m s',AV s y E a c m→bK (some m) a y=some s'→mP s y E s':=fun m s' h1 h2=>⟨a,c,ZP,.inr ⟨m,h1,h2⟩⟩;rcases xH with⟨rfl,rfl,IU⟩|⟨rfl,k,hk,QF⟩
 ·refine gO ?_;exact⟨s,K,⟨⟨h.inv,by omega,by omega,rfl,fun _ _ h=>h⟩,Wm IU⟩,⟨g1,h.inv,g2,g3,C,g4,d1,N,d3,d4⟩,o2,fun x d=>.inl d⟩
 have fin: ∀(G:World) (m:HL) (a3:Int),0≤a3→a3≤5000→m.Inv→m.born=s.born→m.aj.length=s.aj.length→m.B.length=s.B.length→FM G qb m.abs K→HR G (some ⟨hb,0,none⟩) J (some m)→ae J M G→
   ∀(ρ:Env),ρ 0=.pointer (some ⟨b,0,none⟩)→ρ 4=.pointer (some ⟨q,0,none⟩)→ρ 7=.int .i64 a3→True:=fun _ _ _ _ _ _ _ _ _ _ _ _ _ _ _ _=>trivial
 clear fin;have O:=h.inv;have Fb:=h.inv.ok.jd;(repeat(first|with_reducible(first|refine Er ?_|refine Es ?_|refine SG ?_|refine Et ?_|refine Eu ?_|refine bA rfl ?_)|simp only[go_sem]));refine kM ?_;simp only[go_sem];refine mo (run_seq ?_);refine bH (9::10::27::28::29::30::31::32::33::34::35::36::37::38::39::40::41::42::43::44::45::46::47::48::49::50::51::52::53::54::55::[]) (fun _ G=> ∃m,(AV s y E a c m∧ ∀P:Int→Prop,P 0→qe P s.abs→qe P m.abs)∧m.Inv∧m.born=s.born∧m.aj.length=s.aj.length∧m.B.length=s.B.length∧FM G qb m.abs K∧HR G (some ⟨hb,0,none⟩) J (some m)∧ae J M G∧0≤a∧a≤5000) (fun kk jS=>?_) (fun g G hJ=>?_)
 ·rcases QF with⟨MA,k1,k2,k3,k4,k5,rfl,F⟩|⟨MA,rfl,ce,rfl,F⟩|⟨MA,rfl,ce,rfl,F⟩
  ·obtain⟨na,rfl⟩: ∃n:Nat,a=n:=⟨a.toNat,by omega⟩;have Y:((na/64:Nat):Int)=(k:Int):=by omega
   have N5:jB (some s) (k:Int)=1:=k3;refine cT (iI na (by omega)) Y g1.cell ?_;refine aH (qy g2 (k:Int)) ?_;refine aZ N5 (cU (show¬(1:Int)=0 by omega)) ?_;refine jS _ M ⟨s,⟨.inl ⟨F,rfl⟩,fun _ _ h=>h⟩,O,rfl,rfl,rfl,C,g2,ae.refl _ _,by omega,by omega⟩
  ·obtain⟨n,hn⟩: ∃n:Nat,(aE y+63)/64=n:=⟨((aE y+63)/64).toNat,by omega⟩;rw[hn]at ce C;obtain⟨hE,m,Y,Q,e3,e4,e5⟩:=AT O k n E;rw[←Q]at C;have aa3:(n:Int)≤64:=by
    have D:=ce;unfold RL.cg at D;by_cases T: ¬(1≤(k:Int)∧(k:Int)<(s.abs.B.length:Int))∨(n:Int)<1∨(s.abs.B.length:Int)-(k:Int)<(n:Int)∨da E=false
    ·rw[if_pos T]at D;cases D
    have c1b: ¬(s.abs.B.length:Int)-(k:Int)<(n:Int):=fun e=>T (.inr (.inr (.inl e)));have:s.abs.B.length=s.B.length:=rfl;omega
   have H:jB (some s) (k:Int)=0:=by
    have D:=ce;unfold RL.cg at D;by_cases T: ¬(1≤(k:Int)∧(k:Int)<(s.abs.B.length:Int))∨(n:Int)<1∨(s.abs.B.length:Int)-(k:Int)<(n:Int)∨da E=false
    ·rw[if_pos T]at D;cases D
    rw[if_neg T]at D;have Wn:1≤(k:Int)∧(k:Int)<(s.abs.B.length:Int):=Decidable.byContradiction fun e=>T (.inl e);have c1b: ¬(n:Int)<1:=fun e=>T (.inr (.inl e));by_cases c2:(List.range (n:Int).toNat).any (fun j=>(s.abs.B.getD ((k:Int).toNat+j) (0,0)).1 !=0)=true
    ·rw[if_pos c2]at D;cases D
    ·have hz:(s.abs.B.getD k (0,0)).1=0:=by
      refine Decidable.byContradiction fun e=>c2 (List.any_eq_true.2 ⟨0,List.mem_range.2 (by omega),?_⟩);simpa using e
     rw[←vx];unfold RL.ft;rw[if_pos ⟨by omega,Wn.2⟩,c9];exact hz
   have e6:IntKind.i64.wrap (((64*k:Nat):Int).tdiv 64)=(k:Int):=by rw[iI (64*k) (by omega)];omega
   refine aZ e6 g1.cell ?_;refine aH (qy g2 (k:Int)) ?_;refine cT H (cZ (rfl:(0:Int)=0)) (Z M [] (ae.refl _ _) (by simp)) ?_;refine aM (xk M y) fun U r=>?_;have H3:=Z U.drew [] (r.nil (ae.drew [] U)) (by simp);have Wo:=((NH.ab r).drew).lt;have GU:=((g1.ab r).drew).lt;have GJ: ∀z,z∈[b,q]→z<U.drew.heap.size∧z∉([]:List Nat):=fun z hz=>⟨by simp only[List.mem_cons,List.not_mem_nil,or_false]at hz;rcases hz with rfl|rfl;exact GU;exact Wo,by simp⟩;refine aQ (aU MA) ?_;refine aW [b,q] ?_;(repeat(first|with_reducible(first|refine nx ?_|refine bA rfl ?_)|simp only[go_sem,((g1.ab r).drew).cell,H3]));refine jr (FU U.drew y) (.inr ⟨SB.refl _ _,GJ⟩) fun w5 jv=>?_;have o5:=(r.nil (ae.drew [] U)).nil jv;rw[hn];refine gO ?_;refine bI (zk (g2.ab o5) (k:Int) (n:Int) E (by omega) (by omega)) ?_;rintro v w6 ⟨rfl,V,W⟩;refine⟨.inl rfl,?_⟩;rw[Y]at V;have Wp:bs (some s) (k:Int) (n:Int) (2,E)=0:=by rw[←hE];exact ce
   refine aZ Wp (dg (rfl:(0:Int)=0)) ?_;refine jS _ w6 ⟨m,⟨.inr (.inl ⟨F,by rw[show((64*k:Nat):Int)/64=(k:Int) by omega,hn];exact Y⟩),fun _ _ hr=>by rw[Q];exact hr.eY _ _ _⟩,e3,e4,?_,e5,(C.ab o5).keep W fun x d l=>(N x l).2.1 d,V,o5.of_nil.same W,by omega,by omega⟩
   ·refine rI ?_;rw[Q];unfold RL.eY;rw[if_pos ce]
  ·obtain⟨hE,m,Y,Q,e3,e4,e5⟩:=vw O k E;rw[←Q]at C;have H:jB (some s) (k:Int)=0:=by
    have D:=ce;unfold RL.bs at D;by_cases T: ¬(1≤(k:Int)∧(k:Int)<(s.abs.B.length:Int))∨da E=false
    ·rw[if_pos T]at D;cases D
    rw[if_neg T]at D;have Wn:1≤(k:Int)∧(k:Int)<(s.abs.B.length:Int):=Decidable.byContradiction fun e=>T (.inl e);by_cases c2:(s.abs.B.getD (k:Int).toNat (0,0)).1≠0
    ·rw[if_pos c2]at D;cases D
    ·rw[←vx];unfold RL.ft;rw[if_pos ⟨by omega,Wn.2⟩];exact Decidable.byContradiction fun e=>c2 e
   have e6:IntKind.i64.wrap (((64*k:Nat):Int).tdiv 64)=(k:Int):=by rw[iI (64*k) (by omega)];omega
   refine aZ e6 g1.cell ?_;refine aH (qy g2 (k:Int)) ?_;refine cT H (cZ (rfl:(0:Int)=0)) (Z M [] (ae.refl _ _) (by simp)) ?_;refine aM (xk M y) fun U r=>?_;(repeat(first|with_reducible(first|refine nx ?_|refine bA rfl ?_)|simp only[go_sem,aX (show¬32<aE y by omega),(g1.ab r).cell]));refine aw (E6 (g2.ab r) (k:Int) E (by omega)) ?_;rintro v w6 ⟨rfl,V,W⟩;rw[Y]at V;have Wp:bs (some s) (k:Int) 1 (1,E)=0:=by rw[←hE];exact ce
   refine aZ Wp (dg (rfl:(0:Int)=0)) ?_;refine jS _ w6 ⟨m,⟨.inr (.inr ⟨F,by rw[show((64*k:Nat):Int)/64=(k:Int) by omega];exact Y⟩),fun _ _ hr=>by rw[Q];exact hr.bW _ _⟩,e3,e4,?_,e5,(C.ab r).keep W fun x d l=>(N x l).2.1 d,V,r.of_nil.same W,by omega,by omega⟩
   ·refine rI ?_;rw[Q];unfold RL.bW;rw[if_pos ce]
 obtain⟨m,⟨hcu,r3⟩,i3,b3,l3,B3,hf3,hh3,I,a0,a1⟩:=hJ;have lS:=g1.keep I d1.1;have QG:q∉J:=fun e=>P2 q (by simp[e]) rfl;have Wq:q∉K:=fun e=>P2 q (by simp[e]) rfl;have GN:=g3.keep I fun x d l=>(N x l).1 d;have hk3:=g4.keep I fun x d l=>(N x l).2.2 d;obtain⟨s4,Y,Q,e3,e4,e5⟩:=qW i3 a y;have hPR:=tV i3 a y;refine gO ?_;refine aW [b,q] ?_;refine aZ lS.drew.cell (Z G.drew J (I.nil (ae.drew [] G)) QG) ?_;refine bI (MC (hf3.ab (ae.drew [] G)) a y (by omega) (by show m.born≤_;omega) (by rw[kg];omega)) ?_;rintro v U ⟨rfl,r,L,Jj,QH⟩;refine⟨.inl rfl,?_⟩;rw[←Q]at Jj;have iH:=lS.drew.keep r d1.2.2.1;have hh4:=(hh3.ab (ae.drew [] G)).keep r fun x d=>(N x d).2.1;have H3:At U q (bS y):=((NH.keep I QG).drew).keep r Wq;have V6:aC U.drew ⟨q,0,none⟩ 3=some (bS y):=ay H3.drew 0 3 (by simp[bS]);refine gO ?_;refine aW [b,q] ?_;refine aZ iH.drew.cell V6 ?_;refine bI (BB (hh4.ab (ae.drew [] U)) a y (by omega) fun t ht=>by cases ht;omega) ?_;rintro v w5 ⟨rfl,ZQ,jv⟩;refine⟨.inl rfl,?_⟩;rw[Y]at ZQ;refine cT hPR (cZ (rfl:(bC (some m) a y).1=(bC (some m) a y).1)) (cZ (rfl:(bC (some m) a y).2=(bC (some m) a y).2)) ?_;have LQ:w.heap.size≤M.heap.size:=o2.size;have yG:M.heap.size≤G.heap.size:=I.size;have X: ∀x,x∈L→x∈K∨w.heap.size≤x:=fun x d=>by
  rcases QH x d with h|h
  ·exact .inl h
  ·exact .inr (by have:G.heap.size≤x:=h;omega)
 have hn: ∀x,x∉K→x<w.heap.size→x∉L:=fun x q1 q2 q3=>by rcases X x q3 with h4|h4;exact q1 h4;omega
 have o5:=(ae.drew [] U).of_nil.same jv;have o4:=(ae.drew [] G).of_nil.same r;refine⟨s4,L,⟨⟨e3,by omega,?_,by rw[e4,B3],fun P h0 hr=>by rw[Q];exact(r3 P h0 hr).bK h0 _ _⟩,hpu m s4 hcu Y⟩,⟨iH.keep o5 d1.1,e3,ZQ,(GN.keep o4 fun x d=>(d3 x d).1).keep o5 fun x d l=>(N x l).1 d,Jj.keep o5 fun x d l=>?_,(hk3.keep o4 fun x d l=>d4 x l d).keep o5 fun x d l=>(N x l).2.2 d,
  ⟨d1.1,d1.2.1,hn b d1.2.2.1 (B b (by simp)),d1.2.2.2⟩,fun x d=>⟨(N x d).1,hn x (N x d).2.1 (B x (by simp[d])),(N x d).2.2⟩,fun x d=>⟨hn x (d3 x d).1 (B x (by simp[d])),(d3 x d).2⟩,fun x d l=>?_⟩,((o2.same (oh I)).same (ot o4)).same (oh o5),X⟩
 ·rw[←kg,Q,←l3,←kg];exact AU _ _ _
 ·exact hn x (N x l).2.1 (B x (by simp[l])) d
 ·rcases X x d with h4|h4
  ·exact d4 x h4 l
  ·have:=B x (by simp[l]);omega
end
section
set_option maxRecDepth 8000
variable {s:HL} {ff fh fk fr:List Nat} {b hb kb qb rb:Nat} {R:Rt.MS} {w:World}
theorem nz.F8 {z B:World} {E:Rt.MS} {o m:List Nat} (h:nz w b hb rb qb kb s R fh fr ff fk) (q:ae fk w z) (J:Rt.RR z (some ⟨kb,0,none⟩) m (some E)) (F: ∀x,x∈m→x∈fk∨w.heap.size≤x)
  (t:ae fr z B) (L:Rt.PR B (some ⟨rb,0,none⟩) o (some E)) (C: ∀x,x∈o→x∈fr∨z.heap.size≤x):
  nz B b hb rb qb kb s E fh o ff m∧ae (b::(fh++(fr++(ff++fk)))) w B∧ ∀x,x∈b::(fh++(o++(ff++m)))→x∈b::(fh++(fr++(ff++fk)))∨w.heap.size≤x:=by
 have lt:=h.lt;have M:=q.size;have G: ∀x,x∉fk→x<w.heap.size→x∉m:=fun x u D H=>by rcases F x H with j|j;exact u j;omega
 have K: ∀x,x∉fr→x<w.heap.size→x∉o:=fun x u D H=>by rcases C x H with j|j;exact u j;omega
 have I:=J.lt;have y: ∀x,x∈m→x∉fr:=fun x u D=>by
  rcases F x u with j|j
  ·exact(h.d3 x D).2 j
  ·have:=lt x (by simp[D]);omega
 refine⟨⟨(h.at_.keep q h.d1.2.2.2).keep t h.d1.2.1,h.inv,(h.h.keep q fun x d=>(h.d2 x d).2.2).keep t fun x d=>(h.d2 x d).1,L,(h.f.keep q fun x d=>h.d4 x d).keep t fun x d l=>(h.d3 x l).1 d,J.keep t y,
  ⟨h.d1.1,K b h.d1.2.1 (lt b (by simp)),h.d1.2.2.1,G b h.d1.2.2.2 (lt b (by simp))⟩,fun x d=>⟨K x (h.d2 x d).1 (lt x (by simp[d])),(h.d2 x d).2.1,G x (h.d2 x d).2.2 (lt x (by simp[d]))⟩,fun x d=>⟨fun l=>?_,fun l=>?_⟩,fun x d=>G x (h.d4 x d) (lt x (by simp[d]))⟩,?_,?_⟩
 ·rcases C x d with j|j
  ·exact(h.d3 x j).1 l
  ·have:=lt x (by simp[l]);omega
 ·rcases C x d with j|j
  ·exact y x l j
  ·have:=I x l;omega
 ·exact(q.jV fun x d=>by simp[d]).same (t.jV fun x d=>by simp[d])
 ·intro x d;simp only[List.mem_cons,List.mem_append]at d⊢;rcases d with rfl|d|d|d|d
  ·simp
  ·simp[d]
  ·rcases C x d with j|j
   ·simp[j]
   ·exact .inr (by omega)
  ·simp[d]
  ·rcases F x d with j|j
   ·simp[j]
   ·exact .inr j
def eU (R:Rt.MS) (n:Nat):Rt.PT:=
 if n%40<24 then(0,((n%40%R.M:Nat):Int),((n%40/4:Nat):Int))else if n%40<36 then(1,0,((n%40-24:Nat):Int))else(2,0,((n%40-36:Nat):Int))
theorem nz.SU (h:nz w b hb rb qb kb s R fh fr ff fk):R.Ok:=by
 obtain⟨_,_,_,_,_,_,_,_,_,_,d⟩:=h.k;exact d.ok
theorem ML (h:nz w b hb rb qb kb s R fh fr ff fk) (n:Nat) (M:n<100000):Cs Tryz.prog 256 [.pointer (some ⟨b,0,none⟩),.int .i64 (n:Int)] w fun v w'=>v=.agg ⟨Rt.eD (eU R n)⟩∧ae [] w w':=by
 have N:=h.SU.m1;have H:max (n:Int) 0=(n:Int):=by omega
 have I:((n:Int).tmod 40)=((n%40:Nat):Int):=iR n 40;refine en [] ?_;refine gO ?_;refine bp fun q J O K l t=>?_;have E:=h.ab t;have r: ∀(k:World),ae [q] J k→ae [] w k:=fun k o=>t.trans o fun x F=>by simp only[aK]at F;subst F;exact .inr (by omega)
 refine aZ H I ?_;by_cases C:n%40<24
 ·have L:((n%40:Nat):Int).tmod (R.M:Int)=((n%40%R.M:Nat):Int):=iR _ _;have u:IntKind.i64.wrap (((n%40:Nat):Int).tdiv 4)=((n%40/4:Nat):Int):=by
   rw[Int.tdiv_eq_ediv_of_nonneg (by omega),IntWalk.i64_in _ (by omega)];omega
  have D:(Rt.uv (some R))=(R.M:Int):=rfl;have y:eU R n=(0,((n%40%R.M:Nat):Int),((n%40/4:Nat):Int)):=by unfold eU;rw[if_pos C]
  refine aZ (aU (show((n%40:Nat):Int)<24 by omega)) E.at_.cell ?_;refine aH (Rt.C5 E.k) ?_;rw[D];refine cT (wF (show(R.M:Int)≠0 by omega) (.int .i64 ((n%40%R.M:Nat):Int))) L u ?_;rw[ag rfl rfl,ag rfl rfl,ag rfl rfl];refine gO ?_;refine dF l rfl (by simp) (by simp[bh]) fun k z j m=>?_;have d:At k q (Rt.eD (eU R n)):=by rw[y];simpa[Rt.eD,dU]using j
  have B:aC k ⟨q,0,none⟩ 3=some (Rt.eD (eU R n)):=ay d 0 3 (by simp[Rt.eD]);refine aQ B ?_;exact r k m
 by_cases G:n%40<36
 ·have u:IntKind.i64.wrap (((n%40:Nat):Int)-24)=((n%40-24:Nat):Int):=by rw[IntWalk.i64_in _ (by omega)];omega
  have y:eU R n=(1,0,((n%40-24:Nat):Int)):=by unfold eU;rw[if_neg C,if_pos G]
  refine cT (aX (show¬((n%40:Nat):Int)<24 by omega)) (aU (show((n%40:Nat):Int)<36 by omega)) u ?_;rw[ag rfl rfl,ag rfl rfl];refine gO ?_;refine dF l rfl (by simp) (by simp[bh]) fun k z j m=>?_;have d:At k q (Rt.eD (eU R n)):=by rw[y];simpa[Rt.eD,dU]using j
  have B:aC k ⟨q,0,none⟩ 3=some (Rt.eD (eU R n)):=ay d 0 3 (by simp[Rt.eD]);refine aQ B ?_;exact r k m
 ·have u:IntKind.i64.wrap (((n%40:Nat):Int)-36)=((n%40-36:Nat):Int):=by rw[IntWalk.i64_in _ (by omega)];omega
  have y:eU R n=(2,0,((n%40-36:Nat):Int)):=by unfold eU;rw[if_neg C,if_neg G]
  refine cT (aX (show¬((n%40:Nat):Int)<24 by omega)) (aX (show¬((n%40:Nat):Int)<36 by omega)) u ?_;rw[ag rfl rfl,ag rfl rfl];refine gO ?_;refine dF l rfl (by simp) (by simp[bh]) fun k z j m=>?_;have d:At k q (Rt.eD (eU R n)):=by rw[y];simpa[Rt.eD,dU]using j
  have B:aC k ⟨q,0,none⟩ 3=some (Rt.eD (eU R n)):=ay d 0 3 (by simp[Rt.eD]);refine aQ B ?_;exact r k m
def fy (R:Rt.MS) (p:Rt.PT) (y:Int):Rt.MO:=if p.1=2∧(R.Q.length:Int)≤p.2.2 then(Rt.dN (some R) y).2 else(Rt.gm (some R) p y).2
theorem vy (R:Rt.MS) (p:Rt.PT) (y:Int): ∃b,(Rt.gm (some R) p y).2=some b:=by
 unfold Rt.gm;dsimp only;split
 ·exact⟨_,rfl⟩
 ·split
  ·exact⟨_,rfl⟩
  ·exact⟨_,rfl⟩
theorem AW (R:Rt.MS) (y:Int): ∃b,(Rt.dN (some R) y).2=some b:=by
 unfold Rt.dN;dsimp only;split
 ·exact⟨_,rfl⟩
 ·split
  ·exact⟨_,rfl⟩
  ·exact⟨_,rfl⟩
theorem Wr (h:nz w b hb rb qb kb s R fh fr ff fk) (n:Nat) (hn:n<100000) (y:Int):Cs Tryz.prog 82 [.pointer (some ⟨b,0,none⟩),.int .i64 (n:Int),.int .i64 y] w fun v w'=>v=.bool true∧ ∃F m r,fy R (eU R n) y=some F∧nz w' b hb rb qb kb s F fh m ff r∧ae (b::(fh++(fr++(ff++fk)))) w w'∧ ∀x,x∈b::(fh++(m++(ff++r)))→x∈b::(fh++(fr++(ff++fk)))∨w.heap.size≤x:=by
 refine en [2,5,8,11,14,17,20,23,26,29,33,35,38,41,0,2,5,8,11,14,20,23,26,29,32,18,37,38,41,0,2,5,8,11,14,17,23,26,29,32,35,38,21,43,44,47,0] ?_;refine gO ?_;refine aM (ML h n hn) fun N O=>?_;generalize hp:eU R n=p;refine gO ?_;refine bp fun q P hq yJ Q Z=>?_;refine gO ?_;refine dF (cs:=Rt.eD p) Q rfl (by simp[Rt.eD]) Rt.sH fun D qt j gJ=>?_;have j:At D q (Rt.eD p):=by
  have e:dU [Value.int IntKind.i64 0,Value.int IntKind.i64 0,Value.int IntKind.i64 0] 0 (Rt.eD p)=Rt.eD p:=by simp[dU,Rt.eD]
  rw[e]at j;exact j
 have Ap:ae [] N D:=Z.trans gJ fun x C=>by simp only[aK]at C;subst C;exact .inr (by omega)
 have S:ae [] w D:=O.nil Ap;have Ic:=O.size;have P5:=S.size;have T:=h.ab S;have U: ∀x,x∈b::(fh++(fr++(ff++fk)))→x≠q:=fun x C=>by have:=h.lt x C;omega
 have V: ∀w',ae [] D w'→aC w' ⟨q,0,none⟩ 3=some (Rt.eD p):=fun w' o=>ay (j.ab o) 0 3 (by simp[Rt.eD]);have K: ∀ {N P:World} {F:Rt.MS} {m r:List Nat},ae [] w N→nz P b hb rb qb kb s F fh m ff r∧ae (b::(fh++(fr++(ff++fk)))) N P∧(∀x,x∈b::(fh++(m++(ff++r)))→x∈b::(fh++(fr++(ff++fk)))∨N.heap.size≤x)→fy R p y=some F→
   ∃F m r,fy R p y=some F∧nz P b hb rb qb kb s F fh m ff r∧ae (b::(fh++(fr++(ff++fk)))) w P∧ ∀x,x∈b::(fh++(m++(ff++r)))→x∈b::(fh++(fr++(ff++fk)))∨w.heap.size≤x:=fun o g e=>
  ⟨_,_,_,e,g.1,o.of_nil.same g.2.1,fun x C=>(g.2.2 x C).imp id fun C=>by have:=o.size;omega⟩
 have E: ∀w',ae [] D w'→w'.cell? ⟨q,0,none⟩=some (.int .i64 p.1):=fun w' o=>by rw[(j.ab o).cell];rfl
 have J: ∀w',ae [] D w'→w'.cell? ⟨q,2,none⟩=some (.int .i64 p.2.2):=fun w' o=>by rw[(j.ab o).cell];rfl
 have G:(h4:World)→True:=fun _=>trivial;clear G;refine gO ?_;refine aW [b,q] ?_;have M:=ae.drew [] D;have hd:=T.ab M;have ZR:D.drew.heap.size=D.heap.size:=rfl;have hbq: ∀z,z∈[b,q]→z<D.drew.heap.size:=fun z t=>by
  simp only[List.mem_cons,List.not_mem_nil,or_false]at t;rcases t with rfl|rfl
  ·exact hd.at_.lt
  ·exact j.lt
 by_cases X:p.1=2
 ·refine lY (E D.drew M) (J D.drew M) X (cZ (rfl:(2:Int)=2)) hd.at_.cell ?_;refine bI (Rt.Mq hd.k) ?_;rintro v w4 ⟨W,fq,pk,_⟩;refine⟨.inr ((SB.refl _ _).only W fun z t=>⟨hbq z t,by simp⟩),?_⟩;obtain⟨a4,c4,rfl⟩:=pk.val;have o4:=M.nil W;have h4:=T.ab o4;have hQ:(Rt.lz (some R)).length=R.Q.length:=rfl;rw[hQ];by_cases Y:(R.Q.length:Int)≤p.2.2
  ·refine aQ (aU Y) ?_;refine aW [b] ?_;have k:=o4.nil (ae.drew [] w4);have d:=T.ab k;refine aQ d.at_.cell ?_;refine bI (Rt.Qj d.k y) ?_;rintro v w5 ⟨rfl,l,r,u,sk⟩;obtain⟨F,H⟩:=AW R y;rw[H]at u;refine⟨.inr ((SB.refl _ _).only l fun z t=>by simp only[aK]at t;subst t;exact⟨d.at_.lt,h.d1.2.2.2⟩),?_⟩;refine gO ?_;refine bI (Rt.FH (d.r.keep l fun z t=>(h.d3 z t).2) y) ?_;rintro v w6 ⟨rfl,I,_,m,B,sr⟩;rw[H]at B;refine⟨.inl rfl,?_⟩;refine aQ (cZ (rfl:(Rt.dN (some R) y).1=(Rt.dN (some R) y).1)) ?_;simpa only[List.mem_cons]using K (S.nil k) (d.F8 l u sk I B sr) (by unfold fy;rw[if_pos ⟨X,Y⟩];exact H)
  ·refine aQ (aX Y) ?_;have k:=o4.nil (ae.drew [] w4);refine aW [b,q] ?_;have d:=T.ab k;refine aZ d.at_.cell (V _ k) ?_;refine bI (Rt.Mp d.k p y) ?_;rintro v w5 ⟨rfl,u,l⟩;obtain⟨F,H⟩:=vy R p y;rw[H]at u;have L:q∉fk:=fun e=>U q (by simp[e]) rfl;refine⟨.inr ((SB.refl _ _).only l fun z t=>by
    simp only[List.mem_cons,List.not_mem_nil,or_false]at t;rcases t with rfl|rfl
    ·exact⟨d.at_.lt,h.d1.2.2.2⟩
    ·exact⟨(j.ab k).lt,L⟩),?_⟩
   refine gO ?_;refine bI (Rt.yP (d.r.keep l fun z t=>(h.d3 z t).2) p y) ?_;rintro v w6 ⟨rfl,B,I,_⟩;rw[H]at B;refine⟨.inl rfl,?_⟩;refine aQ (cZ (rfl:(Rt.gm (some R) p y).1=(Rt.gm (some R) p y).1)) ?_;simpa only[List.mem_cons]using K (S.nil k) (d.F8 l u (fun x C=>.inl C) I B fun x C=>.inl C) (by unfold fy;rw[if_neg (fun h=>Y h.2)];exact H)
 ·refine aZ (E D.drew M) (cU X) ?_;have k:=M.nil (ae.drew [] D.drew);refine aW [b,q] ?_;have d:=T.ab k;refine aZ d.at_.cell (V _ k) ?_;refine bI (Rt.Mp d.k p y) ?_;rintro v w5 ⟨rfl,u,l⟩;obtain⟨F,H⟩:=vy R p y;rw[H]at u;have L:q∉fk:=fun e=>U q (by simp[e]) rfl;refine⟨.inr ((SB.refl _ _).only l fun z t=>by
   simp only[List.mem_cons,List.not_mem_nil,or_false]at t;rcases t with rfl|rfl
   ·exact⟨d.at_.lt,h.d1.2.2.2⟩
   ·exact⟨(j.ab k).lt,L⟩),?_⟩
  refine gO ?_;refine bI (Rt.yP (d.r.keep l fun z t=>(h.d3 z t).2) p y) ?_;rintro v w6 ⟨rfl,B,I,_⟩;rw[H]at B;refine⟨.inl rfl,?_⟩;refine aQ (cZ (rfl:(Rt.gm (some R) p y).1=(Rt.gm (some R) p y).1)) ?_;simpa only[List.mem_cons]using K (S.nil k) (d.F8 l u (fun x C=>.inl C) I B fun x C=>.inl C) (by unfold fy;rw[if_neg (fun h=>X h.1)];exact H)
end
section
variable {ph:Bool} {s s':HL} {x:Int} {fp:List Nat} {b m nb:Nat} {R R':Rt.MS} {w w' w1:World}
def lU (b:Nat) (w:World) (v:Value) (n sz:Nat) (f:Nat→Nat→Nat):Prop:= ∃(a:Option Addr) (cap:Nat),v=.slice a n cap∧(∀i j,f i j<256)∧ ∀i,i<n→ ∃p,a=some p∧p.block<b∧ ∀j,j<sz→w.cell? ((p.add (i*sz)).add j)=some (gL (f i j))
theorem lU.keep {b:Nat} {v:Value} {n sz:Nat} {f:Nat→Nat→Nat} {S:List Nat} (h:lU b w v n sz f) (z:b≤w.heap.size) (o:ae S w w') (d: ∀x,x∈S→b≤x):lU b w' v n sz f:=by
 obtain⟨a,c,e,k,l⟩:=h;refine⟨a,c,e,k,fun i m=>?_⟩;obtain⟨p,q,r,t⟩:=l i m;refine⟨p,q,r,fun j u=>?_⟩;rw[iU (w:=w) (w':=w') (by rw[de,de];exact o.block _ (by omega) fun y=>by have:=d _ y;omega)];exact t j u
theorem tX {a:Addr} {n:Nat} (f:Nat→Value) (h: ∀j,j<n→w.cell? (a.add j)=some (f j)):aC w a n=some ((List.range n).map f):=by
 unfold aC;exact Go.ChangeShapes.mapM_range_of n h
structure BG where
 bl:Nat
 mu:Nat
 nO:Nat
 nD:Nat
 nL:Nat
 nP:Nat
 nN:Nat
 fO:Nat→Nat→Nat
 fD:Nat→Nat→Nat
 fL:Nat→Nat→Nat
 fP:Nat→Nat→Nat
 fN:Nat→Nat→Nat
structure tz (h0:Nat) (w:World) (cs:List Value) (g:BG) (vO vD vL vP vN:Value):Prop where
 e:cs=[gL g.bl,gL g.mu,vO,vD,vL,vP,vN]
 l0:g.bl<256
 l1:g.mu<256
 o:lU h0 w vO g.nO 4 g.fO
 d:lU h0 w vD g.nD 1 g.fD
 l:lU h0 w vL g.nL 3 g.fL
 p:lU h0 w vP g.nP 2 g.fP
 n:lU h0 w vN g.nN 1 g.fN
def Sz (s:HL) (n nb:Nat):Prop:=s.born≤n∧s.aj.length≤n∧s.B.length=nb∧zl s.abs
theorem Sz.mono {n:Nat} (h:Sz s n nb) (b:n≤m):Sz s m nb:=⟨by have:=h.1;omega,by have:=h.2.1;omega,h.2.2⟩
theorem Sz.step {n:Nat} (h:Sz s n nb) (e:Step s s'):Sz s' (n+1) nb:=⟨by have:=h.1;have:=e.2.1;omega,by have:=h.2.1;have:=e.2.2.1;omega,by rw[e.2.2.2.1];exact h.2.2.1,e.2.2.2.2 _ ⟨by omega,by omega⟩ h.2.2.2⟩
theorem Db (s:RL) (x:Int):(s.dh x).O.length≤s.O.length:=by
 unfold RL.dh;split
 ·exact Nat.le_refl _
 ·show(s.O.eraseIdx _).length≤_;rw[List.length_eraseIdx];split<;>omega
def cI (s:HL) (x:Int):Prop:= ∃k:Nat,x=((2*k:Nat):Int)∧s.st.getD k 0=1
def ur (ph:Bool) (s:HL) (x:Int):Prop:=x=0∨ph=true∧cI s x
def JP (P:Int→Prop) (R:Rt.MS):Prop:=(∀x,x∈R.S→P x)∧(∀x,x∈R.G→P x)∧ ∀x,x∈R.Q→P x
def iP (ph:Bool) (s:HL) (R:Rt.MS):Prop:=qe (ur ph s) s.abs∧JP (ur ph s) R
theorem JP.mono {P Q:Int→Prop} (h:JP P R) (d: ∀x,P x→Q x):JP Q R:=⟨fun x b=>d x (h.1 x b),fun x b=>d x (h.2.1 x b),fun x b=>d x (h.2.2 x b)⟩
theorem ur.st (h:ur ph s x) (e:s'.st=s.st):ur ph s' x:=h.imp id fun⟨b,k,d,j⟩=>⟨b,k,d,by rw[e];exact j⟩
theorem ur.f (h:ur false s x):ur false s' x:=h.imp id fun h=>by cases h.1
theorem iP.st (h:iP ph s R) (e:s'.st=s.st) (b:qe (ur ph s) s'.abs):iP ph s' R:=⟨b.mono fun _ h=>h.st e,h.2.mono fun _ h=>h.st e⟩
theorem iP.f (h:iP false s R) (b:qe (ur false s) s'.abs):iP false s' R:=⟨b.mono fun _ h=>h.f,h.2.mono fun _ h=>h.f⟩
theorem iP.up (h:iP false s R):iP ph s R:=⟨h.1.mono fun _ h=>.inl (h.elim id fun h=>by cases h.1),h.2.mono fun _ h=>.inl (h.elim id fun h=>by cases h.1)⟩
theorem AX (s:HL) (n:Nat):ur true s (rH s n):=by
 unfold rH;split
 ·exact .inl rfl
 ·rename_i d;have b:n%s.aj.length<s.aj.length:=Nat.mod_lt _ (by omega);exact .inr ⟨rfl,_,rfl,bq.1 (show s.aj.getD (n%s.aj.length) 0∈s.aj by simp[b])⟩
theorem AY {P:Int→Prop} {p:Rt.PT} {y:Int} (e:fy R p y=some R') (b:JP P R) (j:P y):JP P R':=by
 unfold fy at e;split at e
 ·unfold Rt.dN at e;simp only at e;split at e
  ·cases e;exact b
  ·split at e
   ·cases e;exact b
   ·cases e;exact⟨b.1,b.2.1,fun x d=>(List.mem_append.1 d).elim (b.2.2 x) fun h=>by simp only[aK]at h;rw[h];exact j⟩
 ·unfold Rt.gm at e;simp only at e;split at e
  ·cases e;exact b
  ·rename_i q _;split at e
   ·cases e;exact b
   ·cases e;have key: ∀ {l:List Int} {i:Nat},(∀x,x∈l→P x)→ ∀x,x∈l.set i y→P x:=fun h x d=>(List.mem_or_eq_of_mem_set d).elim (h x) fun e=>e▸j;unfold Rt.MS.wr;split
    ·exact⟨key b.1,b.2⟩
    ·exact⟨b.1,key b.2.1,b.2.2⟩
    ·exact⟨b.1,b.2.1,key b.2.2⟩
def AZ {α:Type} (P:α→Prop) (T:Nat→α→α→Prop):Nat→α→Prop
 |0=>P
 |i+1=>fun y=> ∃x,AZ P T i x∧T i x y
theorem AZ.uniq {α:Type} {P:α→Prop} {T:Nat→α→α→Prop} (b: ∀x y,P x→P y→x=y) (d: ∀i x y z,T i x y→T i x z→y=z): ∀n x y,AZ P T n x→AZ P T n y→x=y
 |0,x,y,h,j=>b x y h j
 |n+1,x,y,⟨u,k,l⟩,⟨v,m,o⟩=>by
  obtain rfl:=AZ.uniq b d n u v k m
  exact d n u x y l o
abbrev HS:=HL×Rt.MS
def Ws (g:BG) (x:HS):Prop:=my ((2+g.bl%23:Nat):Int)=some x.1∧Rt.fm ((1+g.mu%4:Nat):Int)=some x.2
def TO (g:BG) (i:Nat) (x y:HS):Prop:=mP x.1 (dO (g.fO i 0) (g.fO i 1) (g.fO i 2)) ((g.fO i 3%3:Nat):Int) y.1∧y.2=x.2
def TD (g:BG) (i:Nat) (x y:HS):Prop:=dh (some x.1) (rH x.1 (g.fD i 0%100))=some y.1∧y.2=x.2
def TL (g:BG) (i:Nat) (x y:HS):Prop:=(if(x.1.abs.jL (rH x.1 (g.fL i 0%100))).2=0∧0<(x.1.abs.jL (rH x.1 (g.fL i 0%100))).1.1 then bj (some x.1) (rH x.1 (g.fL i 0%100)) (((g.fL i 1:Nat):Int).tmod (x.1.abs.jL (rH x.1 (g.fL i 0%100))).1.1) (rH x.1 (g.fL i 2%100))=some y.1 else y.1=x.1)∧y.2=x.2
def TP (g:BG) (i:Nat) (x y:HS):Prop:=fy x.2 (eU x.2 (g.fP i 0)) (rH x.1 (g.fP i 1%100))=some y.2∧y.1=x.1
def TN (g:BG) (i:Nat) (x y:HS):Prop:=iL (some x.1) (rH x.1 (g.fN i 0%100)) 1=some y.1∧y.2=x.2
def QI (g:BG):Nat→HS→Prop:=AZ (Ws g) (TO g)
def Tg (g:BG):Nat→HS→Prop:=AZ (QI g (min g.nO 40)) (TD g)
def QJ (g:BG):Nat→HS→Prop:=AZ (Tg g (min g.nD 20)) (TL g)
def Th (g:BG):Nat→HS→Prop:=AZ (QJ g (min g.nL 120)) (TP g)
def Ti (g:BG):Nat→HS→Prop:=AZ (Th g (min g.nP 20)) (TN g)
def va (g:BG):HS→Prop:=Ti g (min g.nN 8)
theorem va.uniq {g:BG} {x y:HS} (h:va g x) (j:va g y):x=y:=by
 have d: ∀ {α:Type} {o:Option α} {a b:α},o=some a→o=some b→a=b:=fun l k=>Option.some.inj (l.symm.trans k);refine AZ.uniq (AZ.uniq (AZ.uniq (AZ.uniq (AZ.uniq ?_ ?_ _) ?_ _) ?_ _) ?_ _) ?_ _ x y h j
 ·exact fun x y h j=>Prod.ext (d h.1 j.1) (d h.2 j.2)
 ·exact fun i x y z h j=>Prod.ext (h.1.uniq j.1) (h.2.trans j.2.symm)
 ·exact fun i x y z h j=>Prod.ext (d h.1 j.1) (h.2.trans j.2.symm)
 ·intro i x y z h j;unfold TL at h j;refine Prod.ext ?_ (h.2.trans j.2.symm);have l:=h.1;have k:=j.1;split at l
  ·rename_i c;rw[if_pos c]at k;exact d l k
  ·rename_i c;rw[if_neg c]at k;exact l.trans k.symm
 ·exact fun i x y z h j=>Prod.ext (h.2.trans j.2.symm) (d h.1 j.1)
 ·exact fun i x y z h j=>Prod.ext (d h.1 j.1) (h.2.trans j.2.symm)
def lW (w1 w:World) (b n nb:Nat) (ph:Bool) (Q:HS→Prop):Prop:= ∃s R fp,SC w b s R fp∧(∀x,x∈fp→w1.heap.size≤x)∧ae [] w1 w∧Sz s n nb∧iP ph s R∧Q (s,R)
theorem lW.mono {n:Nat} {Q:HS→Prop} (h:lW w1 w b n nb ph Q) (d:n≤m):lW w1 w b m nb ph Q:=by
 obtain⟨s,R,fp,j,k,l,o,q⟩:=h;exact⟨s,R,fp,j,k,l,o.mono d,q⟩
theorem lW.up {n:Nat} {Q:HS→Prop} (h:lW w1 w b n nb false Q):lW w1 w b n nb ph Q:=by
 obtain⟨s,R,fp,j,k,l,m,d⟩:=h;exact⟨s,R,fp,j,k,l,m,d.1.up,d.2⟩
theorem lW.ab {n:Nat} {Q:HS→Prop} (h:lW w1 w b n nb ph Q) (o:ae [] w w'):lW w1 w' b n nb ph Q:=by
 obtain⟨s,R,fp,⟨d,j,k,l,m,fr,q,r,e,t⟩,u,y,z⟩:=h;exact⟨s,R,fp,⟨d,j,k,l,m,fr,q,r,e,t.ab o⟩,u,y.nil o,z⟩
theorem lW.next {n:Nat} {Q:HS→Prop} {u y z B:Nat} {m fr q r d j k l:List Nat} (C: ∀x,x∈b::(m++(fr++(q++r)))→w1.heap.size≤x) (D:ae [] w1 w) (h:nz w' b u y z B s' R' d j k l)
  (o:ae (b::(m++(fr++(q++r)))) w w') (E: ∀x,x∈b::(d++(j++(k++l)))→x∈b::(m++(fr++(q++r)))∨w.heap.size≤x) (F:Sz s' n nb) (G:iP ph s' R') (H:Q (s',R')):lW w1 w' b n nb ph Q:=
 ⟨s',R',_,⟨u,y,z,B,d,j,k,l,rfl,h⟩,fun x t=>(E x t).elim (C x) fun h=>by have:=D.size;omega,D.trans o fun x t=>.inr (C x t),F,G,H⟩
theorem MM {Q:HS→Prop} (h:lW w1 w b m nb false Q) (j:Sh) (u:aS j=true) (k:Int) (G:m≤1000):Cs Tryz.prog 76 [.pointer (some ⟨b,0,none⟩),.agg ⟨bS j⟩,.int .i64 k] w fun v w'=>v=.bool true∧lW w1 w' b (m+1) nb false (fun y=> ∃x,Q x∧mP x.1 j k y.1∧y.2=x.2)∧ ∃S,(∀x,x∈S→w1.heap.size≤x)∧ae S w w':=by
 obtain⟨s,R,fp,⟨H,I,J,K,L,fr,M,N,rfl,z⟩,q,B,l,o⟩:=h;refine(MK z j u k (by have:=l.1;omega) (by have:=l.2.1;omega)).mono ?_;rintro v w' ⟨rfl,s',C,⟨r,D⟩,E,t,F⟩;refine⟨rfl,lW.next q B E t (fun x d=>?_) (l.step r) (o.1.f (r.2.2.2.2 _ (.inl rfl) o.1.1)) ⟨_,o.2,D,rfl⟩,_,q,t⟩;simp only[List.mem_cons,List.mem_append]at d⊢;rcases d with d|d|d|d|d
 ·simp[d]
 ·simp[d]
 ·simp[d]
 ·rcases F x d with h|h
  ·simp[h]
  ·exact .inr h
 ·simp[d]
theorem Wt {Q:HS→Prop} (h:SC w b s R fp∧(∀x,x∈fp→w1.heap.size≤x)∧ae [] w1 w∧Sz s m nb∧iP true s R) (n:Nat) (o:n<100000) (y:Int) (q:ur true s y) (r: ∀R',fy R (eU R n) y=some R'→Q (s,R')):Cs Tryz.prog 82 [.pointer (some ⟨b,0,none⟩),.int .i64 (n:Int),.int .i64 y] w fun v w'=>v=.bool true∧lW w1 w' b m nb true Q∧ ∃S,(∀x,x∈S→w1.heap.size≤x)∧ae S w w':=by
 obtain⟨⟨F,G,H,I,J,fr,K,L,rfl,t⟩,d,u,z,j⟩:=h;refine(Wr t n o y).mono ?_;rintro v w' ⟨rfl,R',B,C,k,D,l,E⟩;exact⟨rfl,lW.next d u D l E z ⟨j.1,AY k j.2 q⟩ (r _ k),_,d,l⟩
theorem QK {Q:HS→Prop} (h:SC w b s R fp∧(∀x,x∈fp→w1.heap.size≤x)∧ae [] w1 w∧Sz s m nb∧iP true s R) (x i to:Int) (j:x≤4611686018427387904) (k:0≤to∧to≤4096) (C:ur true s to) (D: ∀s',bj (some s) x i to=some s'→Q (s',R)):Cs Tryz.prog 81 [.pointer (some ⟨b,0,none⟩),.int .i64 x,.int .i64 i,.int .i64 to] w fun v w'=>v=.bool true∧lW w1 w' b m nb true Q∧ ∃S,(∀x,x∈S→w1.heap.size≤x)∧ae S w w':=by
 obtain⟨⟨J,K,L,M,N,fr,O,P,rfl,o⟩,q,E,d,r⟩:=h;refine(QD o x i to j (by omega)).mono ?_;rintro v w' ⟨rfl,s',u,F,y⟩;obtain⟨t,G,z,H,B,I,T⟩:=gV o.inv.ok x i to;have l:s'=t:=Option.some.inj (u.symm.trans G);subst l;refine⟨rfl,lW.next q E F y (fun x j=>.inl j) ⟨by rw[I];exact d.1,?_,by rw[H];exact d.2.2.1,by rw[z];exact d.2.2.2.bj _ _ _ k⟩ (r.st B (by rw[z];exact r.1.bj _ _ _ C)) (D _ u),_,q,y⟩;have:HL.aj s'=s.aj:=by unfold HL.aj;rw[B]
 rw[this];exact d.2.1
set_option maxHeartbeats 1000000 in
theorem Fi {cs:List Value} {g:BG} {vO vD vL vP vN:Value} (h:tz w.heap.size w cs g vO vD vL vP vN):Cs Tryz.prog 16 [.agg ⟨cs⟩] w fun v w'=> ∃b,v=.pointer (some ⟨b,0,none⟩)∧lW w w' b 40 (2+g.bl%23) true (va g):=by
 obtain⟨rfl,l0,l1,hO,hD,hL,hP,hN⟩:=h;have m23:((g.bl:Int).tmod 23)=((g.bl%23:Nat):Int):=iR g.bl 23;have m4:((g.mu:Int).tmod 4)=((g.mu%4:Nat):Int):=iR g.mu 4;have e1:IntKind.i64.wrap (2+((g.bl%23:Nat):Int))=((2+g.bl%23:Nat):Int):=by rw[IntWalk.i64_in _ (by omega)];omega
 have e2:IntKind.i64.wrap (1+((g.mu%4:Nat):Int))=((1+g.mu%4:Nat):Int):=by rw[IntWalk.i64_in _ (by omega)];omega
 refine en [0,2,5,8,11,14,17,23,26,29,32,35,38,41,44,21,49,50,0,2,5,8,11,14,20,23,26,29,32,18,37,38,0,2,5,8,11,14,17,20,23,26,29,32,35,38,41,44,47,50,53,56,59,62,66,70,71,74,0,2,5,8,11,14,17,20,23,26,29,32,35,38,41,44,47,50,54,58,59,0,2,5,8,11,14,20,23,26,29,32,18,37,38,0] ?_;refine gO ?_;refine bp fun q w1 hq pf gz ja=>?_;(repeat(first|with_reducible(first|refine nx ?_|refine bA rfl ?_)|simp only[go_sem,gz.cell,gz.drew.cell,gL,eC g.bl l0,eC g.mu l1,m23,m4,e1,e2]));obtain⟨s0,n1,n2,n3,n4,n5⟩:=BQ (n:=2+g.bl%23) (by omega) (by omega);have r1:Rt.fm ((1+g.mu%4:Nat):Int)=some ⟨1+g.mu%4,List.replicate (16*(1+g.mu%4)) 0,List.replicate 16 0,[]⟩:=by
  unfold Rt.fm;rw[if_pos (by omega),c9]
 generalize hR0:(⟨1+g.mu%4,List.replicate (16*(1+g.mu%4)) 0,List.replicate 16 0,[]⟩:Rt.MS)=R0 at r1;have i1:(some s0).isSome=true:=rfl;have i2:(some R0).isSome=true:=rfl;refine aw (OR _ _) ?_;rintro v w2 ⟨ah,fh,rfl,NK,_,gh,jq⟩
 replace jq:ae [] w1 w2:=(ae.drew [] w1).nil jq
 replace gh: ∀y,y∈fh→w1.heap.size≤y:=gh
 rw[n1]at NK⊢;obtain⟨hb,rfl,B⟩:=NK;have NK:HR w2 (some ⟨hb,0,none⟩) fh (some s0):=⟨hb,rfl,B⟩;clear B;refine aQ i1 ?_;refine aw (Rt.u' w2 _) ?_;rintro v w3 ⟨gJ,ar,fr,rfl,GN,_,gr⟩;rw[r1]at GN⊢;obtain⟨rb,rfl,B⟩:=GN;have GN:Rt.PR w3 (some ⟨rb,0,none⟩) fr (some R0):=⟨rb,rfl,B⟩;clear B;refine aZ i2 (dg (rfl:(0:Int)=0)) ?_;rw[ag rfl rfl,ag rfl rfl];refine gO ?_;refine bp fun b w4 GU pk iH iV=>?_;refine gO ?_;refine aw (V' w4 _ (by omega) (by omega)) ?_;rintro v w5 ⟨m,qb,ff,rfl,JL,gf⟩;rw[c9,←n3]at JL;have ky:=iH.ab m;refine gO ?_;refine fJ ky (by simp) rfl fun w6 oO kP D=>?_;refine gO ?_;refine aw (Rt.Qk w6 _) ?_;rintro v w7 ⟨J,ak,fk,rfl,NL,_,gk⟩;rw[r1]at NL⊢;obtain⟨kb,rfl,B⟩:=NL;have NL:Rt.RR w7 (some ⟨kb,0,none⟩) fk (some R0):=⟨kb,rfl,B⟩;clear B;refine gO ?_;refine fJ (kP.ab J) (by simp) rfl fun w8 Bu nK V=>?_;simp only[List.set_cons_zero,List.set_cons_succ]at nK;have z1:=ja.size;have z2:=jq.size;have z3:=gJ.size;have z4:=iV.size;have z5:=m.size;have z6:=D.size;have z7:=J.size;have z8:=V.size;have lh:=NK.lt;have lr:=GN.lt;have lf:=JL.lt;have lk:=NL.lt;have oh:ae [b] w2 w8:=((((((gJ.nil iV).nil m).of_nil (T:=[b])).same D).nil J).same V);have or:ae [b] w3 w8:=(((((iV.nil m).of_nil (T:=[b])).same D).nil J).same V);have of:ae [b] w5 w8:=(D.nil J).same V;have nh:b∉fh:=fun k=>by have:=lh b k;omega
 have nr:b∉fr:=fun k=>by have:=lr b k;omega
 have nf:b∉ff:=fun k=>by have:=gf b k;omega
 have nk:b∉fk:=fun k=>by have:=gk b k;omega
 have ZS:nz w8 b hb rb qb kb s0 R0 fh fr ff fk:=⟨nK,n2,NK.keep oh (fun x k=>bg (fun e=>nh (e▸k))),GN.keep or (fun x k=>bg (fun e=>nr (e▸k))),JL.keep of (fun x k=>bg (fun e=>nf (e▸k))),NL.keep V (fun x k=>bg (fun e=>nk (e▸k))),
  ⟨nh,nr,nf,nk⟩,fun x k=>⟨fun H=>by have:=lh x k;have:=gr x H;omega,fun H=>by have:=lh x k;have:=gf x H;omega,fun H=>by have:=lh x k;have:=gk x H;omega⟩,fun x k=>⟨fun H=>by have:=lr x k;have:=gf x H;omega,fun H=>by have:=lr x k;have:=gk x H;omega⟩,fun x k H=>by have:=lf x k;have:=gk x H;omega⟩
 have NM:ae [] w1 w8:=(jq.nil gJ).trans ((((iV.nil m).of_nil (T:=[b])).same D).nil J|>.same V) fun x k=>by simp only[aK]at k;subst k;exact .inr (by omega)
 have hI0:lW w1 w8 b 0 (2+g.bl%23) false (QI g 0):=⟨s0,R0,_,⟨hb,rb,qb,kb,fh,fr,ff,fk,rfl,ZS⟩,fun x k=>by
  simp only[List.mem_cons,List.mem_append]at k;rcases k with rfl|k|k|k|k
  ·omega
  ·exact gh x k
  ·have:=gr x k;omega
  ·have:=gf x k;omega
  ·have:=gk x k;omega,NM,⟨by omega,by have:s0.aj.length=s0.abs.O.length:=(kg s0).symm;rw[this,n3];exact Nat.le_refl 0,n5,by rw[n3];intro o ho;cases ho⟩,⟨(by rw[n3];intro o ho;cases ho),by rw[←hR0];exact⟨fun x k=>.inl (List.eq_of_mem_replicate k),fun x k=>.inl (List.eq_of_mem_replicate k),fun x k=>by cases k⟩⟩,⟨n1,r1⟩⟩
 generalize hnb:2+g.bl%23=nb at*;have NN: ∀w',ae [] w1 w'→At w' q [gL g.bl,gL g.mu,vO,vD,vL,vP,vN]:=fun w' o=>gz.ab o;have kU: ∀ {v:Value} {n sz:Nat} {f:Nat→Nat→Nat},lU w.heap.size w v n sz f→ ∀w',ae [] w1 w'→lU w.heap.size w' v n sz f:=fun h w' o=>h.keep (Nat.le_refl _) (ja.nil o) (by simp);have W: ∀ {w':World} {n:Nat} {ph:Bool} {Q:HS→Prop},lW w1 w' b n nb ph Q→ae [] w1 w':=fun h=>by obtain⟨_,_,_,_,_,h,_⟩:=h;exact h
 obtain⟨aO,cO,rfl,bO,_⟩:=id hO;obtain⟨aD,cD,rfl,bD,_⟩:=id hD;obtain⟨aL,cL,rfl,bL,_⟩:=id hL;obtain⟨aP,cP,rfl,bP,_⟩:=id hP;obtain⟨aN,cN,rfl,bN,_⟩:=id hN;have hqs:q<w1.heap.size:=by omega
 clear NK GN JL NL ZS iH ky kP nK oh or of NM nh nr nf nk lh lr lf lk gh gr gf gk jq gJ iV m D J V;simp only[go_sem];refine run_seq ?_;refine bH (10::75::76::77::78::79::80::81::82::83::84::85::86::87::88::89::90::91::92::93::94::95::96::97::98::99::100::101::102::[]) (fun _ w'=>lW w1 w' b 40 nb false (QI g (min g.nO 40))) (fun kk F=>?_) (fun g1 w9 hI1=>?_)
 ·refine gO ?_;refine az (10::75::76::77::78::79::80::81::82::83::84::85::86::87::88::89::90::91::92::93::94::95::96::97::98::99::100::101::102::[]) (fun I w'=> ∃i:Nat,I 10=.int .i64 i∧i≤min g.nO 40∧lW w1 w' b i nb false (QI g i)) (fun I _=>bw 40 10 I) ⟨0,by simp only[go_sem];rfl,by omega,hI0⟩ fun I w' C l=>?_;obtain⟨i,d,Z,C⟩:=C;have o':=W C;have t:=NN w' o';have r:min g.nO 40≤i→i=min g.nO 40:=fun h=>by omega
  by_cases c1:i<g.nO;rotate_left
  ·refine cT d t.cell (aX (show¬(i:Int)<(g.nO:Int) by omega)) ?_;refine F _ w' (r (by omega)▸C.mono (by omega))
  by_cases c2:i<40;rotate_left
  ·refine eZ d t.cell (aU (show(i:Int)<(g.nO:Int) by omega)) (aX (show¬(i:Int)<40 by omega)) ?_;refine F _ w' (r (by omega)▸C.mono (by omega))
  refine eZ d t.cell (aU (show(i:Int)<(g.nO:Int) by omega)) (aU (show(i:Int)<40 by omega)) ?_;obtain⟨a',c',e',_,O⟩:=kU hO w'.drew (o'.nil (ae.drew [] w'));cases e';obtain⟨p,rfl,JK,K⟩:=O i c1;refine aW [q,p.block] ?_;have rU:aC w'.drew (p.add (i*4)) 4=some [gL (g.fO i 0),gL (g.fO i 1),gL (g.fO i 2),gL (g.fO i 3)]:=tX (fun j=>gL (g.fO i j)) K;have Wg:w'.drew.cell? ⟨p.block,(p.add (i*4)).off+3,none⟩=some (gL (g.fO i 3)):=by
   have:=K 3 (by omega);rw[←de p (i*4)];exact this
  have q4:((4:Nat):Int)=4:=rfl;have t3:Int.toNat 3*1=3:=rfl;have Wu: ∀n,KK [q,p.block] (.pointer (some (p.add n)))=True:=fun n=>by simp[KK,de]
  have m3:((g.fO i 3:Nat):Int).tmod 3=((g.fO i 3%3:Nat):Int):=iR _ 3;(repeat(first|with_reducible(first|refine nx ?_|refine bA rfl ?_)|simp only[go_sem,d,t.drew.cell,if_pos (show(0:Int)≤(i:Int)∧(i:Int)<(g.nO:Int) by omega),c9,rU,q4,t3,de,Wg,Wu,gL,eC (g.fO i 3) (bO i 3),m3]));have G:lW w1 w'.drew b i nb false (QI g i):=C.ab (ae.drew [] w');have ZR:w1.heap.size≤w'.drew.heap.size:=(W G).size;have O1: ∀z,z∈[q,p.block]→z<w1.heap.size:=fun z N=>by
   simp only[List.mem_cons,List.not_mem_nil,or_false]at N;rcases N with rfl|rfl<;>omega
  refine jr (MJ w'.drew _ _ _ (g.fO i 3) (bO i 0) (bO i 1) (bO i 2)) (.inr ⟨SB.refl _ _,fun z N=>⟨by have:=O1 z N;omega,by simp⟩⟩) fun w5 m=>?_;refine gO ?_;refine bI (MM (G.ab m) (dO _ _ _) (xt _ _ _) _ (by omega)) ?_;rintro v w6 ⟨rfl,hI6,S,hS,ZT⟩;refine⟨.inl rfl,?_⟩;have z1:IntKind.i64.wrap ((i:Int)+1)=((i+1:Nat):Int):=by rw[IntWalk.i64_in _ (by omega)];omega
  refine aZ d z1 ?_;refine l _ w6 ⟨i+1,?_,by omega,hI6⟩ ?_
  ·simp only[go_sem]
  ·exact aJ d
 refine run_seq ?_;refine bH (11::12::103::104::105::106::107::108::109::110::111::112::113::114::115::116::117::118::119::120::121::122::123::124::125::126::127::128::129::130::131::132::133::134::135::[]) (fun _ w'=>lW w1 w' b 40 nb false (Tg g (min g.nD 20))) (fun kk F=>?_) (fun g2 rS T6=>?_)
 ·refine gO ?_;refine az (11::12::103::104::105::106::107::108::109::110::111::112::113::114::115::116::117::118::119::120::121::122::123::124::125::126::127::128::129::130::131::132::133::134::135::[]) (fun I w'=> ∃i:Nat,I 11=.int .i64 i∧i≤min g.nD 20∧lW w1 w' b 40 nb false (Tg g i)) (fun I _=>bw 20 11 I) ⟨0,by simp only[go_sem];rfl,by omega,hI1⟩ fun I w' C l=>?_;obtain⟨i,d,Z,C⟩:=C;have o':=W C;have t:=NN w' o';have r:min g.nD 20≤i→i=min g.nD 20:=fun h=>by omega
  by_cases c1:i<g.nD;rotate_left
  ·refine cT d t.cell (aX (show¬(i:Int)<(g.nD:Int) by omega)) ?_;refine F _ w' (r (by omega)▸C)
  by_cases c2:i<20;rotate_left
  ·refine eZ d t.cell (aU (show(i:Int)<(g.nD:Int) by omega)) (aX (show¬(i:Int)<20 by omega)) ?_;refine F _ w' (r (by omega)▸C)
  have ci:(0:Int)≤(i:Int)∧(i:Int)<(g.nD:Int):=by omega
  have z1:IntKind.i64.wrap ((i:Int)+1)=((i+1:Nat):Int):=by rw[IntWalk.i64_in _ (by omega)];omega
  obtain⟨a',c',e',_,O⟩:=kU hD w' o';cases e';obtain⟨p,rfl,JK,K⟩:=O i c1;have L:((g.fD i 0:Nat):Int).tmod 100=((g.fD i 0%100:Nat):Int):=iR _ 100;have IU:w'.cell? (p.add i)=some (gL (g.fD i 0)):=by
   have:=K 0 (by omega);rw[Nat.mul_one]at this;exact this
  (repeat(first|with_reducible(first|refine nx ?_|refine bA rfl ?_)|simp only[go_sem,d,t.cell,aU (show(i:Int)<(g.nD:Int) by omega),aU (show(i:Int)<20 by omega),if_pos ci,c9,Nat.mul_one,IU,gL,eC (g.fD i 0) (bD i 0),L]));obtain⟨s,R,fp,⟨GQ,Po,Pp,Pq,Tj,GR,NA,NB,rfl,E⟩,h2,h3,h4,U,hQ⟩:=C;refine aw (NJ E (g.fD i 0%100) (by omega)) ?_;rintro v w5 ⟨rfl,m⟩;obtain⟨y0,y1⟩:=tW E.inv.ok (g.fD i 0%100);obtain⟨y,H⟩: ∃y,y=rH s (g.fD i 0%100):=⟨_,rfl⟩;rw[←H]at y0 y1⊢
  replace E:=E.ab m
  replace h3:=h3.nil m
  have G:=E.ab (ae.drew [] w5);refine gO ?_;refine aW [b] ?_;refine aQ G.at_.cell ?_;obtain⟨s',e1,e2,e3,e4,_⟩:=tU E.inv.ok y;refine bI (Qs G.f y) ?_;rintro v w6 ⟨rfl,D,ff6,FP,QL⟩;refine⟨.inr ((SB.refl _ _).only D fun z N=>by simp only[aK]at N;subst N;exact⟨G.at_.lt,E.d1.2.2.1⟩),?_⟩;refine gO ?_;refine bI (EW (G.h.keep D fun z N=>(E.d2 z N).2.1) y (by omega)) ?_;rintro v w7 ⟨rfl,X,J⟩;refine⟨.inl rfl,?_⟩;rw[e1]at X;rw[←e2]at FP;have g5:=G.both (E.inv.kill e1 (X.ok s' rfl)) D FP QL J X;have S9:Sz s' 40 nb:=⟨by rw[e4];exact h4.1,by have:=h4.2.1;have:=Db s.abs y;rw[←e2,kg,kg]at this;omega,by rw[e3];exact h4.2.2.1,by rw[e2];exact h4.2.2.2.dh _⟩;have QM:lW w1 w7 b 40 nb false (Tg g (i+1)):=lW.next h2 h3 g5.1 ((ae.drew _ w5).same g5.2) (fun x k=>by
   simp only[List.mem_cons,List.mem_append]at k⊢;rcases k with k|k|k|k|k
   ·simp[k]
   ·simp[k]
   ·simp[k]
   ·rcases QL x k with h|h
    ·simp[h]
    ·exact .inr h
   ·simp[k]) S9 (U.f (by rw[e2];exact U.1.dh _)) ⟨(s,R),hQ,by rw[←H];exact e1,rfl⟩
  refine eZ d z1 (ga E.inv.ok y) (dg (rfl:cK (some s) y=cK (some s) y)) ?_;refine l _ w7 ⟨i+1,?_,by omega,QM⟩ ?_
  ·simp only[go_sem]
  ·exact aJ d
 refine run_seq ?_;refine bH (13::14::15::16::17::136::137::138::139::140::141::142::143::144::145::146::147::148::149::150::151::152::153::154::155::156::157::158::159::160::161::162::163::164::165::166::167::168::169::170::171::172::173::174::175::176::177::178::179::180::181::182::183::184::185::186::187::188::189::190::191::[]) (fun _ w'=>lW w1 w' b 40 nb true (QJ g (min g.nL 120))) (fun kk F=>?_) (fun g3 qx hI3=>?_)
 ·refine gO ?_;refine az (13::14::15::16::17::136::137::138::139::140::141::142::143::144::145::146::147::148::149::150::151::152::153::154::155::156::157::158::159::160::161::162::163::164::165::166::167::168::169::170::171::172::173::174::175::176::177::178::179::180::181::182::183::184::185::186::187::188::189::190::191::[]) (fun I w'=> ∃i:Nat,I 13=.int .i64 i∧i≤min g.nL 120∧lW w1 w' b 40 nb true (QJ g i)) (fun I _=>bw 120 13 I) ⟨0,by simp only[go_sem];rfl,by omega,T6.up⟩ fun I w' C l=>?_;obtain⟨i,d,Z,C⟩:=C;have o':=W C;have t:=NN w' o';have r:min g.nL 120≤i→i=min g.nL 120:=fun h=>by omega
  by_cases c1:i<g.nL;rotate_left
  ·refine cT d t.cell (aX (show¬(i:Int)<(g.nL:Int) by omega)) ?_;refine F _ w' (r (by omega)▸C)
  by_cases c2:i<120;rotate_left
  ·refine eZ d t.cell (aU (show(i:Int)<(g.nL:Int) by omega)) (aX (show¬(i:Int)<120 by omega)) ?_;refine F _ w' (r (by omega)▸C)
  have ci:(0:Int)≤(i:Int)∧(i:Int)<(g.nL:Int):=by omega
  have z1:IntKind.i64.wrap ((i:Int)+1)=((i+1:Nat):Int):=by rw[IntWalk.i64_in _ (by omega)];omega
  obtain⟨a',c',e',_,O⟩:=kU hL w' o';cases e';obtain⟨p,rfl,JK,K⟩:=O i c1;have L:((g.fL i 0:Nat):Int).tmod 100=((g.fL i 0%100:Nat):Int):=iR _ 100;have QN:((g.fL i 2:Nat):Int).tmod 100=((g.fL i 2%100:Nat):Int):=iR _ 100;have q4:((3:Nat):Int)=3:=rfl;have t0:Int.toNat 0*1=0:=rfl;have t1:Int.toNat 1*1=1:=rfl;have t2:Int.toNat 2*1=2:=rfl;have rU:aC w' (p.add (i*3)) 3=some [gL (g.fL i 0),gL (g.fL i 1),gL (g.fL i 2)]:=tX (fun j=>gL (g.fL i j)) K;refine k7 d t.cell (aU (show(i:Int)<(g.nL:Int) by omega)) (aU (show(i:Int)<120 by omega)) (eq_true ci) @Int.toNat_natCast rU ?_;refine bp fun x w2' k ZO Wv hox=>?_;refine gO ?_;refine dF Wv rfl (by simp) (by simp[bh,gL]) fun ZU aa4 P Ww=>?_;have P:At ZU x [gL (g.fL i 0),gL (g.fL i 1),gL (g.fL i 2)]:=P;have o3:ae [] w' ZU:=hox.trans Ww fun y H=>by simp only[aK]at H;subst H;exact .inr (by omega)
  obtain⟨s,R,fp,⟨GQ,Po,Pp,Pq,Tj,GR,NA,NB,rfl,E⟩,h2,h3,h4,U,hQ⟩:=C.ab o3;(repeat(first|with_reducible(first|refine nx ?_|refine bA rfl ?_)|simp only[go_sem,q4,t0,P.cell,gL,eC (g.fL i 0) (bL i 0),L]));refine aw (NJ E (g.fL i 0%100) (by omega)) ?_;rintro v w5 ⟨rfl,m⟩;obtain⟨y0,y1⟩:=tW E.inv.ok (g.fL i 0%100);obtain⟨y,H⟩: ∃y,y=rH s (g.fL i 0%100):=⟨_,rfl⟩;rw[←H]at y0 y1⊢
  replace E:=E.ab m
  replace h3:=h3.nil m
  refine aQ E.at_.cell ?_;refine aw (Mw E.f y) ?_;rintro v w6 ⟨rfl,D⟩;obtain⟨⟨sh,er⟩,e⟩: ∃x,x=s.abs.jL y:=⟨_,rfl⟩;rw[←e];refine gO ?_;refine bp fun u w7' hu hsu Wx hou=>?_;refine gO ?_;refine dF (cs:=bS sh) Wx rfl (by simp[bS]) (dm _) fun NO aa5 Y Wy=>?_;rw[dz]at Y;have o8:ae [] w5 NO:=D.nil (hou.trans Wy fun y H=>by simp only[aK]at H;subst H;exact .inr (by omega));have ZV:At NO x [gL (g.fL i 0),gL (g.fL i 1),gL (g.fL i 2)]:=(P.ab m).ab o8;have ZW:NO.drew.cell? ⟨u,0,none⟩=some (.int .i64 sh.1):=by rw[Y.drew.cell];rfl
  have Wz:ae [] w5 NO.drew:=o8.nil (ae.drew [] NO);have M:=E.ab Wz;have skip: ¬(er=0∧0<sh.1)→lW w1 NO.drew b 40 nb true (QJ g (i+1)):=fun c=>⟨s,R,_,⟨GQ,Po,Pp,Pq,Tj,GR,NA,NB,rfl,M⟩,h2,h3.nil Wz,h4,U,(s,R),hQ,by
   show TL g i (s,R) (s,R);unfold TL;simp only;rw[←H,←e,if_neg c];exact⟨trivial,trivial⟩⟩
  have hlx:=ZV.lt;have hlu:=Y.lt;refine gO ?_;refine aW [x,u] ?_;by_cases ce:er=0;rotate_left
  ·refine aQ (cU ce) ?_;refine aZ d z1 ?_;refine l _ _ ⟨i+1,?_,by omega,skip fun h=>ce h.1⟩ ?_
   ·simp only[go_sem]
   ·exact aJ d
  by_cases cr:0<sh.1;rotate_left
  ·refine cT (cZ ce) ZW (aX cr) ?_;refine aZ d z1 ?_;refine l _ _ ⟨i+1,?_,by omega,skip fun h=>cr h.2⟩ ?_
   ·simp only[go_sem]
   ·exact aJ d
  (repeat(first|with_reducible(first|refine nx ?_|refine bA rfl ?_)|simp only[go_sem,cZ ce,ZW,aU cr,q4,t0,t1,t2,ZV.drew.cell,gL,eC (g.fL i 1) (bL i 1),eC (g.fL i 2) (bL i 2),QN,wF (show sh.1≠0 by omega) (.int .i64 (((g.fL i 1:Nat):Int).tmod sh.1))]));refine bI (NJ M (g.fL i 2%100) (by omega)) ?_;rintro v w9' ⟨rfl,kC⟩;obtain⟨t0',t1'⟩:=tW M.inv.ok (g.fL i 2%100);refine⟨.inr ((SB.refl _ _).only kC fun z N=>⟨by
   simp only[List.mem_cons,List.not_mem_nil,or_false]at N;rcases N with rfl|rfl
   ·exact hlx
   ·exact hlu,by simp⟩),?_⟩
  refine gO ?_;refine bI (QK (Q:=QJ g (i+1)) ⟨⟨GQ,Po,Pp,Pq,Tj,GR,NA,NB,rfl,M.ab kC⟩,h2,(h3.nil Wz).nil kC,h4,U⟩ y _ (rH s (g.fL i 2%100)) (by omega) ⟨t0',t1'⟩ (AX _ _) fun s' es=>⟨(s,R),hQ,by
   show TL g i (s,R) (s',R);unfold TL;simp only;rw[←H,←e,if_pos ⟨ce,cr⟩];exact⟨es,trivial⟩⟩) ?_
  rintro v wA ⟨rfl,WA,S,hS,ZT⟩;refine⟨.inl rfl,?_⟩;refine gO ?_;refine aZ d z1 ?_;refine l _ _ ⟨i+1,?_,by omega,WA⟩ ?_
  ·simp only[go_sem]
  ·exact aJ d
 refine run_seq ?_;refine bH (18::192::193::194::195::196::197::198::199::200::201::202::203::204::205::206::207::208::209::210::211::212::213::214::215::216::217::218::219::220::221::222::[]) (fun _ w'=>lW w1 w' b 40 nb true (Th g (min g.nP 20))) (fun kk F=>?_) (fun g4 wN hI4=>?_)
 ·refine gO ?_;refine az (18::192::193::194::195::196::197::198::199::200::201::202::203::204::205::206::207::208::209::210::211::212::213::214::215::216::217::218::219::220::221::222::[]) (fun I w'=> ∃i:Nat,I 18=.int .i64 i∧i≤min g.nP 20∧lW w1 w' b 40 nb true (Th g i)) (fun I _=>bw 20 18 I) ⟨0,by simp only[go_sem];rfl,by omega,hI3⟩ fun I w' C l=>?_;obtain⟨i,d,Z,C⟩:=C;have o':=W C;have t:=NN w' o';have r:min g.nP 20≤i→i=min g.nP 20:=fun h=>by omega
  by_cases c1:i<g.nP;rotate_left
  ·refine cT d t.cell (aX (show¬(i:Int)<(g.nP:Int) by omega)) ?_;refine F _ w' (r (by omega)▸C)
  by_cases c2:i<20;rotate_left
  ·refine eZ d t.cell (aU (show(i:Int)<(g.nP:Int) by omega)) (aX (show¬(i:Int)<20 by omega)) ?_;refine F _ w' (r (by omega)▸C)
  have ci:(0:Int)≤(i:Int)∧(i:Int)<(g.nP:Int):=by omega
  have z1:IntKind.i64.wrap ((i:Int)+1)=((i+1:Nat):Int):=by rw[IntWalk.i64_in _ (by omega)];omega
  obtain⟨a',c',e',_,O⟩:=kU hP w' o';cases e';obtain⟨p,rfl,JK,K⟩:=O i c1;refine eZ d t.cell (aU (show(i:Int)<(g.nP:Int) by omega)) (aU (show(i:Int)<20 by omega)) ?_;have q4:((2:Nat):Int)=2:=rfl;have t0:Int.toNat 0*1=0:=rfl;have t1:Int.toNat 1*1=1:=rfl;have ta:(p.add (i*2)).add 0=p.add (i*2):=rfl;have L:((g.fP i 1:Nat):Int).tmod 100=((g.fP i 1%100:Nat):Int):=iR _ 100;have IU:w'.drew.cell? (p.add (i*2))=some (gL (g.fP i 0)):=K 0 (by omega);have P1:w'.drew.cell? ⟨p.block,(p.add (i*2)).off+1,none⟩=some (gL (g.fP i 1)):=by
   have:w'.drew.cell? _=_:=K 1 (by omega);rw[←de p (i*2)];exact this
  have Wu: ∀n,KK [q,p.block] (.pointer (some (p.add n)))=True:=fun n=>by simp[KK,de]
  have ZX:=C.ab (ae.drew [] w');have ZR:w1.heap.size≤w'.drew.heap.size:=(W ZX).size;have O1: ∀z,z∈[q,p.block]→z<w1.heap.size:=fun z N=>by
   simp only[List.mem_cons,List.not_mem_nil,or_false]at N;rcases N with rfl|rfl<;>omega
  refine aW [q,p.block] ?_;(repeat(first|with_reducible(first|refine nx ?_|refine bA rfl ?_)|simp only[go_sem,d,t.drew.cell,if_pos ci,c9,q4,t0,t1,ta,de,Wu,IU,P1,gL,eC (g.fP i 0) (bP i 0),eC (g.fP i 1) (bP i 1),L]));obtain⟨sL,RL',fpL,⟨hbL,rbL,qbL,kbL,fhL,frL,ffL,fkL,eL,M⟩,WB,hoL,WC,WD,hQ⟩:=ZX;refine bI (NJ M (g.fP i 1%100) (by omega)) ?_;rintro v w5 ⟨rfl,m⟩;refine⟨.inr ((SB.refl _ _).only m fun z N=>⟨by have:=O1 z N;omega,by simp⟩),?_⟩;refine gO ?_;refine bI (Wt (Q:=Th g (i+1)) ⟨⟨hbL,rbL,qbL,kbL,fhL,frL,ffL,fkL,eL,M.ab m⟩,WB,hoL.nil m,WC,WD⟩ (g.fP i 0) (by have:=bP i 0;omega) (rH sL (g.fP i 1%100)) (AX _ _) fun R' er=>⟨(sL,RL'),hQ,er,rfl⟩) ?_;rintro v w7 ⟨rfl,QM,S,hS,ZT⟩;refine⟨.inl rfl,?_⟩;refine aZ d z1 ?_;refine l _ w7 ⟨i+1,?_,by omega,QM⟩ ?_
  ·simp only[go_sem]
  ·exact aJ d
 refine run_seq ?_;refine bH (19::20::223::224::225::226::227::228::229::230::231::232::233::234::235::236::237::238::239::240::241::242::243::244::245::246::247::248::249::250::251::252::253::254::255::[]) (fun _ w'=>lW w1 w' b 40 nb true (Ti g (min g.nN 8))) (fun kk F=>?_) (fun g5 uy hI5=>?_)
 ·refine gO ?_;refine az (19::20::223::224::225::226::227::228::229::230::231::232::233::234::235::236::237::238::239::240::241::242::243::244::245::246::247::248::249::250::251::252::253::254::255::[]) (fun I w'=> ∃i:Nat,I 19=.int .i64 i∧i≤min g.nN 8∧lW w1 w' b 40 nb true (Ti g i)) (fun I _=>bw 8 19 I) ⟨0,by simp only[go_sem];rfl,by omega,hI4⟩ fun I w' C l=>?_;obtain⟨i,d,Z,C⟩:=C;have o':=W C;have t:=NN w' o';have r:min g.nN 8≤i→i=min g.nN 8:=fun h=>by omega
  by_cases c1:i<g.nN;rotate_left
  ·refine cT d t.cell (aX (show¬(i:Int)<(g.nN:Int) by omega)) ?_;refine F _ w' (r (by omega)▸C)
  by_cases c2:i<8;rotate_left
  ·refine eZ d t.cell (aU (show(i:Int)<(g.nN:Int) by omega)) (aX (show¬(i:Int)<8 by omega)) ?_;refine F _ w' (r (by omega)▸C)
  have ci:(0:Int)≤(i:Int)∧(i:Int)<(g.nN:Int):=by omega
  have z1:IntKind.i64.wrap ((i:Int)+1)=((i+1:Nat):Int):=by rw[IntWalk.i64_in _ (by omega)];omega
  obtain⟨a',c',e',_,O⟩:=kU hN w' o';cases e';obtain⟨p,rfl,JK,K⟩:=O i c1;have L:((g.fN i 0:Nat):Int).tmod 100=((g.fN i 0%100:Nat):Int):=iR _ 100;have IU:w'.cell? (p.add i)=some (gL (g.fN i 0)):=by
   have:=K 0 (by omega);rw[Nat.mul_one]at this;exact this
  (repeat(first|with_reducible(first|refine nx ?_|refine bA rfl ?_)|simp only[go_sem,d,t.cell,aU (show(i:Int)<(g.nN:Int) by omega),aU (show(i:Int)<8 by omega),if_pos ci,c9,Nat.mul_one,IU,gL,eC (g.fN i 0) (bN i 0),L]));obtain⟨s,R,fp,⟨GQ,Po,Pp,Pq,Tj,GR,NA,NB,rfl,E⟩,h2,h3,h4,U,hQ⟩:=C;refine aw (NJ E (g.fN i 0%100) (by omega)) ?_;rintro v w5 ⟨rfl,m⟩;obtain⟨y0,y1⟩:=tW E.inv.ok (g.fN i 0%100);obtain⟨y,H⟩: ∃y,y=rH s (g.fN i 0%100):=⟨_,rfl⟩;rw[←H]at y0 y1⊢
  replace E:=E.ab m
  replace h3:=h3.nil m
  have G:=E.ab (ae.drew [] w5);refine gO ?_;refine aW [b] ?_;refine aQ G.at_.cell ?_;obtain⟨s',e1,e2,e3,_,e5,e6,e7⟩:=IS E.inv.ok y 1 (by omega);have N5:HL.aj s'=s.aj:=by unfold HL.aj;rw[e5]
  refine bI (VP G.f y) ?_;rintro v w6 ⟨rfl,FP,D⟩;refine⟨.inr ((SB.refl _ _).only D fun z N=>by simp only[aK]at N;subst N;exact⟨G.at_.lt,E.d1.2.2.1⟩),?_⟩;refine gO ?_;refine bI (VL (G.h.keep D fun z N=>(E.d2 z N).2.1) y (by omega)) ?_;rintro v w7 ⟨rfl,X,J⟩;refine⟨.inl rfl,?_⟩;rw[e1]at X;rw[show s.abs.iL y true=s'.abs from e2.symm]at FP;have g5:=G.both (E.inv.pin e1 (X.ok s' rfl) e7) D FP (fun x k=>.inl k) J X;have QM:lW w1 w7 b 40 nb true (Ti g (i+1)):=lW.next h2 h3 g5.1 ((ae.drew _ w5).same g5.2) (fun x k=>.inl k) ⟨by rw[e6];exact h4.1,by rw[N5];exact h4.2.1,by rw[e3];exact h4.2.2.1,by rw[e2];exact h4.2.2.2.iL _ _⟩ (U.st e5 (by rw[e2];exact U.1.iL _ _)) ⟨(s,R),hQ,by rw[←H];exact e1,rfl⟩;refine eZ d z1 (ga E.inv.ok y) (dg (rfl:cK (some s) y=cK (some s) y)) ?_;refine l _ w7 ⟨i+1,?_,by omega,QM⟩ ?_
  ·simp only[go_sem]
  ·exact aJ d
 refine gO ?_;obtain⟨s,R,fp,E,h2,h3,h4,h5⟩:=hI5;exact⟨b,rfl,s,R,fp,E,fun x k=>by have:=h2 x k;omega,ja.nil h3,h4,h5⟩
end
def jW:List Int→Int→Nat
 | [],_=>0
 |y::l,x=>if y<x then jW l x+1 else 0
def lX (l:List Int) (x:Int):List Int:=if jW l x<l.length∧l.getD (jW l x) 0=x then l else l.take (jW l x)++[x]++l.drop (jW l x)
theorem BS: ∀(l:List Int) (x:Int),jW l x≤l.length
 | [],_=>Nat.le_refl _
 |y::l,x=>by
  unfold jW
  split
  ·have:=BS l x;simp only[List.length_cons];omega
  ·omega
theorem xu: ∀ {l:List Int} {x:Int} {k:Nat},k≤l.length→(∀j,j<k→l.getD j 0<x)→(k<l.length→ ¬l.getD k 0<x)→jW l x=k
 | [],x,k,h,_,_=>by simp at h;subst h;rfl
 |y::l,x,0,_,_,h=>by
  have:=h (by simp)
  simp only[List.getD_cons_zero]at this
  unfold jW;rw[if_neg this]
 |y::l,x,k+1,d,b,m=>by
  have:=b 0 (by omega)
  simp only[List.getD_cons_zero]at this
  unfold jW
  rw[if_pos this,xu (k:=k) (by simpa using d) (fun j q=>by have:=b (j+1) (by omega);simpa using this) fun o=>by have:=m (by simpa using o);simpa using this]
theorem zm {l:List Int} {x y:Int}:y∈lX l x↔y=x∨y∈l:=by
 unfold lX;by_cases c:jW l x<l.length∧l.getD (jW l x) 0=x
 ·rw[if_pos c];refine⟨.inr,fun h=>h.elim (fun e=>?_) id⟩;rw[e,←c.2];simp[c.1]
 ·rw[if_neg c];have e:l=l.take (jW l x)++l.drop (jW l x):=(List.take_append_drop _ _).symm;constructor
  ·intro h;simp only[List.mem_append,aK]at h;rcases h with(h|h)|h
   ·exact .inr (List.mem_of_mem_take h)
   ·exact .inl h
   ·exact .inr (List.mem_of_mem_drop h)
  ·intro h;simp only[List.mem_append,aK];rcases h with h|h
   ·exact .inl (.inr h)
   ·rw[e,List.mem_append]at h;exact h.elim (fun h=>.inl (.inl h)) .inr
section
set_option maxRecDepth 8000
variable {l:List Int} {fp:List Nat} {k n:Nat} {v:Value} {w:World}
theorem Dc (h:Sl w 1 v n (ints l) fp) (j:k≤n): ∃b,iD 1 v none (some (.int .i64 (k:Int)))=some b∧bn w 1 b k (ints (l.take k)):=by
 have m:(ints l).length=n*1:=h.1;rcases h.2 with⟨rfl,rfl,_⟩|⟨g,cap,ys,T,rfl,_,o,t,q⟩
 ·obtain rfl:k=0:=by omega
  exact⟨.slice none 0 0,rfl,rfl,.inl ⟨0,rfl,rfl⟩⟩
 ·obtain⟨b,r,d⟩:=qa (k:=.i64) (sz:=1) (⟨T,o⟩:At w g (ints l++ys)) m j q;refine⟨b,r,?_⟩;have:(ints l).take (k*1)=ints (l.take k):=by unfold ints;rw[Nat.mul_one,List.map_take]
  rw[this]at d;exact d
theorem Dd (h:Sl w 1 v n (ints l) fp) (m:k≤n): ∃b,iD 1 v (some (.int .i64 (k:Int))) none=some b∧bn w 1 b (n-k) (ints (l.drop k)):=by
 have d:(ints l).length=n*1:=h.1;rcases h.2 with⟨rfl,rfl,_⟩|⟨g,cap,ys,T,rfl,_,o,t,q⟩
 ·obtain rfl:k=0:=by omega
  exact⟨.slice none 0 0,rfl,by simpa[ints]using d,.inl ⟨0,rfl,rfl⟩⟩
 ·obtain⟨b,r,j⟩:=qc (k:=.i64) (sz:=1) (⟨T,o⟩:At w g (ints l++ys)) d m q;refine⟨b,r,?_⟩;have:(ints l).drop (k*1)=ints (l.drop k):=by unfold ints;rw[Nat.mul_one,List.map_drop]
  rw[this]at j;exact j
theorem MN (h:Sl w 1 v n (ints l) fp) (hn:n≤100000) (x:Int):Cs Tryz.prog 210 [v,.int .i64 x] w fun r w'=>ae [] w w'∧ ∃S,Sl w' 1 r (lX l x).length (ints (lX l x)) S∧ ∀y,y∈S→y∈fp∨w.heap.size≤y:=by
 have hl:l.length=n:=by have:=h.1;rw[ax]at this;omega
 have hp:=BS l x;obtain⟨a0,c0,rfl⟩:=h.val;have C2: ∀i:Nat,i<n→ ∃g,a0=some ⟨g,0,none⟩∧w.cell? ⟨g,i,none⟩=some (.int .i64 (l.getD i 0)):=fun i hi=>by
  obtain⟨g,cap,ys,e,xc,_,_⟩:=h.pos (by omega);cases e;exact⟨g,rfl,by rw[xc.cell];exact aG ys (by omega)⟩
 refine en [5,8,11,17,26,29,32,1,4,1,16,22,25,37,38,0,22,16,25,37,38,0,22,4,16,25,37,38,0] ?_;(repeat(first|with_reducible(first|refine Er ?_|refine Es ?_|refine Et ?_|refine Eu ?_|refine bA rfl ?_|refine Jf ?_|refine Jg ?_|refine Jh ?_|refine Ji ?_)|simp only[go_sem]));refine bH (5::6::7::8::9::10::11::12::13::14::15::16::17::18::19::[]) (fun Fc w'=>Fc 5=.int .i64 ((jW l x:Nat):Int)∧w'=w) (fun kk U=>?_) (fun g w1 hJ=>?_)
 ·refine gO ?_;refine az (5::6::7::8::9::10::11::12::13::14::15::16::17::18::19::[]) (fun g w'=> ∃i:Nat,g 5=.int .i64 (i:Int)∧i≤n∧(∀j,j<i→l.getD j 0<x)∧w'=w) (fun g _=>bw n 5 g) ⟨0,by simp only[go_sem];rfl,by omega,fun j hj=>absurd hj (by omega),rfl⟩ fun g1 u hI pD=>?_;obtain⟨i,T,hi,wg,rfl⟩:=hI;by_cases c1:i<n;rotate_left
  ·refine aZ T (aX (show¬(i:Int)<(n:Int) by omega)) ?_;refine U _ _ ⟨?_,rfl⟩
   ·rw[xu (k:=i) (by omega) wg (fun h=>absurd h (by omega))];simp only[go_sem,T]
  obtain⟨g,rfl,z⟩:=C2 i c1;have ci:(0:Int)≤(i:Int)∧(i:Int)<(n:Int):=by omega
  have z1:=au i (by omega);by_cases c2:l.getD i 0<x
  ·refine xG T (aU ci.2) (eq_true ci) @Int.toNat_natCast @Nat.mul_one z (aU c2) z1 ?_;refine pD _ _ ⟨i+1,?_,by omega,fun j hj=>?_,rfl⟩ ?_
   ·simp only[go_sem]
   ·by_cases e:j=i
    ·rw[e];exact c2
    ·exact wg j (by omega)
   ·exact aJ T
  ·refine k7 T (aU ci.2) (eq_true ci) @Int.toNat_natCast @Nat.mul_one z (aX c2) ?_;refine U _ _ ⟨?_,rfl⟩
   ·rw[xu (k:=i) (by omega) wg (fun _=>c2)];simp only[go_sem,T]
 obtain⟨T,rfl⟩:=hJ;obtain⟨k,hk⟩: ∃k,k=jW l x:=⟨_,rfl⟩;rw[←hk]at T hp;have V:lX l x=if k<l.length∧l.getD k 0=x then l else l.take k++[x]++l.drop k:=by rw[hk];rfl
 have Ir: ∀(c:k<l.length∧l.getD k 0=x),Sl w1 1 (.slice a0 n c0) (lX l x).length (ints (lX l x)) fp:=fun c=>by rw[V,if_pos c,hl];exact h
 obtain⟨v36,e36,WE⟩:=Dc h (show k≤n by omega);obtain⟨v43,e43,WG⟩:=Dd h (show k≤n by omega);have W: ∀(c: ¬(k<l.length∧l.getD k 0=x)) {X:World} {v:Value} {m:Nat} {S:List Nat},m=(lX l x).length→Sl X 1 v m (ints (l.take k)++[.int .i64 x]++ints (l.drop k)) S→Sl X 1 v (lX l x).length (ints (lX l x)) S:=fun c X v m S e hs=>by
  rw[e]at hs;have:ints (lX l x)=ints (l.take k)++[.int .i64 x]++ints (l.drop k):=by rw[V,if_neg c];simp[ints]
  rw[this];exact hs
 have Y: ∀(c: ¬(k<l.length∧l.getD k 0=x)),k+1+(n-k)=(lX l x).length:=fun c=>by
  rw[V,if_neg c];simp only[cH,List.length_take,List.length_drop,List.length_singleton];omega
 refine run_seq ?_;refine bH (4::20::21::22::23::24::25::26::27::28::29::30::31::32::[]) (fun _ X=> ¬(k<l.length∧l.getD k 0=x)∧X=w1) (fun kk U=>?_) (fun g2 u hJ2=>?_)
 ·by_cases c3:k<n;rotate_left
  ·refine aZ T (aX (show¬(k:Int)<(n:Int) by omega)) ?_;refine U _ _ ⟨fun h=>c3 (by omega),rfl⟩
  obtain⟨g,rfl,z⟩:=C2 k c3;have ci:(0:Int)≤(k:Int)∧(k:Int)<(n:Int):=by omega
  by_cases c4:l.getD k 0=x
  ·refine k7 T (aU ci.2) (eq_true ci) @Int.toNat_natCast @Nat.mul_one z (cZ c4) ?_;exact⟨ae.refl _ _,fp,Ir ⟨by omega,c4⟩,fun y b=>.inl b⟩
  ·refine k7 T (aU ci.2) (eq_true ci) @Int.toNat_natCast @Nat.mul_one z (cU c4) ?_;refine U _ _ ⟨fun h=>c4 h.2,rfl⟩
 obtain⟨hc,rfl⟩:=hJ2;have hd:u.drew.heap.size=u.heap.size:=rfl;refine gO ?_;refine aW [] ?_;refine cT T e36 e43 ?_;refine⟨?_,?_⟩
 ·skip
  refine yh fun q33 WH WI WJ I R=>⟨.inl rfl,?_⟩;have J:ae [] u WH:=(ae.drew [] u).nil R;have z33:=J.size;refine gO ?_;refine⟨?_,?_⟩
  ·skip
   refine rN (Sl.qM I) (WE.ab J) bR (by omega) (by omega) ?_;intro v37 Z f37 K L B _;refine⟨.inl rfl,?_⟩;have G:ae [] u Z:=(J).trans B fun y b=>.inr (by simp only[aK]at b;omega);have z37:=G.size;have o: ∀y,y∈f37→u.heap.size≤y:=fun y b=>by
    rcases L with e|e<;>rw[e]at b<;>simp only[aK]at b<;>omega
   refine gO ?_;refine yh fun ZY QO QP QQ C D=>⟨.inl rfl,?_⟩;have H:ae [] u QO:=(G).nil D;have ZZ:=H.size;refine gO ?_;have E:=K.ab D;have d:=C;refine rN E (bn.at (us:=[.int .i64 x]) d rfl) (by simp[bh]) (by omega) (by omega) ?_;intro v40 QR f40 M N q _;refine⟨.inl rfl,?_⟩;have QS:=q.size;have F:ae [] u QR:=H.trans q fun y b=>.inr (o y b);have t: ∀y,y∈f40→u.heap.size≤y:=fun y b=>by
    have:=H.size;rcases N with e|e<;>rw[e]at b
    ·exact o y b
    ·simp only[aK]at b;omega
   refine gO ?_;refine rN M (WG.ab F) bR (by omega) (by omega) ?_;intro Z0 QT f44 O P Q _;refine⟨.inl rfl,?_⟩;have QU:ae [] u QT:=F.trans Q fun y b=>.inr (t y b);refine gO ?_;refine⟨QU,f44,W hc ((by omega:0+k+1+(n-k)=k+1+(n-k)).trans (Y hc)) O,fun y b=>.inr ?_⟩;have:=F.size;rcases P with e|e<;>rw[e]at b
   ·exact t y b
   ·simp only[aK]at b;omega
  ·skip
   refine yh fun ZY QO QP QQ C D=>⟨.inl rfl,?_⟩;have H:ae [] u QO:=(J).nil D;have ZZ:=H.size;refine gO ?_;refine rN (Sl.qM (I.ab D)) (WE.ab H) bR (by omega) (by omega) ?_;intro v37 Z f37 K L B _;refine⟨.inl rfl,?_⟩;have G:ae [] u Z:=(H).trans B fun y b=>.inr (by simp only[aK]at b;omega);have z37:=G.size;have o: ∀y,y∈f37→u.heap.size≤y:=fun y b=>by
    rcases L with e|e<;>rw[e]at b<;>simp only[aK]at b<;>omega
   refine gO ?_;have E:=K;have d:=C.keep B (by simp only[aK];omega);refine rN E (bn.at (us:=[.int .i64 x]) d rfl) (by simp[bh]) (by omega) (by omega) ?_;intro v40 QR f40 M N q _;refine⟨.inl rfl,?_⟩;have QS:=q.size;have F:ae [] u QR:=G.trans q fun y b=>.inr (o y b);have t: ∀y,y∈f40→u.heap.size≤y:=fun y b=>by
    have:=G.size;rcases N with e|e<;>rw[e]at b
    ·exact o y b
    ·simp only[aK]at b;omega
   refine gO ?_;refine rN M (WG.ab F) bR (by omega) (by omega) ?_;intro Z0 QT f44 O P Q _;refine⟨.inl rfl,?_⟩;have QU:ae [] u QT:=F.trans Q fun y b=>.inr (t y b);refine gO ?_;refine⟨QU,f44,W hc ((by omega:0+k+1+(n-k)=k+1+(n-k)).trans (Y hc)) O,fun y b=>.inr ?_⟩;have:=F.size;rcases P with e|e<;>rw[e]at b
   ·exact t y b
   ·simp only[aK]at b;omega
 ·skip
  refine yh fun ZY QO QP QQ C D=>⟨.inl rfl,?_⟩;have H:ae [] u QO:=(ae.drew [] u).nil D;have ZZ:=H.size;refine gO ?_;refine yh fun q33 WH WI WJ I R=>⟨.inl rfl,?_⟩;have J:ae [] u WH:=(H).nil R;have z33:=J.size;refine gO ?_;refine rN (Sl.qM I) (WE.ab J) bR (by omega) (by omega) ?_;intro v37 Z f37 K L B _;refine⟨.inl rfl,?_⟩;have G:ae [] u Z:=(J).trans B fun y b=>.inr (by simp only[aK]at b;omega);have z37:=G.size;have o: ∀y,y∈f37→u.heap.size≤y:=fun y b=>by
   rcases L with e|e<;>rw[e]at b<;>simp only[aK]at b<;>omega
  refine gO ?_;have E:=K;have d:=(C.ab R).keep B (by simp only[aK];omega);refine rN E (bn.at (us:=[.int .i64 x]) d rfl) (by simp[bh]) (by omega) (by omega) ?_;intro v40 QR f40 M N q _;refine⟨.inl rfl,?_⟩;have QS:=q.size;have F:ae [] u QR:=G.trans q fun y b=>.inr (o y b);have t: ∀y,y∈f40→u.heap.size≤y:=fun y b=>by
   have:=G.size;rcases N with e|e<;>rw[e]at b
   ·exact o y b
   ·simp only[aK]at b;omega
  refine gO ?_;refine rN M (WG.ab F) bR (by omega) (by omega) ?_;intro Z0 QT f44 O P Q _;refine⟨.inl rfl,?_⟩;have QU:ae [] u QT:=F.trans Q fun y b=>.inr (t y b);refine gO ?_;refine⟨QU,f44,W hc ((by omega:0+k+1+(n-k)=k+1+(n-k)).trans (Y hc)) O,fun y b=>.inr ?_⟩;have:=F.size;rcases P with e|e<;>rw[e]at b
  ·exact t y b
  ·simp only[aK]at b;omega
end
section
variable {l:List Int}
def mz (l:List Int):Prop:=l.Pairwise (· < ·)
def zn:List Int→Int→List Int
 | [],x=>[x]
 |y::l,x=>if y<x then y::zn l x else if y=x then y::l else x::y::l
theorem tY: ∀(l:List Int) (x:Int),lX l x=zn l x
 | [],x=>by simp[lX,zn,jW]
 |y::l,x=>by
  unfold zn
  by_cases c:y<x
  ·rw[if_pos c,←tY l x]
   have e:jW (y::l) x=jW l x+1:=if_pos c
   unfold lX
   rw[e]
   by_cases b:jW l x<l.length∧l.getD (jW l x) 0=x
   ·rw[if_pos b,if_pos (by simp only[List.length_cons,List.getD_cons_succ];exact⟨by omega,b.2⟩)]
   ·rw[if_neg b,if_neg (by simp only[List.length_cons,List.getD_cons_succ];exact fun h=>b ⟨by omega,h.2⟩)]
    simp
  ·have e:jW (y::l) x=0:=if_neg c
   rw[if_neg c]
   unfold lX
   rw[e]
   by_cases b:y=x
   ·rw[if_pos b,if_pos (by simp[b])]
   ·rw[if_neg b,if_neg (by simp[b])]
    simp
theorem F9 {x y:Int}:y∈zn l x↔y=x∨y∈l:=by rw[←tY];exact zm
theorem vz: ∀ {l:List Int} (x:Int),mz l→mz (zn l x)
 | [],x,_=>by simp[zn,mz]
 |y::l,x,h=>by
  obtain⟨d,k⟩:=List.pairwise_cons.1 h
  unfold zn
  by_cases c:y<x
  ·rw[if_pos c]
   refine List.pairwise_cons.2 ⟨fun z b=>?_,vz x k⟩
   rcases F9.1 b with rfl|b
   ·exact c
   ·exact d z b
  ·rw[if_neg c]
   by_cases j:y=x
   ·rw[if_pos j];exact h
   ·rw[if_neg j]
    refine List.pairwise_cons.2 ⟨fun z b=>?_,h⟩
    rcases List.mem_cons.1 b with rfl|b
    ·omega
    ·have:=d z b;omega
theorem De (x:Int) (h:mz l):mz (lX l x):=by rw[tY];exact vz x h
theorem BU: ∀ {l m:List Int},mz l→(∀x,x∈l→x∈m)→l.length≤m.length
 | [],_,_,_=>Nat.zero_le _
 |y::l,m,h,b=>by
  obtain⟨k,o⟩:=List.pairwise_cons.1 h
  have d:y∈m:=b y (by simp)
  have:=BU (m:=m.erase y) o fun x j=>by
   have:x≠y:=fun e=>by have:=k x j;omega
   exact(List.mem_erase_of_ne this).2 (b x (by simp[j]))
  rw[List.length_erase_of_mem d]at this
  have:=List.length_pos_of_mem d
  simp only[List.length_cons]
  omega
theorem mz.IV {s:HL} {R:List Int} (h:mz R) (b: ∀x,x∈R→ ∃k:Nat,x=((2*k:Nat):Int)∧s.st.getD k 0=1):R.length≤s.aj.length:=by
 have:=BU (m:=s.aj.map fun k=>((2*k:Nat):Int)) h fun x d=>by
  obtain⟨k,rfl,j⟩:=b x d;exact List.mem_map.2 ⟨k,bq.2 j,rfl⟩
 simpa using this
end
section
section
variable {s:HL} {i:Nat}
theorem j5 (h:s.Ok) (b:s.st.getD i 0=1):cK (some s) ((2*i:Nat):Int)=0:=by
 unfold cK;rw[(dH h).2 ⟨i,rfl,b⟩];rfl
theorem jP (h:s.Ok) (b:s.st.getD i 0=1):dv (some s) ((2*i:Nat):Int)=((s.ai i).id,0):=by
 unfold dv;simp only[j5 h b,if_true,c9];rfl
theorem dB (h:s.Ok) (b:s.st.getD i 0=1):aV (some s) ((2*i:Nat):Int)=((s.ai i).sh,0):=by
 unfold aV;simp only[j5 h b,if_true];rfl
theorem jt (h:s.Ok) (m:s.st.getD i 0=1) {j:Nat} (b:j<(s.ai i).rf.length):dE (some s) ((2*i:Nat):Int) (j:Int)=((s.ai i).rf.getD j 0,0):=by
 obtain⟨r,d,k,t,o,u,w,q,y⟩:=eX h m;have l:s.dy ((2*i:Nat):Int)=((r:Int),(d:Int),(k:Int)):=o;rw[q]at b⊢;simp only[List.length_map,List.length_range]at b;unfold dE br;simp only[j5 h m,ne_eq,not_true_eq_false,if_false,cond_false,l];rw[if_neg (show¬((j:Int)<0∨(r:Int)≤(j:Int)) by omega)];simp only[if_true];rw[show(((2*i:Nat):Int)+2+(j:Int)).toNat=2*i+2+j by omega];simp[b]
theorem IW (h:s.Ok) (m:s.st.getD i 0=1) {j:Nat} (b:j<(s.ai i).dt.length):tQ (some s) ((2*i:Nat):Int) (j:Int)=((s.ai i).dt.getD j 0,0):=by
 obtain⟨r,d,k,t,o,u,w,y,q⟩:=eX h m;have l:s.dy ((2*i:Nat):Int)=((r:Int),(d:Int),(k:Int)):=o;rw[q]at b⊢;simp only[List.length_map,List.length_range]at b;unfold tQ br;simp only[j5 h m,ne_eq,not_true_eq_false,if_false,cond_true,l];rw[if_neg (show¬((j:Int)<0∨(d:Int)≤(j:Int)) by omega)];simp only[if_true];rw[show(((2*i:Nat):Int)+2+(r:Int)+(j:Int)).toNat=2*i+2+r+j by omega];simp[b]
theorem vE (h:s.Ok) (b:s.st.getD i 0=1):pZ (some s) ((2*i:Nat):Int)=(s.ai i).pin:=by
 have d:=(dH h).2 ⟨i,rfl,b⟩;have j:=(h.start b).1;unfold pZ;simp only[d,Bool.true_and];show((if hasB s.pn.length (((2*i:Nat):Int)/2)=true then((s.pn.getD (((2*i:Nat):Int)/2).toNat 0:Nat):Int)else-1)==1)=decide (s.pn.getD i 0=1);rw[show((2*i:Nat):Int)/2=(i:Int) by omega,if_pos (nc (by have:=h.sl;have:=h.pl;omega)),c9];by_cases c:s.pn.getD i 0=1
 ·rw[c];rfl
 ·rw[aX c];exact cU (by omega)
theorem cX (h:s.Ok) (b:s.st.getD i 0=1):(((s.ai i).rf.length:Nat):Int)=(s.ai i).sh.1∧(((s.ai i).dt.length:Nat):Int)=(s.ai i).sh.2.1∧aS (s.ai i).sh=true:=by
 obtain⟨r,d,k,j,q,t,l,m,o⟩:=eX h b;rw[l,m,o];exact⟨by simp,by simp,j⟩
theorem MP (h:s.Ok) (o:Ob) (l:o∈s.abs.O):o.Ok s.B.length:=by
 simp only[HL.abs,List.mem_map]at l;obtain⟨i,b,rfl⟩:=l;have b:=bq.1 b;obtain⟨m,q,t⟩:=cX h b;obtain⟨r,d,k,u,w,y⟩:=h.fit i b;have j:(s.ai i).sh=((r:Int),(d:Int),(k:Int)):=by
  show du (s.W.getD (2*i+1) 0)=_;rw[w,jg u]
 refine⟨t,m,q,?_,?_⟩
 ·show(0:Int)≤((2*i:Nat):Int);omega
 ·rw[j];show((2*i:Nat):Int)+_≤_;have:=h.wl;omega
end
end
section
set_option maxRecDepth 8000
variable {s s':HL} {to x:Int} {j k:Nat}
theorem kO (h:s.Ok) (b:s.st.getD k 0=1):dS (some s) ((2*k:Nat):Int)=(s.ai k).rf:=by
 obtain⟨j,_,_⟩:=cX h b;unfold dS;rw[dB h b];have e:(s.ai k).sh.1.toNat=(s.ai k).rf.length:=by omega
 simp only[e];refine List.ext_getElem (by simp) fun i j d=>?_;simp only[List.getElem_map,List.getElem_range];rw[jt h b d];simp[d]
def QV (s:HL) (to:Int):Prop:=to=0∨ ∃k:Nat,to=((2*k:Nat):Int)∧s.st.getD k 0=1
theorem gy (b:s.Ok) (d:s.st.getD k 0=1):2*k≤4096:=by
 have:=(b.start d).1;have:=b.sl;have:=b.jd;omega
theorem Ga (h:s.Ok) (l:s.st.getD k 0=1) (m:j<(s.ai k).rf.length):br (some s) ((2*k:Nat):Int) (j:Int) false=(((2*k+2+j:Nat):Int),0):=by
 obtain⟨r,d,o,u,q,w,y,t,z⟩:=eX h l;have b:s.dy ((2*k:Nat):Int)=((r:Int),(d:Int),(o:Int)):=q;rw[t]at m;simp only[List.length_map,List.length_range]at m;unfold br;simp only[j5 h l,ne_eq,not_true_eq_false,if_false,cond_false,b];rw[if_neg (show¬((j:Int)<0∨(r:Int)≤(j:Int)) by omega)];refine Prod.ext ?_ rfl;simp only;omega
theorem Df (h:s.Ok) (l:s.st.getD k 0=1) (m:j<(s.ai k).rf.length) (o:QV s to):cf (some s) ((2*k:Nat):Int) (j:Int) to=0:=by
 unfold cf;simp only[Ga h l m,ne_eq,not_true_eq_false,if_false];rw[if_neg];rintro⟨q,d⟩;rcases o with rfl|⟨k',rfl,b⟩
 ·exact q rfl
 ·rw[(dH h).2 ⟨k',rfl,b⟩]at d;cases d
theorem uW (h:s.Ok) (b:s.st.getD k 0=1):(s.ai k).rf.length≤15:=by
 obtain⟨j,_,d⟩:=cX h b;simp only[aS,Bool.and_eq_true,decide_eq_true_eq]at d;omega
theorem oL (h:s.Ok) (e:(aV (some s) x).2=0): ∃k:Nat,x=((2*k:Nat):Int)∧s.st.getD k 0=1:=by
 unfold aV at e;cases b:bE (some s) x with
 |true=>exact(dH h).1 b
 |false=>simp[cK,b]at e
def HL.RF (s:HL) (i j:Nat):Int:=(s.ai i).rf.getD j 0
theorem qu (h:s.Ok) {i:Int} (e:bj (some s) x i to=some s'):s'.Ok:=by
 unfold bj at e;by_cases c:cf (some s) x i to=0;rotate_left
 ·simp only[if_neg c,Option.some.injEq]at e;subst e;exact h
 simp only[if_pos c,Option.some.injEq]at e;subst e;have d:(br (some s) x i false).2=0:=by
  unfold cf at c;by_cases b:(br (some s) x i false).2=0
  ·exact b
  ·simp only[ne_eq,b,not_false_eq_true,if_true]at c
 obtain⟨o,k,rfl,j,l,m,q,r⟩:=fS h d;rw[l,c9];exact h.Iq (h.inside j m q)
theorem ri (h:s.Ok) (y:s'.Ok) (u:s.st.getD k 0=1) (z:j<(s.ai k).rf.length) (B:QV s to) (e:bj (some s) ((2*k:Nat):Int) (j:Int) to=some s') (i:Nat) (C:s.st.getD i 0=1):
  s'.ai i=if i=k then {s.ai k with rf:=(s.ai k).rf.set j to}else s.ai i:=by
 obtain⟨t,D,E,K,F,L,M⟩:=gV h ((2*k:Nat):Int) (j:Int) to;have o:s'=t:=Option.some.inj (e.symm.trans D);subst o;have w:s'.aj=s.aj:=by unfold HL.aj;rw[F]
 obtain⟨a,q,b⟩:=jO u;obtain⟨c,r,d⟩:=jO C;have G:s.abs.dn ((2*k:Nat):Int) (j:Int) to=0:=by rw[mN h];exact Df h u z B
 have H:s'.abs.O.getD c default=s'.ai i:=ns (by rw[w];exact r) (by rw[w];exact d);have I:s.abs.O.getD c default=s.ai i:=ns r d;have J:s.abs.O.getD a default=s.ai k:=ns q b;rw[←H,E];unfold RL.bj;rw[if_pos G];unfold RL.vm;rw[oK q b];show(s.abs.O.set a {s.abs.O.getD a default with rf:=(s.abs.O.getD a default).rf.set (j:Int).toNat to}).getD c default=_;have N:s.abs.O.length=s.aj.length:=by simp[HL.abs]
 rw[J,c9];by_cases l:i=k
 ·subst l;rw[if_pos rfl];have m:a=c:=by
   have:=(oK q b).symm.trans (oK r d);exact Option.some.inj this
  subst m;rw[List.getD_eq_getElem?_getD,List.getElem?_set_self (by omega)];rfl
 ·rw[if_neg l];have m:a≠c:=fun e=>l (by rw[←d,←b,e]);rw[List.getD_eq_getElem?_getD,List.getElem?_set_ne m,←List.getD_eq_getElem?_getD,I]
end
section
variable {s:HL} {F K K':List Int}
def bM (kd:Int) (i:Nat):Bool:=(i==0&&(kd==1||kd==2))||(i==1&&kd==2)
def dq (kd:Int):Nat→List Int→List Int
 |_,[]=>[]
 |i,x::l=>(if x≠0∧bM kd i=false then [x]else [])++dq kd (i+1) l
theorem iB {kd:Int}: ∀ {l:List Int} {i:Nat} {y:Int},y∈dq kd i l↔ ∃j,j<l.length∧y=l.getD j 0∧y≠0∧bM kd (i+j)=false
 | [],i,y=>by simp[dq]
 |x::l,i,y=>by
  unfold dq
  rw[List.mem_append,iB]
  constructor
  ·rintro(h|⟨j,m,b,d,k⟩)
   ·split at h
    ·rename_i c
     simp only[aK]at h
     subst h
     exact⟨0,by simp,by simp,c.1,by simpa using c.2⟩
    ·cases h
   ·exact⟨j+1,by simpa using m,by simpa using b,d,by rw[←Nat.add_assoc,Nat.add_right_comm];exact k⟩
  ·rintro⟨j,m,b,d,k⟩
   cases j with
   |zero=>
    left
    simp only[List.getD_cons_zero]at b
    subst b
    rw[if_pos ⟨d,by simpa using k⟩];simp
   |succ j=>exact .inr ⟨j,by simpa using m,by simpa using b,d,by rw[Nat.add_right_comm,Nat.add_assoc];exact k⟩
theorem kh {kd:Int}: ∀ {l:List Int} {i:Nat},(dq kd i l).length≤l.length
 | [],_=>Nat.le_refl _
 |x::l,i=>by
  unfold dq
  have:=kh (kd:=kd) (l:=l) (i:=i+1)
  rw[cH,List.length_cons]
  split<;>simp<;>omega
theorem qf {kd:Int}: ∀(l:List Int) (i:Nat) (x:Int),dq kd i (l++[x])=dq kd i l++(if x≠0∧bM kd (i+l.length)=false then [x]else [])
 | [],i,x=>by simp[dq]
 |y::l,i,x=>by
  simp only[List.cons_append,dq]
  rw[qf l (i+1) x,List.append_assoc,List.length_cons,Nat.add_right_comm,Nat.add_assoc]
def aY (m:HO) (x:Int):List Int:=dq (aV m x).1.2.2 0 (dS m x)
structure xv (s:HL) (F K K':List Int):Prop where
 nd:K'.Nodup
 sub: ∀x,x∈K→x∈K'
 e9: ∀x,x∈K'→x∈K∨cI s x
 Ad: ∀x,x∈K'→x∉K→ ∀y,y∈aY (some s) x→cI s y→y∈K'
 ind: ∀P:Int→Prop,(∀x,x∈F→cI s x→P x)→(∀x y,cI s x→P x→y∈aY (some s) x→cI s y→P y)→ ∀x,x∈K'→x∈K∨P x
theorem xv.refl (h:K.Nodup):xv s F K K:=⟨h,fun _ h=>h,fun _ h=>.inl h,fun x b d=>absurd b d,fun _ _ _ _ h=>.inl h⟩
theorem xv.mono {G:List Int} (h:xv s F K K') (b: ∀x,x∈F→x∈G):xv s G K K':=⟨h.nd,h.sub,h.e9,h.Ad,fun P d j=>h.ind P (fun x k=>d x (b x k)) j⟩
theorem xv.trans {j k:List Int} (h:xv s F K j) (d:xv s F j k):xv s F K k where
 nd:=d.nd
 sub:=fun x b=>d.sub x (h.sub x b)
 e9:=fun x b=>(d.e9 x b).elim (h.e9 x) .inr
 Ad:=fun x b r y l m=>by
  by_cases c:x∈j
  ·exact d.sub y (h.Ad x c r y l m)
  ·exact d.Ad x b c y l m
 ind:=fun P o q x b=>(d.ind P o q x b).elim (h.ind P o q x) .inr
theorem xv.enter {a:Int} (k:cI s a) (t:a∉K) (h:xv s (aY (some s) a) (K++[a]) K') (q: ∀y,y∈aY (some s) a→cI s y→y∈K'):xv s [a] K K' where
 nd:=h.nd
 sub:=fun x b=>h.sub x (by simp[b])
 e9:=fun x b=>(h.e9 x b).elim (fun b=>(List.mem_append.1 b).elim .inl fun e=>.inr (by simp only[aK]at e;rw[e];exact k)) .inr
 Ad:=fun x b l y j d=>by
  by_cases c:x=a
  ·rw[c]at j;exact q y j d
  ·exact h.Ad x b (by simp[l,c]) y j d
 ind:=fun P r m x b=>by
  have o:P a:=r a (by simp) k
  rcases h.ind P (fun y j d=>m a y k o j d) m x b with h|h
  ·rcases List.mem_append.1 h with h|h
   ·exact .inl h
   ·simp only[aK]at h;rw[h];exact .inr o
  ·exact .inr h
theorem dP: ∀ {l m:List Int},l.Nodup→(∀x,x∈l→x∈m)→l.length≤m.length:=by
 intro l
 induction l with
 |nil=>intro m _ _;exact Nat.zero_le _
 |cons y l k=>
  intro m h b;obtain⟨o,q⟩:=List.nodup_cons.1 h;have d:y∈m:=b y (by simp);have:=k (m:=m.erase y) q fun x j=>(List.mem_erase_of_ne (fun e=>o (by rw[←e];exact j))).2 (b x (by simp[j]));rw[List.length_erase_of_mem d]at this;have:=List.length_pos_of_mem d;simp only[List.length_cons];omega
theorem yu (b: ∀x,x∈K→x∈K') (_:K'.Nodup) (h:K.Nodup):K.length≤K'.length:=dP h b
theorem eN (b:K.Nodup) (d: ∀x,x∈K→cI s x):K.length≤s.aj.length:=by
 have:=dP (m:=s.aj.map fun k=>((2*k:Nat):Int)) b fun x j=>by
  obtain⟨k,rfl,l⟩:=d x j;exact List.mem_map.2 ⟨k,bq.2 l,rfl⟩
 simpa using this
end
section
open Go.MapKept Go.ChangeMaps
theorem qg {α:Type} {p:α→Bool}: ∀ {l:List α} {j:Nat} {e:α},l[j]? =some e→p e=false→(l.eraseIdx j).filter p=l.filter p
 | [],j,e,h,_=>by simp at h
 |x::l,0,e,h,b=>by
  simp only[List.getElem?_cons_zero,Option.some.injEq]at h
  subst h
  simp[b]
 |x::l,j+1,e,h,b=>by
  have d:=qg (l:=l) (j:=j) (by simpa using h) b
  simp only[List.eraseIdx_cons_succ,List.filter_cons,d]
section
variable {P:Program} {t kt et:TypeId} {w:World} {b:Nat} {m:IM} {k:Int}
theorem Gb {ty Y:TypeId} {r:Nat} {left:IM} (T:P.underlying t=some (.map kt et)) (F:P.underlying kt=some (.int .i64)) (h:hH w r b m left) (Z: ∀q,q∈left→q.1≠k):
  ∃w',(Builtin.delete_ #[t,Y] ty #[.map (some b),.int .i64 k]).run P w=.ok (.tuple #[]) w'∧w'.heap.size=w.heap.size∧hH w' r b (iv m k) left∧ae [b] w w':=by
 have hn:=h.map.nodup;obtain⟨l,d,since,G,seen,z,H,U,V,B,I,W,J⟩:=h;have K:b<w.heap.size:=(Array.getElem?_eq_some_iff.1 z).1;have L:b≠r:=by rintro rfl;rw[z]at H;cases H
 have u: ∀o:Obj,(setBlock w b o).heap[b]? =some o:=fun o=>by simp[setBlock,K]
 have C: ∀o:Obj,(setBlock w b o).heap[r]? =some (.mapIter (some b) since seen G):=fun o=>by simp[setBlock,L,H]
 rcases By I hn k undef with⟨M,_,_,_,h6⟩|⟨j,e,M,N,O,_,_,h5⟩
 ·refine⟨setBlock w b (.map l d),?_,eu,⟨l,d,since,G,seen,u _,C _,U,V,B,by rw[h6];exact I,W,J⟩,dD⟩;simp[Builtin.delete_,run_underlying T,MapKept.run_getObj_map z,run_checkKey F (k:=.int .i64 k) rfl,run_findKey F M,MapKept.run_setObj_map _ z,Result.andThen,setBlock]
 ·have hj:j<l.size:=by
   have:=(List.getElem?_eq_some_iff.1 N).1;simpa using this
  have y:(l.eraseIdxIfInBounds j).toList=l.toList.eraseIdx j:=by simp[Array.eraseIdxIfInBounds,hj]
  have hp:(!seen.contains e.born)=false:=by
   cases hc:seen.contains e.born with
   |true=>rfl
   |false=>
    exfalso;have D:e∈(leftOf l seen).toList:=by
     unfold leftOf;rw[Array.toList_filter,List.mem_filter];exact⟨List.mem_of_getElem? N,by rw[hc];rfl⟩
    obtain⟨i,hi,Q⟩:=List.mem_iff_getElem.1 D;obtain⟨q,R,E,_⟩:=J.at (by rw[List.getElem?_eq_getElem hi,Q]);refine Z q (List.mem_of_getElem? R) ?_;rw[O]at E;injection E with _ h;exact h.symm
  have S:(leftOf (l.eraseIdxIfInBounds j) seen).toList=(leftOf l seen).toList:=by
   unfold leftOf;rw[Array.toList_filter,Array.toList_filter,y];exact qg N hp
  refine⟨setBlock w b (.map (l.eraseIdxIfInBounds j) d),?_,eu,⟨l.eraseIdxIfInBounds j,d,since,G,seen,u _,C _,fun x X=>U x ?_,V,B,?_,stamped_erase W j,by rw[S];exact J⟩,dD⟩
  ·simp[Builtin.delete_,run_underlying T,MapKept.run_getObj_map z,run_checkKey F (k:=.int .i64 k) rfl,run_findKey F M,MapKept.run_setObj_map _ z,Result.andThen,setBlock]
  ·rw[y]at X;exact List.mem_of_mem_eraseIdx X
  ·rw[h5];unfold qJ;rw[y,map_eraseIdx,map_eraseIdx,show l.toList.map (fun e=>(e.key,e.val))=_ from I]
end
section
variable {P:Program} {t kt et:TypeId} {w:World} {b:Nat} {m:IM} {k:Int} {d:Option Nat} {rest:List XO} {ρ:Env} {C:Env→World→Prop}
theorem QW {j:TypeId} {r:Nat} {left:IM} (l:P.underlying t=some (.map kt et)) (o:P.underlying kt=some (.int .i64)) (h:hH w r b m left) (u: ∀q,q∈left→q.1≠k) (y: ∀w',w'.heap.size=w.heap.size→hH w' r b (iv m k) left→ae [b] w w'→VO P rest (bo ρ d (.tuple #[])) w' C):
  kJ P (Builtin.delete_ #[t,j] 0 #[.map (some b),.int .i64 k]) d rest ρ w C:=by
 obtain⟨w',z,B,D,E⟩:=Gb (k:=k) l o h u;exact runT z (y w' B D E)
end
end
section
variable {x:Int} {K:List Int} {b:Nat} {w w':World}
def cS (K:List Int):IM:=K.map fun x=>(x,Value.bool true)
def MB (w:World) (b:Nat) (K:List Int):Prop:=cz w b (cS K)
theorem Dg (K:List Int):(cS K).map (·.1)=K:=by
 induction K with
 |nil=>rfl
 |cons y K b=>exact congrArg (y:: ·) b
theorem ec (K:List Int):(cS K).length=K.length:=by simp[cS]
theorem Gc (K:List Int) (x:Int):getM (cS K) x=if x∈K then some (.bool true)else none:=by
 induction K with
 |nil=>rfl
 |cons y K d=>
  have e:cS (y::K)=(y,Value.bool true)::cS K:=rfl;rw[e];unfold getM;by_cases c:y=x
  ·rw[if_pos c,if_pos (by simp[c])]
  ·rw[if_neg c,d];by_cases b:x∈K
   ·rw[if_pos b,if_pos (by simp[b])]
   ·rw[if_neg b,if_neg (by simp[b];exact fun e=>c e.symm)]
theorem dw (K:List Int) (x:Int):(getM (cS K) x).getD (.bool false)=.bool (decide (x∈K)):=by
 rw[Gc];by_cases c:x∈K
 ·rw[if_pos c,aU c];rfl
 ·rw[if_neg c,aX c];rfl
theorem zo (h:x∉K):dG (cS K) x (.bool true)=cS (K++[x]):=by
 rw[(L7 (m:=cS K) (k:=x) (.bool true) fun p b e=>h ?_).2.1]
 ·simp[cS]
 ·simp only[cS,List.mem_map]at b;obtain⟨y,d,rfl⟩:=b;simp only at e;rw[←e];exact d
theorem Gd:iv (cS K) x=cS (K.erase x):=by
 induction K with
 |nil=>rfl
 |cons y K b=>
  have e:cS (y::K)=(y,Value.bool true)::cS K:=rfl;rw[e];unfold iv;by_cases c:y=x
  ·rw[if_pos c,c,List.erase_cons_head]
  ·rw[if_neg c,b,List.erase_cons_tail (by simpa using c)];rfl
theorem MB.keep {S:List Nat} (h:MB w b K) (k:ae S w w') (d:b∉S):MB w' b K:=cz.keep h k d
theorem MB.ab (h:MB w b K) (k:ae [] w w'):MB w' b K:=cz.ab h k
theorem MB.nodup (h:MB w b K):K.Nodup:=by
 have:=cz.nodup h;rwa[Dg]at this
end
section
set_option maxRecDepth 8000
variable {s:HL}
theorem JQ (w:World) (kd:Int) (i:Nat):Cs Tryz.prog 304 [.int .i64 kd,.int .i64 (i:Int)] w fun v w'=>v=.bool (bM kd i)∧w'=w:=by
 refine en [] ?_;unfold bM;by_cases l:i=0
 ·have j:((i:Int)==0)=true:=cZ (by omega);have b:((i:Int)==1)=false:=cU (by omega);have n0:(i==0)=true:=by simp[l]
  have d:(i==1)=false:=by simp[l]
  by_cases m:kd=1
  ·refine lY j b n0 d (cZ m) ?_;simp
  ·by_cases k:kd=2
   ·refine k0 j b n0 d (cU m) (cZ k) ?_;simp
   ·refine k0 j b n0 d (cU m) (cU k) ?_;simp
 ·have j:((i:Int)==0)=false:=cU (by omega);have n0:(i==0)=false:=by simp[l]
  by_cases o:i=1
  ·have b:((i:Int)==1)=true:=cZ (by omega);have d:(i==1)=true:=by simp[o]
   by_cases k:kd=2
   ·refine lY j b n0 d (cZ k) ?_;simp
   ·refine lY j b n0 d (cU k) ?_;simp
  ·have b:((i:Int)==1)=false:=cU (by omega);have d:(i==1)=false:=by simp[o]
   refine eZ j b n0 d ?_;simp
theorem pe (h:s.Ok) (x:Int):(dS (some s) x).length≤15:=by
 unfold dS;rw[List.length_map,List.length_range];by_cases c:(aV (some s) x).2=0
 ·obtain⟨k,rfl,b⟩:=oL h c;rw[dB h b];have:=uW h b;have:=(cX h b).1;simp only;omega
 ·unfold aV at c⊢;cases d:bE (some s) x with
  |true=>simp[cK,d]at c
  |false=>simp[cK,d]
theorem xw {w:World} {a:Option Addr} {fp:List Nat} (h:HR w a fp (some s)) (hs:s.Ok) (x:Int) (hx:x≤4611686018427387904):Cs Tryz.prog 382 [.pointer a,.int .i64 x] w fun v w'=>ae [] w w'∧ ∃r,Sl w' 1 v (aY (some s) x).length (ints (aY (some s) x)) r∧ ∀y,y∈r→w.heap.size≤y:=by
 have B:=pe hs x;refine en [] ?_;refine gO ?_;refine aw (ju h x hx) ?_;rintro _ w1 ⟨rfl,N⟩;refine gO ?_;refine bp fun q w2 hq yJ C O=>?_;refine gO ?_;refine dF (cs:=bS (aV (some s) x).1) C rfl (by simp[bS]) (dm _) fun w3 qt t P=>?_;rw[dz]at t;have o3:ae [] w w3:=N.nil (O.trans P fun y k=>by simp only[aK]at k;subst k;exact .inr (by omega));refine gO ?_;refine aw (P7 (h.ab o3) x hx) ?_;rintro v Q ⟨D,fr,u,_⟩;obtain⟨l,hl⟩: ∃l,l=dS (some s) x:=⟨_,rfl⟩;obtain⟨kd,E⟩: ∃kd,kd=(aV (some s) x).1.2.2:=⟨_,rfl⟩;unfold aY;rw[←hl]at u B;rw[←hl,←E];obtain⟨ar,cr,rfl⟩:=u.val;have R:=o3.nil D;have F:=t.ab D;refine gO ?_;refine az (7::8::9::20::21::22::23::24::25::26::27::28::29::30::31::32::33::34::35::36::37::38::[]) (fun g w'=> ∃(i:Nat) (r:List Nat),g 20=.int .i64 (i:Int)∧i≤l.length∧ae [] Q w'∧Sl w' 1 (g 7) (dq kd 0 (l.take i)).length (ints (dq kd 0 (l.take i))) r∧ ∀y,y∈r→Q.heap.size≤y) (fun g _=>bw l.length 20 g)
  ⟨0,[],by simp only[go_sem];rfl,by omega,ae.refl _ _,by simp only[go_sem];exact Sl.iW _,fun y k=>absurd k (by simp)⟩ fun g G hI d=>?_
 obtain⟨i,r,b,hi,j,m,o⟩:=hI;by_cases S:i<l.length;rotate_left
 ·refine aZ b (aX (show¬(i:Int)<(l.length:Int) by omega)) ?_;rw[List.take_of_length_le (by omega)]at m;exact⟨R.nil j,r,m,fun y k=>by have:=o y k;have:=R.size;omega⟩
 obtain⟨gr,_,yr,er,H,_,_⟩:=(u.ab j).pos (by omega);cases er;have L:(0:Int)≤(i:Int)∧(i:Int)<(l.length:Int):=by omega
 have vr:G.cell? ⟨gr,i,none⟩=some (.int .i64 (l.getD i 0)):=by rw[H.cell];exact aG yr (by omega)
 have T:G.cell? ⟨q,2,none⟩=some (.int .i64 kd):=by rw[(F.ab j).cell,E];rfl
 have I:dq kd 0 (l.take (i+1))=dq kd 0 (l.take i)++(if l.getD i 0≠0∧bM kd i=false then [l.getD i 0]else []):=by
  rw[List.take_succ_eq_append_getElem S,qf];simp[S,Nat.min_eq_left (Nat.le_of_lt S)]
 have U:=kh (kd:=kd) (l:=l.take i) (i:=0);rw[List.length_take]at U;have V:=au i (by omega);have skip: ¬(l.getD i 0≠0∧bM kd i=false)→dq kd 0 (l.take (i+1))=dq kd 0 (l.take i):=fun c=>by rw[I,if_neg c,List.append_nil]
 by_cases M:l.getD i 0=0
 ·refine xG b (aU L.2) (eq_true L) @Int.toNat_natCast @Nat.mul_one vr (dg M) V ?_;refine d _ G ⟨i+1,r,?_,by omega,j,?_,o⟩ ?_
  ·simp only[go_sem]
  ·simp only[go_sem];rw[skip fun h=>h.1 M];exact m
  ·exact aJ b
 refine xG b (aU L.2) (eq_true L) @Int.toNat_natCast @Nat.mul_one vr (eE M) T ?_;refine aH (JQ G kd i) ?_;cases J:bM kd i with
 |true=>
  refine aZ b V ?_;refine d _ G ⟨i+1,r,?_,by omega,j,?_,o⟩ ?_
  ·simp only[go_sem]
  ·simp only[go_sem];rw[skip fun h=>by rw[J]at h;cases h.2];exact m
  ·exact aJ b
 |false=>
  refine aQ b ?_;rw[ag rfl rfl];refine gO ?_;refine eJ fun q6 w6 Z1 oO K z=>?_;refine gO ?_;refine eM (m.ab z) (bn.at (us:=[.int .i64 (l.getD i 0)]) K rfl) (by simp[bh]) (by omega) (by omega) ?_;intro v7 w7 f7 W X Y _;have z4:=R.size;have z5:=j.size;have Z:ae [] Q w7:=(j.nil z).trans Y fun y k=>.inr (o y k);refine aZ b V ?_;refine d _ w7 ⟨i+1,f7,?_,by omega,Z,?_,?_⟩ ?_
  ·simp only[go_sem]
  ·simp only[go_sem];rw[I,if_pos ⟨M,J⟩,cH,ba];exact W
  ·intro y k;have:=z.size;rcases X with e|e<;>rw[e]at k
   ·exact o y k
   ·simp only[aK]at k;omega
  ·exact aJ b
end
section
set_option maxRecDepth 8000
variable {s:HL} {x:Int} {R:List Int} {fB fF fO:List Nat} {L:List OM} {b:Nat} {v vB vF:Value} {w:World}
theorem lN.ob {s0:HL} {o:Value} (h:lN w b s.abs vB o vF fB fO fF L) (k:s.aj=s0.aj):L.length=s0.aj.length∧ ∀i,i<s0.aj.length→(L.getD i default).o=s.ai (s0.aj.getD i 0)∧L.getD i default∈L:=by
 have l:s.aj.map s.ai=L.map OM.o:=h.eq;have m:L.length=s0.aj.length:=by have:=congrArg List.length l;simp only[List.length_map]at this;rw[←k];exact this.symm
 refine⟨m,fun i d=>⟨?_,by simp[m,d]⟩⟩;have j:(s.aj.map s.ai)[i]? =(L.map OM.o)[i]? :=by rw[l]
 rw[List.getElem?_map,List.getElem?_map,k,List.getElem?_eq_getElem d,List.getElem?_eq_getElem (by omega)]at j;simp only[Option.map_some,Option.some.injEq]at j;simp only[List.getD_eq_getElem?_getD,List.getElem?_eq_getElem d,List.getElem?_eq_getElem (show i<L.length by omega),Option.getD_some];exact j.symm
theorem BV {m:Nat} {l:List Int} (h:bn w 1 v m (ints l)) (C:m≤100000):Cs Tryz.prog 193 [v] w fun r w'=>ae [] w w'∧ ∃d,Sl w' 1 r m (ints l) d∧ ∀y,y∈d→w.heap.size≤y:=by
 refine en [] ?_;refine gO ?_;refine eJ fun q D E z j b=>?_;refine gO ?_;refine eM (Sl.qM j) (h.ab b) bR (by omega) (by omega) ?_;intro F G B o t u _;refine gO ?_;refine⟨(b.trans u fun y k=>.inr (by simp only[aK]at k;omega)),B,by simpa using o,fun y k=>?_⟩;have:=b.size;rcases t with e|e<;>rw[e]at k<;>simp only[aK]at k<;>omega
theorem BW (h:s.Ok):bE (some s) x=true↔cI s x:=dH h
def QX:Value→Nat
 |.slice _ n _=>n
 |_=>0
theorem lN.WK {i n0 J:Nat} {D:Option Addr} (h:lN w b s.abs vB (.slice D n0 J) vF fB fO fF L) (K:i<s.aj.length):
  ∃g r M l E,D=some ⟨g,0,none⟩∧(0<(s.ai (s.aj.getD i 0)).rf.length→r=some ⟨l,0,none⟩)∧bh E=true∧ ∀w',ae [] w w'→aC w' ⟨g,i*8,none⟩ 8=some (wQ (s.ai (s.aj.getD i 0)) (.slice r (s.ai (s.aj.getD i 0)).rf.length M) E)∧
   ∀j,j<(s.ai (s.aj.getD i 0)).rf.length→w'.cell? ⟨l,j,none⟩=some (.int .i64 (s.RF (s.aj.getD i 0) j)):=by
 obtain⟨T,N⟩:=h.ob (s0:=s) rfl;obtain⟨F,O⟩:=N i K;obtain⟨z,P,Q,R,m,_,_⟩:=h.row (by omega);cases R;have o:=h.om _ O;have d:=o.r;have q:=o.one.2;rw[F]at d;have t: ∀w',ae [] w w'→aC w' ⟨z,i*8,none⟩ 8=some (wQ (s.ai (s.aj.getD i 0)) (L.getD i default).vr (L.getD i default).vd):=fun w' k=>by
  rw[ay (m.ab k) (i*8) 8 (by rw[cH,gH];omega),xj Q (by omega)];unfold OM.V;rw[F]
 generalize (L.getD i default).vr=U at*;obtain⟨G,u,rfl⟩:=d.val;by_cases H:0<(s.ai (s.aj.getD i 0)).rf.length
 ·obtain⟨l,I,S,B,y,_,_⟩:=d.pos H;obtain rfl:G=some ⟨l,0,none⟩:=by cases B;rfl
  exact⟨z,_,u,l,_,rfl,fun _=>rfl,q,fun w' k=>⟨t w' k,fun j C=>by rw[(y.ab k).cell];exact aG S C⟩⟩
 ·exact⟨z,G,u,0,_,rfl,fun h=>absurd h H,q,fun w' k=>⟨t w' k,fun j C=>absurd C (by omega)⟩⟩
theorem IX (w:World) (k:Sh) (i:Nat):Cs Tryz.prog 291 [.agg ⟨bS k⟩,.int .i64 (i:Int)] w fun v w'=>v=.bool (!bM k.2.2 i)∧ae [] w w':=by
 refine en [] ?_;refine gO ?_;refine bp fun q u z y l b=>?_;have j:u.cell? ⟨q,2,none⟩=some (.int .i64 k.2.2):=by rw[l.cell];rfl
 by_cases o:k.2.2=1
 ·rw[o]at j⊢;by_cases m:i=0
  ·subst m;refine cT j (dg (rfl:(1:Int)=1)) (show decide ((0:Int)<((0:Nat):Int))=false from rfl) ?_;exact⟨rfl,b⟩
  ·have e:bM 1 i=false:=by unfold bM;simp[m]
   refine lY j (dg (rfl:(1:Int)=1)) (cZ (rfl:(1:Int)=1)) (aU (show(0:Int)<(i:Int) by omega)) e ?_;exact b
 by_cases r:k.2.2=2
 ·rw[r]at j⊢;have d:(2:Int)≠1:=by omega
  by_cases m:i=0
  ·subst m;refine eZ j (eE d) (dg (rfl:(2:Int)=2)) (show decide ((0:Int)<((0:Nat):Int))=false from rfl) ?_;exact⟨rfl,b⟩
  by_cases t:i=1
  ·subst t;refine k0 j (eE d) (dg (rfl:(2:Int)=2)) (cU d) (show decide ((0:Int)<((1:Nat):Int))=true from rfl) (show decide ((1:Int)<((1:Nat):Int))=false from rfl) ?_;exact⟨rfl,b⟩
  ·have e:bM 2 i=false:=by unfold bM;simp[m,t]
   refine k7 j (eE d) (dg (rfl:(2:Int)=2)) (cU d) (aU (show(0:Int)<(i:Int) by omega)) (aU (show(1:Int)<(i:Int) by omega)) e ?_;exact b
 ·have e:bM k.2.2 i=false:=by unfold bM;simp[o,r]
  refine eZ j (eE o) (eE r) e ?_;exact b
def lI (s:HL) (R:List Int) (x:Int):List Int:=if bE (some s) x=true then lX R x else R
theorem iC (h:s.Ok) {y:Int}:y∈lI s R x↔(y=x∧cI s x)∨y∈R:=by
 unfold lI;by_cases c:bE (some s) x=true
 ·rw[if_pos c,zm];exact⟨fun e=>e.imp (fun e=>⟨e,(BW h).1 c⟩) id,fun e=>e.imp (fun e=>e.1) id⟩
 ·rw[if_neg c];exact⟨fun e=>.inr e,fun e=>e.resolve_left fun e=>c ((BW h).2 e.2)⟩
theorem Dh (x:Int) (h:mz R):mz (lI s R x):=by
 unfold lI;split
 ·exact De x h
 ·exact h
theorem tZ {fp j:List Nat} (h:FM w b s.abs fp) (k:s.Ok) (m:Sl w 1 v R.length (ints R) j) (o:R.length≤100000) (x:Int):
  Cs Tryz.prog 290 [.pointer (some ⟨b,0,none⟩),v,.int .i64 x] w fun r w'=>ae [] w w'∧ ∃d,Sl w' 1 r (lI s R x).length (ints (lI s R x)) d∧ ∀y,y∈d→y∈j∨w.heap.size≤y:=by
 refine en [] ?_;refine gO ?_;refine aH (Qq h x) ?_;rw[xq k];unfold lI;cases B:bE (some s) x with
 |false=>
  refine gO ?_;exact⟨ae.refl _ _,j,m,fun y q=>.inl q⟩
 |true=>
  refine gO ?_;refine aw (MN m o x) ?_;rintro C D ⟨l,t,u,z⟩;refine gO ?_;exact⟨l,t,u,z⟩
end
section
set_option maxRecDepth 8000
variable {hp:Addr} {s:HL} {x:Int} {fp:List Nat} {bm qh qk qv:Nat}
theorem cI.le (h:s.Ok) (b:cI s x):0≤x∧x≤4096:=by
 obtain⟨k,rfl,d⟩:=b;have:=gy h d;omega
theorem Di (h:s.Ok) (o:zl s.abs) {y:Int} (q:y∈aY (some s) x):0≤y∧y≤4096:=by
 obtain⟨j,b,d,r,_⟩:=iB.1 q;by_cases c:(aV (some s) x).2=0
 ·obtain⟨k,rfl,l⟩:=oL h c;rw[kO h l]at b d;rw[d];refine o (s.ai k) ?_ _ (by simp[b]);simp only[HL.abs,List.mem_map];exact⟨k,bq.2 l,rfl⟩
 ·exfalso;have:(dS (some s) x).length=0:=by
   unfold dS;rw[List.length_map,List.length_range];unfold aV at c⊢;cases m:bE (some s) x with
   |true=>simp[cK,m]at c
   |false=>simp[cK,m]
  omega
structure Dj (w:World) (qh qk qv bm:Nat) (hp:Addr) (fp:List Nat) (s:HL):Prop where
 h:At w qh [.pointer (some hp)]
 k:At w qk [.map (some bm)]
 v:At w qv [.func (.func 381) #[] #[.pointer (some ⟨qh,0,none⟩),.pointer (some ⟨qk,0,none⟩),.pointer (some ⟨qv,0,none⟩)]]
 hr:HR w (some hp) fp (some s)
 d:bm∉ [qh,qk,qv]∧bm∉fp
theorem Dj.keep {w w':World} (h:Dj w qh qk qv bm hp fp s) (o:ae [bm] w w'):Dj w' qh qk qv bm hp fp s:=by
 obtain⟨m,q,r,t,b,j⟩:=h;simp only[List.mem_cons,List.not_mem_nil,or_false,not_or]at b;refine⟨m.keep o ?_,q.keep o ?_,r.keep o ?_,t.keep o fun y u l=>?_,by simp[b],j⟩
 ·simp only[aK];exact fun e=>b.1 e.symm
 ·simp only[aK];exact fun e=>b.2.1 e.symm
 ·simp only[aK];exact fun e=>b.2.2 e.symm
 ·simp only[aK]at l;subst l;exact j u
theorem MQ (D:s.Ok) (hr:zl s.abs): ∀(n:Nat) (w:World) (K:List Int) (x:Int),s.aj.length≤K.length+n→Dj w qh qk qv bm hp fp s→MB w bm K→(∀y,y∈K→cI s y)→x≤4611686018427387904→
  Cs Tryz.prog 381 [.int .i64 x,.pointer (some ⟨qh,0,none⟩),.pointer (some ⟨qk,0,none⟩),.pointer (some ⟨qv,0,none⟩)] w fun _ w'=> ∃K',MB w' bm K'∧ae [bm] w w'∧xv s [x] K K'∧(cI s x→x∈K'):=by
 intro n
 induction n with
 |zero=>
  intro w K x hn t m V T;refine en [] ?_;refine aZ t.h.cell t.k.cell ?_;refine aw (yS t.hr x T) ?_;rintro _ w1 ⟨rfl,d⟩;cases E:bE (some s) x with
  |false=>
   refine gO ?_;exact⟨K,m.ab d,d.of_nil,.refl m.nodup,fun h=>by rw[(dH D).2 h]at E;cases E⟩
  |true=>
   have u:cI s x:=(dH D).1 E;have k:x∈K:=Decidable.byContradiction fun c=>by
    have:=eN (s:=s) (K:=K++[x]) (by rw[List.nodup_append];exact⟨m.nodup,by simp,fun a ha b hb e=>c (by simp only[aK]at hb;rw[←hb,←e];exact ha)⟩) fun y q=>(List.mem_append.1 q).elim (V y) fun e=>by simp only[aK]at e;rw[e];exact u
    simp only[cH,List.length_singleton]at this;omega
   (repeat(first|with_reducible(first|refine nx ?_|refine bA rfl ?_)|simp only[go_sem,(t.k.ab d).cell]));refine pR Tryz.underlying130 Tryz.underlying3 (Tryz.zeroValue4 _) (m.ab d) ?_;rw[dw,aU k];refine gO ?_;exact⟨K,m.ab d,d.of_nil,.refl m.nodup,fun _=>k⟩
 |succ n ih=>
  intro w K x hn t m V T;refine en [] ?_;refine aZ t.h.cell t.k.cell ?_;refine aw (yS t.hr x T) ?_;rintro _ w1 ⟨rfl,d⟩;have F:=t.keep d.of_nil;cases E:bE (some s) x with
  |false=>
   refine gO ?_;exact⟨K,m.ab d,d.of_nil,.refl m.nodup,fun h=>by rw[(dH D).2 h]at E;cases E⟩
  |true=>
  have u:cI s x:=(dH D).1 E;refine aQ F.k.cell ?_;refine pR Tryz.underlying130 Tryz.underlying3 (Tryz.zeroValue4 _) (m.ab d) ?_;rw[dw];by_cases k:x∈K
  ·rw[aU k];refine gO ?_;exact⟨K,m.ab d,d.of_nil,.refl m.nodup,fun _=>k⟩
  rw[aX k];refine aQ F.k.cell ?_;refine Fy Tryz.underlying130 Tryz.underlying3 (m.ab d) fun w2 yJ O G=>?_;rw[zo k]at O;have H:=F.keep G;have I:MB w2 bm (K++[x]):=O;refine aQ H.h.cell ?_;refine aw (xw H.hr D x T) ?_;rintro v w3 ⟨J,fq,L,W⟩;obtain⟨l,r⟩: ∃l,l=aY (some s) x:=⟨_,rfl⟩;have GO:l.length≤15:=by
   rw[r];unfold aY;exact Nat.le_trans kh (pe D x)
  rw[←r]at L;obtain⟨al,cl,rfl⟩:=L.val;have o3:ae [bm] w w3:=d.of_nil.same ((G.nil J));have Tk:bm<w.heap.size:=cz.lt m;have X: ∀y,y∈K++[x]→cI s y:=fun y q=>(List.mem_append.1 q).elim (V y) fun e=>by simp only[aK]at e;rw[e];exact u
  refine gO ?_;refine az (6::22::23::24::25::26::27::28::29::[]) (fun g w'=> ∃(i:Nat) (K':List Int),g 22=.int .i64 (i:Int)∧i≤l.length∧ae [bm] w3 w'∧MB w' bm K'∧xv s l (K++[x]) K'∧ ∀j,j<i→cI s (l.getD j 0)→l.getD j 0∈K') (fun g _=>bw l.length 22 g)
   ⟨0,K++[x],by simp only[go_sem];rfl,by omega,ae.refl _ _,I.ab J,.refl I.nodup,fun j U=>absurd U (by omega)⟩ fun g w4 hI M=>?_
  obtain⟨i,K',z,hi,B,P,o,done⟩:=hI;by_cases c1:i<l.length;rotate_left
  ·refine aZ z (aX (show¬(i:Int)<(l.length:Int) by omega)) ?_;refine⟨K',P,o3.same B,(r▸o).enter u k fun y q Y=>?_,fun _=>o.sub x (by simp)⟩;rw[←r]at q;obtain⟨j,U,rfl⟩:=List.mem_iff_getElem.1 q;have:=done j (by omega);simp only[List.getD_eq_getElem?_getD,List.getElem?_eq_getElem U,Option.getD_some]at this;exact this Y
  have Q:=(H.keep J.of_nil).keep B;obtain⟨Z,_,yl,el,R,WL,_⟩:=L.pos (by omega);cases el;have WM:Z≠bm:=fun e=>by have:=W Z (by rw[WL];simp);have:=d.size;have:=G.size;omega
  have ci:(0:Int)≤(i:Int)∧(i:Int)<(l.length:Int):=by omega
  have vr:w4.cell? ⟨Z,i,none⟩=some (.int .i64 (l.getD i 0)):=by rw[(R.keep B (by simpa using WM)).cell];exact aG yl (by omega)
  have QY:=Di D hr (x:=x) (y:=l.getD i 0) (by rw[←r];simp[c1]);have S: ∀y,y∈K'→cI s y:=fun y q=>(o.e9 y q).elim (X y) id;refine k7 z (aU ci.2) (eq_true ci) @Int.toNat_natCast @Nat.mul_one vr Q.v.cell ?_;refine fI (cQ 381 #[] [.int .i64 (l.getD i 0)] #[.pointer (some ⟨qh,0,none⟩),.pointer (some ⟨qk,0,none⟩),.pointer (some ⟨qv,0,none⟩)]) (by kernel_rfl) (ih w4 K' (l.getD i 0) ?_ Q P S (by omega)) ?_
  ·have:=(yu o.sub o.nd (by exact I.nodup));simp only[cH,List.length_singleton]at this;omega
  rintro _ w5 ⟨K5,hK5,jv,C,in5⟩;refine aZ z (au i (by omega)) ?_;refine M _ w5 ⟨i+1,K5,?_,by omega,B.same jv,hK5,o.trans (C.mono fun y q=>by simp only[aK]at q;rw[q];simp[c1]),fun j U N=>?_⟩ ?_
  ·simp only[go_sem]
  ·by_cases e:j=i
   ·rw[e]at N⊢;exact in5 N
   ·exact C.sub _ (done j (by omega) N)
  ·exact aJ z
end
section
variable {s:HL} {D F K K1:List Int} {w:World}
def df (s:HL) (x:Int):Int:=(aV (some s) x).1.2.2
def fM (s:HL) (x:Int):Int:=(dE (some s) x 0).1
def ez (s:HL) (x:Int):Int:=(dE (some s) x 1).1
structure Ns (s:HL) (F:List Int) (P:Int→Prop):Prop where
 f: ∀x,x∈F→cI s x→P x
 g: ∀x y,cI s x→P x→y∈aY (some s) x→cI s y→P y
 e: ∀x,cI s x→P x→df s x=2→P (fM s x)→cI s (ez s x)→P (ez s x)
structure uu (s:HL) (F K:List Int):Prop where
 nd:K.Nodup
 e9: ∀x,x∈K→cI s x
 cls:Ns s F (· ∈K)
 ind: ∀P,Ns s F P→ ∀x,x∈K→P x
structure Rd (s:HL) (F K D:List Int):Prop where
 nd:K.Nodup
 e9: ∀x,x∈K→cI s x
 Ad: ∀x,x∈K→ ∀y,y∈aY (some s) x→cI s y→y∈K
 ind: ∀P,Ns s F P→(∀x,x∈K→P x)∧ ∀x,x∈D→cI s x→P x
 due:(K=[]∧D=F)∨((∀x,x∈F→cI s x→x∈K)∧ ∀x,x∈K→df s x=2→fM s x∈K→cI s (ez s x)→ez s x∈D)
theorem Rd.first (s:HL) (F:List Int):Rd s F [] F:=⟨List.nodup_nil,fun x b=>absurd b (by simp),fun x b=>absurd b (by simp),fun P h=>⟨fun x b=>absurd b (by simp),h.f⟩,.inl ⟨rfl,rfl⟩⟩
theorem Rd.WN (h:Rd s F K D) (v:xv s D K K1) (_: ∀x,x∈D→cI s x→x∈K1):(∀x,x∈K1→cI s x)∧(∀x,x∈K1→ ∀y,y∈aY (some s) x→cI s y→y∈K1)∧ ∀P,Ns s F P→ ∀x,x∈K1→P x:=by
 refine⟨fun x b=>(v.e9 x b).elim (h.e9 x) id,fun x b y j k=>?_,fun P d x b=>?_⟩
 ·by_cases c:x∈K
  ·exact v.sub y (h.Ad x c y j k)
  ·exact v.Ad x b c y j k
 ·exact(v.ind P (h.ind P d).2 (fun x y l m o q=>d.g x y l m o q) x b).elim ((h.ind P d).1 x) id
theorem zp (j:K.Nodup) (k: ∀x,x∈K→x∈K1) (t:K1.length≤K.length): ∀x,x∈K1→x∈K:=fun x o=>Decidable.byContradiction fun c=>by
 have:=dP (l:=K++[x]) (m:=K1) (by rw[List.nodup_append];exact⟨j,by simp,fun a q b d e=>c (by simp only[aK]at d;rw[←d,←e];exact q)⟩) fun y r=>(List.mem_append.1 r).elim (k y) fun e=>by simp only[aK]at e;rw[e];exact o
 simp only[cH,List.length_singleton]at this
 omega
theorem Rd.last (h:Rd s F K D) (v:xv s D K K1) (l: ∀x,x∈D→cI s x→x∈K1) (m:K1.length≤K.length):uu s F K1:=by
 obtain⟨o,q,r⟩:=h.WN v l;have b:=zp h.nd v.sub m;refine⟨v.nd,o,⟨fun x d j=>?_,fun x y _ d t j=>q x d y t j,fun x _ d u k j=>?_⟩,r⟩
 ·rcases h.due with⟨_,e⟩|⟨e,_⟩
  ·exact l x (by rw[e];exact d) j
  ·exact v.sub x (e x d j)
 ·rcases h.due with⟨e,_⟩|⟨_,e⟩
  ·have:=b x d;rw[e]at this;cases this
  ·exact l _ (e x (b x d) u (b _ k) j) j
theorem Rd.next {m:List Int} (h:Rd s F K D) (v:xv s D K K1) (o: ∀x,x∈D→cI s x→x∈K1) (q: ∀y,y∈m↔ ∃x,x∈K1∧df s x=2∧fM s x∈K1∧y=ez s x):Rd s F K1 m:=by
 obtain⟨r,u,l⟩:=h.WN v o;refine⟨v.nd,r,u,fun P d=>⟨l P d,fun y w j=>?_⟩,.inr ⟨fun x k j=>?_,fun x k z b _=>(q _).2 ⟨x,k,z,b,rfl⟩⟩⟩
 ·obtain⟨x,t,B,C,rfl⟩:=(q y).1 w;exact d.e x (r x t) (l P d x t) B (l P d _ C) j
 ·rcases h.due with⟨_,e⟩|⟨e,_⟩
  ·exact o x (by rw[e];exact k) j
  ·exact v.sub x (e x k j)
def qX (w:World) (b:Nat):Nat:=match w.heap[b]? with
 |some (.map d _)=>d.size
 |_=>0
theorem MB.len {b:Nat} (h:MB w b K):qX w b=K.length:=by
 obtain⟨d,c,j,k,_⟩:=h;unfold qX;rw[j];have:d.size=(cS K).length:=by simpa[qJ]using congrArg List.length k
 show d.size=K.length;rw[this,ec]
theorem QZ {a:Option Addr} {fp:List Nat} {m:HO} (h:HR w a fp m) (x:Int) (t:x≤4611686018427387904):Cs Tryz.prog 185 [.pointer a,.int .i64 x] w fun v w'=>v=.int .i64 (aV m x).1.2.2∧ae [] w w':=by
 refine en [] ?_;refine gO ?_;refine aw (ju h x t) ?_;rintro _ D ⟨rfl,j⟩;refine gO ?_;refine bp fun q E F u d k=>?_;refine gO ?_;refine dF (cs:=bS (aV m x).1) d rfl (by simp[bS]) (dm _) fun o z b l=>?_;rw[dz]at b;have B:ae [] w o:=j.nil (k.trans l fun y r=>by simp only[aK]at r;subst r;exact .inr (by omega));have C:o.cell? ⟨q,2,none⟩=some (.int .i64 (aV m x).1.2.2):=by rw[b.cell];rfl
 refine aQ C ?_;exact B
end
section
set_option maxRecDepth 8000
variable {s:HL}
theorem dK {x:Int}:x∈dX (some s)↔cI s x:=by
 show x∈fj s.aj↔_;unfold fj;rw[List.mem_map];exact⟨fun⟨k,h,e⟩=>⟨k,e.symm,bq.1 h⟩,fun⟨k,e,h⟩=>⟨k,bq.2 h,e.symm⟩⟩
theorem fu (s:HL):(dX (some s)).length=s.aj.length:=by show(fj s.aj).length=_;unfold fj;rw[List.length_map]
theorem IY (b:s.Ok) (t:zl s.abs) (x:Int):ez s x≤4096:=by
 unfold ez;by_cases c:(br (some s) x 1 false).2=0
 ·obtain⟨o,k,rfl,j,_⟩:=fS b c;by_cases l:1<(s.ai o).rf.length
  ·have:=jt b j l;rw[show((1:Nat):Int)=1 from rfl]at this;rw[this];exact(t (s.ai o) (by simp only[HL.abs,List.mem_map];exact⟨o,bq.2 j,rfl⟩) _ (by simp[l])).2
  ·exfalso;obtain⟨r,d,u,y,m,z,B,w,C⟩:=eX b j;have q:s.dy ((2*o:Nat):Int)=((r:Int),(d:Int),(u:Int)):=m;rw[w]at l;simp only[List.length_map,List.length_range]at l;unfold br at c;simp only[j5 b j,ne_eq,not_true_eq_false,if_false,cond_false,q]at c;rw[if_pos (by omega)]at c;cases c
 ·unfold dE;simp only[if_neg c];omega
set_option maxHeartbeats 1000000 in
theorem BX {w:World} {hp:Addr} {fp ff:List Nat} {vF:Value} {F:List Int} (hr:HR w (some hp) fp (some s)) (hs:s.Ok) (IZ:zl s.abs) (hF:Sl w 1 vF F.length (ints F) ff) (hFl:F.length≤1000) (hFb: ∀x,x∈F→x≤100000) (qs:s.aj.length≤2000):
  Cs Tryz.prog 260 [.pointer (some hp),vF] w fun v w'=>ae [] w w'∧ ∃m K n,v=.tuple #[.map (some m),.int .i64 n]∧MB w' m K∧w.heap.size≤m∧uu s F K:=by
 obtain⟨aF,cF,rfl⟩:=hF.val;refine en [] ?_;refine gO ?_;refine bp fun qh w1 hqh pf gz ja=>?_;refine gO ?_;refine Ay fun m w2 Tk yJ hm2 jq=>?_;refine gO ?_;refine bp fun qk w3 hqk qt lS gJ=>?_;refine gO ?_;refine fJ lS (by simp) rfl fun w4 pk iH iV=>?_;refine gO ?_;refine bp fun qv w5 hqv qm ky jv=>?_;refine gO ?_;refine fJ ky (by simp) rfl fun w6 oO kP lZ=>?_;have z1:=ja.size;have o6:ae [] w w6:=((ja.nil jq).nil gJ).trans ((iV.jV (T:=[qk,qv]) (by simp)).same ((jv.of_nil).same (lZ.jV (by simp)))) fun y B=>by
  simp only[List.mem_cons,List.not_mem_nil,or_false]at B;exact .inr (by omega)
 have wg:=hr.lt;have J: ∀ {y:Nat},y<w3.heap.size→y≠qk→y∉ [qk,qv]:=fun h1 h2=>by simp only[List.mem_cons,List.not_mem_nil,or_false];omega
 have Z2:ae [qk,qv] w3 w6:=(iV.jV (by simp)).same ((jv.of_nil).same (lZ.jV (by simp)));have vs6:Dj w6 qh qk qv m hp fp s:=by
  refine⟨((gz.ab jq).ab gJ).keep Z2 (J (by omega) (by omega)),(iH.ab jv).keep lZ (by simp only[aK];omega),kP,hr.ab o6,?_,fun h=>by have:=wg m h;omega⟩;simp only[List.mem_cons,List.not_mem_nil,or_false];omega
 have mb6:MB w6 m []:=(hm2.ab gJ).keep Z2 (J (by omega) (by omega));refine gO ?_;refine az (4::5::8::9::10::11::12::13::14::15::16::17::18::22::23::24::25::26::27::28::29::30::31::32::33::34::35::36::37::38::39::40::41::42::43::44::45::46::47::48::49::50::51::52::53::54::55::56::57::58::59::60::61::62::63::64::65::66::67::68::69::70::71::72::73::74::75::76::77::78::79::[]) (fun g w'=> ∃(K D:List Int) (n:Int) (fD:List Nat),g 8=.int .i64 n∧Sl w' 1 (g 9) D.length (ints D) fD∧m∉fD∧MB w' m K∧Dj w' qh qk qv m hp fp s∧ae [] w w'∧w6.heap.size≤w'.heap.size∧Rd s F K D∧D.length≤2000∧ ∀x,x∈D→x≤100000) (fun _ w'=>s.aj.length+1-qX w' m)
  ⟨[],F,0,ff,by simp only[go_sem],by simp only[go_sem];exact hF.ab o6,fun h=>by have:=hF.lt m h;omega,mb6,vs6,o6,Nat.le_refl _,Rd.first s F,by omega,hFb⟩ fun g w7 hI pD=>?_
 obtain⟨K,D,n,fD,h8,hD,OD,mb,vs,o7,z67,rd,TQ,hDx⟩:=hI;have WO:=eN rd.nd rd.e9;obtain⟨aD,cD,h9⟩:=hD.val;have Z3:m<w7.heap.size:=by omega
 refine aQ vs.k.cell ?_;refine JF Tryz.underlying130 mb ?_;rw[ec];(repeat(first|with_reducible(first|refine Er ?_|refine Es ?_|refine Et ?_|refine Eu ?_|refine bA rfl ?_|refine Jf ?_|refine Jg ?_|refine Jh ?_|refine Ji ?_)|simp only[go_sem,h9]));refine bH (12::26::27::28::29::30::31::32::33::34::35::[]) (fun _ w'=> ∃d,ae [m] w7 w'∧MB w' m d∧xv s D K d∧ ∀x,x∈D→cI s x→x∈d) (fun kk jS=>?_) (fun g1 w8 hJ=>?_)
 ·refine aQ h9 ?_;refine az (12::26::27::28::29::30::31::32::33::34::35::[]) (fun g w'=> ∃(i:Nat) (K':List Int),g 28=.int .i64 (i:Int)∧i≤D.length∧g 26=.slice aD D.length cD∧g 27=.int .i64 (D.length:Int)∧ae [m] w7 w'∧MB w' m K'∧xv s D K K'∧ ∀j,j<i→cI s (D.getD j 0)→D.getD j 0∈K') (fun g _=>bw D.length 28 g)
   ⟨0,K,by simp only[go_sem];rfl,by omega,by simp only[go_sem,h9],by simp only[go_sem,h9],ae.refl _ _,mb,.refl rd.nd,fun j hj=>absurd hj (by omega)⟩ fun g2 w8 hI b=>?_
  obtain⟨i,K',Q,hi,WQ,R,q,G,o,done⟩:=hI;by_cases c1:i<D.length;rotate_left
  ·refine cT Q R (aX (show¬(i:Int)<(D.length:Int) by omega)) ?_;refine jS _ w8 ⟨K',q,G,o,fun x hx hv=>?_⟩
   ·obtain⟨j,hj,rfl⟩:=List.mem_iff_getElem.1 hx;have:=done j (by omega);simp only[List.getD_eq_getElem?_getD,List.getElem?_eq_getElem hj,Option.getD_some]at this;exact this hv
  obtain⟨gl,_,yl,el,L,WL,_⟩:=hD.pos (by omega);rw[h9]at el;cases el;have WM:gl∉ [m]:=fun e=>OD (by rw[WL];simp only[aK]at e⊢;exact e.symm);have ci:(0:Int)≤(i:Int)∧(i:Int)<(D.length:Int):=by omega
  have vr:w8.cell? ⟨gl,i,none⟩=some (.int .i64 (D.getD i 0)):=by rw[(L.keep q WM).cell];exact aG yl (by omega)
  have r:=vs.keep q;have hx9:=hDx (D.getD i 0) (by simp[c1]);refine Dx Q R WQ (aU ci.2) (eq_true ci) @Int.toNat_natCast @Nat.mul_one vr r.v.cell ?_;refine fI (cQ 381 #[] [.int .i64 (D.getD i 0)] #[.pointer (some ⟨qh,0,none⟩),.pointer (some ⟨qk,0,none⟩),.pointer (some ⟨qv,0,none⟩)]) (by kernel_rfl) (MQ hs IZ s.aj.length w8 K' (D.getD i 0) (by omega) r G (fun y B=>(o.e9 y B).elim (rd.e9 y) id) (by omega)) ?_;rintro _ w9 ⟨K9,WR,H,V,in9⟩;refine eZ Q R WQ (au i (by omega)) ?_;refine b _ w9 ⟨i+1,K9,?_,by omega,?_,?_,q.same H,WR,o.trans (V.mono fun y B=>by simp only[aK]at B;rw[B];simp[c1]),fun j hj H5=>?_⟩ ?_
  ·simp only[go_sem]
  ·simp only[go_sem,WQ]
  ·simp only[go_sem,R]
  ·by_cases e:j=i
   ·rw[e]at H5⊢;exact in9 H5
   ·exact V.sub _ (done j (by omega) H5)
  ·exact aJ Q
 obtain⟨d,q,G,o,hd⟩:=hJ;have r:=vs.keep q;have z8:=q.size;have o8:ae [] w w8:=o7.trans q fun y B=>.inr (by simp only[aK]at B;omega);have WS:=o.nd;have W:=(rd.WN o hd).1;have WT:=eN WS W;have aa6:=dP rd.nd o.sub;refine aQ r.k.cell ?_;refine JF Tryz.underlying130 G ?_;rw[ec];by_cases ce:(d.length:Int)=(K.length:Int)
 ·refine cT h8 (cZ ce) r.k.cell ?_;exact⟨o8,m,d,n,rfl,G,by omega,rd.last o hd (by omega)⟩
 refine aZ (cU ce) r.h.cell ?_;refine aw (wL r.hr) ?_;rintro v w9 ⟨H,fA,hA,gA⟩;obtain⟨aA,cA,rfl⟩:=hA.val;refine gO ?_;obtain⟨A,S⟩: ∃A,A=dX (some s):=⟨_,rfl⟩;rw[←S]at hA⊢;have Lp:A.length≤2000:=by rw[S,fu];exact qs
 have WR:=G.ab H;have vs9:=r.keep H.of_nil;have z9:=H.size;have o9:=o8.nil H;have ext: ∀(i:Nat) (hi:i<A.length) (t:List Int),(∀y,y∈t↔ ∃x,x∈A.take i∧x∈d∧df s x=2∧fM s x∈d∧y=ez s x)→
   (¬(A.getD i 0∈d∧df s (A.getD i 0)=2∧fM s (A.getD i 0)∈d)→ ∀y,y∈t↔ ∃x,x∈A.take (i+1)∧x∈d∧df s x=2∧fM s x∈d∧y=ez s x)∧
   ((A.getD i 0∈d∧df s (A.getD i 0)=2∧fM s (A.getD i 0)∈d)→ ∀y,y∈t++[ez s (A.getD i 0)]↔ ∃x,x∈A.take (i+1)∧x∈d∧df s x=2∧fM s x∈d∧y=ez s x):=fun i hi t h=>by
  have hg:A[i]=A.getD i 0:=by simp[hi]
  have ht: ∀x,x∈A.take (i+1)↔x∈A.take i∨x=A.getD i 0:=fun x=>by rw[List.take_succ_eq_append_getElem hi,List.mem_append,aK,hg]
  refine⟨fun c y=>(h y).trans ⟨fun⟨x,M,X⟩=>⟨x,(ht x).2 (.inl M),X⟩,fun⟨x,M,X,a3,a4,a5⟩=>?_⟩,fun c y=>?_⟩
  ·rcases(ht x).1 M with M|rfl
   ·exact⟨x,M,X,a3,a4,a5⟩
   ·exact absurd ⟨X,a3,a4⟩ c
  ·rw[List.mem_append,aK,h y];constructor
   ·rintro(⟨x,M,X⟩|rfl)
    ·exact⟨x,(ht x).2 (.inl M),X⟩
    ·exact⟨_,(ht _).2 (.inr rfl),c.1,c.2.1,c.2.2,rfl⟩
   ·rintro⟨x,M,X,a3,a4,a5⟩;rcases(ht x).1 M with M|rfl
    ·exact .inl ⟨x,M,X,a3,a4,a5⟩
    ·exact .inr a5
 refine az (9::14::15::16::17::18::45::46::47::48::49::50::51::52::53::54::55::56::57::58::59::60::61::62::63::64::65::66::67::68::69::70::71::72::73::74::75::76::77::78::[]) (fun g w'=> ∃(i:Nat) (t:List Int) (f1:List Nat),g 45=.int .i64 (i:Int)∧i≤A.length∧ae [] w9 w'∧Sl w' 1 (g 9) t.length (ints t) f1∧(∀y,y∈f1→w9.heap.size≤y)∧t.length≤i∧ ∀y,y∈t↔ ∃x,x∈A.take i∧x∈d∧df s x=2∧fM s x∈d∧y=ez s x) (fun g _=>bw A.length 45 g)
  ⟨0,[],[],by simp only[go_sem];rfl,by omega,ae.refl _ _,by simp only[go_sem];exact Sl.iW _,fun y B=>absurd B (by simp),by simp,fun y=>⟨fun h=>absurd h (by simp),fun⟨x,h,_⟩=>absurd h (by simp)⟩⟩ fun g2 U hI b=>?_
 obtain⟨i,t,f1,k,hi,l,WU,I,lD1,WV⟩:=hI;have u:=vs9.keep l.of_nil;have C:=WR.ab l;have SR:=l.size;by_cases c1:i<A.length;rotate_left
 ·refine cT k h8 (aX (show¬(i:Int)<(A.length:Int) by omega)) ?_;rw[List.take_of_length_le (by omega)]at WV;have Y: ∀y,y∈t↔ ∃x,x∈d∧df s x=2∧fM s x∈d∧y=ez s x:=fun y=>(WV y).trans ⟨fun⟨x,_,h⟩=>⟨x,h⟩,fun⟨x,h⟩=>⟨x,by rw[S];exact dK.2 (W x h.1),h⟩⟩;refine pD _ U ⟨d,t,IntKind.i64.wrap (n+1),f1,?_,?_,fun h=>?_,C,u,o9.nil l,by omega,rd.next o hd Y,by omega,fun x hx=>?_⟩ ?_
  ·simp only[go_sem,h8]
  ·simp only[go_sem];exact WU
  ·have:=I m h;omega
  ·obtain⟨x',_,_,_,rfl⟩:=(Y x).1 hx;have:=IY hs IZ x';omega
  ·show s.aj.length+1-qX U m<s.aj.length+1-qX w7 m;rw[C.len,mb.len];omega
 obtain⟨gl,_,yl,el,L,_,_⟩:=(hA.ab l).pos (by omega);cases el;have ci:(0:Int)≤(i:Int)∧(i:Int)<(A.length:Int):=by omega
 have vr:U.cell? ⟨gl,i,none⟩=some (.int .i64 (A.getD i 0)):=by rw[L.cell];exact aG yl (by omega)
 obtain⟨x,Z4⟩: ∃x,x=A.getD i 0:=⟨_,rfl⟩;have Tl:cI s x:=dK.1 (by rw[←S,Z4];simp[c1]);have aa7:=Tl.le hs;obtain⟨no,yes⟩:=ext i c1 t WV;rw[←Z4]at vr no yes;have zz:=au i (by omega);refine k7 k (aU ci.2) (eq_true ci) @Int.toNat_natCast @Nat.mul_one vr u.k.cell ?_;refine pR Tryz.underlying130 Tryz.underlying3 (Tryz.zeroValue4 _) C ?_;rw[dw];by_cases b1:x∈d;rotate_left
 ·rw[aX b1];refine aZ k zz ?_;refine b _ U ⟨i+1,t,f1,?_,by omega,l,?_,I,by omega,no fun h=>b1 h.1⟩ ?_
  ·simp only[go_sem]
  ·simp only[go_sem];exact WU
  ·exact aJ k
 rw[aU b1];refine aQ u.h.cell ?_;refine aw (QZ u.hr x (by omega)) ?_;rintro _ qx ⟨rfl,E⟩;have Ge:=l.nil E;have N:=u.keep E.of_nil;have O:=WU.ab E;by_cases b2:df s x=2;rotate_left
 ·have WW: ¬(aV (some s) x).1.2.2=2:=b2;refine cT k zz (eE WW) ?_;refine b _ qx ⟨i+1,t,f1,?_,by omega,Ge,?_,I,by omega,no fun h=>b2 h.2.1⟩ ?_
  ·simp only[go_sem]
  ·simp only[go_sem];exact O
  ·exact aJ k
 have WW:(aV (some s) x).1.2.2=2:=b2;refine cT k (dg WW) N.h.cell ?_;refine aw (rR N.hr x 0 (by omega)) ?_;rintro _ wN ⟨rfl,z⟩;have L2:=Ge.nil z;have P:=N.keep z.of_nil;refine aQ P.k.cell ?_;refine pR Tryz.underlying130 Tryz.underlying3 (Tryz.zeroValue4 _) ((C.ab E).ab z) ?_;rw[dw];by_cases b3:fM s x∈d;rotate_left
 ·rw[aX (show¬(dE (some s) x 0).1∈d from b3)];refine aZ k zz ?_;refine b _ wN ⟨i+1,t,f1,?_,by omega,L2,?_,I,by omega,no fun h=>b3 h.2.2⟩ ?_
  ·simp only[go_sem]
  ·simp only[go_sem];exact O.ab z
  ·exact aJ k
 rw[aU (show(dE (some s) x 0).1∈d from b3)];refine aQ P.h.cell ?_;refine aw (rR P.hr x 1 (by omega)) ?_;rintro _ uy ⟨rfl,Z⟩;have Ap:=L2.nil Z;refine gO ?_;rw[ag rfl rfl];refine gO ?_;refine eJ fun q14 E2 aa8 LH tt xx=>?_;refine gO ?_;refine eM (((O.ab z).ab Z).ab xx) (bn.at (us:=[.int .i64 (ez s x)]) tt rfl) (by simp[bh]) (by omega) (by omega) ?_;intro v15 zG f15 H6 WX WY _;have Jx:=Ap.nil xx;have z14:=Jx.size;have DC:ae [] w9 zG:=Jx.trans WY fun y B=>.inr (I y B);refine aZ k zz ?_;refine b _ zG ⟨i+1,t++[ez s x],f15,?_,by omega,DC,?_,?_,by simp;omega,yes ⟨b1,b2,b3⟩⟩ ?_
 ·simp only[go_sem]
 ·simp only[go_sem];rw[cH,ba];exact H6
 ·intro y B;rcases WX with e|e<;>rw[e]at B
  ·exact I y B
  ·simp only[aK]at B;omega
 ·exact aJ k
end
section
set_option maxRecDepth 8000
variable {hp:Addr} {s:HL} {x y:Int} {fh:List Nat} {R:Rt.MS} {w:World}
theorem A0 {b:List Int}:y∈Rt.dC b x↔y∈b∨y=x:=by
 unfold Rt.dC;by_cases c:b.contains x=true
 ·rw[if_pos c];exact⟨.inl,fun h=>h.elim id fun e=>e▸List.contains_iff_mem.1 c⟩
 ·rw[if_neg c,List.mem_append,aK]
theorem iq: ∀(l b:List Int) (y:Int),y∈l.foldl Rt.dC b↔y∈b∨y∈l
 | [],b,y=>by simp
 |x::l,b,y=>by rw[List.foldl_cons,iq l,A0,List.mem_cons,or_assoc]
theorem A1 {p:Rt.PT×Int} (h:p∈Rt.filled R):p.2∈R.S∨p.2∈R.G∨p.2∈R.Q:=by
 have j:=(List.mem_filter.1 h).1;have d:=(List.of_mem_zip (a:=p.1) (b:=p.2) j).2;unfold Rt.MS.V at d;simp only[List.mem_append]at d;exact d.elim (fun h=>h.elim .inl fun h=>.inr (.inl h)) fun h=>.inr (.inr h)
theorem Dk (h:y∈Rt.bz (some R)):y∈R.S∨y∈R.G∨y∈R.Q:=by
 unfold Rt.bz at h;rw[iq]at h;rcases h with h|h
 ·cases h
 ·obtain⟨p,hp,rfl⟩:=List.mem_map.1 h;exact A1 hp
theorem zq {P:Int→Prop} (h:JP P R) (d:y∈Rt.bz (some R)):P y:=by
 rcases Dk d with b|b|b
 ·exact h.1 y b
 ·exact h.2.1 y b
 ·exact h.2.2 y b
theorem Gf {q:Nat} {m:HO} (b:At w q [.pointer (some hp)]) (h:HR w (some hp) fh m) (x:Int) (d:x≤4611686018427387904):
  Cs Tryz.prog 279 [.int .i64 x,.pointer (some ⟨q,0,none⟩)] w fun v w'=>v=.bool (x !=0&&!bE m x)∧ae [] w w':=by
 refine en [] ?_;by_cases c:x=0
 ·refine aQ (dg c) ?_;exact⟨by rw[Bool.false_and],ae.refl _ _⟩
 ·refine aZ (eE c) b.cell ?_;refine aw (yS h x d) ?_;rintro _ k ⟨rfl,j⟩;refine gO ?_;exact⟨by rw[Bool.true_and],j⟩
theorem zr (b:s.Ok) (h:ur true s x):(x !=0&&!bE (some s) x)=false:=by
 rcases h with rfl|⟨_,h⟩
 ·rfl
 ·rw[(dH b).2 h];simp
theorem ur.le {b:Bool} (d:s.Ok) (h:ur b s x):0≤x∧x≤4096:=by
 rcases h with rfl|⟨_,h⟩
 ·omega
 ·exact h.le d
theorem iP.ref (h:iP true s R) {k j:Nat} (b:s.st.getD k 0=1) (d:j<(s.ai k).rf.length):ur true s (s.RF k j):=by
 refine h.1 (s.ai k) (by simp only[HL.abs,List.mem_map];exact⟨k,bq.2 b,rfl⟩) _ ?_;unfold HL.RF;simp[d]
theorem yE {ar:Option Addr} {fr:List Nat} (H:HR w (some hp) fh (some s)) (m:s.Ok) (hR:Rt.PR w ar fr (some R)) (I:iP true s R) (qs:s.aj.length≤2000) (J:(Rt.bz (some R)).length≤1000):
  Cs Tryz.prog 99 [.pointer (some hp),.pointer ar] w fun v w'=>v=.bool true∧ae [] w w':=by
 refine en [] ?_;refine gO ?_;refine bp fun q w1 hq pf K L=>?_;refine gO ?_;refine aw (Rt.xe (hR.ab L)) ?_;rintro v w2 ⟨M,fl,B,_⟩;obtain⟨l,N⟩: ∃l,l=Rt.bz (some R):=⟨_,rfl⟩;rw[←N]at B J;obtain⟨al,cl,rfl⟩:=B.val;have o2:=L.nil M;have O:=K.ab M;have P: ∀x,x∈l→ur true s x:=fun x Q=>zq I.2 (by rw[←N];exact Q);refine gO ?_;refine aw (lA (p:=fun x=>x !=0&&!bE (some s) x) (F:=279) (caps:=#[.pointer (some ⟨q,0,none⟩)]) (fun DB=>?_) (by kernel_rfl) J fun w' x ho Q=>?_) ?_
 ·obtain⟨g,aa9,ys,e,xc,_⟩:=B.pos (by have:=List.length_pos_iff.2 DB;omega);cases e;exact⟨g,ys,rfl,xc⟩
 ·exact Gf (O.ab ho) (H.ab (o2.nil ho)) x (by have:=(P x Q).le m;omega)
 rintro _ w3 ⟨rfl,S⟩;have T:(l.any fun x=>x !=0&&!bE (some s) x)=false:=List.any_eq_false.2 fun x Q=>by rw[zr m (P x Q)];simp
 rw[T];have o3:=o2.nil S;have U:=O.ab S;refine aQ U.cell ?_;refine aw (wL (H.ab o3)) ?_;rintro v w4 ⟨V,fA,hA,_⟩;obtain⟨A,C⟩: ∃A,A=dX (some s):=⟨_,rfl⟩;rw[←C]at hA;have Lp:A.length≤2000:=by rw[C,fu];exact qs
 obtain⟨aA,cA,rfl⟩:=hA.val;have o4:=o3.nil V;have H3:=U.ab V;refine gO ?_;refine az (7::8::9::10::11::12::21::22::23::24::25::26::27::28::29::30::31::32::33::34::35::36::37::38::39::40::41::42::43::44::45::46::47::[]) (fun g w'=> ∃i:Nat,g 21=.int .i64 (i:Int)∧i≤A.length∧ae [] w4 w') (fun g _=>bw A.length 21 g) ⟨0,by simp only[go_sem];rfl,by omega,ae.refl _ _⟩ fun g w5 hI D=>?_;obtain⟨i,o,hi,b⟩:=hI;by_cases c1:i<A.length;rotate_left
 ·refine aZ o (aX (show¬(i:Int)<(A.length:Int) by omega)) ?_;exact o4.nil b
 obtain⟨gl,_,yl,el,W,_,_⟩:=(hA.ab b).pos (by omega);cases el;have ci:(0:Int)≤(i:Int)∧(i:Int)<(A.length:Int):=by omega
 have vr:w5.cell? ⟨gl,i,none⟩=some (.int .i64 (A.getD i 0)):=by rw[W.cell];exact aG yl (by omega)
 obtain⟨k,NP,G⟩:cI s (A.getD i 0):=dK.1 (by rw[←C];simp[c1]);rw[NP]at vr;have h2k:=gy m G;have X:=H3.ab b;have o5:=o4.nil b;refine k7 o (aU ci.2) (eq_true ci) @Int.toNat_natCast @Nat.mul_one vr X.cell ?_;refine aw (ju (H.ab o5) ((2*k:Nat):Int) (by omega)) ?_;rintro _ w6 ⟨rfl,lZ⟩;rw[dB m G];refine gO ?_;refine bp fun q8 w7 Ia uw Y kB=>?_;refine gO ?_;refine dF (cs:=bS (s.ai k).sh) Y rfl (by simp[bS]) (dm _) fun w8 Bu z k9=>?_;rw[dz]at z;have E:ae [] w5 w8:=lZ.nil (kB.trans k9 fun y hy=>by simp only[aK]at hy;subst hy;exact .inr (by omega));have MG:=(cX m G).1;have h80:w8.cell? ⟨q8,0,none⟩=some (.int .i64 ((s.ai k).rf.length:Int)):=by rw[z.cell,MG];rfl
 have rl:=uW m G;have Z:=X.ab E;refine aQ h80 ?_;refine az (10::11::12::33::34::35::36::37::38::39::40::41::42::43::44::45::46::[]) (fun g w'=> ∃j:Nat,g 33=.int .i64 (j:Int)∧j≤(s.ai k).rf.length∧ae [] w8 w') (fun g _=>bw (s.ai k).rf.length 33 g) ⟨0,by simp only[go_sem];rfl,by omega,ae.refl _ _⟩ fun g2 w9 hJ r=>?_;obtain⟨j,t,hj,u⟩:=hJ;have o9:=o5.nil (E.nil u);by_cases c2:j<(s.ai k).rf.length;rotate_left
 ·refine eZ o t (aX (show¬(j:Int)<((s.ai k).rf.length:Int) by omega)) (au i (by omega)) ?_;refine D _ w9 ⟨i+1,?_,by omega,b.nil (E.nil u)⟩ ?_
  ·simp only[go_sem]
  ·exact aJ o
 have TM:=Z.ab u;refine cT t (aU (show(j:Int)<((s.ai k).rf.length:Int) by omega)) TM.cell ?_;refine aw (rR (H.ab o9) ((2*k:Nat):Int) (j:Int) (by omega)) ?_;rintro _ rS ⟨rfl,d⟩;rw[jt m G c2];have Z5:=I.ref G c2;refine gO ?_;refine fI (cQ 279 #[] [.int .i64 ((s.ai k).rf.getD j 0)] #[.pointer (some ⟨q,0,none⟩)]) (by kernel_rfl) (Gf (TM.ab d) (H.ab (o9.nil d)) ((s.ai k).rf.getD j 0) (by have:=Z5.le m;unfold HL.RF at this;omega)) ?_;rintro _ qx ⟨rfl,LP⟩;have Z6:=zr m Z5;unfold HL.RF at Z6;rw[Z6];refine aZ t (au j (by omega)) ?_;refine r _ qx ⟨j+1,?_,by omega,(u.nil d).nil LP⟩ ?_
 ·simp only[go_sem]
 ·exact aJ t
end
section
variable {caps:Array Value} {p:Int→Bool} {xs:List Int} {F cap:Nat} {w:World}
def WZ (p:Int→Bool) (xs:List Int) (k:Int):Prop:=(k= -1∧xs.any p=false)∨ ∃i:Nat,k=(i:Int)∧i<xs.length∧p (xs.getD i 0)=true∧(xs.take i).any p=false
theorem t' {a:Option Addr} (C:xs≠ []→ ∃s rest,a=some ⟨s,0,none⟩∧At w s (ints xs++rest)) (r:okF Tryz.prog F=true)
  (z:xs.length≤4000) (D: ∀w' x,ae [] w w'→x∈xs→Cs Tryz.prog F ([.int .i64 x]++caps.toList) w' fun v j=>v=.bool (p x)∧ae [] w' j):
  Cs Tryz.prog 266 [.slice a xs.length cap,.func (.func F) #[] caps] w fun v w'=>(∃k:Int,v=.int .i64 k∧WZ p xs k)∧ae [] w w':=by
 refine en [] ?_;refine gO ?_;refine az [5,8,9,10,11,12,13,14,15,16,18] (fun g w'=> ∃i:Nat,g 8=.int .i64 i∧i≤xs.length∧(xs.take i).any p=false∧ae [] w w') (fun g _=>bw xs.length 8 g) ⟨0,by simp only[go_sem];rfl,by omega,by simp,ae.refl _ _⟩ fun g w' E l=>?_;obtain⟨i,q,H,b,m⟩:=E;by_cases d:i<xs.length;rotate_left
 ·refine aZ q (aX (show¬(i:Int)<(xs.length:Int) by omega)) ?_;rw[List.take_of_length_le (by omega)]at b;exact⟨⟨-1,rfl,.inl ⟨rfl,b⟩⟩,m⟩
 obtain⟨s,rest,rfl,t⟩:=C (by intro e;subst e;simp at d);have B:(0:Int)≤(i:Int)∧(i:Int)<(xs.length:Int):=⟨by omega,by omega⟩;(repeat(first|with_reducible(first|refine nx ?_|refine bA rfl ?_)|simp only[go_sem,q,aU B.2,if_pos B,(t.ab m).cell,aG rest d,c9,Nat.mul_one]));have u:Cs Tryz.prog F ((#[]:Array Value).toList++[.int .i64 (xs.getD i 0)]++caps.toList) w' fun v j=>v=.bool (p (xs.getD i 0))∧ae [] w' j:=by
  have:=D w' (xs.getD i 0) m (by simp[d]);simpa using this
 refine fI (cQ F #[] [.int .i64 (xs.getD i 0)] caps) r u ?_;rintro v G ⟨rfl,o⟩;refine gO ?_;refine cu (fun y=>?_) (fun y=>?_)
 ·refine gO ?_;exact⟨⟨i,rfl,.inr ⟨i,rfl,d,y,b⟩⟩,m.nil o⟩
 ·refine aZ q (au i (by omega)) ?_;refine l _ G ⟨i+1,?_,by omega,by rw[kA d,b,y];rfl,m.nil o⟩ ?_
  ·simp only[go_sem]
  ·exact aJ q
theorem Aa {size n h:Nat} {k:IntKind} {g:Nat} (d:h≤cap):iD size (.slice (some ⟨g,0,none⟩) n cap) none (some (.int k (h:Int)))=some (.slice (some ⟨g,0,none⟩) h cap):=by
 have b:(0:Int)≤(h:Int)∧(h:Int)≤(cap:Int):=by omega
 have j:(⟨g,0,none⟩:Addr).add (0*size)=⟨g,0,none⟩:=by rw[bQ];simp
 simp[iD,gU,b];intro _;rw[bQ]
theorem ji {i:Nat} (h:i<xs.length):(xs.take (i+1)).filter p=(xs.take i).filter p++if p (xs.getD i 0)then [xs.getD i 0]else []:=by
 rw[List.take_succ_eq_append_getElem h,List.filter_append];congr 1;simp[List.filter_cons,h]
theorem lu {v0:Value} {J:List Nat} (u:Sl w 1 v0 xs.length (ints xs) J) (L:okF Tryz.prog F=true)
  (M:xs.length≤4000) (hF: ∀w' x,ae J w w'→x∈xs→Cs Tryz.prog F ([.int .i64 x]++caps.toList) w' fun v D=>v=.bool (p x)∧ae [] w' D):
  Cs Tryz.prog 93 [v0,.func (.func F) #[] caps] w fun v w'=>ae J w w'∧Sl w' 1 v (xs.filter fun x=>!p x).length (ints (xs.filter fun x=>!p x)) J:=by
 obtain⟨a0,cap,rfl⟩:=u.val;refine en [] ?_;refine gO ?_;refine aw (t' (p:=p) (fun W=>?_) L M fun w' x ho y=>hF w' x (ho.mono (by simp)) y) ?_
 ·obtain⟨g,N,ys,e,E,_⟩:=u.pos (List.length_pos_iff.2 W);cases e;exact⟨g,ys,rfl,E⟩
 rintro _ w1 ⟨⟨k,rfl,X⟩,z⟩;rcases X with⟨rfl,X⟩|⟨o,rfl,B,O,Y⟩
 ·refine gO ?_;have e:(xs.filter fun x=>!p x)=xs:=List.filter_eq_self.2 fun x y=>by
   have:=List.any_eq_false.1 X x y;simpa using this
  rw[e];exact⟨z.mono (by simp),u.ab z⟩
 obtain⟨g,ys,e,E,rfl,P⟩: ∃g ys,a0=some ⟨g,0,none⟩∧At w g (ints xs++ys)∧J=[g]∧(ints xs++ys).length=cap:=by
  rcases u.2 with⟨_,h0,_⟩|⟨g,N,ys,T,h1,h2,h3,h4,G⟩
  ·omega
  ·cases h1;exact⟨g,ys,rfl,⟨T,h3⟩,h2,by simpa using h4⟩
 subst e;have Qa:xs.length≤cap:=by rw[cH,ax]at P;omega
 have e1:((o:Int)== -1)=false:=cU (by omega);refine aZ e1 (au o (by omega)) ?_;have f0:(xs.take o).filter (fun x=>!p x)=xs.take o:=List.filter_eq_self.2 fun x y=>by
  have:=List.any_eq_false.1 Y x y;simpa using this
 refine az (5::6::7::16::17::18::19::20::21::22::23::24::25::26::27::28::29::30::31::32::33::34::35::[]) (fun Q w'=> ∃(i j:Nat) (mid:List Int),Q 5=.int .i64 (i:Int)∧Q 6=.int .i64 (j:Int)∧j≤xs.length∧((xs.take j).filter fun x=>!p x).length=i∧i+mid.length=j∧0<mid.length∧ae [g] w w'∧At w' g (ints ((xs.take j).filter (fun x=>!p x)++mid++xs.drop j)++ys))
  (fun Q _=>bw xs.length 6 Q) ⟨o,o+1,[xs.getD o 0],by simp only[go_sem],by simp only[go_sem],by omega,?_,rfl,Nat.one_pos,z.mono (by simp),?_⟩ fun Q R hI q=>?_
 ·rw[ji B,f0];simp only[O,Bool.not_true,Bool.false_eq_true,if_false,List.append_nil,List.length_take];omega
 ·rw[ji B,f0];have:xs.take o++[xs.getD o 0]++xs.drop (o+1)=xs:=by
   conv=>rhs;rw[←List.take_append_drop o xs,List.drop_eq_getElem_cons B]
   simp[B]
  simp only[O,Bool.not_true,Bool.false_eq_true,if_false,List.append_nil,this];exact E.ab z
 obtain⟨i,j,mid,G,I,hj,m,S,hm,C,b⟩:=hI;by_cases c:j<xs.length;rotate_left
 ·have Z:j=xs.length:=by omega
  subst Z;rw[List.take_length]at m b;rw[List.drop_length,List.append_nil]at b;refine cT G I (aX (show¬((xs.length:Nat):Int)<(xs.length:Int) by omega)) ?_;rw[As (show i≤xs.length by omega) (by omega)];refine cT @bQ @Nat.zero_add @Nat.mul_one ?_;refine AK Tryz.underlying35 (Tryz.zeroValue3 R) rfl b (by rw[cH,ax,cH];omega) fun w3 qt d r=>?_;refine aQ G ?_;rw[Aa (show i≤cap by omega)];refine gO ?_;refine⟨C.trans r (fun x y=>.inl y),?_⟩;rw[ba,List.append_assoc,List.append_assoc,List.take_left' (by rw[ax];exact m)]at d;rw[m];refine Sl.wH (d) (by rw[ax];exact m) ?_;rw[←P];simp only[cH,ax,List.length_replicate,List.length_drop,m];omega
 obtain⟨m0,l,rfl⟩:=List.exists_cons_of_length_pos hm;have H:xs.drop j=xs.getD j 0::xs.drop (j+1):=by rw[List.drop_eq_getElem_cons c];simp[c]
 have cj:(0:Int)≤(j:Int)∧(j:Int)<(xs.length:Int):=by omega
 obtain⟨K,U⟩: ∃K,K=(xs.take j).filter fun x=>!p x:=⟨_,rfl⟩;rw[←U]at m b;have vr:R.cell? ⟨g,j,none⟩=some (.int .i64 (xs.getD j 0)):=by
  rw[b.cell,aG ys (by simp only[cH,List.length_drop,m]at*;omega),H];congr 2;rw[List.getD_eq_getElem?_getD,List.getElem?_append_right (by simp only[cH,m];omega),show j-(K++m0::l).length=0 by simp only[cH,m];omega];rfl
 refine k7 G I (aU cj.2) (eq_true cj) @Int.toNat_natCast @Nat.mul_one vr ?_;have zI:Cs Tryz.prog F ((#[]:Array Value).toList++[.int .i64 (xs.getD j 0)]++caps.toList) R fun v D=>v=.bool (p (xs.getD j 0))∧ae [] R D:=by
  have:=hF R (xs.getD j 0) C (by simp[c]);simpa using this
 refine fI (cQ F #[] [.int .i64 (xs.getD j 0)] caps) L zI ?_;rintro v w3 ⟨rfl,r⟩;have d:=b.ab r;cases V:p (xs.getD j 0)with
 |true=>
  refine aZ I (au j (by omega)) ?_;refine q _ w3 ⟨i,j+1,m0::l++[xs.getD j 0],?_,?_,by omega,?_,?_,by simp,C.nil r,?_⟩ ?_
  ·simp only[go_sem,G]
  ·simp only[go_sem]
  ·rw[ji c,V];simp[←U,m]
  ·simp at S⊢;omega
  ·rw[ji c,V,←U];rw[H]at d;simpa using d
  ·exact aJ I
 |false=>
  have ci:(0:Int)≤(i:Int)∧(i:Int)<(xs.length:Int):=by omega
  refine eZ G (eq_true ci) @Int.toNat_natCast @Nat.mul_one ?_;refine fJ d (by simp only[cH,ax,List.length_drop,m];omega) rfl fun w4 pk t iV=>?_;refine eZ G I (au i (by omega)) (au j (by omega)) ?_;refine q _ w4 ⟨i+1,j+1,l++[xs.getD j 0],?_,?_,by omega,?_,?_,by simp,(C.nil r).trans iV (fun x y=>.inl y),?_⟩ ?_
  ·simp only[go_sem]
  ·simp only[go_sem]
  ·rw[ji c,V];simp[←U,m]
  ·simp at S⊢;omega
  ·rw[ji c,V,←U];rw[H]at t;have e:(ints (K++m0::l++xs.getD j 0::xs.drop (j+1))++ys).set i (.int .i64 (xs.getD j 0))=ints (K++[xs.getD j 0]++(l++[xs.getD j 0])++xs.drop (j+1))++ys:=by
    rw[List.set_append_left _ _ (by simp only[cH,ax,m,List.length_cons];omega)];congr 1;simp only[ba,List.append_assoc];rw[List.set_append_right _ _ (by rw[ax,m];exact Nat.le_refl _),ax,m,Nat.sub_self];simp[ints]
   rw[e]at t;simpa using t
  ·exact aJ I
end
section
variable {hp:Addr} {s:HL} {L:List Int} {fl fp:List Nat} {b:Nat} {ar:Option Addr} {w w':World}
def ui (s:HL) (k:Int):Option Int:=match getM s.pl k with
 |some (.int _ a)=>some a
 |_=>none
def MR (s:HL) (k:Int):Int×Int:=match ui s k with
 |some a=>(a,0)
 |none=>(0,4)
theorem Z7 (h:HR w (some hp) fp (some s)) (j:s.Inv) (x:Int):Cs Tryz.prog 117 [.pointer (some hp),.int .i64 x] w fun r w'=>r=.tuple #[.int .i64 (MR s x).1,.int .i64 (MR s x).2]∧ae [] w w':=by
 refine en [] ?_;have k:=mH h;obtain⟨b,e,l,m,o,cW,yB,yW,q,t,u,y,z,B,C,d⟩:=h;cases e;refine gO ?_;refine aH k ?_;refine aQ d.hb.cell ?_;refine PX Tryz.underlying121 Tryz.underlying3 (Tryz.zeroValue3 _) d.hl ?_;cases e:getM s.pl x with
 |none=>
  refine gO ?_;exact⟨by simp[MR,ui,e],ae.refl _ _⟩
 |some v=>
  obtain⟨i,_,rfl,_⟩:=j.pm.b x v e;refine gO ?_;exact⟨by simp[MR,ui,e],ae.refl _ _⟩
def RG (w:World) (b:Nat) (hp:Addr) (ar:Option Addr) (L:List Int) (fl:List Nat):Prop:= ∃v,At w b [.pointer (some hp),.pointer ar,v]∧Sl w 1 v L.length (ints L) fl∧b∉fl
theorem RG.keep {S:List Nat} (h:RG w b hp ar L fl) (k:ae S w w') (d:b∉S) (j: ∀x,x∈fl→x∉S):RG w' b hp ar L fl:=by
 obtain⟨v,l,m,o⟩:=h;exact⟨v,l.keep k d,m.keep k j,o⟩
theorem RG.ab (h:RG w b hp ar L fl) (k:ae [] w w'):RG w' b hp ar L fl:=h.keep k (by simp) (by simp)
theorem BY (h:RG w b hp ar L fl):Cs Tryz.prog 114 [.pointer (some ⟨b,0,none⟩)] w fun v w'=>v=.bool true∧w'=w:=by
 obtain⟨v,d,j,k⟩:=h;refine en [] ?_;(repeat(first|with_reducible(first|refine nx ?_|refine bA rfl ?_)|simp only[go_sem,d.cell]))
theorem Q0 {q:Nat} {y:List Value} (j:At w q [.pointer (some ⟨b,0,none⟩)]) (k:At w b (.pointer (some hp)::y)) (h:HR w (some hp) fp (some s)) (l:s.Inv) (x:Int):
  Cs Tryz.prog 264 [.int .i64 x,.pointer (some ⟨q,0,none⟩)] w fun v w'=>v=.bool (!(ui s x).isSome)∧ae [] w w':=by
 refine en [] ?_;refine aZ j.cell k.cell ?_;refine aw (Z7 h l x) ?_;rintro _ m ⟨rfl,d⟩;cases e:ui s x with
 |none=>
  (repeat(first|with_reducible(first|refine nx ?_|refine bA rfl ?_)|simp only[go_sem,MR,e]));exact d
 |some a=>
  (repeat(first|with_reducible(first|refine nx ?_|refine bA rfl ?_)|simp only[go_sem,MR,e]));exact d
def dT (s:HL) (L:List Int):List Int:=L.filter fun x=>(ui s x).isSome
theorem JR (h:RG w b hp ar L fl) (R:L.length≤4000) (O:HR w (some hp) fp (some s)) (S:s.Inv) (T:b∉fp):Cs Tryz.prog 86 [.pointer (some ⟨b,0,none⟩)] w fun _ w'=> ∃u,RG w' b hp ar (dT s L) u∧ae [b] w w'∧(∀x,x∈u→w.heap.size≤x):=by
 obtain⟨v,U,V,Z⟩:=h;refine en [2,5,8,11,14,20,18,24,26,29,34,0] ?_;refine gO ?_;refine bp fun q y hq W m B=>?_;refine gO ?_;have C:=U.ab B;refine aW [q,b] ?_;have j: ∀z,z∈[q,b]→z<y.drew.heap.size:=fun z d=>by
  simp only[List.mem_cons,List.not_mem_nil,or_false]at d;rcases d with rfl|rfl
  ·exact m.lt
  ·exact C.lt
 have D:=m.ab (ae.drew [] y);have o:=C.ab (ae.drew [] y);have I:=B.nil (ae.drew [] y);refine aZ D.cell o.cell ?_;refine bI (xa (V.ab I).src bR (by omega)) ?_;rintro vc w2 ⟨k,J,K,P⟩;refine⟨.inr ((SB.refl _ _).only k fun z d=>⟨j z d,by simp⟩),?_⟩;have Q:=I.nil k;have E: ∀z,z∈J→w.heap.size≤z:=fun z d=>Nat.le_trans I.size (P z d);have l: ∀z,z<y.drew.heap.size→z∉J:=fun z d e=>by have:=P z e;omega
 refine gO ?_;refine bI (lu (p:=fun x=>!(ui s x).isSome) (F:=264) (caps:=#[.pointer (some ⟨q,0,none⟩)]) K (by kernel_rfl) R fun w' x M hx=>?_) ?_
 ·refine Q0 ((D.ab k).keep M (l q (j q (by simp)))) ((o.ab k).keep M (l b (j b (by simp)))) ((O.ab Q).keep M fun z d=>l z ?_) S x;exact Nat.lt_of_lt_of_le (O.lt z d) I.size
 rintro X w3 ⟨r,t⟩;refine⟨.inr (((SB.refl _ _).only k fun z d=>⟨j z d,by simp⟩).only r fun z d=>⟨Nat.lt_of_lt_of_le (j z d) k.size,l z (j z d)⟩),?_⟩;have N:=(o.ab k).keep r (l b (j b (by simp)));have ev:(L.filter fun x=>!(!(ui s x).isSome))=dT s L:=by unfold dT;congr 1;funext x;simp
 rw[ev]at t;refine gO ?_;refine Ee N (by simp) t.jH fun w4 Y G H=>⟨.inl rfl,?_⟩;refine gO ?_;exact⟨J,⟨X,G,t.keep H fun z d e=>l b (j b (by simp)) (by simp only[aK]at e;exact e▸d),fun e=>l b (j b (by simp)) e⟩,(Q.trans r fun z d=>.inr (E z d)).of_nil.trans H fun z d=>.inl d,E⟩
end
section
set_option maxRecDepth 8000
variable {hp:Addr} {s:HL} {fp:List Nat} {ar:Option Addr} {w:World}
theorem OT {fr:List Nat} {R:Rt.MS} (h:HR w (some hp) fp (some s)) (k:s.Ok) (l:Rt.PR w ar fr (some R)) (m:Rt.uv (some R)≠0):
  Cs Tryz.prog 34 [.pointer (some hp),.pointer ar] w fun v w'=>ae [] w w'∧ ∃b,v=.tuple #[.pointer (some ⟨b,0,none⟩),.int .i64 0]∧RG w' b hp ar [] []∧w.heap.size≤b:=by
 refine en [] ?_;have o:=k.b2;refine gO ?_;refine aH (gC h) ?_;have q:decide ((cJ (some s):Int)≤0)=false:=aX (by show¬((s.B.length:Nat):Int)≤0;omega);have r:(Rt.uv (some R)==0)=false:=cU m;refine aQ q ?_;refine aH (Rt.oG l) ?_;refine aQ r ?_;rw[ag rfl rfl,ag rfl rfl];refine gO ?_;refine bp fun b u y t d j=>?_;refine gO ?_;exact⟨j,b,rfl,⟨_,d,Sl.iW _,by simp⟩,by omega⟩
def xy (s:HL) (L:List Int) (x:Int):Int:=if(dv (some s) x).2≠0 then(dv (some s) x).2 else if(dv (some s) x).1∈dT s L then 8 else if 64≤(dT s L).length then 6 else 0
def xz (s:HL) (L:List Int) (x:Int):List Int:=if(dv (some s) x).2≠0 then L else if(dv (some s) x).1∈dT s L then dT s L else if 64≤(dT s L).length then dT s L else dT s L++[(dv (some s) x).1]
theorem qA {b:Nat} {L:List Int} {fl:List Nat} (h:RG w b hp ar L fl) (Q:L.length≤4000) (R:HR w (some hp) fp (some s)) (V:s.Inv) (K:b∉fp) (x:Int) (W:x≤4611686018427387904):
  Cs Tryz.prog 73 [.pointer (some ⟨b,0,none⟩),.int .i64 x] w fun v w'=>v=.int .i64 (xy s L x)∧ ∃r,RG w' b hp ar (xz s L x) r∧ae [b] w w'∧(∀y,y∈r→y∈fl∨w.heap.size≤y):=by
 refine en [] ?_;refine gO ?_;refine aH (BY h) ?_;obtain⟨v0,X,h2,h3⟩:=id h;refine aQ X.cell ?_;refine aw (AL R x W) ?_;rintro _ w1 ⟨rfl,d⟩;by_cases c:(dv (some s) x).2=0;rotate_left
 ·refine aQ (eE c) ?_;refine⟨by unfold xy;rw[if_pos c],fl,?_,d.of_nil,fun y j=>.inl j⟩;unfold xz;rw[if_pos c];exact h.ab d
 unfold xy xz;simp only[ne_eq,c,not_true_eq_false,if_false];refine aQ (dg c) ?_;refine aw (JR (h.ab d) Q (R.ab d) V K) ?_;rintro _ Y ⟨M,m,N,t⟩;obtain⟨v2,k,o,u⟩:=id m;have S:=d.size;have I:ae [b] w Y:=(d.of_nil).trans N fun y j=>.inl j;have O: ∀y,y∈M→y∈fl∨w.heap.size≤y:=fun y j=>.inr (Nat.le_trans S (t y j));have Z:(dT s L).length≤4000:=Nat.le_trans (List.length_filter_le _ _) Q;refine aQ k.cell ?_;refine aH (oE o.rd (by omega) (dv (some s) x).1) ?_;by_cases q:(dv (some s) x).1∈dT s L
 ·have e:(dT s L).contains (dv (some s) x).1=true:=List.contains_iff_mem.2 q;rw[e];refine gO ?_;rw[if_pos q,if_pos q];exact⟨rfl,M,m,I,O⟩
 have e:(dT s L).contains (dv (some s) x).1=false:=by rw[Bool.eq_false_iff];exact fun e=>q (List.contains_iff_mem.1 e)
 rw[e,if_neg q,if_neg q];obtain⟨a2,c2',T⟩:=o.val;by_cases J:64≤(dT s L).length
 ·subst T;refine aZ k.cell (aU (show(64:Int)≤((dT s L).length:Int) by omega)) ?_;rw[if_pos J,if_pos J];exact⟨rfl,M,m,I,O⟩
 rw[if_neg J,if_neg J];subst T;refine aZ k.cell (aX (show¬(64:Int)≤((dT s L).length:Int) by omega)) ?_;rw[ag rfl rfl];refine gO ?_;refine eJ fun q6 w6 Z1 oO B l=>?_;refine gO ?_;refine eM (o.ab l) (bn.at (us:=[.int .i64 (dv (some s) x).1]) B rfl) (by simp[bh]) (by omega) (by omega) ?_;intro v7 w7 U C D E _;have hbw:=k.lt;have F:b∉U:=by
  rcases D with rfl|rfl
  ·exact u
  ·have:=l.size;simp only[aK];omega
 have P:=(k.ab l).keep E u;refine gO ?_;refine fJ P (by simp) C.jH fun w8 Bu G H=>?_;refine gO ?_;refine⟨U,⟨v7,G,?_,F⟩,((I.nil l).trans E fun y j=>.inr (Nat.le_trans S (t y j))).trans H fun y j=>.inl j,?_⟩
 ·have:=C.keep H fun z hz e=>F (by simp only[aK]at e;exact e▸hz);rw[cH,ba];exact this
 ·intro y j;rcases D with rfl|rfl
  ·exact O y j
  ·have:=l.size;have:=I.size;simp only[aK]at j;omega
end
section
variable {s:HL} {L:List Int}
def ki (s:HL) (L:List Int):List Int:=L.filterMap (ui s)
theorem A2 {i:Nat} (h:i<L.length):ki s (L.take (i+1))=ki s (L.take i)++(match ui s (L.getD i 0)with|some a=>[a]|none=>[]):=by
 unfold ki;rw[List.take_succ_eq_append_getElem h,List.filterMap_append];congr 1;simp only[List.filterMap_cons,List.filterMap_nil,List.getD_eq_getElem?_getD,List.getElem?_eq_getElem h,Option.getD_some];cases ui s L[i]<;>rfl
theorem qY (s:HL) (L:List Int):(ki s L).length≤L.length:=List.length_filterMap_le _ _
theorem JB {w:World} {b:Nat} {H:Addr} {P:Option Addr} {fl fp:List Nat} (h:RG w b H P L fl) (hl:L.length≤4000) (Q:HR w (some H) fp (some s)) (R:s.Inv):
  Cs Tryz.prog 24 [.pointer (some ⟨b,0,none⟩)] w fun v w'=>ae [] w w'∧ ∃r,Sl w' 1 v (ki s L).length (ints (ki s L)) r∧ ∀y,y∈r→w.heap.size≤y:=by
 refine en [] ?_;refine gO ?_;refine aH (BY h) ?_;obtain⟨v0,I,J,h3⟩:=id h;obtain⟨a0,c0,rfl⟩:=J.val;refine aQ I.cell ?_;refine az (3::5::6::7::16::17::18::19::20::21::22::23::24::25::26::27::28::29::30::31::32::33::34::35::[]) (fun g w'=> ∃(i:Nat) (r:List Nat),g 16=.int .i64 (i:Int)∧i≤L.length∧ae [] w w'∧Sl w' 1 (g 3) (ki s (L.take i)).length (ints (ki s (L.take i))) r∧ ∀y,y∈r→w.heap.size≤y) (fun g _=>bw L.length 16 g)
  ⟨0,[],by simp only[go_sem];rfl,by omega,ae.refl _ _,by simp only[go_sem];exact Sl.iW _,fun y t=>absurd t (by simp)⟩ fun g S T k=>?_
 obtain⟨i,r,d,U,j,m,o⟩:=T;by_cases V:i<L.length;rotate_left
 ·refine aZ d (aX (show¬(i:Int)<(L.length:Int) by omega)) ?_;rw[List.take_of_length_le (by omega)]at m;exact⟨j,r,m,o⟩
 obtain⟨W,_,X,Y,z,_,_⟩:=(J.ab j).pos (by omega);cases Y;have K:(0:Int)≤(i:Int)∧(i:Int)<(L.length:Int):=by omega
 have Z:S.cell? ⟨W,i,none⟩=some (.int .i64 (L.getD i 0)):=by rw[z.cell];exact aG X (by omega)
 have q:=A2 (s:=s) V;have C:=qY s (L.take i);rw[List.length_take]at C;have M:=au i (by omega);(repeat(first|with_reducible(first|refine nx ?_|refine bA rfl ?_)|simp only[go_sem,d,aU K.2,if_pos K,c9,Nat.mul_one,Z,(I.ab j).cell]));refine aw (Z7 (Q.ab j) R (L.getD i 0)) ?_;rintro _ w6 ⟨rfl,l⟩;unfold MR;cases N:ui s (L.getD i 0)with
 |none=>
  rw[N]at q;refine aZ d M ?_;refine k _ w6 ⟨i+1,r,?_,by omega,j.nil l,?_,o⟩ ?_
  ·simp only[go_sem]
  ·simp only[go_sem];rw[q,List.append_nil];exact m.ab l
  ·exact aJ d
 |some a=>
  rw[N]at q;refine aQ d ?_;rw[ag rfl rfl];refine gO ?_;refine eJ fun q6 w7 Z1 uw B u=>?_;refine gO ?_;refine eM ((m.ab l).ab u) (bn.at (us:=[.int .i64 a]) B rfl) (by simp[bh]) (by omega) (by omega) ?_;intro v8 O f8 D E F _;have z5:=j.size;have z6:=l.size;have z7:=u.size;have G:ae [] w O:=((j.nil l).nil u).trans F fun y t=>.inr (o y t);refine aZ d M ?_;refine k _ O ⟨i+1,f8,?_,by omega,G,?_,?_⟩ ?_
  ·simp only[go_sem]
  ·simp only[go_sem];rw[q,cH,ba];exact D
  ·intro y t;rcases E with e|e<;>rw[e]at t
   ·exact o y t
   ·simp only[aK]at t;omega
  ·exact aJ d
end
set_option maxRecDepth 8000
theorem mQ (T:List Int) (x:Int):(cS T).filter (fun q=>q.1 !=x)=cS (T.filter (·!=x)):=by
 unfold cS;rw[List.filter_map];rfl
theorem qi {T:List Int} {p:Int×Value} (h:p∈cS T):p.1∈T∧p=(p.1,.bool true):=by
 unfold cS at h;obtain⟨y,b,rfl⟩:=List.mem_map.1 h;exact⟨b,rfl⟩
theorem zs {w:World} {F l:Nat} {caps:Array Value} {p:Int→Bool} {K:List Int} (M:MB w l K) (N:okF Tryz.prog F=true)
  (W: ∀w' x,ae [l] w w'→x∈K→Cs Tryz.prog F ([.int .i64 x,.bool true]++caps.toList) w' fun v o=>v=.bool (p x)∧ae [] w' o):
  Cs Tryz.prog 262 [.map (some l),.func (.func F) #[] caps] w fun _ w'=>ae [l] w w'∧MB w' l (K.filter fun x=>!p x):=by
 have X:=cz.lt M;have O:=M.nodup;refine en [] ?_;refine gO ?_;refine Az Tryz.underlying130 M fun r w1 hr Y C P=>?_;refine gO ?_;refine az (4::5::8::9::10::11::12::13::14::15::16::17::18::[]) (fun _ w'=> ∃T:List Int,hH w' r l (cS (K.filter fun x=>decide (x∈T)||!p x)) (cS T)∧(∀x,x∈T→x∈K)∧ae [l] w w') (fun _ w'=>tL w' r l)
  ⟨K,?_,fun _ h=>h,P.of_nil⟩ fun g w2 Z b=>?_
 ·have:(K.filter fun x=>decide (x∈K)||!p x)=K:=List.filter_eq_self.2 fun x D=>by simp[D]
  rw[this];exact C
 obtain⟨T,t,u,E⟩:=Z;have G:=t.left;have EY:r≠l:=by omega
 refine gO ?_;refine Fz t (fun h0=>?_) (fun e L hp qt Q m H=>?_)
 ·have hT:T=[]:=by cases T with
   |nil=>rfl
   |cons a T=>cases h0
  subst hT;refine gO ?_;refine⟨E,?_⟩;have:=t.map;simp at this;exact this
 obtain⟨D,V⟩:=qi hp;obtain⟨x,v⟩:=e;simp only at D V;obtain rfl:v=.bool true:=(Prod.mk.inj V).2;rw[mQ]at m;have R:ae [l] w L:=E.trans Q fun y z=>by simp only[aK]at z;exact .inr (by omega)
 refine gO ?_;refine AA H ?_;refine gO ?_;have S:Cs Tryz.prog F ((#[]:Array Value).toList++[.int .i64 x,.bool true]++caps.toList) L fun v o=>v=.bool (p x)∧ae [] L o:=by
  have:=W L x R (u x D);simpa using this
 refine fI (cQ F #[] [.int .i64 x,.bool true] caps) N S ?_;rintro _ w4 ⟨rfl,B⟩;have d:=m.ab B;have I:(cS (T.filter (·!=x))).length<(cS T).length:=by
  rw[ec,ec];rcases Nat.lt_or_ge (T.filter (·!=x)).length T.length with h|h
  ·exact h
  ·have:=List.filter_eq_self.1 (List.Sublist.eq_of_length_le List.filter_sublist h) x D;simp at this
 cases J:p x with
 |false=>
  refine gO ?_;refine b _ w4 ⟨T.filter (·!=x),?_,fun y z=>u y (List.mem_filter.1 z).1,R.nil B⟩ ?_
  ·have:(K.filter fun y=>decide (y∈T.filter (·!=x))||!p y)=K.filter fun y=>decide (y∈T)||!p y:=by
    refine List.filter_congr fun y _=>?_;by_cases c:y=x
    ·subst c;simp[J]
    ·simp[c]
   rw[this];exact d
  ·rw[G,d.left];exact I
 |true=>
  refine gO ?_;refine QW Tryz.underlying130 Tryz.underlying3 (k:=x) d (fun q hq e=>?_) fun w5 qm j U=>?_
  ·have:=(qi hq).1;rw[e]at this;simp at this
  refine gO ?_;rw[Gd]at j;refine b _ w5 ⟨T.filter (·!=x),?_,fun y z=>u y (List.mem_filter.1 z).1,(R.nil B).trans U fun y z=>.inl z⟩ ?_
  ·have:(K.filter fun y=>decide (y∈T.filter (·!=x))||!p y)=(K.filter fun y=>decide (y∈T)||!p y).erase x:=by
    rw[List.Nodup.erase_eq_filter (List.Nodup.sublist List.filter_sublist O),List.filter_filter];refine List.filter_congr fun y _=>?_;by_cases c:y=x
    ·subst c;simp[J]
    ·simp[c]
   rw[this];exact j
  ·rw[G,j.left];exact I
end Go.Proofs.YthamnonkfepafaaGreat
