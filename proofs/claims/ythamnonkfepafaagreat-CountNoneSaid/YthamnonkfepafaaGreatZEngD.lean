import Derived.Test.YthamnonkfepafaaGreatZEngC
set_option linter.unusedSimpArgs false
set_option linter.unusedVariables false
namespace Go.Proofs.YthamnonkfepafaaGreat
def qx (c a b:Value):Option Value:=match c with|.bool t=>some (if t then a else b)|_=>none
def kr (v:Value):Option Value:=match v with|.pointer (some p)=>some (.pointer (some p))|.func (.func f) x y=>some (.func (.func f) x y)|.iface t v=>some (.iface t v)|_=>none
def jP (w:World) (v:Value):Option Value:=match v with|.pointer (some p)=>w.cell? p|_=>none
def pA (o:Option (List Value)):Option Value:=match o with|some xs=>some (.agg ⟨xs⟩)|none=>none
def eR (w:World) (n:Nat) (v:Value):Option Value:=match v with|.pointer (some p)=>pA (aI w p n)|_=>none
def Fk (off:Nat) (v:Value):Option Value:=match v with|.pointer (some p)=>some (.pointer (some (p.add off)))|_=>none
def Fm (off:Nat) (v:Value):Option Value:=match v with|.agg cs=>cs[off]? |_=>none
def Bh (off n:Nat) (v:Value):Option Value:=match v with|.agg cs=>some (.agg (cs.extract off (off+n)))|_=>none
def Fo (size:Nat) (s i:Value):Option Value:=match s,i with
 |.slice (some p) len _,.int _ j=>if 0≤j∧j<(len:Int)then some (.pointer (some (p.add (j.toNat*size))))else none
 |_,_=>none
def Fp (n size:Nat) (s i:Value):Option Value:=match s,i with
 |.pointer (some p),.int _ j=>if 0≤j∧j<(n:Int)then some (.pointer (some (p.add (j.toNat*size))))else none
 |_,_=>none
def ik (b:Int) (v:Value):Option Value:=if 0≤b then some v else none
def mz (b:Int) (v:Value):Option Value:=if b=0 then none else some v
def jf (d:BinOp) (k:IntKind) (a b:Int):Option Value:=match d with
 |.add=>some (.int k (k.wrap (a+b)))
 |.sub=>some (.int k (k.wrap (a-b)))
 |.mul=>some (.int k (k.wrap (a*b)))
 |.quo=>mz b (.int k (k.wrap (a.tdiv b)))
 |.rem=>mz b (.int k (a.tmod b))
 |.and=>some (.int k (dz .and k a b))
 |.or=>some (.int k (dz .or k a b))
 |.xor=>some (.int k (dz .xor k a b))
 |.andNot=>some (.int k (dz .andNot k a b))
 |.eql=>some (.bool (a==b))
 |.neq=>some (.bool (a !=b))
 |.lss=>some (.bool (decide (a<b)))
 |.leq=>some (.bool (decide (a≤b)))
 |.gtr=>some (.bool (decide (b<a)))
 |.geq=>some (.bool (decide (b≤a)))
 |_=>none
def cI (op:BinOp) (x y:Value):Option Value:=match op,x,y with
 |.shl,.int k a,.int _ b=>ik b (.int k (k.wrap (a*2^(min b.toNat k.bits))))
 |.shr,.int k a,.int _ b=>ik b (.int k (a.fdiv (2^(min b.toNat k.bits))))
 |op,.int k a,.int k' b=>if k=k' then jf op k a b else none
 |_,_,_=>none
def Fq (neg:Bool) (x y:Value):Option Value:=match x,y with|.bool a,.bool b=>some (.bool ((a==b) !=neg))|_,_=>none
def wQ (neg:Bool) (x y:Value):Option Value:=match x,y with
 |.pointer none,.pointer none=>some (.bool (!neg))
 |.pointer none,.pointer (some _)=>some (.bool neg)
 |.pointer (some _),.pointer none=>some (.bool neg)
 |.pointer (some a),.pointer (some b)=>if a.block=b.block then some (.bool ((a==b) !=neg))else none
 |_,_=>none
def wR (neg:Bool) (x y:Value):Option Value:=match x,y with
 |.slice none _ _,.slice b _ _=>some (.bool (b.isNone !=neg))
 |.slice (some _) _ _,.slice none _ _=>some (.bool neg)
 |_,_=>none
def Fs (x:Value):Option Value:=match x with|.bool b=>some (.bool !b)|_=>none
def tn (k:IntKind) (x:Value):Option Value:=match x with|.int _ n=>some (.int k (k.wrap n))|_=>none
def uq (x:Value) (i:Nat):Option Value:=match x with|.tuple vs=>vs[i]? |_=>none
def wS (x:Value):Option Value:=match x with|.slice _ n _=>some (.int .i64 n)|_=>none
def mB (mx:Bool) (x y:Value):Option Value:=match x,y with
 |.int k a,.int k' b=>if k=k' then some (.int k (match mx with|true=>max a b|false=>min a b))else none
 |_,_=>none
def il (m b:Nat) (v:Option Value):Option Nat:=match v with
 |none=>some b
 |some (.int _ j)=>if 0≤j∧j≤(m:Int)then some j.toNat else none
 |_=>none
def nI (size:Nat) (x:Value) (b d:Option Value):Option Value:=match x with
 |.slice a len cap=>match il cap len d with
  |some h=>match il h 0 b with
   |some l=>some (.slice (if cap=l then a else a.map (·.add (l*size))) (h-l) (cap-l))
   |none=>none
  |none=>none
 |_=>none
def Bi (size:Nat) (x b d mx:Value):Option Value:=match x,b,d,mx with
 |.slice a _ cap,.int _ i,.int _ j,.int _ k=>if 0≤i∧i≤j∧j≤k∧k≤(cap:Int)then some (.slice (if k.toNat=i.toNat then a else a.map (·.add (i.toNat*size))) (j.toNat-i.toNat) (k.toNat-i.toNat))else none
 |_,_,_,_=>none
def wB (neg:Bool) (o:Option Bool):Option Value:=match o with|some r=>some (.bool (r !=neg))|none=>none
def rV (neg:Bool) (n:Nat) (x y:Value):Option Value:=match x,y with
 |.agg xs,.agg ys=>if xs.size=n∧ys.size=n then wB neg (bS xs.toList ys.toList)else none
 |_,_=>none
def val (x:XB) (ρ:Env) (w:World):Option Value:=match x with
 |.mv x=>some (ev ρ x)
 |.pick c a b=>qx (ev ρ c) (ev ρ a) (ev ρ b)
 |.nilck x=>kr (ev ρ x)
 |.ld x=>jP w (ev ρ x)
 |.ldN n x=>eR w n (ev ρ x)
 |.fa off x=>Fk off (ev ρ x)
 |.fld off x=>Fm off (ev ρ x)
 |.fldN off n x=>Bh off n (ev ρ x)
 |.ia size x i=>Fo size (ev ρ x) (ev ρ i)
 |.iaA n size x i=>Fp n size (ev ρ x) (ev ρ i)
 |.bin l x y=>cI l (ev ρ x) (ev ρ y)
 |.eqB neg x y=>Fq neg (ev ρ x) (ev ρ y)
 |.eqP neg x y=>wQ neg (ev ρ x) (ev ρ y)
 |.eqS neg x y=>wR neg (ev ρ x) (ev ρ y)
 |.no x=>Fs (ev ρ x)
 |.conv k x=>tn k (ev ρ x)
 |.mkfn fn first caps=>some (.func fn (first.map (ev ρ)) (caps.map (ev ρ)))
 |.slc size x d j=>nI size (ev ρ x) (d.map (ev ρ)) (j.map (ev ρ))
 |.slc3 size x d j mx=>Bi size (ev ρ x) (ev ρ d) (ev ρ j) (ev ρ mx)
 |.ext x i=>uq (ev ρ x) i
 |.len x=>wS (ev ρ x)
 |.mnmx mx x y=>mB mx (ev ρ x) (ev ρ y)
 |.bld zero parts=>pA (cV zero (parts.map (tl ρ)))
 |.eqA neg n x y=>rV neg n (ev ρ x) (ev ρ y)
 |_=>none
theorem ur {x:XB} {ρ:Env} {w:World} {v:Value} (h:val x ρ w=some v):pv x ρ w (fun u=>u=v):=by
 cases x<;>simp only[val]at h<;>simp only[pv]
 case mv=>exact Option.some.inj h
 case pick=>unfold qx at h;unfold wE;split at h<;>simp_all
 case nilck x=>unfold kr at h;unfold pq;generalize ev ρ x=u at h⊢;split at h<;>cases h<;>rfl
 case ld=>unfold jP at h;unfold GA;split at h<;>simp_all
 case ldN=>
  unfold eR at h;unfold zF;split at h
  ·rename_i p e;simp only[e];unfold pA at h;split at h
   ·rename_i xs G;exact⟨xs,G,Option.some.inj h⟩
   ·cases h
  ·cases h
 case fa=>unfold Fk at h;unfold GB;split at h<;>simp_all
 case fld=>unfold Fm at h;unfold zG;split at h<;>simp_all
 case fldN=>unfold Bh at h;unfold th;split at h<;>simp_all
 case ia=>unfold Fo at h;unfold GC;split at h<;>simp_all
 case iaA=>unfold Fp at h;unfold zH;split at h<;>simp_all
 case bin N x y=>
  unfold cI at h;split at h
  ·rename_i k a _ b m o;rw[m,o];unfold ik at h;split at h
   ·rename_i t;exact⟨t,Option.some.inj h⟩
   ·cases h
  ·rename_i k a _ b m o;rw[m,o];unfold ik at h;split at h
   ·rename_i t;exact⟨t,Option.some.inj h⟩
   ·cases h
  ·rename_i H O P Q k a k' b R S m o;rw[m,o];split at h
   ·rename_i z;subst z;cases H<;>simp only[jf,mz]at h<;>first
     |(cases h;simp[wF];done)
     |(split at h<;>first|(cases h;done)|(rename_i t;cases h;simp[wF,t];done))
     |cases h
   ·cases h
  ·cases h
 case eqB=>unfold Fq at h;unfold zI;split at h<;>simp_all
 case eqP=>
  unfold wQ at h;unfold zJ;split at h
  ·simp_all
  ·simp_all
  ·simp_all
  ·rename_i a b m o;simp only[m,o];split at h
   ·rename_i I;exact⟨I,Option.some.inj h⟩
   ·cases h
  ·cases h
 case eqS=>unfold wR at h;unfold zK;split at h<;>simp_all
 case no=>unfold Fs at h;unfold GD;split at h<;>simp_all
 case conv=>unfold tn at h;unfold ti;split at h<;>simp_all
 case mkfn=>exact Option.some.inj h
 case slc3 size x C D mx=>
  unfold Bi at h;unfold tk;split at h
  ·rename_i a n cap _ i _ j _ k m o J K;simp only[m,o,J,K];split at h
   ·exact⟨i.toNat,j.toNat,k.toNat,by omega,by omega,by omega,by omega,by omega,by omega,Option.some.inj h⟩
   ·cases h
  ·cases h
 case slc size x C D=>
  unfold nI at h;unfold zN;split at h
  ·rename_i a len cap e;simp only[e];split at h
   ·rename_i E q;split at h
    ·rename_i l d;have B:l≤E:=by
      unfold il at d;split at d
      ·cases d;omega
      ·split at d
       ·cases d;omega
       ·cases d
      ·cases d
     refine⟨l,E,?_,?_,B,Option.some.inj h⟩
     ·unfold il at q;cases D with
      |none=>simp at q;exact q.symm
      |some v=>
       simp only[Option.map_some]at q⊢;generalize ev ρ v=u at q;cases u<;>simp only at q⊢ <;>try(cases q;done)
       split at q
       ·cases q;omega
       ·cases q
     ·unfold il at d;cases C with
      |none=>simp at d;exact d.symm
      |some v=>
       simp only[Option.map_some]at d⊢;generalize ev ρ v=u at d;cases u<;>simp only at d⊢ <;>try(cases d;done)
       split at d
       ·cases d;omega
       ·cases d
    ·cases h
   ·cases h
  ·cases h
 case ext=>unfold uq at h;unfold zL;split at h<;>simp_all
 case len=>unfold wS at h;unfold zM;split at h<;>simp_all
 case mnmx mx x y=>
  unfold mB at h;unfold tj;split at h
  ·rename_i k a k' b m o;simp only[m,o];split at h
   ·rename_i z;subst z;refine⟨rfl,?_⟩;cases mx<;>exact Option.some.inj h
   ·cases h
  ·cases h
 case bld zero parts=>
  unfold pA at h;split at h
  ·rename_i cs L;exact⟨cs,L,Option.some.inj h⟩
  ·cases h
 case eqA neg n x y=>
  unfold rV at h;split at h
  ·rename_i xs ys m o;split at h
   ·rename_i F;unfold wB at h;split at h
    ·rename_i r M;exact⟨xs.toList,ys.toList,r,m,o,by simpa using F.1,by simpa using F.2,M,Option.some.inj h⟩
    ·cases h
   ·cases h
  ·cases h
 all_goals cases h
theorem gq {P:Program} {d:Op} {x:XB} (h:wG P d=some x) {ρ:Env} {w:World} {v:Value} (l:x.ie =true) (m:val x ρ w=some v)
  (j:Option Nat) (ty:TypeId) (b:String) (k:Array Edge) (g:Option (Nat×Bool)):
  (execOp (ev ρ) ⟨j,d,ty,b,k,g⟩).run P w=.ok (.value v) w:=by
 obtain⟨u,o,rfl⟩:=wP h l (ur m) j ty b k g;exact o
end Go.Proofs.YthamnonkfepafaaGreat
