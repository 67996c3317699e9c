import Derived.Test.YthamnonkfepafaaGreatZEngC
set_option linter.unusedSimpArgs false
set_option linter.unusedVariables false
namespace Go.Proofs.YthamnonkfepafaaGreat
def xQ (c a b:Value):Option Value:=match c with|.bool t=>some (if t then a else b)|_=>none
def sO (v:Value):Option Value:=match v with|.pointer (some p)=>some (.pointer (some p))|.func (.func f) x y=>some (.func (.func f) x y)|.iface t v=>some (.iface t v)|_=>none
def qZ (w:World) (v:Value):Option Value:=match v with|.pointer (some p)=>w.cell? p|_=>none
def sQ (o:Option (List Value)):Option Value:=match o with|some xs=>some (.agg ⟨xs⟩)|none=>none
def fG (w:World) (n:Nat) (v:Value):Option Value:=match v with|.pointer (some p)=>sQ (aC w p n)|_=>none
def NY (off:Nat) (v:Value):Option Value:=match v with|.pointer (some p)=>some (.pointer (some (p.add off)))|_=>none
def NZ (off:Nat) (v:Value):Option Value:=match v with|.agg cs=>cs[off]? |_=>none
def Je (off n:Nat) (v:Value):Option Value:=match v with|.agg cs=>some (.agg (cs.extract off (off+n)))|_=>none
def N0 (size:Nat) (s i:Value):Option Value:=match s,i with
 |.slice (some p) len _,.int _ j=>if 0≤j∧j<(len:Int)then some (.pointer (some (p.add (j.toNat*size))))else none
 |_,_=>none
def DQ (n size:Nat) (s i:Value):Option Value:=match s,i with
 |.pointer (some p),.int _ j=>if 0≤j∧j<(n:Int)then some (.pointer (some (p.add (j.toNat*size))))else none
 |_,_=>none
def mc (b:Int) (v:Value):Option Value:=if 0≤b then some v else none
def ko (b:Int) (v:Value):Option Value:=if b=0 then none else some v
def nu (d:BinOp) (k:IntKind) (a b:Int):Option Value:=match d with
 |.add=>some (.int k (k.wrap (a+b)))
 |.sub=>some (.int k (k.wrap (a-b)))
 |.mul=>some (.int k (k.wrap (a*b)))
 |.quo=>ko b (.int k (k.wrap (a.tdiv b)))
 |.rem=>ko b (.int k (a.tmod b))
 |.and=>some (.int k (km .and k a b))
 |.or=>some (.int k (km .or k a b))
 |.xor=>some (.int k (km .xor k a b))
 |.andNot=>some (.int k (km .andNot k a b))
 |.eql=>some (.bool (a==b))
 |.neq=>some (.bool (a !=b))
 |.lss=>some (.bool (decide (a<b)))
 |.leq=>some (.bool (decide (a≤b)))
 |.gtr=>some (.bool (decide (b<a)))
 |.geq=>some (.bool (decide (b≤a)))
 |_=>none
def eW (op:BinOp) (x y:Value):Option Value:=match op,x,y with
 |.shl,.int k a,.int _ b=>mc b (.int k (k.wrap (a*2^(min b.toNat k.bits))))
 |.shr,.int k a,.int _ b=>mc b (.int k (a.fdiv (2^(min b.toNat k.bits))))
 |op,.int k a,.int k' b=>if k=k' then nu op k a b else none
 |_,_,_=>none
def G9 (neg:Bool) (x y:Value):Option Value:=match x,y with|.bool a,.bool b=>some (.bool ((a==b) !=neg))|_,_=>none
def DR (neg:Bool) (x y:Value):Option Value:=match x,y with
 |.pointer none,.pointer none=>some (.bool (!neg))
 |.pointer none,.pointer (some _)=>some (.bool neg)
 |.pointer (some _),.pointer none=>some (.bool neg)
 |.pointer (some a),.pointer (some b)=>if a.block=b.block then some (.bool ((a==b) !=neg))else none
 |_,_=>none
def DS (neg:Bool) (x y:Value):Option Value:=match x,y with
 |.slice none _ _,.slice b _ _=>some (.bool (b.isNone !=neg))
 |.slice (some _) _ _,.slice none _ _=>some (.bool neg)
 |_,_=>none
def N2 (x:Value):Option Value:=match x with|.bool b=>some (.bool !b)|_=>none
def xR (k:IntKind) (x:Value):Option Value:=match x with|.int _ n=>some (.int k (k.wrap n))|_=>none
def zR (x:Value) (i:Nat):Option Value:=match x with|.tuple vs=>vs[i]? |_=>none
def DT (x:Value):Option Value:=match x with|.slice _ n _=>some (.int .i64 n)|_=>none
def sR (mx:Bool) (x y:Value):Option Value:=match x,y with
 |.int k a,.int k' b=>if k=k' then some (.int k (match mx with|true=>max a b|false=>min a b))else none
 |_,_=>none
def gU (m b:Nat) (v:Option Value):Option Nat:=match v with
 |none=>some b
 |some (.int _ j)=>if 0≤j∧j≤(m:Int)then some j.toNat else none
 |_=>none
def iD (size:Nat) (x:Value) (b d:Option Value):Option Value:=match x with
 |.slice a len cap=>match gU cap len d with
  |some h=>match gU h 0 b with
   |some l=>some (.slice (if cap=l then a else a.map (·.add (l*size))) (h-l) (cap-l))
   |none=>none
  |none=>none
 |_=>none
def xS (size:Nat) (x b d mx:Value):Option Value:=match x,b,d,mx with
 |.slice a _ cap,.int _ i,.int _ j,.int _ k=>if 0≤i∧i≤j∧j≤k∧k≤(cap:Int)then some (.slice (if k.toNat=i.toNat then a else a.map (·.add (i.toNat*size))) (j.toNat-i.toNat) (k.toNat-i.toNat))else none
 |_,_,_,_=>none
def G' (neg:Bool) (o:Option Bool):Option Value:=match o with|some r=>some (.bool (r !=neg))|none=>none
def uk (neg:Bool) (n:Nat) (x y:Value):Option Value:=match x,y with
 |.agg xs,.agg ys=>if xs.size=n∧ys.size=n then G' neg (dx xs.toList ys.toList)else none
 |_,_=>none
def val (x:XB) (ρ:Env) (w:World):Option Value:=match x with
 |.mv x=>some (ev ρ x)
 |.pick c a b=>xQ (ev ρ c) (ev ρ a) (ev ρ b)
 |.nilck x=>sO (ev ρ x)
 |.ld x=>qZ w (ev ρ x)
 |.ldN n x=>fG w n (ev ρ x)
 |.fa off x=>NY off (ev ρ x)
 |.fld off x=>NZ off (ev ρ x)
 |.fldN off n x=>Je off n (ev ρ x)
 |.ia size x i=>N0 size (ev ρ x) (ev ρ i)
 |.iaA n size x i=>DQ n size (ev ρ x) (ev ρ i)
 |.bin l x y=>eW l (ev ρ x) (ev ρ y)
 |.eqB neg x y=>G9 neg (ev ρ x) (ev ρ y)
 |.eqP neg x y=>DR neg (ev ρ x) (ev ρ y)
 |.eqS neg x y=>DS neg (ev ρ x) (ev ρ y)
 |.no x=>N2 (ev ρ x)
 |.conv k x=>xR k (ev ρ x)
 |.mkfn fn first caps=>some (.func fn (first.map (ev ρ)) (caps.map (ev ρ)))
 |.slc size x d j=>iD size (ev ρ x) (d.map (ev ρ)) (j.map (ev ρ))
 |.slc3 size x d j mx=>xS size (ev ρ x) (ev ρ d) (ev ρ j) (ev ρ mx)
 |.ext x i=>zR (ev ρ x) i
 |.len x=>DT (ev ρ x)
 |.mnmx mx x y=>sR mx (ev ρ x) (ev ρ y)
 |.bld zero parts=>sQ (dQ zero (parts.map (Bf ρ)))
 |.eqA neg n x y=>uk neg n (ev ρ x) (ev ρ y)
 |_=>none
theorem Cg {x:XB} {ρ:Env} {w:World} {v:Value} (h:val x ρ w=some v):pv x ρ w (fun u=>u=v):=by
 cases x<;>simp only[val]at h<;>simp only[pv]
 case mv=>exact Option.some.inj h
 case pick=>unfold xQ at h;unfold DE;split at h<;>simp_all
 case nilck x=>unfold sO at h;unfold vW;generalize ev ρ x=u at h⊢;split at h<;>cases h<;>rfl
 case ld=>unfold qZ at h;unfold Sx;split at h<;>simp_all
 case ldN=>
  unfold fG at h;unfold GZ;split at h
  ·rename_i p e;simp only[e];unfold sQ at h;split at h
   ·rename_i xs G;exact⟨xs,G,Option.some.inj h⟩
   ·cases h
  ·cases h
 case fa=>unfold NY at h;unfold Sy;split at h<;>simp_all
 case fld=>unfold NZ at h;unfold G0;split at h<;>simp_all
 case fldN=>unfold Je at h;unfold Bb;split at h<;>simp_all
 case ia=>unfold N0 at h;unfold SA;split at h<;>simp_all
 case iaA=>unfold DQ at h;unfold G1;split at h<;>simp_all
 case bin N x y=>
  unfold eW at h;split at h
  ·rename_i k a _ b m o;rw[m,o];unfold mc at h;split at h
   ·rename_i t;exact⟨t,Option.some.inj h⟩
   ·cases h
  ·rename_i k a _ b m o;rw[m,o];unfold mc at h;split at h
   ·rename_i t;exact⟨t,Option.some.inj h⟩
   ·cases h
  ·rename_i H O P Q k a k' b R S m o;rw[m,o];split at h
   ·rename_i z;subst z;cases H<;>simp only[nu,ko]at h<;>first
     |(cases h;simp[DF];done)
     |(split at h<;>first|(cases h;done)|(rename_i t;cases h;simp[DF,t];done))
     |cases h
   ·cases h
  ·cases h
 case eqB=>unfold G9 at h;unfold G2;split at h<;>simp_all
 case eqP=>
  unfold DR at h;unfold G3;split at h
  ·simp_all
  ·simp_all
  ·simp_all
  ·rename_i a b m o;simp only[m,o];split at h
   ·rename_i I;exact⟨I,Option.some.inj h⟩
   ·cases h
  ·cases h
 case eqS=>unfold DS at h;unfold G4;split at h<;>simp_all
 case no=>unfold N2 at h;unfold SD;split at h<;>simp_all
 case conv=>unfold xR at h;unfold Bc;split at h<;>simp_all
 case mkfn=>exact Option.some.inj h
 case slc3 size x C D mx=>
  unfold xS at h;unfold Be;split at h
  ·rename_i a n cap _ i _ j _ k m o J K;simp only[m,o,J,K];split at h
   ·exact⟨i.toNat,j.toNat,k.toNat,by omega,by omega,by omega,by omega,by omega,by omega,Option.some.inj h⟩
   ·cases h
  ·cases h
 case slc size x C D=>
  unfold iD at h;unfold G7;split at h
  ·rename_i a len cap e;simp only[e];split at h
   ·rename_i E q;split at h
    ·rename_i l d;have B:l≤E:=by
      unfold gU at d;split at d
      ·cases d;omega
      ·split at d
       ·cases d;omega
       ·cases d
      ·cases d
     refine⟨l,E,?_,?_,B,Option.some.inj h⟩
     ·unfold gU at q;cases D with
      |none=>simp at q;exact q.symm
      |some v=>
       simp only[Option.map_some]at q⊢;generalize ev ρ v=u at q;cases u<;>simp only at q⊢ <;>try(cases q;done)
       split at q
       ·cases q;omega
       ·cases q
     ·unfold gU at d;cases C with
      |none=>simp at d;exact d.symm
      |some v=>
       simp only[Option.map_some]at d⊢;generalize ev ρ v=u at d;cases u<;>simp only at d⊢ <;>try(cases d;done)
       split at d
       ·cases d;omega
       ·cases d
    ·cases h
   ·cases h
  ·cases h
 case ext=>unfold zR at h;unfold G5;split at h<;>simp_all
 case len=>unfold DT at h;unfold G6;split at h<;>simp_all
 case mnmx mx x y=>
  unfold sR at h;unfold Bd;split at h
  ·rename_i k a k' b m o;simp only[m,o];split at h
   ·rename_i z;subst z;refine⟨rfl,?_⟩;cases mx<;>exact Option.some.inj h
   ·cases h
  ·cases h
 case bld zero parts=>
  unfold sQ at h;split at h
  ·rename_i cs L;exact⟨cs,L,Option.some.inj h⟩
  ·cases h
 case eqA neg n x y=>
  unfold uk at h;split at h
  ·rename_i xs ys m o;split at h
   ·rename_i F;unfold G' at h;split at h
    ·rename_i r M;exact⟨xs.toList,ys.toList,r,m,o,by simpa using F.1,by simpa using F.2,M,Option.some.inj h⟩
    ·cases h
   ·cases h
  ·cases h
 all_goals cases h
theorem kH {P:Program} {d:Op} {x:XB} (h:DG P d=some x) {ρ:Env} {w:World} {v:Value} (l:x.lK =true) (m:val x ρ w=some v)
  (j:Option Nat) (ty:TypeId) (b:String) (k:Array Edge) (g:Option (Nat×Bool)):
  (execOp (ev ρ) ⟨j,d,ty,b,k,g⟩).run P w=.ok (.value v) w:=by
 obtain⟨u,o,rfl⟩:=DP h l (Cg m) j ty b k g;exact o
end Go.Proofs.YthamnonkfepafaaGreat
