/- The engine: symbolic execution. -/
import Derived.Test.YteiildhelefodaaGreatZEngC
set_option linter.unusedSimpArgs false
set_option linter.unusedVariables false
namespace Go.Proofs.YteiildhelefodaaGreat
def pickO (c a b:Value):Option Value:=match c with|.bool t=>some (if t then a else b)|_=>none
def nilckO (v:Value):Option Value:=match v with|.pointer (some p)=>some (.pointer (some p))|.func (.func f) x y=>some (.func (.func f) x y)|_=>none
def cellO (w:World) (v:Value):Option Value:=match v with|.pointer (some p)=>w.cell? p|_=>none
def aggO (o:Option (List Value)):Option Value:=match o with|some xs=>some (.agg ⟨xs⟩)|none=>none
def cellsO (w:World) (n:Nat) (v:Value):Option Value:=match v with|.pointer (some p)=>aggO (cellsAt w p n)|_=>none
def faO (off:Nat) (v:Value):Option Value:=match v with|.pointer (some p)=>some (.pointer (some (p.add off)))|_=>none
def fldO (off:Nat) (v:Value):Option Value:=match v with|.agg cs=>cs[off]? |_=>none
def fldNO (off n:Nat) (v:Value):Option Value:=match v with|.agg cs=>some (.agg (cs.extract off (off+n)))|_=>none
def iaO (size:Nat) (s i:Value):Option Value:=match s,i with
 |.slice (some p) len _,.int _ j=>if 0≤j∧j<(len:Int)then some (.pointer (some (p.add (j.toNat*size))))else none
 |_,_=>none
def iaAO (n size:Nat) (s i:Value):Option Value:=match s,i with
 |.pointer (some p),.int _ j=>if 0≤j∧j<(n:Int)then some (.pointer (some (p.add (j.toNat*size))))else none
 |_,_=>none
def shiftO (b:Int) (v:Value):Option Value:=if 0≤b then some v else none
def divO (b:Int) (v:Value):Option Value:=if b=0 then none else some v
def binI (op:BinOp) (k:IntKind) (a b:Int):Option Value:=match op with
 |.add=>some (.int k (k.wrap (a+b)))
 |.sub=>some (.int k (k.wrap (a-b)))
 |.mul=>some (.int k (k.wrap (a*b)))
 |.quo=>divO b (.int k (k.wrap (a.tdiv b)))
 |.rem=>divO b (.int k (a.tmod b))
 |.and=>some (.int k (bitI .and k a b))
 |.or=>some (.int k (bitI .or k a b))
 |.xor=>some (.int k (bitI .xor k a b))
 |.andNot=>some (.int k (bitI .andNot k a b))
 |.eql=>some (.bool (a==b))
 |.neq=>some (.bool (a !=b))
 |.lss=>some (.bool (decide (a<b)))
 |.leq=>some (.bool (decide (a≤b)))
 |.gtr=>some (.bool (decide (b<a)))
 |.geq=>some (.bool (decide (b≤a)))
 |_=>none
def binO (op:BinOp) (x y:Value):Option Value:=match op,x,y with
 |.shl,.int k a,.int _ b=>shiftO b (.int k (k.wrap (a*2^(min b.toNat k.bits))))
 |.shr,.int k a,.int _ b=>shiftO b (.int k (a.fdiv (2^(min b.toNat k.bits))))
 |op,.int k a,.int k' b=>if k=k' then binI op k a b else none
 |_,_,_=>none
def eqBO (neg:Bool) (x y:Value):Option Value:=match x,y with|.bool a,.bool b=>some (.bool ((a==b) !=neg))|_,_=>none
def eqPO (neg:Bool) (x y:Value):Option Value:=match x,y with
 |.pointer none,.pointer none=>some (.bool (!neg))
 |.pointer none,.pointer (some _)=>some (.bool neg)
 |.pointer (some _),.pointer none=>some (.bool neg)
 |.pointer (some a),.pointer (some b)=>if a.block=b.block then some (.bool ((a==b) !=neg))else none
 |_,_=>none
def eqSO (neg:Bool) (x y:Value):Option Value:=match x,y with
 |.slice none _ _,.slice b _ _=>some (.bool (b.isNone !=neg))
 |.slice (some _) _ _,.slice none _ _=>some (.bool neg)
 |_,_=>none
def noO (x:Value):Option Value:=match x with|.bool b=>some (.bool !b)|_=>none
def convO (k:IntKind) (x:Value):Option Value:=match x with|.int _ n=>some (.int k (k.wrap n))|_=>none
def extO (x:Value) (i:Nat):Option Value:=match x with|.tuple vs=>vs[i]? |_=>none
def lenO (x:Value):Option Value:=match x with|.slice _ n _=>some (.int .i64 n)|_=>none
def mnmxO (mx:Bool) (x y:Value):Option Value:=match x,y with
 |.int k a,.int k' b=>if k=k' then some (.int k (match mx with|true=>max a b|false=>min a b))else none
 |_,_=>none
def boundO (m dflt:Nat) (v:Option Value):Option Nat:=match v with
 |none=>some dflt
 |some (.int _ j)=>if 0≤j∧j≤(m:Int)then some j.toNat else none
 |_=>none
def slcO (size:Nat) (x:Value) (lo hi:Option Value):Option Value:=match x with
 |.slice a len cap=>match boundO cap len hi with
  |some h=>match boundO h 0 lo with
   |some l=>some (.slice (if cap=l then a else a.map (·.add (l*size))) (h-l) (cap-l))
   |none=>none
  |none=>none
 |_=>none
def slc3O (size:Nat) (x lo hi mx:Value):Option Value:=match x,lo,hi,mx with
 |.slice a _ cap,.int _ i,.int _ j,.int _ k=>if 0≤i∧i≤j∧j≤k∧k≤(cap:Int)then some (.slice (if k.toNat=i.toNat then a else a.map (·.add (i.toNat*size))) (j.toNat-i.toNat) (k.toNat-i.toNat))else none
 |_,_,_,_=>none
def notO (neg:Bool) (o:Option Bool):Option Value:=match o with|some r=>some (.bool (r !=neg))|none=>none
def eqAO (neg:Bool) (n:Nat) (x y:Value):Option Value:=match x,y with
 |.agg xs,.agg ys=>if xs.size=n∧ys.size=n then notO neg (eqCells xs.toList ys.toList)else none
 |_,_=>none
def val (x:XB) (ρ:Env) (w:World):Option Value:=match x with
 |.mv x=>some (ev ρ x)
 |.pick c a b=>pickO (ev ρ c) (ev ρ a) (ev ρ b)
 |.nilck x=>nilckO (ev ρ x)
 |.ld x=>cellO w (ev ρ x)
 |.ldN n x=>cellsO w n (ev ρ x)
 |.fa off x=>faO off (ev ρ x)
 |.fld off x=>fldO off (ev ρ x)
 |.fldN off n x=>fldNO off n (ev ρ x)
 |.ia size x i=>iaO size (ev ρ x) (ev ρ i)
 |.iaA n size x i=>iaAO n size (ev ρ x) (ev ρ i)
 |.bin op x y=>binO op (ev ρ x) (ev ρ y)
 |.eqB neg x y=>eqBO neg (ev ρ x) (ev ρ y)
 |.eqP neg x y=>eqPO neg (ev ρ x) (ev ρ y)
 |.eqS neg x y=>eqSO neg (ev ρ x) (ev ρ y)
 |.no x=>noO (ev ρ x)
 |.conv k x=>convO k (ev ρ x)
 |.mkfn fn first caps=>some (.func fn (first.map (ev ρ)) (caps.map (ev ρ)))
 |.slc size x lo hi=>slcO size (ev ρ x) (lo.map (ev ρ)) (hi.map (ev ρ))
 |.slc3 size x lo hi mx=>slc3O size (ev ρ x) (ev ρ lo) (ev ρ hi) (ev ρ mx)
 |.ext x i=>extO (ev ρ x) i
 |.len x=>lenO (ev ρ x)
 |.mnmx mx x y=>mnmxO mx (ev ρ x) (ev ρ y)
 |.bld zero parts=>aggO (fillL zero (parts.map (evP ρ)))
 |.eqA neg n x y=>eqAO neg n (ev ρ x) (ev ρ y)
 |_=>none
theorem pv_of_val {x:XB} {ρ:Env} {w:World} {v:Value} (h:val x ρ w=some v):pv x ρ w (fun u=>u=v):=by
 cases x<;>simp only[val]at h<;>simp only[pv]
 case mv=>exact Option.some.inj h
 case pick=>unfold pickO at h;unfold pickV;split at h<;>simp_all
 case nilck x=>unfold nilckO at h;unfold nilckV;generalize ev ρ x=u at h⊢;split at h<;>cases h<;>rfl
 case ld=>unfold cellO at h;unfold ldV;split at h<;>simp_all
 case ldN=>
  unfold cellsO at h;unfold ldNV
  split at h
  ·rename_i p e
   simp only[e]
   unfold aggO at h
   split at h
   ·rename_i xs hx;exact⟨xs,hx,Option.some.inj h⟩
   ·cases h
  ·cases h
 case fa=>unfold faO at h;unfold faV;split at h<;>simp_all
 case fld=>unfold fldO at h;unfold fldV;split at h<;>simp_all
 case fldN=>unfold fldNO at h;unfold fldNV;split at h<;>simp_all
 case ia=>unfold iaO at h;unfold iaV;split at h<;>simp_all
 case iaA=>unfold iaAO at h;unfold iaAV;split at h<;>simp_all
 case bin op x y=>
  unfold binO at h
  split at h
  ·rename_i k a _ b e1 e2;rw[e1,e2];unfold shiftO at h;split at h
   ·rename_i h0;exact⟨h0,Option.some.inj h⟩
   ·cases h
  ·rename_i k a _ b e1 e2;rw[e1,e2];unfold shiftO at h;split at h
   ·rename_i h0;exact⟨h0,Option.some.inj h⟩
   ·cases h
  ·rename_i o1 o2 u1 u2 k a k' b h1 h2 e1 e2
   rw[e1,e2]
   split at h
   ·rename_i hk;subst hk
    cases o1<;>simp only[binI,divO]at h<;>first
     |(cases h;simp[binV];done)
     |(split at h<;>first|(cases h;done)|(rename_i h0;cases h;simp[binV,h0];done))
     |cases h
   ·cases h
  ·cases h
 case eqB=>unfold eqBO at h;unfold eqBV;split at h<;>simp_all
 case eqP=>
  unfold eqPO at h;unfold eqPV
  split at h
  ·simp_all
  ·simp_all
  ·simp_all
  ·rename_i a b e1 e2;simp only[e1,e2];split at h
   ·rename_i hb;exact⟨hb,Option.some.inj h⟩
   ·cases h
  ·cases h
 case eqS=>unfold eqSO at h;unfold eqSV;split at h<;>simp_all
 case no=>unfold noO at h;unfold noV;split at h<;>simp_all
 case conv=>unfold convO at h;unfold convV;split at h<;>simp_all
 case mkfn=>exact Option.some.inj h
 case slc3 size x lo hi mx=>
  unfold slc3O at h;unfold slc3V
  split at h
  ·rename_i a n cap _ i _ j _ k e1 e2 e3 e4
   simp only[e1,e2,e3,e4]
   split at h
   ·exact⟨i.toNat,j.toNat,k.toNat,by omega,by omega,by omega,by omega,by omega,by omega,Option.some.inj h⟩
   ·cases h
  ·cases h
 case slc size x lo hi=>
  unfold slcO at h;unfold slcV
  split at h
  ·rename_i a len cap e
   simp only[e]
   split at h
   ·rename_i hh eh
    split at h
    ·rename_i l el
     have hlh:l≤hh:=by
      unfold boundO at el;split at el
      ·cases el;omega
      ·split at el
       ·cases el;omega
       ·cases el
      ·cases el
     refine⟨l,hh,?_,?_,hlh,Option.some.inj h⟩
     ·unfold boundO at eh
      cases hi with
      |none=>simp at eh;exact eh.symm
      |some v=>
       simp only[Option.map_some]at eh⊢
       generalize ev ρ v=u at eh
       cases u<;>simp only at eh⊢ <;>try(cases eh;done)
       split at eh
       ·cases eh;omega
       ·cases eh
     ·unfold boundO at el
      cases lo with
      |none=>simp at el;exact el.symm
      |some v=>
       simp only[Option.map_some]at el⊢
       generalize ev ρ v=u at el
       cases u<;>simp only at el⊢ <;>try(cases el;done)
       split at el
       ·cases el;omega
       ·cases el
    ·cases h
   ·cases h
  ·cases h
 case ext=>unfold extO at h;unfold extV;split at h<;>simp_all
 case len=>unfold lenO at h;unfold lenV;split at h<;>simp_all
 case mnmx mx x y=>
  unfold mnmxO at h;unfold mnmxV
  split at h
  ·rename_i k a k' b e1 e2;simp only[e1,e2];split at h
   ·rename_i hk;subst hk;refine⟨rfl,?_⟩;cases mx<;>exact Option.some.inj h
   ·cases h
  ·cases h
 case bld zero parts=>
  unfold aggO at h
  split at h
  ·rename_i cs hc;exact⟨cs,hc,Option.some.inj h⟩
  ·cases h
 case eqA neg n x y=>
  unfold eqAO at h
  split at h
  ·rename_i xs ys e1 e2
   split at h
   ·rename_i hs
    unfold notO at h
    split at h
    ·rename_i r hr
     exact⟨xs.toList,ys.toList,r,e1,e2,by simpa using hs.1,by simpa using hs.2,hr,Option.some.inj h⟩
    ·cases h
   ·cases h
  ·cases h
 all_goals cases h
theorem val_sound {P:Program} {op:Op} {x:XB} (h:trB P op=some x) {ρ:Env} {w:World} {v:Value} (hp:x.pure? =true) (hv:val x ρ w=some v)
  (dd:Option Nat) (ty:TypeId) (pos:String) (af:Array Edge) (g:Option (Nat×Bool)):
  (execOp (ev ρ) ⟨dd,op,ty,pos,af,g⟩).run P w=.ok (.value v) w:=by
 obtain⟨u,hu,rfl⟩:=pv_sound h hp (pv_of_val hv) dd ty pos af g
 exact hu
end Go.Proofs.YteiildhelefodaaGreat
