import Derived.OrdersHeld
import Derived.Laws.Sem
import Derived.Laws.World
import Derived.KernelRfl
set_option linter.unusedSimpArgs false
set_option linter.unusedVariables false
namespace Go.Proofs.YthamnonkfepafaaGreat
abbrev Env:=Nat→Value
def put (ρ:Env) (d:Nat) (v:Value):Env:=fun t=>if t=d then v else ρ t
theorem pj (ρ:Env) (d:Nat) (v:Value) (t:Nat):put ρ d v t=if t=d then v else ρ t:=Eq.trans rfl rfl
def ev (ρ:Env):Operand→Value
 |.tmp t=>ρ t
 |.const v=>v
 |.global g=>.pointer (some ⟨g,0,none⟩)
 |.func f=>.func (.func f) #[] #[]
theorem pk (ρ:Env) (t:Nat):ev ρ (.tmp t)=ρ t:=Eq.trans rfl rfl
theorem wD (ρ:Env) (v:Value):ev ρ (.const v)=v:=Eq.trans rfl rfl
theorem tf (ρ:Env) (f:Nat):ev ρ (.func f)=.func (.func f) #[] #[]:=Eq.trans rfl rfl
structure je (n:Nat) (ds:List Deferred) (ρ:Env) (a:Act):Prop where
 defers:a.defers=ds
 size:a.tmps.size=n
 get: ∀t,a.tmps.getD t undef=ρ t
theorem je.eval {n:Nat} {ds:List Deferred} {ρ:Env} {a:Act} (h:je n ds ρ a) (x:Operand):a.eval x=ev ρ x:=by
 cases x with
 |tmp t=>exact h.get t
 |const v=>rfl
 |global g=>rfl
 |func f=>rfl
theorem je.mr {n:Nat} {ds:List Deferred} {ρ:Env} {a:Act} (h:je n ds ρ a):a.eval=ev ρ:=funext h.eval
theorem je.put {n:Nat} {ds:List Deferred} {ρ:Env} {a:Act} (h:je n ds ρ a) {d:Nat} (j:d<n) (v:Value):je n ds (put ρ d v) (a.put (some d) v):=by
 refine⟨h.defers,by simp[Act.put,h.size],fun t=>?_⟩;have k:=h.get t;simp only[Act.put,pj];by_cases b:t=d
 ·subst b;have:t<a.tmps.size:=by rw[h.size];exact j
  simp[this]
 ·rw[if_neg b,←k];simp[Array.getElem?_setIfInBounds_ne (Ne.symm b)]
inductive XB where
 |mv (x:Operand)
 |pick (c a b:Operand)
 |nilck (x:Operand)
 |ld (x:Operand)
 |ldN (n:Nat) (x:Operand)
 |fa (off:Nat) (x:Operand)
 |fld (off:Nat) (x:Operand)
 |fldN (off n:Nat) (x:Operand)
 |ia (size:Nat) (x i:Operand)
 |iaA (n size:Nat) (x i:Operand)
 |bin (op:BinOp) (x y:Operand)
 |eqB (neg:Bool) (x y:Operand)
 |eqP (neg:Bool) (x y:Operand)
 |eqS (neg:Bool) (x y:Operand)
 |no (x:Operand)
 |conv (k:IntKind) (x:Operand)
 |mkfn (fn:Fn) (first caps:Array Operand)
 |slc (size:Nat) (x:Operand) (lo hi:Option Operand)
 |slc3 (size:Nat) (x lo hi mx:Operand)
 |ext (x:Operand) (i:Nat)
 |len (x:Operand)
 |mnmx (mx:Bool) (x y:Operand)
 |box (t:TypeId) (x:Operand)
 |alc (t:TypeId) (zero:List Value)
 |st (a v:Operand)
 |stN (n:Nat) (a v:Operand)
 |call (f:Nat) (args:List Operand)
 |bld (zero:List Value) (parts:List (Nat×Nat×Operand))
 |eqA (neg:Bool) (n:Nat) (x y:Operand)
 |bsl (elem len:Nat) (zeros:List Value) (parts:List (Nat×Nat×Operand))
 |mks (elem bytes:Nat) (zero:List Value) (l c:Operand)
 |app (elem bytes:Nat) (zero:List Value) (s x:Operand)
 |callv (f:Operand) (args:List Operand)
 |act (op:Op)
 |raw
 deriving Inhabited
def XB.ie :XB→Bool
 |.mv _|.pick _ _ _|.nilck _|.ld _|.ldN _ _|.fa _ _|.fld _ _|.fldN _ _ _|.ia _ _ _|.iaA _ _ _ _|.bin _ _ _|.eqB _ _ _|.eqP _ _ _|.eqS _ _ _
 |.no _|.conv _ _|.mkfn _ _ _|.slc _ _ _ _|.slc3 _ _ _ _ _|.ext _ _|.len _|.mnmx _ _ _|.bld _ _|.eqA _ _ _ _=>true
 |_=>false
def XB.reads:XB→Bool
 |.ld _|.ldN _ _|.raw=>true
 |_=>false
section
variable (w:World) (K:Value→Prop)
def wE (c a b:Value):Prop:=match c with|.bool t=>K (if t then a else b)|_=>False
def pq (v:Value):Prop:=match v with|.pointer (some p)=>K (.pointer (some p))|.func (.func f) x y=>K (.func (.func f) x y)|.iface t v=>K (.iface t v)|_=>False
def GA (v:Value):Prop:=match v with|.pointer (some p)=> ∃x,w.cell? p=some x∧K x|_=>False
def aI (w:World) (p:Addr) (n:Nat):Option (List Value):=(List.range n).mapM fun i=>w.cell? (p.add i)
def zF (n:Nat) (v:Value):Prop:=match v with|.pointer (some p)=> ∃xs,aI w p n=some xs∧K (.agg ⟨xs⟩)|_=>False
def GB (off:Nat) (v:Value):Prop:=match v with|.pointer (some p)=>K (.pointer (some (p.add off)))|_=>False
def zG (off:Nat) (v:Value):Prop:=match v with|.agg cs=> ∃x,cs[off]? =some x∧K x|_=>False
def th (off n:Nat) (v:Value):Prop:=match v with|.agg cs=>K (.agg (cs.extract off (off+n)))|_=>False
def GC (size:Nat) (s i:Value):Prop:=match s,i with
 |.slice (some p) len _,.int _ j=>(0≤j∧j<(len:Int))∧K (.pointer (some (p.add (j.toNat*size))))
 |_,_=>False
def zH (n size:Nat) (s i:Value):Prop:=match s,i with
 |.pointer (some p),.int _ j=>(0≤j∧j<(n:Int))∧K (.pointer (some (p.add (j.toNat*size))))
 |_,_=>False
def dz (d:BinOp) (k:IntKind) (x y:Int):Int:=
 let a:=BitVec.ofInt k.bits x
 let b:=BitVec.ofInt k.bits y
 k.wrap (match d with|.and=>(a&&& b).toNat|.or=>(a|||b).toNat|.xor=>(a^^^b).toNat|_=>(a&&& ~~~b).toNat:Nat)
def wF (d:BinOp) (x y:Value):Prop:=match d,x,y with
 |.shl,.int k a,.int _ b=>0≤b∧K (.int k (k.wrap (a*2^(min b.toNat k.bits))))
 |.shr,.int k a,.int _ b=>0≤b∧K (.int k (a.fdiv (2^(min b.toNat k.bits))))
 |.add,.int k a,.int k' b=>k=k'∧K (.int k (k.wrap (a+b)))
 |.sub,.int k a,.int k' b=>k=k'∧K (.int k (k.wrap (a-b)))
 |.mul,.int k a,.int k' b=>k=k'∧K (.int k (k.wrap (a*b)))
 |.quo,.int k a,.int k' b=>k=k'∧b≠0∧K (.int k (k.wrap (a.tdiv b)))
 |.rem,.int k a,.int k' b=>k=k'∧b≠0∧K (.int k (a.tmod b))
 |.and,.int k a,.int k' b=>k=k'∧K (.int k (dz .and k a b))
 |.or,.int k a,.int k' b=>k=k'∧K (.int k (dz .or k a b))
 |.xor,.int k a,.int k' b=>k=k'∧K (.int k (dz .xor k a b))
 |.andNot,.int k a,.int k' b=>k=k'∧K (.int k (dz .andNot k a b))
 |.eql,.int k a,.int k' b=>k=k'∧K (.bool (a==b))
 |.neq,.int k a,.int k' b=>k=k'∧K (.bool (a !=b))
 |.lss,.int k a,.int k' b=>k=k'∧K (.bool (a<b))
 |.leq,.int k a,.int k' b=>k=k'∧K (.bool (a≤b))
 |.gtr,.int k a,.int k' b=>k=k'∧K (.bool (a>b))
 |.geq,.int k a,.int k' b=>k=k'∧K (.bool (a≥b))
 |_,_,_=>False
def zI (neg:Bool) (x y:Value):Prop:=match x,y with|.bool a,.bool b=>K (.bool ((a==b) !=neg))|_,_=>False
def zJ (neg:Bool) (x y:Value):Prop:=match x,y with
 |.pointer none,.pointer none=>K (.bool (true !=neg))
 |.pointer none,.pointer (some _)=>K (.bool (false !=neg))
 |.pointer (some _),.pointer none=>K (.bool (false !=neg))
 |.pointer (some a),.pointer (some b)=>a.block=b.block∧K (.bool ((a==b) !=neg))
 |_,_=>False
def zK (neg:Bool) (x y:Value):Prop:=match x,y with
 |.slice none _ _,.slice b _ _=>K (.bool (b.isNone !=neg))
 |.slice (some _) _ _,.slice none _ _=>K (.bool (false !=neg))
 |_,_=>False
def GD (x:Value):Prop:=match x with|.bool b=>K (.bool !b)|_=>False
def ti (k:IntKind) (x:Value):Prop:=match x with|.int _ n=>K (.int k (k.wrap n))|_=>False
def zL (x:Value) (i:Nat):Prop:=match x with|.tuple vs=> ∃v,vs[i]? =some v∧K v|_=>False
def zM (x:Value):Prop:=match x with|.slice _ n _=>K (.int .i64 n)|_=>False
def tj (mx:Bool) (x y:Value):Prop:=match x,y with
 |.int k a,.int k' b=>k=k'∧K (.int k (if mx then max a b else min a b))
 |_,_=>False
def zN (size:Nat) (x:Value) (b d:Option Value):Prop:=match x with
 |.slice a len cap=>
  ∃l h:Nat,(match d with|none=>h=len|some (.int _ j)=>j=(h:Int)∧h≤cap|_=>False)∧
   (match b with|none=>l=0|some (.int _ j)=>j=(l:Int)∧l≤h|_=>False)∧l≤h∧
   K (.slice (if cap=l then a else a.map (·.add (l*size))) (h-l) (cap-l))
 |_=>False
def tk (size:Nat) (x b d mx:Value):Prop:=match x,b,d,mx with
 |.slice a _ cap,.int _ i,.int _ j,.int _ k=> ∃l h m:Nat,i=l∧j=h∧k=m∧l≤h∧h≤m∧m≤cap∧K (.slice (if m=l then a else a.map (·.add (l*size))) (h-l) (m-l))
 |_,_,_,_=>False
end
def fS:List Value→Nat→List Value→List Value
 |cs,_,[]=>cs
 |cs,off,c::r=>fS (cs.set off c) (off+1) r
def cV:List Value→List (Nat×Nat×Value)→Option (List Value)
 |cs,[]=>some cs
 |cs,(off,size,v)::rest=>if v.cells.size=size∧off+size≤cs.length then cV (fS cs off v.cells.toList) rest else none
def tl (ρ:Env) (p:Nat×Nat×Operand):Nat×Nat×Value:=(p.1,p.2.1,ev ρ p.2.2)
def bS:List Value→List Value→Option Bool
 | [],[]=>some true
 |.int k a::xs,.int k' b::ys=>if k=k' then(if a==b then bS xs ys else some false)else none
 |_,_=>none
def pv (x:XB) (ρ:Env) (w:World) (K:Value→Prop):Prop:=match x with
 |.mv x=>K (ev ρ x)
 |.pick c a b=>wE K (ev ρ c) (ev ρ a) (ev ρ b)
 |.nilck x=>pq K (ev ρ x)
 |.ld x=>GA w K (ev ρ x)
 |.ldN n x=>zF w K n (ev ρ x)
 |.fa off x=>GB K off (ev ρ x)
 |.fld off x=>zG K off (ev ρ x)
 |.fldN off n x=>th K off n (ev ρ x)
 |.ia size x i=>GC K size (ev ρ x) (ev ρ i)
 |.iaA n size x i=>zH K n size (ev ρ x) (ev ρ i)
 |.bin l x y=>wF K l (ev ρ x) (ev ρ y)
 |.eqB neg x y=>zI K neg (ev ρ x) (ev ρ y)
 |.eqP neg x y=>zJ K neg (ev ρ x) (ev ρ y)
 |.eqS neg x y=>zK K neg (ev ρ x) (ev ρ y)
 |.no x=>GD K (ev ρ x)
 |.conv k x=>ti K k (ev ρ x)
 |.mkfn fn first caps=>K (.func fn (first.map (ev ρ)) (caps.map (ev ρ)))
 |.slc size x d j=>zN K size (ev ρ x) (d.map (ev ρ)) (j.map (ev ρ))
 |.slc3 size x d j mx=>tk K size (ev ρ x) (ev ρ d) (ev ρ j) (ev ρ mx)
 |.ext x i=>zL K (ev ρ x) i
 |.len x=>zM K (ev ρ x)
 |.mnmx mx x y=>tj K mx (ev ρ x) (ev ρ y)
 |.bld zero parts=> ∃cs,cV zero (parts.map (tl ρ))=some cs∧K (.agg ⟨cs⟩)
 |.eqA neg n x y=> ∃xs ys r,ev ρ x=.agg ⟨xs⟩∧ev ρ y=.agg ⟨ys⟩∧xs.length=n∧ys.length=n∧bS xs ys=some r∧K (.bool (r !=neg))
 |_=>False
def eN (P:Program):List Field→Nat→Bool
 | [],_=>true
 |f::b,i=>f.name != "_" &&f.offset==i&&(match P.underlying f.type with|some (.int _)=>true|_=>false)&&eN P b (i+1)
def Ci (P:Program) (neg:Bool) (t:TypeId) (x y:Operand):Option XB:=
 match P.underlying t with
 |some (.int _)=>some (.bin (if neg then .neq else .eql) x y)
 |some .bool=>some (.eqB neg x y)
 |some (.pointer e)=>match P.info? e with|some i=>if i.size≠0 then some (.eqP neg x y)else none|none=>none
 |some (.slice _)=>some (.eqS neg x y)
 |some (.struct b)=>if eN P b.toList 0&&!P.stoodInHeld t&&!P.eqGuardType P.depth t then some (.eqA neg b.size x y)else none
 |_=>none
def okF (P:Program) (f:Nat):Bool:=match P.funcs[f]? with|some fn=>!(fn.name== "runtime.NumGoroutine")&&!fn.body.isNone|none=>false
def placesOf (P:Program) (b:List Field):Option (List (Nat×Nat)):=b.mapM fun f=>(P.info? f.type).map fun i=>(f.offset,i.size)
def partsOf (pl:List (Nat×Nat)) (parts:List (Nat×Operand)):Option (List (Nat×Nat×Operand)):=parts.mapM fun p=>(pl[p.1]?).map fun q=>(q.1,q.2,p.2)
def ly (P:Program) (t:TypeId) (parts:List (Nat×Operand)):Option XB:=
 match P.info? t,P.underlying t with
 |some i,some (.struct b)=>match i.zero,placesOf P b.toList with
  |some z,some pl=>(partsOf pl parts).map fun d=>.bld z.cells.toList d
  |_,_=>none
 |some i,some (.array _ e)=>match i.zero,P.info? e with
  |some z,some j=>some (.bld z.cells.toList (parts.map fun p=>(p.1*j.size,j.size,p.2)))
  |_,_=>none
 |_,_=>none
def eP (zero:List Value) (n:Nat):List Value:=(List.range (n*zero.length)).map fun i=>zero.getD (i%zero.length) undef
def ig (P:Program) (t:TypeId):Option (TypeId×Nat×List Value):=
 match P.underlying t with
 |some (.slice e)=>match P.info? e with
  |some i=>match i.zero with
   |some z=>if z.cells.size=i.size∧0<i.size then some (e,i.bytes,z.cells.toList)else none
   |none=>none
  |none=>none
 |_=>none
def dZ (P:Program) (t:TypeId) (len:Nat) (parts:List (Nat×Operand)):Option XB:=
 match ig P t with
 |some (e,_,z)=>if len*z.length≤2^24 then some (.bsl e len (eP z len) (parts.map fun p=>(p.1*z.length,z.length,p.2)))else none
 |none=>none
def pr (P:Program) (t:TypeId) (x:Operand):Option XB:=
 match P.underlying t with
 |some d=>match d with
  |.struct _|.array _ _=>(P.info? t).map fun i=>.ldN i.size x
  |_=>some (.ld x)
 |none=>none
def lz (P:Program) (t:TypeId) (a v:Operand):Option XB:=
 match P.underlying t,P.info? t with
 |some d,some i=>match d with
  |.struct _|.array _ _=>some (.stN i.size a v)
  |_=>if i.size=1 then some (.st a v)else none
 |_,_=>none
def lA (P:Program) (s:TypeId) (f:Nat):Option Field:=
 match P.underlying s with
 |some (.struct b)=>b[f]?
 |_=>none
def fD (P:Program) (s:TypeId) (x:Operand) (f:Nat):Option XB:=
 match lA P s f with
 |some fl=>match P.info? fl.type with
  |some i=>if i.size=0 then none else some (.fa fl.offset x)
  |none=>none
 |none=>none
def lB (P:Program) (s:TypeId) (x:Operand) (f:Nat):Option XB:=
 match lA P s f with
 |some fl=>match P.underlying fl.type with
  |some d=>match d with
   |.struct _|.array _ _=>(P.info? fl.type).map fun i=>.fldN fl.offset i.size x
   |_=>some (.fld fl.offset x)
  |none=>none
 |none=>none
def eu (P:Program) (t:TypeId):Option TypeInfo:=
 match P.underlying t with
 |some (.slice e)=>P.info? e
 |_=>none
def pt (P:Program) (t:TypeId) (x:Operand) (b d mx:Option Operand):Option XB:=match b,d,mx with
 |b,d,none=>(eu P t).map fun j=>.slc j.size x b d
 |some b,some d,some mx=>(eu P t).map fun j=>.slc3 j.size x b d mx
 |_,_,_=>none
def lC (P:Program) (t:TypeId) (x i:Operand):Option XB:=
 match eu P t with
 |some j=>some (.ia j.size x i)
 |none=>match P.underlying t with
  |some (.array n e)=>(P.info? e).map fun j=>.iaA n j.size x i
  |_=>none
def tm (P:Program) (op:BinOp) (t:TypeId) (x y:Operand):Option XB:=
 match op with
 |.eql=>Ci P false t x y
 |.neq=>Ci P true t x y
 |op=>some (.bin op x y)
def iS (P:Program) (b:Builtin) (args:List Operand) (d:List TypeId):Option XB:=
 match b,args,d with
 |.len,[x],[t]=>(eu P t).map fun _=>.len x
 |.max,[x,y],_=>some (.mnmx true x y)
 |.min,[x,y],_=>some (.mnmx false x y)
 |.append,[s,x],[t,u]=>if t=u then(ig P t).map fun e=>.app e.1 e.2.1 e.2.2 s x else none
 |_,_,_=>none
def pw (P:Program) (c:Call):Option XB:=
 match c.callee with
 |.builtin b=>iS P b c.args.toList c.argTypes.toList
 |.value (.func f)=>if okF P f then some (.call f c.args.toList)else none
 |.value (.tmp t)=>some (.callv (.tmp t) c.args.toList)
 |_=>none
def zO (b:UnOp) (x:Operand):Option XB:=
 match b with
 |.not=>some (.no x)
 |_=>none
def px (P:Program) (b d:TypeId) (x:Operand):Option XB:=
 match P.underlying b,P.underlying d with
 |some _,some (.int k)=>some (.conv k x)
 |_,_=>none
def qq (P:Program):Op→Option XB
 |.move x=>some (.mv x)
 |.assign x=>some (.mv x)
 |.pick c a b=>some (.pick c a b)
 |.nilCheck x=>some (.nilck x)
 |.load t x=>pr P t x
 |.store t a v=>lz P t a v
 |.fieldAddr s x f=>fD P s x f
 |.field s x f=>lB P s x f
 |.indexAddr t x i=>lC P t x i
 |.binOp d t x y _=>tm P d t x y
 |.unOp d _ x=>zO d x
 |.convert j k x=>px P j k x
 |.makeFunc fn first caps=>some (.mkfn fn first caps)
 |.slice t x m o mx=>pt P t x m o mx
 |.extract x i=>some (.ext x i)
 |.box t x=>some (.box t x)
 |.alloc t=>match P.info? t with|some i=>i.zero.map fun z=>.alc t z.cells.toList|none=>none
 |.call c=>pw P c
 |.build t parts=>ly P t parts.toList
 |.buildSlice t len parts=>dZ P t len parts.toList
 |.makeSlice t l c=>(ig P t).map fun e=>.mks e.1 e.2.1 e.2.2 l c
 |_=>none
def Bg:Op→Bool
 |.makeMap _ _|.mapUpdate _ _ _ _|.insert _ _ _ _|.lookup _ _ _ _|.range _ _|.next _ _|.entry _|.mapEntry _ _ _|.entryStore _ _ _ _=>true
 |.unOp _ _ _=>true
 |.makeInterface _ _=>true
 |.call c=>match c.callee with
  |.builtin b=>match b with
   |.delete|.clear|.copy|.len=>true
   |_=>false
  |_=>false
 |_=>false
def wG (P:Program) (b:Op):Option XB:=match qq P b with
 |some x=>some x
 |none=>if Bg b then some (.act b)else none
theorem jM {P:Program} {b:Op} {x:XB} (h:wG P b=some x):qq P b=some x∨(x=.act b∧Bg b=true):=by
 unfold wG at h;split at h
 ·rename_i y d;cases h;exact .inl d
 ·split at h
  ·rename_i j;cases h;exact .inr ⟨rfl,j⟩
  ·cases h
end Go.Proofs.YthamnonkfepafaaGreat
