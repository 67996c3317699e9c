/- The engine: symbolic execution. -/
import Derived.OrdersHeld
import Derived.Laws.Sem
import Derived.Laws.World
import Derived.KernelRfl
set_option linter.unusedSimpArgs false
set_option linter.unusedVariables false
namespace Go.Proofs.YteiildhelefodaaGreat
abbrev Env:=Nat→Value
def put (ρ:Env) (d:Nat) (v:Value):Env:=fun t=>if t=d then v else ρ t
theorem put_at (ρ:Env) (d:Nat) (v:Value) (t:Nat):put ρ d v t=if t=d then v else ρ t:=Eq.trans rfl rfl
def ev (ρ:Env):Operand→Value
 |.tmp t=>ρ t
 |.const v=>v
 |.global g=>.pointer (some ⟨g,0,none⟩)
 |.func f=>.func (.func f) #[] #[]
theorem ev_tmp (ρ:Env) (t:Nat):ev ρ (.tmp t)=ρ t:=Eq.trans rfl rfl
theorem ev_const (ρ:Env) (v:Value):ev ρ (.const v)=v:=Eq.trans rfl rfl
theorem ev_func (ρ:Env) (f:Nat):ev ρ (.func f)=.func (.func f) #[] #[]:=Eq.trans rfl rfl
structure Sim (n:Nat) (ds:List Deferred) (ρ:Env) (a:Act):Prop where
 defers:a.defers=ds
 size:a.tmps.size=n
 get: ∀t,a.tmps.getD t undef=ρ t
theorem Sim.eval {n:Nat} {ds:List Deferred} {ρ:Env} {a:Act} (h:Sim n ds ρ a) (x:Operand):a.eval x=ev ρ x:=by
 cases x with
 |tmp t=>exact h.get t
 |const v=>rfl
 |global g=>rfl
 |func f=>rfl
theorem Sim.evalFn {n:Nat} {ds:List Deferred} {ρ:Env} {a:Act} (h:Sim n ds ρ a):a.eval=ev ρ:=funext h.eval
theorem Sim.put {n:Nat} {ds:List Deferred} {ρ:Env} {a:Act} (h:Sim n ds ρ a) {d:Nat} (hd:d<n) (v:Value):Sim n ds (put ρ d v) (a.put (some d) v):=by
 refine⟨h.defers,by simp[Act.put,h.size],fun t=>?_⟩
 have hg:=h.get t
 simp only[Act.put,put_at]
 by_cases ht:t=d
 ·subst ht
  have:t<a.tmps.size:=by rw[h.size];exact hd
  simp[this]
 ·rw[if_neg ht,←hg]
  simp[Array.getElem?_setIfInBounds_ne (Ne.symm ht)]
inductive XB where
 |mv (x:Operand)
 |pick (c a b:Operand)
 |nilck (x:Operand)
 |ld (x:Operand)
 |ldN (n:Nat) (x:Operand)
 |fa (off:Nat) (x:Operand)
 |fld (off:Nat) (x:Operand)
 |fldN (off n:Nat) (x:Operand)
 |ia (size:Nat) (x i:Operand)
 |iaA (n size:Nat) (x i:Operand)
 |bin (op:BinOp) (x y:Operand)
 |eqB (neg:Bool) (x y:Operand)
 |eqP (neg:Bool) (x y:Operand)
 |eqS (neg:Bool) (x y:Operand)
 |no (x:Operand)
 |conv (k:IntKind) (x:Operand)
 |mkfn (fn:Fn) (first caps:Array Operand)
 |slc (size:Nat) (x:Operand) (lo hi:Option Operand)
 |slc3 (size:Nat) (x lo hi mx:Operand)
 |ext (x:Operand) (i:Nat)
 |len (x:Operand)
 |mnmx (mx:Bool) (x y:Operand)
 |box (t:TypeId) (x:Operand)
 |alc (t:TypeId) (zero:List Value)
 |st (a v:Operand)
 |stN (n:Nat) (a v:Operand)
 |call (f:Nat) (args:List Operand)
 |bld (zero:List Value) (parts:List (Nat×Nat×Operand))
 |eqA (neg:Bool) (n:Nat) (x y:Operand)
 |bsl (elem len:Nat) (zeros:List Value) (parts:List (Nat×Nat×Operand))
 |mks (elem bytes:Nat) (zero:List Value) (l c:Operand)
 |app (elem bytes:Nat) (zero:List Value) (s x:Operand)
 |callv (f:Operand) (args:List Operand)
 |act (op:Op)
 |raw
 deriving Inhabited
def XB.pure? :XB→Bool
 |.mv _|.pick _ _ _|.nilck _|.ld _|.ldN _ _|.fa _ _|.fld _ _|.fldN _ _ _|.ia _ _ _|.iaA _ _ _ _|.bin _ _ _|.eqB _ _ _|.eqP _ _ _|.eqS _ _ _
 |.no _|.conv _ _|.mkfn _ _ _|.slc _ _ _ _|.slc3 _ _ _ _ _|.ext _ _|.len _|.mnmx _ _ _|.bld _ _|.eqA _ _ _ _=>true
 |_=>false
def XB.reads:XB→Bool
 |.ld _|.ldN _ _|.raw=>true
 |_=>false
section
variable (w:World) (K:Value→Prop)
def pickV (c a b:Value):Prop:=match c with|.bool t=>K (if t then a else b)|_=>False
def nilckV (v:Value):Prop:=match v with|.pointer (some p)=>K (.pointer (some p))|.func (.func f) x y=>K (.func (.func f) x y)|_=>False
def ldV (v:Value):Prop:=match v with|.pointer (some p)=> ∃x,w.cell? p=some x∧K x|_=>False
def cellsAt (w:World) (p:Addr) (n:Nat):Option (List Value):=(List.range n).mapM fun i=>w.cell? (p.add i)
def ldNV (n:Nat) (v:Value):Prop:=match v with|.pointer (some p)=> ∃xs,cellsAt w p n=some xs∧K (.agg ⟨xs⟩)|_=>False
def faV (off:Nat) (v:Value):Prop:=match v with|.pointer (some p)=>K (.pointer (some (p.add off)))|_=>False
def fldV (off:Nat) (v:Value):Prop:=match v with|.agg cs=> ∃x,cs[off]? =some x∧K x|_=>False
def fldNV (off n:Nat) (v:Value):Prop:=match v with|.agg cs=>K (.agg (cs.extract off (off+n)))|_=>False
def iaV (size:Nat) (s i:Value):Prop:=match s,i with
 |.slice (some p) len _,.int _ j=>(0≤j∧j<(len:Int))∧K (.pointer (some (p.add (j.toNat*size))))
 |_,_=>False
def iaAV (n size:Nat) (s i:Value):Prop:=match s,i with
 |.pointer (some p),.int _ j=>(0≤j∧j<(n:Int))∧K (.pointer (some (p.add (j.toNat*size))))
 |_,_=>False
def bitI (op:BinOp) (k:IntKind) (x y:Int):Int:=
 let a:=BitVec.ofInt k.bits x
 let b:=BitVec.ofInt k.bits y
 k.wrap (match op with|.and=>(a&&& b).toNat|.or=>(a|||b).toNat|.xor=>(a^^^b).toNat|_=>(a&&& ~~~b).toNat:Nat)
def binV (op:BinOp) (x y:Value):Prop:=match op,x,y with
 |.shl,.int k a,.int _ b=>0≤b∧K (.int k (k.wrap (a*2^(min b.toNat k.bits))))
 |.shr,.int k a,.int _ b=>0≤b∧K (.int k (a.fdiv (2^(min b.toNat k.bits))))
 |.add,.int k a,.int k' b=>k=k'∧K (.int k (k.wrap (a+b)))
 |.sub,.int k a,.int k' b=>k=k'∧K (.int k (k.wrap (a-b)))
 |.mul,.int k a,.int k' b=>k=k'∧K (.int k (k.wrap (a*b)))
 |.quo,.int k a,.int k' b=>k=k'∧b≠0∧K (.int k (k.wrap (a.tdiv b)))
 |.rem,.int k a,.int k' b=>k=k'∧b≠0∧K (.int k (a.tmod b))
 |.and,.int k a,.int k' b=>k=k'∧K (.int k (bitI .and k a b))
 |.or,.int k a,.int k' b=>k=k'∧K (.int k (bitI .or k a b))
 |.xor,.int k a,.int k' b=>k=k'∧K (.int k (bitI .xor k a b))
 |.andNot,.int k a,.int k' b=>k=k'∧K (.int k (bitI .andNot k a b))
 |.eql,.int k a,.int k' b=>k=k'∧K (.bool (a==b))
 |.neq,.int k a,.int k' b=>k=k'∧K (.bool (a !=b))
 |.lss,.int k a,.int k' b=>k=k'∧K (.bool (a<b))
 |.leq,.int k a,.int k' b=>k=k'∧K (.bool (a≤b))
 |.gtr,.int k a,.int k' b=>k=k'∧K (.bool (a>b))
 |.geq,.int k a,.int k' b=>k=k'∧K (.bool (a≥b))
 |_,_,_=>False
section
variable (k k':IntKind) (a b:Int)
end
def eqBV (neg:Bool) (x y:Value):Prop:=match x,y with|.bool a,.bool b=>K (.bool ((a==b) !=neg))|_,_=>False
def eqPV (neg:Bool) (x y:Value):Prop:=match x,y with
 |.pointer none,.pointer none=>K (.bool (true !=neg))
 |.pointer none,.pointer (some _)=>K (.bool (false !=neg))
 |.pointer (some _),.pointer none=>K (.bool (false !=neg))
 |.pointer (some a),.pointer (some b)=>a.block=b.block∧K (.bool ((a==b) !=neg))
 |_,_=>False
def eqSV (neg:Bool) (x y:Value):Prop:=match x,y with
 |.slice none _ _,.slice b _ _=>K (.bool (b.isNone !=neg))
 |.slice (some _) _ _,.slice none _ _=>K (.bool (false !=neg))
 |_,_=>False
def noV (x:Value):Prop:=match x with|.bool b=>K (.bool !b)|_=>False
def convV (k:IntKind) (x:Value):Prop:=match x with|.int _ n=>K (.int k (k.wrap n))|_=>False
def extV (x:Value) (i:Nat):Prop:=match x with|.tuple vs=> ∃v,vs[i]? =some v∧K v|_=>False
def lenV (x:Value):Prop:=match x with|.slice _ n _=>K (.int .i64 n)|_=>False
def mnmxV (mx:Bool) (x y:Value):Prop:=match x,y with
 |.int k a,.int k' b=>k=k'∧K (.int k (if mx then max a b else min a b))
 |_,_=>False
def slcV (size:Nat) (x:Value) (lo hi:Option Value):Prop:=match x with
 |.slice a len cap=>
  ∃l h:Nat,(match hi with|none=>h=len|some (.int _ j)=>j=(h:Int)∧h≤cap|_=>False)∧
   (match lo with|none=>l=0|some (.int _ j)=>j=(l:Int)∧l≤h|_=>False)∧l≤h∧
   K (.slice (if cap=l then a else a.map (·.add (l*size))) (h-l) (cap-l))
 |_=>False
def slc3V (size:Nat) (x lo hi mx:Value):Prop:=match x,lo,hi,mx with
 |.slice a _ cap,.int _ i,.int _ j,.int _ k=> ∃l h m:Nat,i=l∧j=h∧k=m∧l≤h∧h≤m∧m≤cap∧K (.slice (if m=l then a else a.map (·.add (l*size))) (h-l) (m-l))
 |_,_,_,_=>False
end
def setL:List Value→Nat→List Value→List Value
 |cs,_,[]=>cs
 |cs,off,c::r=>setL (cs.set off c) (off+1) r
def fillL:List Value→List (Nat×Nat×Value)→Option (List Value)
 |cs,[]=>some cs
 |cs,(off,size,v)::rest=>if v.cells.size=size∧off+size≤cs.length then fillL (setL cs off v.cells.toList) rest else none
def evP (ρ:Env) (p:Nat×Nat×Operand):Nat×Nat×Value:=(p.1,p.2.1,ev ρ p.2.2)
def eqCells:List Value→List Value→Option Bool
 | [],[]=>some true
 |.int k a::xs,.int k' b::ys=>if k=k' then(if a==b then eqCells xs ys else some false)else none
 |_,_=>none
def pv (x:XB) (ρ:Env) (w:World) (K:Value→Prop):Prop:=match x with
 |.mv x=>K (ev ρ x)
 |.pick c a b=>pickV K (ev ρ c) (ev ρ a) (ev ρ b)
 |.nilck x=>nilckV K (ev ρ x)
 |.ld x=>ldV w K (ev ρ x)
 |.ldN n x=>ldNV w K n (ev ρ x)
 |.fa off x=>faV K off (ev ρ x)
 |.fld off x=>fldV K off (ev ρ x)
 |.fldN off n x=>fldNV K off n (ev ρ x)
 |.ia size x i=>iaV K size (ev ρ x) (ev ρ i)
 |.iaA n size x i=>iaAV K n size (ev ρ x) (ev ρ i)
 |.bin op x y=>binV K op (ev ρ x) (ev ρ y)
 |.eqB neg x y=>eqBV K neg (ev ρ x) (ev ρ y)
 |.eqP neg x y=>eqPV K neg (ev ρ x) (ev ρ y)
 |.eqS neg x y=>eqSV K neg (ev ρ x) (ev ρ y)
 |.no x=>noV K (ev ρ x)
 |.conv k x=>convV K k (ev ρ x)
 |.mkfn fn first caps=>K (.func fn (first.map (ev ρ)) (caps.map (ev ρ)))
 |.slc size x lo hi=>slcV K size (ev ρ x) (lo.map (ev ρ)) (hi.map (ev ρ))
 |.slc3 size x lo hi mx=>slc3V K size (ev ρ x) (ev ρ lo) (ev ρ hi) (ev ρ mx)
 |.ext x i=>extV K (ev ρ x) i
 |.len x=>lenV K (ev ρ x)
 |.mnmx mx x y=>mnmxV K mx (ev ρ x) (ev ρ y)
 |.bld zero parts=> ∃cs,fillL zero (parts.map (evP ρ))=some cs∧K (.agg ⟨cs⟩)
 |.eqA neg n x y=> ∃xs ys r,ev ρ x=.agg ⟨xs⟩∧ev ρ y=.agg ⟨ys⟩∧xs.length=n∧ys.length=n∧eqCells xs ys=some r∧K (.bool (r !=neg))
 |_=>False
def flatFields (P:Program):List Field→Nat→Bool
 | [],_=>true
 |f::fs,i=>f.name != "_" &&f.offset==i&&(match P.underlying f.type with|some (.int _)=>true|_=>false)&&flatFields P fs (i+1)
def eqX (P:Program) (neg:Bool) (t:TypeId) (x y:Operand):Option XB:=
 match P.underlying t with
 |some (.int _)=>some (.bin (if neg then .neq else .eql) x y)
 |some .bool=>some (.eqB neg x y)
 |some (.pointer e)=>match P.info? e with|some i=>if i.size≠0 then some (.eqP neg x y)else none|none=>none
 |some (.slice _)=>some (.eqS neg x y)
 |some (.struct fs)=>if flatFields P fs.toList 0&&!P.stoodInHeld t&&!P.eqGuardType P.depth t then some (.eqA neg fs.size x y)else none
 |_=>none
def okF (P:Program) (f:Nat):Bool:=match P.funcs[f]? with|some fn=>!(fn.name== "runtime.NumGoroutine")&&!fn.body.isNone|none=>false
def placesOf (P:Program) (fs:List Field):Option (List (Nat×Nat)):=fs.mapM fun f=>(P.info? f.type).map fun i=>(f.offset,i.size)
def partsOf (pl:List (Nat×Nat)) (parts:List (Nat×Operand)):Option (List (Nat×Nat×Operand)):=parts.mapM fun p=>(pl[p.1]?).map fun q=>(q.1,q.2,p.2)
def trBuild (P:Program) (t:TypeId) (parts:List (Nat×Operand)):Option XB:=
 match P.info? t,P.underlying t with
 |some i,some (.struct fs)=>match i.zero,placesOf P fs.toList with
  |some z,some pl=>(partsOf pl parts).map fun ps=>.bld z.cells.toList ps
  |_,_=>none
 |some i,some (.array _ e)=>match i.zero,P.info? e with
  |some z,some j=>some (.bld z.cells.toList (parts.map fun p=>(p.1*j.size,j.size,p.2)))
  |_,_=>none
 |_,_=>none
def rowZ (zero:List Value) (n:Nat):List Value:=(List.range (n*zero.length)).map fun i=>zero.getD (i%zero.length) undef
def elemInfo (P:Program) (t:TypeId):Option (TypeId×Nat×List Value):=
 match P.underlying t with
 |some (.slice e)=>match P.info? e with
  |some i=>match i.zero with
   |some z=>if z.cells.size=i.size∧0<i.size then some (e,i.bytes,z.cells.toList)else none
   |none=>none
  |none=>none
 |_=>none
def trBuildSlice (P:Program) (t:TypeId) (len:Nat) (parts:List (Nat×Operand)):Option XB:=
 match elemInfo P t with
 |some (e,_,z)=>if len*z.length≤2^24 then some (.bsl e len (rowZ z len) (parts.map fun p=>(p.1*z.length,z.length,p.2)))else none
 |none=>none
def trLoad (P:Program) (t:TypeId) (x:Operand):Option XB:=
 match P.underlying t with
 |some d=>match d with
  |.struct _|.array _ _=>(P.info? t).map fun i=>.ldN i.size x
  |_=>some (.ld x)
 |none=>none
def trStore (P:Program) (t:TypeId) (a v:Operand):Option XB:=
 match P.underlying t,P.info? t with
 |some d,some i=>match d with
  |.struct _|.array _ _=>some (.stN i.size a v)
  |_=>if i.size=1 then some (.st a v)else none
 |_,_=>none
def fieldIn (P:Program) (s:TypeId) (f:Nat):Option Field:=
 match P.underlying s with
 |some (.struct fs)=>fs[f]?
 |_=>none
def trFieldAddr (P:Program) (s:TypeId) (x:Operand) (f:Nat):Option XB:=
 match fieldIn P s f with
 |some fl=>match P.info? fl.type with
  |some i=>if i.size=0 then none else some (.fa fl.offset x)
  |none=>none
 |none=>none
def trField (P:Program) (s:TypeId) (x:Operand) (f:Nat):Option XB:=
 match fieldIn P s f with
 |some fl=>match P.underlying fl.type with
  |some d=>match d with
   |.struct _|.array _ _=>(P.info? fl.type).map fun i=>.fldN fl.offset i.size x
   |_=>some (.fld fl.offset x)
  |none=>none
 |none=>none
def sliceElem (P:Program) (t:TypeId):Option TypeInfo:=
 match P.underlying t with
 |some (.slice e)=>P.info? e
 |_=>none
def trSlice (P:Program) (t:TypeId) (x:Operand) (lo hi mx:Option Operand):Option XB:=match lo,hi,mx with
 |lo,hi,none=>(sliceElem P t).map fun j=>.slc j.size x lo hi
 |some lo,some hi,some mx=>(sliceElem P t).map fun j=>.slc3 j.size x lo hi mx
 |_,_,_=>none
def trIndex (P:Program) (t:TypeId) (x i:Operand):Option XB:=
 match sliceElem P t with
 |some j=>some (.ia j.size x i)
 |none=>match P.underlying t with
  |some (.array n e)=>(P.info? e).map fun j=>.iaA n j.size x i
  |_=>none
def trBin (P:Program) (op:BinOp) (t:TypeId) (x y:Operand):Option XB:=
 match op with
 |.eql=>eqX P false t x y
 |.neq=>eqX P true t x y
 |op=>some (.bin op x y)
def trBuiltin (P:Program) (b:Builtin) (args:List Operand) (ts:List TypeId):Option XB:=
 match b,args,ts with
 |.len,[x],[t]=>(sliceElem P t).map fun _=>.len x
 |.max,[x,y],_=>some (.mnmx true x y)
 |.min,[x,y],_=>some (.mnmx false x y)
 |.append,[s,x],[t,u]=>if t=u then(elemInfo P t).map fun e=>.app e.1 e.2.1 e.2.2 s x else none
 |_,_,_=>none
def trCall (P:Program) (c:Call):Option XB:=
 match c.callee with
 |.builtin b=>trBuiltin P b c.args.toList c.argTypes.toList
 |.value (.func f)=>if okF P f then some (.call f c.args.toList)else none
 |.value (.tmp t)=>some (.callv (.tmp t) c.args.toList)
 |_=>none
def trUn (op:UnOp) (x:Operand):Option XB:=
 match op with
 |.not=>some (.no x)
 |_=>none
def trConv (P:Program) (src dst:TypeId) (x:Operand):Option XB:=
 match P.underlying src,P.underlying dst with
 |some _,some (.int k)=>some (.conv k x)
 |_,_=>none
def trB0 (P:Program):Op→Option XB
 |.move x=>some (.mv x)
 |.assign x=>some (.mv x)
 |.pick c a b=>some (.pick c a b)
 |.nilCheck x=>some (.nilck x)
 |.load t x=>trLoad P t x
 |.store t a v=>trStore P t a v
 |.fieldAddr s x f=>trFieldAddr P s x f
 |.field s x f=>trField P s x f
 |.indexAddr t x i=>trIndex P t x i
 |.binOp op t x y _=>trBin P op t x y
 |.unOp op _ x=>trUn op x
 |.convert src dst x=>trConv P src dst x
 |.makeFunc fn first caps=>some (.mkfn fn first caps)
 |.slice t x lo hi mx=>trSlice P t x lo hi mx
 |.extract x i=>some (.ext x i)
 |.box t x=>some (.box t x)
 |.alloc t=>match P.info? t with|some i=>i.zero.map fun z=>.alc t z.cells.toList|none=>none
 |.call c=>trCall P c
 |.build t parts=>trBuild P t parts.toList
 |.buildSlice t len parts=>trBuildSlice P t len parts.toList
 |.makeSlice t l c=>(elemInfo P t).map fun e=>.mks e.1 e.2.1 e.2.2 l c
 |_=>none
def actOk:Op→Bool
 |.makeMap _ _|.mapUpdate _ _ _ _|.insert _ _ _ _|.lookup _ _ _ _|.range _ _|.next _ _|.entry _|.mapEntry _ _ _|.entryStore _ _ _ _=>true
 |.unOp _ _ _=>true
 |.call c=>match c.callee with
  |.builtin b=>match b with
   |.delete|.clear|.copy|.len=>true
   |_=>false
  |_=>false
 |_=>false
def trB (P:Program) (op:Op):Option XB:=match trB0 P op with
 |some x=>some x
 |none=>if actOk op then some (.act op)else none
theorem trB_spec {P:Program} {op:Op} {x:XB} (h:trB P op=some x):trB0 P op=some x∨(x=.act op∧actOk op=true):=by
 unfold trB at h
 split at h
 ·rename_i y hy;cases h;exact .inl hy
 ·split at h
  ·rename_i ho;cases h;exact .inr ⟨rfl,ho⟩
  ·cases h
end Go.Proofs.YteiildhelefodaaGreat
