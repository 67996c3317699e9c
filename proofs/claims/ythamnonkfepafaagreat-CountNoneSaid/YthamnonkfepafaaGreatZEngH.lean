import Derived.Test.YthamnonkfepafaaGreatZEngG
import Derived.RangeFuncRecord
set_option linter.unusedSimpArgs false
set_option linter.unusedVariables false
namespace Go.Proofs.YthamnonkfepafaaGreat
inductive aS where
 |skip
 |ret
 |dg (xs:List XO)
 |Bt (xs:List XO)
 |DI (t:XT)
 |DW (g:Operand) (ps:List Nat) (a b:aS)
 |seq (a b:aS)
 |cond (c:Operand) (a b:aS)
 |block (id:Nat) (a:aS)
 |loop (a:aS)
 |exit (id:Nat)
 deriving Inhabited
def qM (b:Array Oper):Nat→Operand→Bool
 |0,_=>false
 |f+1,.tmp t=>match b.find? (fun o=>o.dst==some t)with
  |some o=>match o.op with
   |.call c=>match c.callee with
    |.builtin _=>false
    |_=>true
   |.indexAddr _ y _|.fieldAddr _ y _|.move y|.nilCheck y|.extract y _=>qM b f y
   |_=>false
  |none=>false
 |_+1,_=>false
def Da (b:Array Oper) (i:Nat):Bool:=match b[i]? with
 |some o=>match o.op with
  |.load _ a=>qM b b.size a
  |_=>false
 |none=>false
def mN (P:Program) (n:Nat) (d:Array Oper):Nat→Array Bool→IT
 |0,_=>.nil
 |f+1,b=>
  let k:=Region.ready .any d b
  match k.find? (fun i=>Region.free .any d b i&&mM P n d i)with
  |some i=>if Da d i&&k== [i]then .a i (mN P n d f (b.setIfInBounds i true))else .p i (mN P n d f (b.setIfInBounds i true))
  |none=>match k with
   | []=>.nil
   |i::r=>r.foldl (fun t j=>.or t (.a j (mN P n d f (b.setIfInBounds j true)))) (.a i (mN P n d f (b.setIfInBounds i true)))
def xj (P:Program) (n:Nat) (b:Array Oper):Option aS:=
 let it:=mN P n b b.size (Array.replicate b.size false)
 if Region.noSelect b&&b.all ee&&decide (it.depth≤b.size)&&rS P n b false it (Array.replicate b.size false)then(k9 P n b it).map .DI else none
def xk (P:Program) (n:Nat) (rd:Bool) (b:Array Oper):Option aS:=
 if P.follows .mixedOrders then
  match b.toList.mapM (nQ P n b)with
  |none=>none
  |some xs=>
   if !rd&&qD xs&&jS xs&&Region.lexB .any b then some (.Bt xs)
   else if !rd&&qD xs&&Region.lexTailB .any b (xs.takeWhile fun x=>x.body.ie).length then some (.Bt xs)
   else xj P n b
 else none
def ns (P:Program) (n:Nat) (rd:Bool):Code→Option aS
 |.skip=>some .skip
 |.ret=>some .ret
 |.region _ d j=>match j with
  |true=>xk P n rd d
  |false=>(d.toList.mapM (nQ P n d)).map .dg
 |.seq a b=>match ns P n rd a,ns P n rd b with|some x,some y=>some (.seq x y)|_,_=>none
 |.cond c a b=>match ns P n rd a,ns P n rd b with|some x,some y=>some (.cond c x y)|_,_=>none
 |.block id a=>match ns P n rd a with|some x=>some (.block id x)|none=>none
 |.loop a=>match ns P n rd a with|some x=>some (.loop x)|none=>none
 |.exit id=>some (.exit id)
 |.rangeFunc g k a b=>if k.all fun t=>decide (t<n)then match ns P n true a,ns P n true b with|some x,some y=>some (.DW g k.toList x y)|_,_=>none else none
 |_=>none
def Tr (P:Program) (n:Nat):Code→aS→Prop
 |.skip,.skip=>True
 |.ret,.ret=>True
 |.region _ l false,.dg xs=>l.toList.mapM (nQ P n l)=some xs
 |.region _ l true,.Bt xs=>P.follows .mixedOrders=true∧l.toList.mapM (nQ P n l)=some xs∧qD xs=true∧
   ((jS xs=true∧Region.lexB .any l=true)∨ ∃k,jS (xs.take k)=true∧Region.lexTailB .any l k=true)
 |.region _ l true,.DI o=>P.follows .mixedOrders=true∧Region.noSelect l=true∧l.all ee=true∧ ∃it:IT,it.depth≤l.size∧k9 P n l it=some o∧rS P n l false it (Array.replicate l.size false)=true
 |.seq a b,.seq x y=>Tr P n a x∧Tr P n b y
 |.cond c a b,.cond d x y=>c=d∧Tr P n a x∧Tr P n b y
 |.block i a,.block j x=>i=j∧Tr P n a x
 |.loop a,.loop x=>Tr P n a x
 |.exit i,.exit j=>i=j
 |.rangeFunc g q a b,.DW r m x y=>g=r∧q=⟨m⟩∧(∀t,t∈m→t<n)∧Tr P n a x∧Tr P n b y
 |_,_=>False
theorem mP (xs:List XO):jS (xs.take (xs.takeWhile fun x=>x.body.ie).length)=true:=by
 induction xs with
 |nil=>rfl
 |cons x xs b=>
  rw[List.takeWhile_cons];split
  ·rename_i h;simp only[List.length_cons,List.take_succ_cons,jS,List.all_cons,h,Bool.true_and];exact b
  ·rfl
theorem gN {P:Program} {n:Nat}: ∀(rd:Bool) (c:Code) (x:aS),ns P n rd c=some x→Tr P n c x
 |rd,.skip,x,h=>by cases h;trivial
 |rd,.ret,x,h=>by cases h;trivial
 |rd,.region i m false,x,h=>by
  simp only[ns]at h
  obtain⟨xs,l,rfl⟩:=Option.map_eq_some_iff.1 h
  exact l
 |rd,.region i m true,x,h=>by
  simp only[ns,xk]at h
  split at h
  ·rename_i o
   split at h
   ·cases h
   ·rename_i xs l
    split at h
    ·rename_i d
     cases h
     simp only[Bool.and_eq_true]at d
     exact⟨o,l,d.1.1.2,.inl ⟨d.1.2,d.2⟩⟩
    ·split at h
     ·rename_i d
      cases h
      simp only[Bool.and_eq_true]at d
      exact⟨o,l,d.1.2,.inr ⟨_,mP xs,d.2⟩⟩
     ·unfold xj at h
      simp only at h
      split at h
      ·rename_i d
       obtain⟨ys,r,rfl⟩:=Option.map_eq_some_iff.1 h
       simp only[Bool.and_eq_true,decide_eq_true_eq]at d
       obtain⟨⟨⟨u,w⟩,z⟩,B⟩:=d
       exact⟨o,u,w,_,z,r,B⟩
      ·cases h
  ·cases h
 |rd,.seq a b,x,h=>by
  simp only[ns]at h
  split at h
  ·rename_i x y j k;cases h;exact⟨gN rd a x j,gN rd b y k⟩
  ·cases h
 |rd,.cond c a b,x,h=>by
  simp only[ns]at h
  split at h
  ·rename_i x y j k;cases h;exact⟨rfl,gN rd a x j,gN rd b y k⟩
  ·cases h
 |rd,.block id a,x,h=>by
  simp only[ns]at h
  split at h
  ·rename_i x j;cases h;exact⟨rfl,gN rd a x j⟩
  ·cases h
 |rd,.loop a,x,h=>by
  simp only[ns]at h
  split at h
  ·rename_i x j;cases h;exact gN rd a x j
  ·cases h
 |rd,.exit id,x,h=>by cases h;rfl
 |rd,.rangeFunc g D a b,x,h=>by
  simp only[ns]at h
  split at h
  ·rename_i q
   split at h
   ·rename_i x y j k
    cases h
    refine⟨rfl,by simp,fun t C=>?_,gN true a x j,gN true b y k⟩
    rw[Array.all_eq_true']at q
    exact of_decide_eq_true (q t (by simpa using C))
   ·cases h
  ·cases h
 |rd,.scope ..,x,h=>by cases h
 |rd,.label ..,x,h=>by cases h
 |rd,.goto ..,x,h=>by cases h
 |rd,.refuse ..,x,h=>by cases h
inductive XR where
 |t (t:Nat)
 |c (a:Nat)
 |cN (a n:Nat)
 deriving Inhabited
def Bv (P:Program):ResultVar→Option XR
 |.tmp t=>some (.t t)
 |.cell a t=>match P.underlying t with
  |some d=>if mu d then(P.info? t).map fun i=>.cN a i.size else some (.c a)
  |none=>none
def ss (r:XR) (ρ:Env) (w:World):Option Value:=match r with
 |.t t=>some (ρ t)
 |.c a=>jP w (ρ a)
 |.cN a n=>eR w n (ρ a)
def FL (vs:Option (List Value)):Option Value:=match vs with|some vs=>some (.tuple ⟨vs⟩)|none=>none
def tr (v:Option Value) (vs:Option (List Value)):Option (List Value):=match v,vs with|some v,some vs=>some (v::vs)|_,_=>none
def nK:List XR→Env→World→Option (List Value)
 | [],_,_=>some []
 |r::b,ρ,w=>tr (ss r ρ w) (nK b ρ w)
def qN (b:List XR) (ρ:Env) (w:World):Option Value:=match b with
 | [r]=>ss r ρ w
 |b=>FL (nK b ρ w)
structure FX where
 F:FuncId
 fn:Func
 rs:List XR
 ro:Option Nat:=none
 ds:List Deferred:=[]
def FX.ok (P:Program) (f:FX):Prop:=P.funcs[f.F]? =some f.fn∧f.fn.results.toList.mapM (Bv P)=some f.rs
inductive XI where
 |code (x:aS)
 |yL (id:Nat)
 |lp (x:aS)
 |GJ
def su (P:Program) (n:Nat) (i:Item) (x:XI):Prop:=match i,x with
 |.code c,.code x=>Tr P n c x
 |.inBlock i,.yL j=>i=j
 |.inLoop c,.lp x=>Tr P n c x
 |.beginRound,.GJ=>True
 |_,_=>False
def la (P:Program) (n:Nat):List Item→List XI→Prop
 | [],[]=>True
 |i::k,x::kx=>su P n i x∧la P n k kx
 |_,_=>False
def base (F:FuncId) (ro:Option Nat):Frame:= {(default:Frame)with fn:=F,kind:=.normal,roundOf:=ro}
def Fin (P:Program) (f:FX) (R:Value→World→Prop) (m:Machine) (cs:List Frame):Prop:=match f.ro,cs with
 |none,cs=> ∃v w' fr,R v w'∧Steps P m (lone fr cs w')∧fr.fn=f.F∧fr.leaving P w' (.returned v)
 |some _,c::cs=> ∃v w',R v w'∧Steps P m (lone (c.finish v) cs w')
 |some _,[]=>True
theorem Fin.of_steps {P:Program} {f:FX} {R:Value→World→Prop} {m j:Machine} {cs:List Frame} (h:Steps P m j) (k:Fin P f R j cs):Fin P f R m cs:=by
 unfold Fin at*;split at k<;>rename_i b
 ·obtain⟨v,w',fr,b,d,l⟩:=k;exact⟨v,w',fr,b,h.trans d,l⟩
 ·obtain⟨v,w',b,d⟩:=k;exact⟨v,w',b,h.trans d⟩
 ·trivial
def bD (P:Program) (f:FX) (kx:List XI) (ρ:Env) (w:World) (R:Value→World→Prop):Prop:=
 f.ok P→ ∀(k:List Item) (a:Act) (cs:List Frame),la P f.fn.ntmps k kx→je f.fn.ntmps f.ds ρ a→Fin P f R (lone ((base f.F f.ro).atR a k) cs w) cs
section
variable {P:Program} {f:FX} {kx:List XI} {ρ:Env} {w:World} {R:Value→World→Prop}
theorem gx {n:Nat} {k:List Item} {x:XI} (h:la P n k (x::kx)): ∃i k',k=i::k'∧su P n i x∧la P n k' kx:=by
 cases k with
 |nil=>exact h.elim
 |cons i k'=>exact⟨i,k',rfl,h.1,h.2⟩
theorem bE {n:Nat} {k:List Item} {x:aS} (h:la P n k (.code x::kx)): ∃c k',k=.code c::k'∧Tr P n c x∧la P n k' kx:=by
 obtain⟨i,k',rfl,b,d⟩:=gx h;cases i<;>simp only[su]at b
 exact⟨_,k',rfl,b,d⟩
theorem qO {n id:Nat} {k:List Item} (h:la P n k (.yL id::kx)): ∃k',k=.inBlock id::k'∧la P n k' kx:=by
 obtain⟨i,k',rfl,b,d⟩:=gx h;cases i<;>simp only[su]at b
 subst b;exact⟨k',rfl,d⟩
theorem tt {n:Nat} {k:List Item} {x:aS} (h:la P n k (.lp x::kx)): ∃c k',k=.inLoop c::k'∧Tr P n c x∧la P n k' kx:=by
 obtain⟨i,k',rfl,b,d⟩:=gx h;cases i<;>simp only[su]at b
 exact⟨_,k',rfl,b,d⟩
theorem run_seq {a b:aS} (h:bD P f (.code a::.code b::kx) ρ w R):bD P f (.code (.seq a b)::kx) ρ w R:=by
 intro l k ac cs m o;obtain⟨c,k',rfl,d,j⟩:=bE m;cases c<;>simp only[Tr]at d
 case seq q r=>exact Fin.of_steps (.one stepR_seq) (h l (.code q::.code r::k') ac cs ⟨d.1,d.2,j⟩ o)
theorem qP (h:bD P f kx ρ w R):bD P f (.code .skip::kx) ρ w R:=by
 intro d k ac cs j l;obtain⟨c,k',rfl,m,b⟩:=bE j;cases c<;>simp only[Tr]at m
 exact Fin.of_steps (.one stepR_skip) (h d k' ac cs b l)
theorem xl {c:Operand} {a b:aS} {t:Bool} (r:ev ρ c=.bool t) (u:t=true→bD P f (.code a::kx) ρ w R) (y:t=false→bD P f (.code b::kx) ρ w R):
  bD P f (.code (.cond c a b)::kx) ρ w R:=by
 intro o k ac cs z j;obtain⟨c',k',rfl,q,d⟩:=bE z;cases c'<;>simp only[Tr]at q
 case cond c' B C=>
  obtain⟨rfl,l,m⟩:=q;have D:ac.eval c'=.bool t:=by rw[j.eval];exact r
  refine Fin.of_steps (.one (stepR_cond D)) ?_;cases t with
  |true=>exact u rfl o (.code B::k') ac cs ⟨l,d⟩ j
  |false=>exact y rfl o (.code C::k') ac cs ⟨m,d⟩ j
theorem iV {id:Nat} {a:aS} (h:bD P f (.code a::.yL id::kx) ρ w R):bD P f (.code (.block id a)::kx) ρ w R:=by
 intro j k ac cs l m;obtain⟨c,k',rfl,b,d⟩:=bE l;cases c<;>simp only[Tr]at b
 case block i c=>
  obtain⟨rfl,b⟩:=b;exact Fin.of_steps (.one stepR_block) (h j (.code c::.inBlock i::k') ac cs ⟨b,rfl,d⟩ m)
theorem Ag {id:Nat} (h:bD P f kx ρ w R):bD P f (.yL id::kx) ρ w R:=by
 intro d k ac cs j l;obtain⟨k',rfl,b⟩:=qO j;exact Fin.of_steps (.one stepR_inBlock) (h d k' ac cs b l)
def jX (id:Nat):List XI→Option (List XI)
 | []=>none
 |.yL i::k=>if i=id then some k else jX id k
 |_::k=>jX id k
theorem eU {n id:Nat}: ∀ {kx d:List XI} {k:List Item},jX id kx=some d→la P n k kx→ ∃k',exitTo id k=some k'∧la P n k' d
 | [],_,_,h,_=>by cases h
 |.yL i::kx,d,k,h,j=>by
  obtain⟨k',rfl,b⟩:=qO j
  simp only[jX]at h
  split at h
  ·rename_i q
   cases h
   exact⟨k',by simp[exitTo,q],b⟩
  ·rename_i q
   obtain⟨l,m,o⟩:=eU h b
   refine⟨l,?_,o⟩
   simp only[exitTo,beq_iff_eq,if_neg q];exact m
 |.code x::kx,d,k,h,j=>by
  obtain⟨c,k',rfl,_,b⟩:=bE j
  obtain⟨l,m,o⟩:=eU (by simpa[jX]using h) b
  exact⟨l,by simpa[exitTo]using m,o⟩
 |.lp x::kx,d,k,h,j=>by
  obtain⟨c,k',rfl,_,b⟩:=tt j
  obtain⟨l,m,o⟩:=eU (by simpa[jX]using h) b
  exact⟨l,by simpa[exitTo]using m,o⟩
 |.GJ::kx,d,k,h,j=>by
  obtain⟨i,k',rfl,r,b⟩:=gx j
  cases i<;>simp only[su]at r
  obtain⟨l,m,o⟩:=eU (by simpa[jX]using h) b
  exact⟨l,by simpa[exitTo]using m,o⟩
theorem xm {id:Nat} {b:List XI} (l:jX id kx=some b) (h:bD P f b ρ w R):bD P f (.code (.exit id)::kx) ρ w R:=by
 intro m k ac cs o q;obtain⟨c,k',rfl,j,d⟩:=bE o;cases c<;>simp only[Tr]at j
 subst j;obtain⟨r,t,u⟩:=eU l d;exact Fin.of_steps (.one (stepR_exit t)) (h m r ac cs u q)
theorem Db {x:aS} (h:bD P f (.code x::.lp x::kx) ρ w R):bD P f (.lp x::kx) ρ w R:=by
 intro j k ac cs l m;obtain⟨c,k',rfl,d,b⟩:=tt l;exact Fin.of_steps (.one stepR_inLoop) (h j (.code c::.inLoop c::k') ac cs ⟨d,d,b⟩ m)
theorem uM {x:aS} (h:bD P f (.code x::.lp x::kx) ρ w R):bD P f (.code (.loop x)::kx) ρ w R:=by
 intro j k ac cs l m;obtain⟨c,k',rfl,b,d⟩:=bE l;cases c<;>simp only[Tr]at b
 exact Fin.of_steps (.one stepR_loop) (h j _ ac cs ⟨b,b,d⟩ m)
theorem iW {c:Code} {C:Env→World→Prop} {k':List Item} {a:Act} {cs:List Frame} {n:Nat} (h:c.wpIn (FR f.ro) 0 P (QC n f.ds C) a w)
  (m: ∀b j w',je n f.ds b j→C b w'→Fin P f R (lone ((base f.F f.ro).atR j k') cs w') cs):Fin P f R (lone ((base f.F f.ro).atR a (.code c::k')) cs w) cs:=by
 obtain⟨e,j,w',⟨rfl,b,k,l⟩,d⟩:=h (base f.F f.ro) k' cs rfl trivial (fun _ h=>by simp[FR,Fence.wide]at h);exact Fin.of_steps (StepsIn.steps d) (m b j w' k l)
theorem tu {xs:List XO} (h:VO P xs ρ w (fun ρ w=>bD P f kx ρ w R)):bD P f (.code (.dg xs)::kx) ρ w R:=by
 intro o k ac cs q r;obtain⟨c,k',rfl,b,l⟩:=bE q;cases c<;>try(exact b.elim)
 case region i d j=>
  cases j with
  |true=>exact b.elim
  |false=>
  have b:d.toList.mapM (nQ P f.fn.ntmps d)=some xs:=b;exact iW (qE b r h) fun t u w' m y=>y o k' u cs l m
theorem Ah {xs:List XO} (h:VO P xs ρ w.drew (fun ρ w=>bD P f kx ρ w R)) (d:f.ro=none:=by rfl):bD P f (.code (.Bt xs)::kx) ρ w R:=by
 intro E k ac cs H F;obtain⟨c,k',rfl,r,j⟩:=bE H;cases c<;>try(exact r.elim)
 case region i I l=>
  cases l with
  |false=>exact r.elim
  |true=>
  obtain⟨G,q,t,J⟩:=r;rcases J with⟨u,y⟩|⟨m,u,y⟩
  ·have o:=wp_of_still (m:=0) (id:=i) G y u q F h;rw[←d]at o;exact iW o fun z B w' b C=>C E k' B cs j b
  ·have D:qD (xs.drop m)=true:=by
    unfold qD at t⊢;rw[List.all_eq_true]at t⊢;exact fun x q=>t x (List.mem_of_mem_drop q)
   have o:=sm (m:=0) (id:=i) G y u D q F h;rw[←d]at o;exact iW o fun z B w' b C=>C E k' B cs j b
theorem bk {t:XT} (L:List Nat) (h:VT P L w.drew t ρ w.drew (fun ρ w=>bD P f kx ρ w R)):bD P f (.code (.DI t)::kx) ρ w R:=by
 intro q k ac cs r u;obtain⟨c,k',rfl,l,m⟩:=bE r;cases c<;>try(exact l.elim)
 case region i y b=>
  cases b with
  |false=>exact l.elim
  |true=>
  obtain⟨z,d,B,it,j,C,D⟩:=l;exact iW (sr z d B j C D u h) fun E F w' o G=>G q k' F cs m o
def uN (tmps:Array Value):ResultVar→Sem Value
 |.tmp t=>pure (tmps.getD t undef)
 |.cell b t=>do loadVar t (←asAddr (tmps.getD b undef))
theorem pI (fn:Func) (tmps:Array Value):results fn tmps=(do let vs←fn.results.mapM (uN tmps);pure (if h:vs.size=1 then vs[0]else .tuple vs)):=by
 have e:(fun(r:ResultVar)=>(match r with|.tmp t=>pure (tmps.getD t undef)|.cell b t=>do loadVar t (←asAddr (tmps.getD b undef)):Sem Value))=uN tmps:=by
  funext r;cases r<;>rfl
 rw[←e];rfl
theorem xn {n:Nat} {ds:List Deferred} {r:ResultVar} {x:XR} (h:Bv P r=some x) {a:Act} (k:je n ds ρ a) {v:Value} (b:ss x ρ w=some v):
  (uN a.tmps r).run P w=.ok v w:=by
 unfold uN;cases r with
 |tmp t=>
  cases h;simp only[ss,Option.some.injEq]at b;subst b;simp[k.get t]
 |cell l t=>
  simp only[Bv]at h;split at h
  ·rename_i d m;split at h
   ·rename_i j;obtain⟨i,o,rfl⟩:=Option.map_eq_some_iff.1 h;simp only[ss,eR]at b;split at b
    ·rename_i p e;unfold pA at b;split at b
     ·rename_i xs q;cases b;simp only[Sem.run_bind,k.get l,e,asAddr,Sem.run_pure,Result.andThen_ok,loadVar,dc m,j,if_true,bs o,run_loadCells q]
     ·cases b
    ·cases b
   ·rename_i j;cases h;simp only[ss,jP]at b;split at b
    ·rename_i p e;simp only[Sem.run_bind,k.get l,e,asAddr,Sem.run_pure,Result.andThen_ok,loadVar,dc m,Bool.not_eq_true _▸j,Bool.false_eq_true,if_false,fT b]
    ·cases b
  ·cases h
theorem qQ {n:Nat} {ds:List Deferred} {a:Act} (j:je n ds ρ a): ∀(d:List ResultVar) (xs:List XR),d.mapM (Bv P)=some xs→ ∀(vs:List Value),nK xs ρ w=some vs→
  (d.mapM (uN a.tmps)).run P w=.ok vs w
 | [],xs,h,vs,b=>by
  simp at h;subst h
  simp only[nK,Option.some.injEq]at b
  subst b
  simp
 |r::d,xs,h,vs,b=>by
  simp only[List.mapM_cons,Option.bind_eq_bind,Option.bind_eq_some_iff,Option.pure_def,Option.some.injEq]at h
  obtain⟨x,k,ys,l,rfl⟩:=h
  simp only[nK]at b
  unfold tr at b
  split at b
  ·rename_i u us m o
   cases b
   rw[List.mapM_cons,Sem.run_bind,xn k j m]
   simp only[Result.andThen_ok,Sem.run_bind,Sem.run_pure]
   rw[qQ j d ys l us o]
   rfl
  ·cases b
theorem qR {n:Nat} {ds:List Deferred} {a:Act} (o:je n ds ρ a) {fn:Func} {xs:List XR} (h:fn.results.toList.mapM (Bv P)=some xs) {v:Value} (d:qN xs ρ w=some v):(results fn a.tmps).run P w=.ok v w:=by
 rw[pI,Array.mapM_eq_mapM_toList];have key: ∀vs,nK xs ρ w=some vs→(if h:vs.toArray.size=1 then vs.toArray[0]else .tuple vs.toArray)=v→
   (do let us←(List.toArray<$>fn.results.toList.mapM (uN a.tmps));pure (if h:us.size=1 then us[0]else .tuple us):Sem Value).run P w=.ok v w:=by
  intro vs j b;rw[Sem.run_bind,Sem.run_map,qQ o _ _ h vs j];simp only[Result.andThen_ok,Sem.run_pure];rw[b]
 unfold qN at d;split at d
 ·rename_i r;refine key [v] ?_ rfl;simp only[nK,d,tr]
 ·rename_i j;unfold FL at d;split at d
  ·rename_i vs b;cases d;refine key vs b ?_;have l:vs.length≠1:=by
    intro k
    match xs,vs,k,j,b with
    | [],[],k,_,_=>cases k
    | [],_::_,_,_,b=>simp[nK]at b
    | [r],_,_,j,_=>exact j r rfl
    |r::s::xs,vs,k,_,b=>
     simp only[nK]at b;unfold tr at b;split at b
     ·rename_i m;split at m
      ·cases m;cases b;simp at k
      ·cases m
     ·cases b
   rw[dif_neg (by simpa using l)]
  ·cases d
theorem tv {m:Machine} {a:Act} {b:List Item} {cs:List Frame} (l:f.ok P) (d:f.ro=none) (j:f.ds=[]) (o:je f.fn.ntmps f.ds ρ a) {v:Value} (q:qN f.rs ρ w=some v) (r:R v w)
  (k:Steps P m (lone {(base f.F f.ro).atR a b with mode:=.returning} cs w)):Fin P f R m cs:=by
 unfold Fin;rw[d];exact⟨v,w,_,r,k,rfl,rfl,o.defers.trans j,rfl,f.fn,l.1,qR o l.2 q⟩
theorem Ai {v:Value} (b:f.ro=none) (d:f.ds=[]) (j:qN f.rs ρ w=some v) (l:R v w):bD P f (.code .ret::kx) ρ w R:=by
 intro m k ac cs o q;obtain⟨c,k',rfl,r,t⟩:=bE o;cases c<;>simp only[Tr]at r
 exact tv m b d q j l (.one (stepR_ret b))
theorem Aj {v:Value} (b:f.ro=none) (d:f.ds=[]) (j:qN f.rs ρ w=some v) (l:R v w):bD P f [] ρ w R:=by
 intro m k ac cs o q;cases k with
 |cons i k=>exact o.elim
 |nil=>exact tv m b d q j l (.one (stepR_end b))
theorem ad.putObj (w:World) (l:Nat) (o:Obj):ad [l] w (w.putObj l o):=
 ⟨rfl,rfl,rfl,by simp,fun k _ b=>by simp only[List.mem_singleton]at b;exact World.putObj_heap_other b⟩
theorem xo {D:Nat} (b:f.ro=none) (d:f.ds=[{target:=.collected D,args:=#[]}]) (m:w.heap[D]? =some (.deferred (some [])))
  (h: ∀w',w'.heap.size=w.heap.size→ad [D] w w'→ ∃v,qN f.rs ρ w'=some v∧R v w'):bD P f (.code .ret::kx) ρ w R:=by
 intro j k ac cs o l;obtain⟨c,k',rfl,q,r⟩:=bE o;cases c<;>simp only[Tr]at q
 obtain⟨v,t,u⟩:=h (w.putObj D (.deferred none)) (by simp) (ad.putObj w D _);have y:Steps P (lone ((base f.F f.ro).atR ac (.code .ret::k')) cs w) (lone {(base f.F f.ro).atR ac (.code .ret::k')with mode:=.returning} cs w):=.one (stepR_ret b);have z:({(base f.F f.ro).atR ac (.code .ret::k')with mode:=.returning}:Frame).defers= {target:=.collected D,args:=#[]}::[]:=by
  show ac.defers=_;rw[l.defers,d]
 have B:=step_collected (P:=P) (cs:=cs) (w:=w) (fr:= {(base f.F f.ro).atR ac (.code .ret::k')with mode:=.returning}) (by simp) z rfl (run_takeDeferred m);refine Fin.of_steps (y.trans (.one B)) ?_;unfold Fin;rw[b];exact⟨v,w.putObj D (.deferred none),{(base f.F none).atR ac (.code .ret::k')with mode:=.returning,defers:=[]},u,.refl _ _,rfl,rfl,rfl,rfl,f.fn,j.1,qR l j.2 t⟩
def E0:Env:=fun _=>undef
def fW:List Value→Nat→Env
 | [],_=>E0
 |v::vs,i=>put (fW vs (i+1)) i v
theorem xp (vs:List Value): ∀(i t:Nat),i≤t→fW vs i t=vs.getD (t-i) undef:=by
 induction vs with
 |nil=>intro i t _;simp[fW,E0]
 |cons v vs b=>
  intro i t h;simp only[fW,pj];by_cases e:t=i
  ·subst e;simp
  ·rw[if_neg e,b (i+1) t (by omega),show t-i=(t-(i+1))+1 by omega];simp
theorem uO {c:Code} {x:aS} {args:List Value} (m:f.ok P) (j:f.ro=none) (l:f.ds=[]) (q:f.fn.body=some c) (r:ns P f.fn.ntmps false c=some x) (C:args.length≤f.fn.ntmps)
  (h:bD P f [.code x] (fW args 0) w R):Cs P f.F args w R:=by
 intro cs;have b:Frame.enter P f.F ⟨args⟩ .normal=(base f.F f.ro).atR {tmps:=⟨args⟩++Array.replicate (f.fn.ntmps-args.length) undef,defers:=[]} [.code c]:=by
  simp[Frame.enter,Frame.atR,m.1,q,base,j]
 have u:je f.fn.ntmps f.ds (fW args 0) {tmps:=⟨args⟩++Array.replicate (f.fn.ntmps-args.length) undef,defers:=[]}:=by
  refine⟨l.symm,by simp;omega,fun t=>?_⟩;rw[xp args 0 t (Nat.zero_le _)];simp only[Nat.sub_zero,Array.getD_eq_getD_getElem?,List.getD_eq_getElem?_getD];rw[Array.getElem?_append];by_cases o:t<args.length
  ·simp[o]
  ·rw[if_neg (by simpa using o),List.getElem?_eq_none (by omega)];by_cases k:t-args.length<f.fn.ntmps-args.length
   ·simp[k]
   ·simp[k]
 have d:=h m [.code c] _ cs ⟨gN false c x r,trivial⟩ u;unfold Fin at d;rw[j]at d;obtain⟨v,w',fr,y,k,z,B⟩:=d;rw[j]at b;rw[←b]at k;exact⟨.returned v,w',fr,⟨v,rfl,y⟩,k,z,B⟩
def cE (P:Program) (f:FX) (l:Nat) (w:World) (ρ:Env) (b:List Nat) (d j:aS) (st:LoopState) (D:Nat):Prop:=
 ∃r:Loop,w.heap[l]? =some (.loop r)∧r.state=st∧r.pending=none∧r.fn=f.F∧r.params=⟨b⟩∧(∀t,t∈b→t<f.fn.ntmps)∧r.defers=D∧Tr P f.fn.ntmps r.assign d∧Tr P f.fn.ntmps r.body j∧je f.fn.ntmps [] ρ {tmps:=r.tmps,defers:=[]}
theorem cE.heap {l:Nat} {w w':World} {b:List Nat} {d j:aS} {st:LoopState} {D:Nat} (h:cE P f l w ρ b d j st D) (e:w'.heap[l]? =w.heap[l]?):cE P f l w' ρ b d j st D:=by
 obtain⟨r,k,m⟩:=h;exact⟨r,e.trans k,m⟩
theorem cE.lt {l:Nat} {w:World} {b:List Nat} {d j:aS} {st:LoopState} {D:Nat} (h:cE P f l w ρ b d j st D):l<w.heap.size:=by
 obtain⟨r,k,m⟩:=h;exact(Array.getElem?_eq_some_iff.1 k).1
theorem cE.ae {S:List Nat} {l:Nat} {w w':World} {b:List Nat} {d j:aS} {st:LoopState} {D:Nat} (h:cE P f l w ρ b d j st D) (k:ad S w w') (m:l∉S):cE P f l w' ρ b d j st D:=
 h.heap (k.block l h.lt m)
def uP (ρ:Env):List Nat→List Value→Env
 |p::b,v::vs=>uP (put ρ p v) b vs
 |_,_=>ρ
theorem oz {n:Nat}: ∀(b:List Nat) (vs:List Value) (ρ:Env) (tmps:Array Value),(∀t,t∈b→t<n)→b.length=vs.length→je n [] ρ {tmps:=tmps,defers:=[]}→
  je n [] (uP ρ b vs) {tmps:=(b.zip vs).foldl (fun tmps (t,a)=>tmps.setIfInBounds t a) tmps,defers:=[]}
 | [],[],ρ,tmps,_,_,h=>h
 |p::b,v::vs,ρ,tmps,d,j,h=>by
  have:=h.put (d p (by simp)) v
  exact oz b vs (put ρ p v) (tmps.setIfInBounds p v) (fun t k=>d t (by simp[k])) (by simpa using j) this
 | [],_::_,_,_,_,h,_=>by simp at h
 |_::_,[],_,_,_,h,_=>by simp at h
theorem Ak {l:Nat} {d:FX} {b:Env} {t:List Nat} {u y:aS} {D:Nat} (j:f.ro=some l) (B:cE P d l w b t u y .ready D)
  (h: ∀w',w'.heap.size=w.heap.size→ad [l] w w'→cE P d l w' b t u y .busy D→bD P f kx ρ w' R):bD P f (.GJ::kx) ρ w R:=by
 intro C k ac cs E F;obtain⟨i,k',rfl,G,m⟩:=gx E;cases i<;>simp only[su]at G
 obtain⟨r,z,H,I,J,K,L,M,N,O,o⟩:=B;have q:=(Array.getElem?_eq_some_iff.1 z).1;refine Fin.of_steps (.one (stepR_beginRound (l:=l) j (run_beginRound z H))) ?_;exact h (w.putObj l (.loop {r with state:=.busy})) (by simp) (ad.putObj w l _) ⟨{r with state:=.busy},World.putObj_heap_same q,rfl,I,J,K,L,M,N,O,o⟩ C k' ac cs m F
theorem qS {l:Nat} {j:FX} {d:Env} {t:List Nat} {u y:aS} {D:Nat} (m:f.ro=some l) (B:cE P j l w d t u y .busy D)
  (h: ∀w',w'.heap.size=w.heap.size→ad [l] w w'→cE P j l w' d t u y .ready D→R (.bool true) w'):bD P f [] ρ w R:=by
 intro K k ac cs C L;cases k with
 |cons i k=>exact C.elim
 |nil=>
  obtain⟨r,z,M,N,E,F,G,H,I,J,o⟩:=B;have q:=(Array.getElem?_eq_some_iff.1 z).1;unfold Fin;rw[m];cases cs with
  |nil=>trivial
  |cons c cs=>
   refine⟨.bool true,w.putObj l (.loop {r with state:=.ready,pending:=none}),h _ (by simp) (ad.putObj w l _) ⟨{r with state:=.ready,pending:=none},World.putObj_heap_same q,rfl,rfl,E,F,G,H,I,J,o⟩,?_⟩;exact .one (stepR_round_end (b:=base f.F (some l)) (a:=ac) (v:=.bool true) rfl rfl (run_endRound none z))
theorem Dc {l:Nat} {b:List Nat} {m o:aS} {D:Nat} {args:List Value} {K:Value→World→Prop} (y:f.ok P) (z:cE P f l w ρ b m o .ready D) (q:b.length=args.length)
  (h:bD P {f with ro:=some l,ds:=[]} [.code m,.GJ,.code o] (uP ρ b args) w K):Ys P l args w K:=by
 obtain⟨r,B,L,M,C,u,E,N,F,G,j⟩:=z;have k:(⟨args⟩:Array Value).size=r.params.size:=by rw[u];simp[q]
 refine⟨r.fn,(r.params.zip ⟨args⟩).foldl (fun tmps (t,a)=>tmps.setIfInBounds t a) r.tmps,r.assign,r.body,run_yield B k,fun c cs=>?_⟩;have H:=oz b args ρ r.tmps E q j;have e:(r.params.zip ⟨args⟩).foldl (fun(tmps:Array Value) (x:Tmp×Value)=>tmps.setIfInBounds x.1 x.2) r.tmps=(b.zip args).foldl (fun tmps (t,a)=>tmps.setIfInBounds t a) r.tmps:=by
  rw[u,←Array.foldl_toList,Array.toList_zip]
 have:=h y [.code r.assign,.beginRound,.code r.body] {tmps:=(b.zip args).foldl (fun tmps (t,a)=>tmps.setIfInBounds t a) r.tmps,defers:=[]} (c::cs) ⟨F,trivial,G,trivial⟩ H;obtain⟨v,w',I,d⟩:=this;refine⟨v,w',I,?_⟩;have J:Frame.round l r.fn ((r.params.zip ⟨args⟩).foldl (fun(tmps:Array Value) (x:Tmp×Value)=>tmps.setIfInBounds x.1 x.2) r.tmps) r.assign r.body .normal=
   (base f.F (some l)).atR {tmps:=(b.zip args).foldl (fun tmps (t,a)=>tmps.setIfInBounds t a) r.tmps,defers:=[]} [.code r.assign,.beginRound,.code r.body]:=by
  rw[e,C];simp[Frame.round,Frame.atR,base]
 rw[←J]at d;exact d
theorem Al {g:Operand} {z:List Nat} {L M:aS} {it:Nat} {caps:List Value} (F:f.ro=none) (N:f.ds=[]) (hg:ev ρ g=.func (.func it) #[] ⟨caps⟩) (o:okF P it=true)
  (h: ∀D l d,D=w.heap.size→l=w.heap.size+1→d.heap.size=w.heap.size+2→ad [] w d→d.heap[D]? =some (.deferred (some []))→cE P f l d ρ z L M .ready D→
   Cs P it (.func (.yield l) #[] #[]::caps) d fun _ G=>cE P f l G ρ z L M .ready D∧
    ∀O,O.heap.size=G.heap.size→ad [l] G O→bD P {f with ds:=[{target:=.collected D,args:=#[]}]} kx ρ O R):
  bD P f (.code (.DW g z L M)::kx) ρ w R:=by
 intro hf k ac cs hk E;obtain⟨c,k',rfl,hc,Q⟩:=bE hk;cases c<;>simp only[Tr]at hc
 case rangeFunc g' Ov S T=>
  obtain⟨rfl,rfl,U,ha,hb⟩:=hc;have V:je f.fn.ntmps [] ρ {tmps:=ac.tmps,defers:=[]}:=⟨rfl,E.size,E.get⟩
  let d:=(w.alloc (.deferred (some []))).alloc (.loop {state:=.ready,pending:=none,fn:=f.F,tmps:=ac.tmps,params:=⟨z⟩,assign:=S,body:=T,defers:=w.heap.size})
  have hD:d.heap[w.heap.size]? =some (.deferred (some [])):=by
   show((w.heap.push _).push _)[w.heap.size]? =_;rw[Array.getElem?_push,if_neg (by simp),Array.getElem?_push,if_pos rfl]
  have hl:cE P f (w.heap.size+1) d ρ z L M .ready w.heap.size:=by
   refine⟨{state:=.ready,pending:=none,fn:=f.F,tmps:=ac.tmps,params:=⟨z⟩,assign:=S,body:=T,defers:=w.heap.size},?_,rfl,rfl,rfl,rfl,U,rfl,ha,hb,V⟩;show((w.heap.push _).push _)[w.heap.size+1]? =_;rw[Array.getElem?_push,if_pos (by simp)]
  have hO:ad [] w d:=(ad.alloc [] w _).nil (ad.alloc [] _ _);have B:=h w.heap.size (w.heap.size+1) d rfl rfl (by show((w.heap.push _).push _).size=_;simp) hO hD hl;obtain⟨fn,C,H⟩: ∃fn,P.funcs[it]? =some fn∧(fn.name== "runtime.NumGoroutine")=false∧fn.body.isNone=false:=by
   unfold okF at o;split at o
   ·rename_i fn C;simp only[Bool.and_eq_true,Bool.not_eq_true']at o;exact⟨fn,C,o⟩
   ·cases o
  have W:ac.eval g'=.func (.func it) #[] ⟨caps⟩:=by rw[E.eval];exact hg
  have I:(resolve ac.eval (rangeCall g' (w.heap.size+1)) 0).run P d=.ok {target:=.fn (.func it) ⟨caps⟩,args:=#[.func (.yield (w.heap.size+1)) #[] #[]]} d:=by
   have X:ac.eval (.const (.func (.yield (w.heap.size+1)) #[] #[]))=.func (.yield (w.heap.size+1)) #[] #[]:=rfl;simp only[resolve,rangeCall,W,Deferred.ofValue,Sem.run_bind,Sem.run_pure,Result.andThen_ok];simp[X]
  have J:(invoke (.fn (.func it) ⟨caps⟩) #[.func (.yield (w.heap.size+1)) #[] #[]]).run P d=.ok (.enter it ⟨.func (.yield (w.heap.size+1)) #[] #[]::caps⟩) d:=by
   simp only[invoke,callFunc,Sem.run_bind,run_program,Result.andThen_ok,C,H.1,H.2,Bool.false_eq_true,if_false,Sem.run_pure];simp
  have he:(Instr.enterLoop (base f.F f.ro).fn ac.tmps ⟨z⟩ S T (base f.F f.ro).roundOf).run P w=.ok (w.heap.size+1,[{target:=.collected w.heap.size,args:=#[]}]) d:=by
   have:(base f.F f.ro).roundOf=none:=F;rw[this];exact run_enterLoop_outer _ _ _ _ _
  have m:=stepR_rangeFunc (P:=P) (b:=base f.F f.ro) (a:=ac) (k:=k') (cs:=cs) (w:=w) he I J;have Y: [({target:=.collected w.heap.size,args:=#[]}:Deferred)]++ac.defers=[{target:=.collected w.heap.size,args:=#[]}]:=by rw[E.defers,N];rfl
  rw[Y]at m;obtain⟨e,G,fr,⟨v,rfl,Z,K⟩,t,Mc,u⟩:=B ((base f.F f.ro).atR {ac with defers:=[{target:=.collected w.heap.size,args:=#[]}]} (.inRangeFunc (w.heap.size+1)::k')::cs);obtain⟨r,h1,h2,h3,h4,h5,h6,h7,h8,h9,BP⟩:=Z;have q:=step_leave_returned (c:=(base f.F f.ro).atR {ac with defers:=[{target:=.collected w.heap.size,args:=#[]}]} (.inRangeFunc (w.heap.size+1)::k')) (cs:=cs) u;rw[finish_atR_inRangeFunc]at q;have y:=stepR_endRangeFunc (P:=P) (b:=base f.F f.ro) (a:= {ac with defers:=[{target:=.collected w.heap.size,args:=#[]}]}) (k:=k') (cs:=cs) (run_endLoop (P:=P) h1 (by rw[h2];simp));have e3:(r.pending.map Item.code).toList++k'=k':=by rw[h3];rfl
  rw[e3]at y;have Md:=(Array.getElem?_eq_some_iff.1 h1).1;refine Fin.of_steps (.head m (Steps.trans t (.head q (.one y)))) ?_;have j:=K (G.putObj (w.heap.size+1) (.loop {r with state:=.exhausted})) (by simp) (ad.putObj _ _ _) hf k' {ac with defers:=[{target:=.collected w.heap.size,args:=#[]}]} cs Q ⟨rfl,E.size,E.get⟩;unfold Fin at j⊢;simp only[F]at j⊢;exact j
def nW (W:List Nat) (g ρ:Env):Env:=fun t=>if W.contains t then g t else ρ t
theorem pJ (W:List Nat) (g ρ:Env) (t:Nat):nW W g ρ t=if W.contains t then g t else ρ t:=Eq.trans rfl rfl
def bb (W:List Nat) (ρ b:Env):Prop:= ∀t,W.contains t=false→b t=ρ t
theorem bb.refl (W:List Nat) (ρ:Env):bb W ρ ρ:=fun _ _=>rfl
theorem bb.nW (W:List Nat) (g ρ:Env):bb W ρ (nW W g ρ):=fun t b=>by simp only[pJ,b,Bool.false_eq_true,if_false]
theorem bb.put {W:List Nat} {ρ b:Env} (h:bb W ρ b) {d:Nat} (k:W.contains d=true) (v:Value):bb W ρ (put b d v):=fun t j=>by
 rw[pj,if_neg (by intro e;subst e;rw[k]at j;cases j)];exact h t j
theorem bb.tW {W d:List Nat} {ρ b:Env} (h:bb W ρ b) (k:d.all (W.contains ·)=true) (g:Env):bb W ρ (Go.Proofs.YthamnonkfepafaaGreat.nW d g b):=fun t j=>by
 rw[pJ]
 split
 ·rename_i l
  have:=List.all_eq_true.1 k t (by simpa using l)
  rw[j]at this;cases this
 ·exact h t j
theorem bb.eq {W:List Nat} {ρ b:Env} (h:bb W ρ b):b=Go.Proofs.YthamnonkfepafaaGreat.nW W b ρ:=by
 funext t;rw[pJ];split
 ·rfl
 ·rename_i d;exact h t (by simpa using d)
theorem aE {x:aS} (W:List Nat) (I:Env→World→Prop) (j:Env→World→Nat) (q:I ρ w)
  (step: ∀(g:Env) (w':World),I g w'→(∀b d,I b d→j b d<j g w'→(o:bb W ρ b:=by(repeat(first|with_reducible exact vk|with_reducible exact bb.nW _ _ _|refine bb.put ?_ rfl _|exact vk|exact bb.nW _ _ _|refine bb.tW ?_ rfl _)))→bD P f (.lp x::kx) b d R)→bD P f (.code x::.lp x::kx) (nW W g ρ) w' R):
  bD P f (.code (.loop x)::kx) ρ w R:=by
 have key: ∀(m:Nat) (g:Env) (w':World),j g w'=m→I g w'→bD P f (.code x::.lp x::kx) (nW W g ρ) w' R:=by
  intro m
  induction m using Nat.strongRecOn with
  |_ m r=>
   intro g w' t u;refine step g w' u fun b d k l o=>?_;rw[o.eq];exact Db (r (j b d) (t▸l) b d rfl k)
 have:=uM (kx:=kx) (key (j ρ w) ρ w rfl q);rwa[←(bb.refl W ρ).eq]at this
end
attribute [irreducible] bD
end Go.Proofs.YthamnonkfepafaaGreat
