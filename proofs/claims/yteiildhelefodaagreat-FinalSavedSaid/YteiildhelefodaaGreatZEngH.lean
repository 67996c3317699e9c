/- The engine: symbolic execution. -/
import Derived.Test.YteiildhelefodaaGreatZEngG
import Derived.RangeFuncRecord
set_option linter.unusedSimpArgs false
set_option linter.unusedVariables false
namespace Go.Proofs.YteiildhelefodaaGreat
inductive XCode where
 |skip
 |ret
 |reg (xs:List XO)
 |drw (xs:List XO)
 |drt (t:XT)
 |rng (g:Operand) (ps:List Nat) (a b:XCode)
 |seq (a b:XCode)
 |cond (c:Operand) (a b:XCode)
 |block (id:Nat) (a:XCode)
 |loop (a:XCode)
 |exit (id:Nat)
 deriving Inhabited
def greedy (P:Program) (n:Nat) (ops:Array Oper):Nat→Array Bool→IT
 |0,_=>.nil
 |f+1,listed=>
  let rs:=Region.ready .any ops listed
  match rs.find? (fun i=>Region.free .any ops listed i&&pureAt P n ops i)with
  |some i=>.p i (greedy P n ops f (listed.setIfInBounds i true))
  |none=>match rs with
   | []=>.nil
   |i::r=>r.foldl (fun t j=>.or t (.a j (greedy P n ops f (listed.setIfInBounds j true)))) (.a i (greedy P n ops f (listed.setIfInBounds i true)))
def trTree (P:Program) (n:Nat) (ops:Array Oper):Option XCode:=
 let it:=greedy P n ops ops.size (Array.replicate ops.size false)
 if Region.noSelect ops&&ops.all noDefer&&decide (it.depth≤ops.size)&&okT P n ops false it (Array.replicate ops.size false)then(mapT P n ops it).map .drt else none
def trDraw (P:Program) (n:Nat) (rd:Bool) (ops:Array Oper):Option XCode:=
 if P.follows .mixedOrders then
  match ops.toList.mapM (trO P n ops)with
  |none=>none
  |some xs=>
   if !rd&&noVs xs&&pureL xs&&Region.lexB .any ops then some (.drw xs)
   else if !rd&&noVs xs&&Region.lexTailB .any ops (xs.takeWhile fun x=>x.body.pure?).length then some (.drw xs)
   else trTree P n ops
 else none
def trC (P:Program) (n:Nat) (rd:Bool):Code→Option XCode
 |.skip=>some .skip
 |.ret=>some .ret
 |.region _ ops draw=>match draw with
  |true=>trDraw P n rd ops
  |false=>(ops.toList.mapM (trO P n ops)).map .reg
 |.seq a b=>match trC P n rd a,trC P n rd b with|some x,some y=>some (.seq x y)|_,_=>none
 |.cond c a b=>match trC P n rd a,trC P n rd b with|some x,some y=>some (.cond c x y)|_,_=>none
 |.block id a=>match trC P n rd a with|some x=>some (.block id x)|none=>none
 |.loop a=>match trC P n rd a with|some x=>some (.loop x)|none=>none
 |.exit id=>some (.exit id)
 |.rangeFunc g ps a b=>if ps.all fun t=>decide (t<n)then match trC P n true a,trC P n true b with|some x,some y=>some (.rng g ps.toList x y)|_,_=>none else none
 |_=>none
def Tr (P:Program) (n:Nat):Code→XCode→Prop
 |.skip,.skip=>True
 |.ret,.ret=>True
 |.region _ ops false,.reg xs=>ops.toList.mapM (trO P n ops)=some xs
 |.region _ ops true,.drw xs=>P.follows .mixedOrders=true∧ops.toList.mapM (trO P n ops)=some xs∧noVs xs=true∧
   ((pureL xs=true∧Region.lexB .any ops=true)∨ ∃k,pureL (xs.take k)=true∧Region.lexTailB .any ops k=true)
 |.region _ ops true,.drt xt=>P.follows .mixedOrders=true∧Region.noSelect ops=true∧ops.all noDefer=true∧ ∃it:IT,it.depth≤ops.size∧mapT P n ops it=some xt∧okT P n ops false it (Array.replicate ops.size false)=true
 |.seq a b,.seq x y=>Tr P n a x∧Tr P n b y
 |.cond c a b,.cond d x y=>c=d∧Tr P n a x∧Tr P n b y
 |.block i a,.block j x=>i=j∧Tr P n a x
 |.loop a,.loop x=>Tr P n a x
 |.exit i,.exit j=>i=j
 |.rangeFunc g ps a b,.rng g' ps' x y=>g=g'∧ps=⟨ps'⟩∧(∀t,t∈ps'→t<n)∧Tr P n a x∧Tr P n b y
 |_,_=>False
theorem takeWhile_pure (xs:List XO):pureL (xs.take (xs.takeWhile fun x=>x.body.pure?).length)=true:=by
 induction xs with
 |nil=>rfl
 |cons x xs ih=>
  rw[List.takeWhile_cons]
  split
  ·rename_i h;simp only[List.length_cons,List.take_succ_cons,pureL,List.all_cons,h,Bool.true_and];exact ih
  ·rfl
theorem trC_Tr {P:Program} {n:Nat}: ∀(rd:Bool) (c:Code) (x:XCode),trC P n rd c=some x→Tr P n c x
 |rd,.skip,x,h=>by cases h;trivial
 |rd,.ret,x,h=>by cases h;trivial
 |rd,.region i ops false,x,h=>by
  simp only[trC]at h
  obtain⟨xs,hx,rfl⟩:=Option.map_eq_some_iff.1 h
  exact hx
 |rd,.region i ops true,x,h=>by
  simp only[trC,trDraw]at h
  split at h
  ·rename_i hm
   split at h
   ·cases h
   ·rename_i xs hx
    split at h
    ·rename_i hb
     cases h
     simp only[Bool.and_eq_true]at hb
     exact⟨hm,hx,hb.1.1.2,.inl ⟨hb.1.2,hb.2⟩⟩
    ·split at h
     ·rename_i hb
      cases h
      simp only[Bool.and_eq_true]at hb
      exact⟨hm,hx,hb.1.2,.inr ⟨_,takeWhile_pure xs,hb.2⟩⟩
     ·unfold trTree at h
      simp only at h
      split at h
      ·rename_i hb
       obtain⟨ys,hy,rfl⟩:=Option.map_eq_some_iff.1 h
       simp only[Bool.and_eq_true,decide_eq_true_eq]at hb
       obtain⟨⟨⟨b1,b2⟩,b3⟩,b4⟩:=hb
       exact⟨hm,b1,b2,_,b3,hy,b4⟩
      ·cases h
  ·cases h
 |rd,.seq a b,x,h=>by
  simp only[trC]at h
  split at h
  ·rename_i x y h1 h2;cases h;exact⟨trC_Tr rd a x h1,trC_Tr rd b y h2⟩
  ·cases h
 |rd,.cond c a b,x,h=>by
  simp only[trC]at h
  split at h
  ·rename_i x y h1 h2;cases h;exact⟨rfl,trC_Tr rd a x h1,trC_Tr rd b y h2⟩
  ·cases h
 |rd,.block id a,x,h=>by
  simp only[trC]at h
  split at h
  ·rename_i x h1;cases h;exact⟨rfl,trC_Tr rd a x h1⟩
  ·cases h
 |rd,.loop a,x,h=>by
  simp only[trC]at h
  split at h
  ·rename_i x h1;cases h;exact trC_Tr rd a x h1
  ·cases h
 |rd,.exit id,x,h=>by cases h;rfl
 |rd,.rangeFunc g ps a b,x,h=>by
  simp only[trC]at h
  split at h
  ·rename_i hp
   split at h
   ·rename_i x y h1 h2
    cases h
    refine⟨rfl,by simp,fun t ht=>?_,trC_Tr true a x h1,trC_Tr true b y h2⟩
    rw[Array.all_eq_true']at hp
    exact of_decide_eq_true (hp t (by simpa using ht))
   ·cases h
  ·cases h
 |rd,.scope ..,x,h=>by cases h
 |rd,.label ..,x,h=>by cases h
 |rd,.goto ..,x,h=>by cases h
 |rd,.refuse ..,x,h=>by cases h
inductive XR where
 |t (t:Nat)
 |c (a:Nat)
 |cN (a n:Nat)
 deriving Inhabited
def trR (P:Program):ResultVar→Option XR
 |.tmp t=>some (.t t)
 |.cell a t=>match P.underlying t with
  |some d=>if aggD d then(P.info? t).map fun i=>.cN a i.size else some (.c a)
  |none=>none
def resX (r:XR) (ρ:Env) (w:World):Option Value:=match r with
 |.t t=>some (ρ t)
 |.c a=>cellO w (ρ a)
 |.cN a n=>cellsO w n (ρ a)
def tupO (vs:Option (List Value)):Option Value:=match vs with|some vs=>some (.tuple ⟨vs⟩)|none=>none
def consO (v:Option Value) (vs:Option (List Value)):Option (List Value):=match v,vs with|some v,some vs=>some (v::vs)|_,_=>none
def resL:List XR→Env→World→Option (List Value)
 | [],_,_=>some []
 |r::rs,ρ,w=>consO (resX r ρ w) (resL rs ρ w)
def retO (rs:List XR) (ρ:Env) (w:World):Option Value:=match rs with
 | [r]=>resX r ρ w
 |rs=>tupO (resL rs ρ w)
structure FX where
 F:FuncId
 fn:Func
 rs:List XR
 ro:Option Nat:=none
 ds:List Deferred:=[]
def FX.ok (P:Program) (f:FX):Prop:=P.funcs[f.F]? =some f.fn∧f.fn.results.toList.mapM (trR P)=some f.rs
inductive XI where
 |code (x:XCode)
 |blk (id:Nat)
 |lp (x:XCode)
 |bgn
def RelI (P:Program) (n:Nat) (i:Item) (x:XI):Prop:=match i,x with
 |.code c,.code x=>Tr P n c x
 |.inBlock i,.blk j=>i=j
 |.inLoop c,.lp x=>Tr P n c x
 |.beginRound,.bgn=>True
 |_,_=>False
def RelK (P:Program) (n:Nat):List Item→List XI→Prop
 | [],[]=>True
 |i::k,x::kx=>RelI P n i x∧RelK P n k kx
 |_,_=>False
def base (F:FuncId) (ro:Option Nat):Frame:= {(default:Frame)with fn:=F,kind:=.normal,roundOf:=ro}
def Fin (P:Program) (f:FX) (R:Value→World→Prop) (m:Machine) (cs:List Frame):Prop:=match f.ro,cs with
 |none,cs=> ∃v w' fr,R v w'∧Steps P m (lone fr cs w')∧fr.fn=f.F∧fr.leaving P w' (.returned v)
 |some _,c::cs=> ∃v w',R v w'∧Steps P m (lone (c.finish v) cs w')
 |some _,[]=>True
theorem Fin.of_steps {P:Program} {f:FX} {R:Value→World→Prop} {m m':Machine} {cs:List Frame} (h:Steps P m m') (k:Fin P f R m' cs):Fin P f R m cs:=by
 unfold Fin at*
 split at k<;>rename_i h1
 ·obtain⟨v,w',fr,h1,h2,h3⟩:=k;exact⟨v,w',fr,h1,h.trans h2,h3⟩
 ·obtain⟨v,w',h1,h2⟩:=k;exact⟨v,w',h1,h.trans h2⟩
 ·trivial
def Run (P:Program) (f:FX) (kx:List XI) (ρ:Env) (w:World) (R:Value→World→Prop):Prop:=
 f.ok P→ ∀(k:List Item) (a:Act) (cs:List Frame),RelK P f.fn.ntmps k kx→Sim f.fn.ntmps f.ds ρ a→Fin P f R (lone ((base f.F f.ro).atR a k) cs w) cs
section
variable {P:Program} {f:FX} {kx:List XI} {ρ:Env} {w:World} {R:Value→World→Prop}
theorem relK_cons {n:Nat} {k:List Item} {x:XI} (h:RelK P n k (x::kx)): ∃i k',k=i::k'∧RelI P n i x∧RelK P n k' kx:=by
 cases k with
 |nil=>exact h.elim
 |cons i k'=>exact⟨i,k',rfl,h.1,h.2⟩
theorem relK_code {n:Nat} {k:List Item} {x:XCode} (h:RelK P n k (.code x::kx)): ∃c k',k=.code c::k'∧Tr P n c x∧RelK P n k' kx:=by
 obtain⟨i,k',rfl,hi,hk⟩:=relK_cons h
 cases i<;>simp only[RelI]at hi
 exact⟨_,k',rfl,hi,hk⟩
theorem relK_blk {n id:Nat} {k:List Item} (h:RelK P n k (.blk id::kx)): ∃k',k=.inBlock id::k'∧RelK P n k' kx:=by
 obtain⟨i,k',rfl,hi,hk⟩:=relK_cons h
 cases i<;>simp only[RelI]at hi
 subst hi
 exact⟨k',rfl,hk⟩
theorem relK_lp {n:Nat} {k:List Item} {x:XCode} (h:RelK P n k (.lp x::kx)): ∃c k',k=.inLoop c::k'∧Tr P n c x∧RelK P n k' kx:=by
 obtain⟨i,k',rfl,hi,hk⟩:=relK_cons h
 cases i<;>simp only[RelI]at hi
 exact⟨_,k',rfl,hi,hk⟩
theorem run_seq {a b:XCode} (h:Run P f (.code a::.code b::kx) ρ w R):Run P f (.code (.seq a b)::kx) ρ w R:=by
 intro hf k ac cs hk hs
 obtain⟨c,k',rfl,hc,hk'⟩:=relK_code hk
 cases c<;>simp only[Tr]at hc
 case seq c1 c2=>exact Fin.of_steps (.one stepR_seq) (h hf (.code c1::.code c2::k') ac cs ⟨hc.1,hc.2,hk'⟩ hs)
theorem run_skip (h:Run P f kx ρ w R):Run P f (.code .skip::kx) ρ w R:=by
 intro hf k ac cs hk hs
 obtain⟨c,k',rfl,hc,hk'⟩:=relK_code hk
 cases c<;>simp only[Tr]at hc
 exact Fin.of_steps (.one stepR_skip) (h hf k' ac cs hk' hs)
theorem run_cond {c:Operand} {a b:XCode} {t:Bool} (hc:ev ρ c=.bool t) (h1:t=true→Run P f (.code a::kx) ρ w R) (h0:t=false→Run P f (.code b::kx) ρ w R):
  Run P f (.code (.cond c a b)::kx) ρ w R:=by
 intro hf k ac cs hk hs
 obtain⟨c',k',rfl,hx,hk'⟩:=relK_code hk
 cases c'<;>simp only[Tr]at hx
 case cond c' c1 c2=>
  obtain⟨rfl,hx1,hx2⟩:=hx
  have he:ac.eval c'=.bool t:=by rw[hs.eval];exact hc
  refine Fin.of_steps (.one (stepR_cond he)) ?_
  cases t with
  |true=>exact h1 rfl hf (.code c1::k') ac cs ⟨hx1,hk'⟩ hs
  |false=>exact h0 rfl hf (.code c2::k') ac cs ⟨hx2,hk'⟩ hs
theorem run_block {id:Nat} {a:XCode} (h:Run P f (.code a::.blk id::kx) ρ w R):Run P f (.code (.block id a)::kx) ρ w R:=by
 intro hf k ac cs hk hs
 obtain⟨c,k',rfl,hc,hk'⟩:=relK_code hk
 cases c<;>simp only[Tr]at hc
 case block i c=>
  obtain⟨rfl,hc⟩:=hc
  exact Fin.of_steps (.one stepR_block) (h hf (.code c::.inBlock i::k') ac cs ⟨hc,rfl,hk'⟩ hs)
theorem run_blk {id:Nat} (h:Run P f kx ρ w R):Run P f (.blk id::kx) ρ w R:=by
 intro hf k ac cs hk hs
 obtain⟨k',rfl,hk'⟩:=relK_blk hk
 exact Fin.of_steps (.one stepR_inBlock) (h hf k' ac cs hk' hs)
def exitX (id:Nat):List XI→Option (List XI)
 | []=>none
 |.blk i::k=>if i=id then some k else exitX id k
 |_::k=>exitX id k
theorem exitX_spec {n id:Nat}: ∀ {kx kx':List XI} {k:List Item},exitX id kx=some kx'→RelK P n k kx→ ∃k',exitTo id k=some k'∧RelK P n k' kx'
 | [],_,_,h,_=>by cases h
 |.blk i::kx,kx',k,h,hk=>by
  obtain⟨k',rfl,hk'⟩:=relK_blk hk
  simp only[exitX]at h
  split at h
  ·rename_i he
   cases h
   exact⟨k',by simp[exitTo,he],hk'⟩
  ·rename_i he
   obtain⟨k2,h2,h3⟩:=exitX_spec h hk'
   refine⟨k2,?_,h3⟩
   simp only[exitTo,beq_iff_eq,if_neg he];exact h2
 |.code x::kx,kx',k,h,hk=>by
  obtain⟨c,k',rfl,_,hk'⟩:=relK_code hk
  obtain⟨k2,h2,h3⟩:=exitX_spec (by simpa[exitX]using h) hk'
  exact⟨k2,by simpa[exitTo]using h2,h3⟩
 |.lp x::kx,kx',k,h,hk=>by
  obtain⟨c,k',rfl,_,hk'⟩:=relK_lp hk
  obtain⟨k2,h2,h3⟩:=exitX_spec (by simpa[exitX]using h) hk'
  exact⟨k2,by simpa[exitTo]using h2,h3⟩
 |.bgn::kx,kx',k,h,hk=>by
  obtain⟨i,k',rfl,hi,hk'⟩:=relK_cons hk
  cases i<;>simp only[RelI]at hi
  obtain⟨k2,h2,h3⟩:=exitX_spec (by simpa[exitX]using h) hk'
  exact⟨k2,by simpa[exitTo]using h2,h3⟩
theorem run_exit {id:Nat} {kx':List XI} (he:exitX id kx=some kx') (h:Run P f kx' ρ w R):Run P f (.code (.exit id)::kx) ρ w R:=by
 intro hf k ac cs hk hs
 obtain⟨c,k',rfl,hc,hk'⟩:=relK_code hk
 cases c<;>simp only[Tr]at hc
 subst hc
 obtain⟨k2,h2,h3⟩:=exitX_spec he hk'
 exact Fin.of_steps (.one (stepR_exit h2)) (h hf k2 ac cs h3 hs)
theorem run_lp {x:XCode} (h:Run P f (.code x::.lp x::kx) ρ w R):Run P f (.lp x::kx) ρ w R:=by
 intro hf k ac cs hk hs
 obtain⟨c,k',rfl,hc,hk'⟩:=relK_lp hk
 exact Fin.of_steps (.one stepR_inLoop) (h hf (.code c::.inLoop c::k') ac cs ⟨hc,hc,hk'⟩ hs)
theorem run_loop1 {x:XCode} (h:Run P f (.code x::.lp x::kx) ρ w R):Run P f (.code (.loop x)::kx) ρ w R:=by
 intro hf k ac cs hk hs
 obtain⟨c,k',rfl,hc,hk'⟩:=relK_code hk
 cases c<;>simp only[Tr]at hc
 exact Fin.of_steps (.one stepR_loop) (h hf _ ac cs ⟨hc,hc,hk'⟩ hs)
theorem fin_of_wp {c:Code} {C:Env→World→Prop} {k':List Item} {a:Act} {cs:List Frame} {n:Nat} (h:c.wpIn (FR f.ro) 0 P (QC n f.ds C) a w)
  (hn: ∀ρ' a' w',Sim n f.ds ρ' a'→C ρ' w'→Fin P f R (lone ((base f.F f.ro).atR a' k') cs w') cs):Fin P f R (lone ((base f.F f.ro).atR a (.code c::k')) cs w) cs:=by
 obtain⟨e,a',w',⟨rfl,ρ',hs',hc'⟩,harr⟩:=h (base f.F f.ro) k' cs rfl trivial (fun _ h=>by simp[FR,Fence.wide]at h)
 exact Fin.of_steps (StepsIn.steps harr) (hn ρ' a' w' hs' hc')
theorem run_reg {xs:List XO} (h:VO P xs ρ w (fun ρ w=>Run P f kx ρ w R)):Run P f (.code (.reg xs)::kx) ρ w R:=by
 intro hf k ac cs hk hs
 obtain⟨c,k',rfl,hc,hk'⟩:=relK_code hk
 cases c<;>try(exact hc.elim)
 case region i ops draw=>
  cases draw with
  |true=>exact hc.elim
  |false=>
  have hc:ops.toList.mapM (trO P f.fn.ntmps ops)=some xs:=hc
  exact fin_of_wp (wp_of_plain hc hs h) fun ρ' a' w' hs' hr=>hr hf k' a' cs hk' hs'
theorem run_drw {xs:List XO} (h:VO P xs ρ w.drew (fun ρ w=>Run P f kx ρ w R)) (hro:f.ro=none:=by rfl):Run P f (.code (.drw xs)::kx) ρ w R:=by
 intro hf k ac cs hk hs
 obtain⟨c,k',rfl,hc,hk'⟩:=relK_code hk
 cases c<;>try(exact hc.elim)
 case region i ops draw=>
  cases draw with
  |false=>exact hc.elim
  |true=>
  obtain⟨hm,hx,hn,hb⟩:=hc
  rcases hb with⟨h1,h2⟩|⟨m,h1,h2⟩
  ·have h3:=wp_of_still (m:=0) (id:=i) hm h2 h1 hx hs h
   rw[←hro]at h3
   exact fin_of_wp h3 fun ρ' a' w' hs' hr=>hr hf k' a' cs hk' hs'
  ·have hn':noVs (xs.drop m)=true:=by
    unfold noVs at hn⊢
    rw[List.all_eq_true]at hn⊢
    exact fun x hx=>hn x (List.mem_of_mem_drop hx)
   have h3:=wp_of_tail (m:=0) (id:=i) hm h2 h1 hn' hx hs h
   rw[←hro]at h3
   exact fin_of_wp h3 fun ρ' a' w' hs' hr=>hr hf k' a' cs hk' hs'
theorem run_drt {t:XT} (L:List Nat) (h:VT P L w.drew t ρ w.drew (fun ρ w=>Run P f kx ρ w R)):Run P f (.code (.drt t)::kx) ρ w R:=by
 intro hf k ac cs hk hs
 obtain⟨c,k',rfl,hc,hk'⟩:=relK_code hk
 cases c<;>try(exact hc.elim)
 case region i ops draw=>
  cases draw with
  |false=>exact hc.elim
  |true=>
  obtain⟨hm,hsel,hd,it,hdep,hx,ho⟩:=hc
  exact fin_of_wp (wp_of_tree hm hsel hd hdep hx ho hs h) fun ρ' a' w' hs' hr=>hr hf k' a' cs hk' hs'
def semR (tmps:Array Value):ResultVar→Sem Value
 |.tmp t=>pure (tmps.getD t undef)
 |.cell ad t=>do loadVar t (←asAddr (tmps.getD ad undef))
theorem results_semR (fn:Func) (tmps:Array Value):results fn tmps=(do let vs←fn.results.mapM (semR tmps);pure (if h:vs.size=1 then vs[0]else .tuple vs)):=by
 have e:(fun(r:ResultVar)=>(match r with|.tmp t=>pure (tmps.getD t undef)|.cell ad t=>do loadVar t (←asAddr (tmps.getD ad undef)):Sem Value))=semR tmps:=by
  funext r;cases r<;>rfl
 rw[←e]
 rfl
theorem resX_run {n:Nat} {ds:List Deferred} {r:ResultVar} {x:XR} (h:trR P r=some x) {a:Act} (hs:Sim n ds ρ a) {v:Value} (hv:resX x ρ w=some v):
  (semR a.tmps r).run P w=.ok v w:=by
 unfold semR
 cases r with
 |tmp t=>
  cases h
  simp only[resX,Option.some.injEq]at hv
  subst hv
  simp[hs.get t]
 |cell ad t=>
  simp only[trR]at h
  split at h
  ·rename_i d hd
   split at h
   ·rename_i hag
    obtain⟨i,hi,rfl⟩:=Option.map_eq_some_iff.1 h
    simp only[resX,cellsO]at hv
    split at hv
    ·rename_i p e
     unfold aggO at hv
     split at hv
     ·rename_i xs hx
      cases hv
      simp only[Sem.run_bind,hs.get ad,e,asAddr,Sem.run_pure,Result.andThen_ok,loadVar,run_isAgg hd,hag,if_true,run_size hi,run_loadCells hx]
     ·cases hv
    ·cases hv
   ·rename_i hag
    cases h
    simp only[resX,cellO]at hv
    split at hv
    ·rename_i p e
     simp only[Sem.run_bind,hs.get ad,e,asAddr,Sem.run_pure,Result.andThen_ok,loadVar,run_isAgg hd,Bool.not_eq_true _▸hag,Bool.false_eq_true,if_false,run_load_some hv]
    ·cases hv
  ·cases h
theorem resL_run {n:Nat} {ds:List Deferred} {a:Act} (hs:Sim n ds ρ a): ∀(rs:List ResultVar) (xs:List XR),rs.mapM (trR P)=some xs→ ∀(vs:List Value),resL xs ρ w=some vs→
  (rs.mapM (semR a.tmps)).run P w=.ok vs w
 | [],xs,h,vs,hv=>by
  simp at h;subst h
  simp only[resL,Option.some.injEq]at hv
  subst hv
  simp
 |r::rs,xs,h,vs,hv=>by
  simp only[List.mapM_cons,Option.bind_eq_bind,Option.bind_eq_some_iff,Option.pure_def,Option.some.injEq]at h
  obtain⟨x,hx,ys,hy,rfl⟩:=h
  simp only[resL]at hv
  unfold consO at hv
  split at hv
  ·rename_i u us h1 h2
   cases hv
   rw[List.mapM_cons,Sem.run_bind,resX_run hx hs h1]
   simp only[Result.andThen_ok,Sem.run_bind,Sem.run_pure]
   rw[resL_run hs rs ys hy us h2]
   rfl
  ·cases hv
theorem retO_run {n:Nat} {ds:List Deferred} {a:Act} (hs:Sim n ds ρ a) {fn:Func} {xs:List XR} (h:fn.results.toList.mapM (trR P)=some xs) {v:Value} (hv:retO xs ρ w=some v):(results fn a.tmps).run P w=.ok v w:=by
 rw[results_semR,Array.mapM_eq_mapM_toList]
 have key: ∀vs,resL xs ρ w=some vs→(if h:vs.toArray.size=1 then vs.toArray[0]else .tuple vs.toArray)=v→
   (do let us←(List.toArray<$>fn.results.toList.mapM (semR a.tmps));pure (if h:us.size=1 then us[0]else .tuple us):Sem Value).run P w=.ok v w:=by
  intro vs h1 h2
  rw[Sem.run_bind,Sem.run_map,resL_run hs _ _ h vs h1]
  simp only[Result.andThen_ok,Sem.run_pure]
  rw[h2]
 unfold retO at hv
 split at hv
 ·rename_i r
  refine key [v] ?_ rfl
  simp only[resL,hv,consO]
 ·rename_i h1
  unfold tupO at hv
  split at hv
  ·rename_i vs h2
   cases hv
   refine key vs h2 ?_
   have hne:vs.length≠1:=by
    intro hl
    match xs,vs,hl,h1,h2 with
    | [],[],hl,_,_=>cases hl
    | [],_::_,_,_,h2=>simp[resL]at h2
    | [r],_,_,h1,_=>exact h1 r rfl
    |r::s::xs,vs,hl,_,h2=>
     simp only[resL]at h2
     unfold consO at h2
     split at h2
     ·rename_i h3
      split at h3
      ·cases h3;cases h2;simp at hl
      ·cases h3
     ·cases h2
   rw[dif_neg (by simpa using hne)]
  ·cases hv
theorem fin_ret {m:Machine} {a:Act} {todo:List Item} {cs:List Frame} (hf:f.ok P) (hro:f.ro=none) (hds:f.ds=[]) (hs:Sim f.fn.ntmps f.ds ρ a) {v:Value} (hv:retO f.rs ρ w=some v) (hR:R v w)
  (hst:Steps P m (lone {(base f.F f.ro).atR a todo with mode:=.returning} cs w)):Fin P f R m cs:=by
 unfold Fin
 rw[hro]
 exact⟨v,w,_,hR,hst,rfl,rfl,hs.defers.trans hds,rfl,f.fn,hf.1,retO_run hs hf.2 hv⟩
theorem run_ret {v:Value} (hro:f.ro=none) (hds:f.ds=[]) (hv:retO f.rs ρ w=some v) (hR:R v w):Run P f (.code .ret::kx) ρ w R:=by
 intro hf k ac cs hk hs
 obtain⟨c,k',rfl,hc,hk'⟩:=relK_code hk
 cases c<;>simp only[Tr]at hc
 exact fin_ret hf hro hds hs hv hR (.one (stepR_ret hro))
theorem run_end {v:Value} (hro:f.ro=none) (hds:f.ds=[]) (hv:retO f.rs ρ w=some v) (hR:R v w):Run P f [] ρ w R:=by
 intro hf k ac cs hk hs
 cases k with
 |cons i k=>exact hk.elim
 |nil=>exact fin_ret hf hro hds hs hv hR (.one (stepR_end hro))
theorem Only.putObj (w:World) (l:Nat) (o:Obj):Only [l] w (w.putObj l o):=
 ⟨rfl,rfl,rfl,by simp,fun k _ hn=>by simp only[List.mem_singleton]at hn;exact World.putObj_heap_other hn⟩
theorem run_retM {D:Nat} (hro:f.ro=none) (hds:f.ds=[{target:=.collected D,args:=#[]}]) (hD:w.heap[D]? =some (.deferred (some [])))
  (h: ∀w',w'.heap.size=w.heap.size→Only [D] w w'→ ∃v,retO f.rs ρ w'=some v∧R v w'):Run P f (.code .ret::kx) ρ w R:=by
 intro hf k ac cs hk hs
 obtain⟨c,k',rfl,hc,hk'⟩:=relK_code hk
 cases c<;>simp only[Tr]at hc
 obtain⟨v,hv,hR⟩:=h (w.putObj D (.deferred none)) (by simp) (Only.putObj w D _)
 have s1:Steps P (lone ((base f.F f.ro).atR ac (.code .ret::k')) cs w) (lone {(base f.F f.ro).atR ac (.code .ret::k')with mode:=.returning} cs w):=.one (stepR_ret hro)
 have hd:({(base f.F f.ro).atR ac (.code .ret::k')with mode:=.returning}:Frame).defers= {target:=.collected D,args:=#[]}::[]:=by
  show ac.defers=_
  rw[hs.defers,hds]
 have s2:=step_collected (P:=P) (cs:=cs) (w:=w) (fr:= {(base f.F f.ro).atR ac (.code .ret::k')with mode:=.returning}) (by simp) hd rfl (run_takeDeferred hD)
 refine Fin.of_steps (s1.trans (.one s2)) ?_
 unfold Fin
 rw[hro]
 exact⟨v,w.putObj D (.deferred none),{(base f.F none).atR ac (.code .ret::k')with mode:=.returning,defers:=[]},hR,.refl _ _,rfl,rfl,rfl,rfl,f.fn,hf.1,retO_run hs hf.2 hv⟩
def E0:Env:=fun _=>undef
def initE:List Value→Nat→Env
 | [],_=>E0
 |v::vs,i=>put (initE vs (i+1)) i v
theorem initE_at (vs:List Value): ∀(i t:Nat),i≤t→initE vs i t=vs.getD (t-i) undef:=by
 induction vs with
 |nil=>intro i t _;simp[initE,E0]
 |cons v vs ih=>
  intro i t h
  simp only[initE,put_at]
  by_cases e:t=i
  ·subst e;simp
  ·rw[if_neg e,ih (i+1) t (by omega),show t-i=(t-(i+1))+1 by omega];simp
theorem run_calls {c:Code} {x:XCode} {args:List Value} (hf:f.ok P) (hro:f.ro=none) (hds:f.ds=[]) (hb:f.fn.body=some c) (hx:trC P f.fn.ntmps false c=some x) (hn:args.length≤f.fn.ntmps)
  (h:Run P f [.code x] (initE args 0) w R):Cs P f.F args w R:=by
 intro cs
 have henter:Frame.enter P f.F ⟨args⟩ .normal=(base f.F f.ro).atR {tmps:=⟨args⟩++Array.replicate (f.fn.ntmps-args.length) undef,defers:=[]} [.code c]:=by
  simp[Frame.enter,Frame.atR,hf.1,hb,base,hro]
 have hs:Sim f.fn.ntmps f.ds (initE args 0) {tmps:=⟨args⟩++Array.replicate (f.fn.ntmps-args.length) undef,defers:=[]}:=by
  refine⟨hds.symm,by simp;omega,fun t=>?_⟩
  rw[initE_at args 0 t (Nat.zero_le _)]
  simp only[Nat.sub_zero,Array.getD_eq_getD_getElem?,List.getD_eq_getElem?_getD]
  rw[Array.getElem?_append]
  by_cases ht:t<args.length
  ·simp[ht]
  ·rw[if_neg (by simpa using ht),List.getElem?_eq_none (by omega)]
   by_cases h2:t-args.length<f.fn.ntmps-args.length
   ·simp[h2]
   ·simp[h2]
 have hfin:=h hf [.code c] _ cs ⟨trC_Tr false c x hx,trivial⟩ hs
 unfold Fin at hfin
 rw[hro]at hfin
 obtain⟨v,w',fr,h1,h2,h3,h4⟩:=hfin
 rw[hro]at henter
 rw[←henter]at h2
 exact⟨.returned v,w',fr,⟨v,rfl,h1⟩,h2,h3,h4⟩
def LoopAt (P:Program) (f:FX) (l:Nat) (w:World) (ρ:Env) (ps:List Nat) (xa xb:XCode) (st:LoopState) (D:Nat):Prop:=
 ∃r:Loop,w.heap[l]? =some (.loop r)∧r.state=st∧r.pending=none∧r.fn=f.F∧r.params=⟨ps⟩∧(∀t,t∈ps→t<f.fn.ntmps)∧r.defers=D∧Tr P f.fn.ntmps r.assign xa∧Tr P f.fn.ntmps r.body xb∧Sim f.fn.ntmps [] ρ {tmps:=r.tmps,defers:=[]}
theorem LoopAt.heap {l:Nat} {w w':World} {ps:List Nat} {xa xb:XCode} {st:LoopState} {D:Nat} (h:LoopAt P f l w ρ ps xa xb st D) (e:w'.heap[l]? =w.heap[l]?):LoopAt P f l w' ρ ps xa xb st D:=by
 obtain⟨r,h1,h2⟩:=h;exact⟨r,e.trans h1,h2⟩
theorem LoopAt.lt {l:Nat} {w:World} {ps:List Nat} {xa xb:XCode} {st:LoopState} {D:Nat} (h:LoopAt P f l w ρ ps xa xb st D):l<w.heap.size:=by
 obtain⟨r,h1,h2⟩:=h;exact(Array.getElem?_eq_some_iff.1 h1).1
theorem LoopAt.keep {S:List Nat} {l:Nat} {w w':World} {ps:List Nat} {xa xb:XCode} {st:LoopState} {D:Nat} (h:LoopAt P f l w ρ ps xa xb st D) (k:Only S w w') (hl:l∉S):LoopAt P f l w' ρ ps xa xb st D:=
 h.heap (k.block l h.lt hl)
def putL (ρ:Env):List Nat→List Value→Env
 |p::ps,v::vs=>putL (put ρ p v) ps vs
 |_,_=>ρ
theorem putL_fold {n:Nat}: ∀(ps:List Nat) (vs:List Value) (ρ:Env) (tmps:Array Value),(∀t,t∈ps→t<n)→ps.length=vs.length→Sim n [] ρ {tmps:=tmps,defers:=[]}→
  Sim n [] (putL ρ ps vs) {tmps:=(ps.zip vs).foldl (fun tmps (t,a)=>tmps.setIfInBounds t a) tmps,defers:=[]}
 | [],[],ρ,tmps,_,_,h=>h
 |p::ps,v::vs,ρ,tmps,hp,hl,h=>by
  have:=h.put (hp p (by simp)) v
  exact putL_fold ps vs (put ρ p v) (tmps.setIfInBounds p v) (fun t ht=>hp t (by simp[ht])) (by simpa using hl) this
 | [],_::_,_,_,_,h,_=>by simp at h
 |_::_,[],_,_,_,h,_=>by simp at h
theorem run_bgn {l:Nat} {f₀:FX} {ρ₀:Env} {ps:List Nat} {xa xb:XCode} {D:Nat} (hro:f.ro=some l) (hl:LoopAt P f₀ l w ρ₀ ps xa xb .ready D)
  (h: ∀w',w'.heap.size=w.heap.size→Only [l] w w'→LoopAt P f₀ l w' ρ₀ ps xa xb .busy D→Run P f kx ρ w' R):Run P f (.bgn::kx) ρ w R:=by
 intro hf k ac cs hk hs
 obtain⟨i,k',rfl,hi,hk'⟩:=relK_cons hk
 cases i<;>simp only[RelI]at hi
 obtain⟨r,h1,h2,h3,h4,h5,h6,h7,h8,h9,h10⟩:=hl
 have hlt:=(Array.getElem?_eq_some_iff.1 h1).1
 refine Fin.of_steps (.one (stepR_beginRound (l:=l) hro (run_beginRound h1 h2))) ?_
 exact h (w.putObj l (.loop {r with state:=.busy})) (by simp) (Only.putObj w l _) ⟨{r with state:=.busy},World.putObj_heap_same hlt,rfl,h3,h4,h5,h6,h7,h8,h9,h10⟩ hf k' ac cs hk' hs
theorem run_endR {l:Nat} {f₀:FX} {ρ₀:Env} {ps:List Nat} {xa xb:XCode} {D:Nat} (hro:f.ro=some l) (hl:LoopAt P f₀ l w ρ₀ ps xa xb .busy D)
  (h: ∀w',w'.heap.size=w.heap.size→Only [l] w w'→LoopAt P f₀ l w' ρ₀ ps xa xb .ready D→R (.bool true) w'):Run P f [] ρ w R:=by
 intro hf k ac cs hk hs
 cases k with
 |cons i k=>exact hk.elim
 |nil=>
  obtain⟨r,h1,h2,h3,h4,h5,h6,h7,h8,h9,h10⟩:=hl
  have hlt:=(Array.getElem?_eq_some_iff.1 h1).1
  unfold Fin
  rw[hro]
  cases cs with
  |nil=>trivial
  |cons c cs=>
   refine⟨.bool true,w.putObj l (.loop {r with state:=.ready,pending:=none}),h _ (by simp) (Only.putObj w l _) ⟨{r with state:=.ready,pending:=none},World.putObj_heap_same hlt,rfl,rfl,h4,h5,h6,h7,h8,h9,h10⟩,?_⟩
   exact .one (stepR_round_end (b:=base f.F (some l)) (a:=ac) (v:=.bool true) rfl rfl (run_endRound none h1))
theorem ys_run {l:Nat} {ps:List Nat} {xa xb:XCode} {D:Nat} {args:List Value} {K:Value→World→Prop} (hf:f.ok P) (hl:LoopAt P f l w ρ ps xa xb .ready D) (hn:ps.length=args.length)
  (h:Run P {f with ro:=some l,ds:=[]} [.code xa,.bgn,.code xb] (putL ρ ps args) w K):Ys P l args w K:=by
 obtain⟨r,h1,h2,h3,h4,h5,h6,h7,h8,h9,h10⟩:=hl
 have hsz:(⟨args⟩:Array Value).size=r.params.size:=by rw[h5];simp[hn]
 refine⟨r.fn,(r.params.zip ⟨args⟩).foldl (fun tmps (t,a)=>tmps.setIfInBounds t a) r.tmps,r.assign,r.body,run_yield h1 hsz,fun c cs=>?_⟩
 have hs:=putL_fold ps args ρ r.tmps h6 hn h10
 have e:(r.params.zip ⟨args⟩).foldl (fun(tmps:Array Value) (x:Tmp×Value)=>tmps.setIfInBounds x.1 x.2) r.tmps=(ps.zip args).foldl (fun tmps (t,a)=>tmps.setIfInBounds t a) r.tmps:=by
  rw[h5,←Array.foldl_toList,Array.toList_zip]
 have:=h hf [.code r.assign,.beginRound,.code r.body] {tmps:=(ps.zip args).foldl (fun tmps (t,a)=>tmps.setIfInBounds t a) r.tmps,defers:=[]} (c::cs) ⟨h8,trivial,h9,trivial⟩ hs
 obtain⟨v,w',hK,hst⟩:=this
 refine⟨v,w',hK,?_⟩
 have e2:Frame.round l r.fn ((r.params.zip ⟨args⟩).foldl (fun(tmps:Array Value) (x:Tmp×Value)=>tmps.setIfInBounds x.1 x.2) r.tmps) r.assign r.body .normal=
   (base f.F (some l)).atR {tmps:=(ps.zip args).foldl (fun tmps (t,a)=>tmps.setIfInBounds t a) r.tmps,defers:=[]} [.code r.assign,.beginRound,.code r.body]:=by
  rw[e,h4];simp[Frame.round,Frame.atR,base]
 rw[←e2]at hst
 exact hst
theorem run_rng {g:Operand} {ps:List Nat} {xa xb:XCode} {it:Nat} {caps:List Value} (hro:f.ro=none) (hds:f.ds=[]) (hg:ev ρ g=.func (.func it) #[] ⟨caps⟩) (hok:okF P it=true)
  (h: ∀D l w1,D=w.heap.size→l=w.heap.size+1→w1.heap.size=w.heap.size+2→Only [] w w1→w1.heap[D]? =some (.deferred (some []))→LoopAt P f l w1 ρ ps xa xb .ready D→
   Cs P it (.func (.yield l) #[] #[]::caps) w1 fun _ w2=>LoopAt P f l w2 ρ ps xa xb .ready D∧
    ∀w3,w3.heap.size=w2.heap.size→Only [l] w2 w3→Run P {f with ds:=[{target:=.collected D,args:=#[]}]} kx ρ w3 R):
  Run P f (.code (.rng g ps xa xb)::kx) ρ w R:=by
 intro hf k ac cs hk hs
 obtain⟨c,k',rfl,hc,hk'⟩:=relK_code hk
 cases c<;>simp only[Tr]at hc
 case rangeFunc g' ps' ca cb=>
  obtain⟨rfl,rfl,hlt,ha,hb⟩:=hc
  have hs':Sim f.fn.ntmps [] ρ {tmps:=ac.tmps,defers:=[]}:=⟨rfl,hs.size,hs.get⟩
  let w1:=(w.alloc (.deferred (some []))).alloc (.loop {state:=.ready,pending:=none,fn:=f.F,tmps:=ac.tmps,params:=⟨ps⟩,assign:=ca,body:=cb,defers:=w.heap.size})
  have hD:w1.heap[w.heap.size]? =some (.deferred (some [])):=by
   show((w.heap.push _).push _)[w.heap.size]? =_
   rw[Array.getElem?_push,if_neg (by simp),Array.getElem?_push,if_pos rfl]
  have hl:LoopAt P f (w.heap.size+1) w1 ρ ps xa xb .ready w.heap.size:=by
   refine⟨{state:=.ready,pending:=none,fn:=f.F,tmps:=ac.tmps,params:=⟨ps⟩,assign:=ca,body:=cb,defers:=w.heap.size},?_,rfl,rfl,rfl,rfl,hlt,rfl,ha,hb,hs'⟩
   show((w.heap.push _).push _)[w.heap.size+1]? =_
   rw[Array.getElem?_push,if_pos (by simp)]
  have hO:Only [] w w1:=(Only.alloc [] w _).nil (Only.alloc [] _ _)
  have hcall:=h w.heap.size (w.heap.size+1) w1 rfl rfl (by show((w.heap.push _).push _).size=_;simp) hO hD hl
  obtain⟨fn,hfn,hc1⟩: ∃fn,P.funcs[it]? =some fn∧(fn.name== "runtime.NumGoroutine")=false∧fn.body.isNone=false:=by
   unfold okF at hok
   split at hok
   ·rename_i fn hfn;simp only[Bool.and_eq_true,Bool.not_eq_true']at hok;exact⟨fn,hfn,hok⟩
   ·cases hok
  have hev:ac.eval g'=.func (.func it) #[] ⟨caps⟩:=by rw[hs.eval];exact hg
  have hres:(resolve ac.eval (rangeCall g' (w.heap.size+1)) 0).run P w1=.ok {target:=.fn (.func it) ⟨caps⟩,args:=#[.func (.yield (w.heap.size+1)) #[] #[]]} w1:=by
   have hc2:ac.eval (.const (.func (.yield (w.heap.size+1)) #[] #[]))=.func (.yield (w.heap.size+1)) #[] #[]:=rfl
   simp only[resolve,rangeCall,hev,Deferred.ofValue,Sem.run_bind,Sem.run_pure,Result.andThen_ok]
   simp[hc2]
  have hinv:(invoke (.fn (.func it) ⟨caps⟩) #[.func (.yield (w.heap.size+1)) #[] #[]]).run P w1=.ok (.enter it ⟨.func (.yield (w.heap.size+1)) #[] #[]::caps⟩) w1:=by
   simp only[invoke,callFunc,Sem.run_bind,run_program,Result.andThen_ok,hfn,hc1.1,hc1.2,Bool.false_eq_true,if_false,Sem.run_pure]
   simp
  have he:(Instr.enterLoop (base f.F f.ro).fn ac.tmps ⟨ps⟩ ca cb (base f.F f.ro).roundOf).run P w=.ok (w.heap.size+1,[{target:=.collected w.heap.size,args:=#[]}]) w1:=by
   have:(base f.F f.ro).roundOf=none:=hro
   rw[this]
   exact run_enterLoop_outer _ _ _ _ _
  have henter:=stepR_rangeFunc (P:=P) (b:=base f.F f.ro) (a:=ac) (k:=k') (cs:=cs) (w:=w) he hres hinv
  have had: [({target:=.collected w.heap.size,args:=#[]}:Deferred)]++ac.defers=[{target:=.collected w.heap.size,args:=#[]}]:=by rw[hs.defers,hds];rfl
  rw[had]at henter
  obtain⟨e,w2,fr,⟨v,rfl,hl2,hrun⟩,hsteps,hfn',hleave⟩:=hcall ((base f.F f.ro).atR {ac with defers:=[{target:=.collected w.heap.size,args:=#[]}]} (.inRangeFunc (w.heap.size+1)::k')::cs)
  obtain⟨r,h1,h2,h3,h4,h5,h6,h7,h8,h9,h10⟩:=hl2
  have sback:=step_leave_returned (c:=(base f.F f.ro).atR {ac with defers:=[{target:=.collected w.heap.size,args:=#[]}]} (.inRangeFunc (w.heap.size+1)::k')) (cs:=cs) hleave
  rw[finish_atR_inRangeFunc]at sback
  have send:=stepR_endRangeFunc (P:=P) (b:=base f.F f.ro) (a:= {ac with defers:=[{target:=.collected w.heap.size,args:=#[]}]}) (k:=k') (cs:=cs) (run_endLoop (P:=P) h1 (by rw[h2];simp))
  have e3:(r.pending.map Item.code).toList++k'=k':=by rw[h3];rfl
  rw[e3]at send
  have hlt2:=(Array.getElem?_eq_some_iff.1 h1).1
  refine Fin.of_steps (.head henter (Steps.trans hsteps (.head sback (.one send)))) ?_
  have hrun':=hrun (w2.putObj (w.heap.size+1) (.loop {r with state:=.exhausted})) (by simp) (Only.putObj _ _ _) hf k' {ac with defers:=[{target:=.collected w.heap.size,args:=#[]}]} cs hk' ⟨rfl,hs.size,hs.get⟩
  unfold Fin at hrun'⊢
  simp only[hro]at hrun'⊢
  exact hrun'
def ovr (W:List Nat) (g ρ:Env):Env:=fun t=>if W.contains t then g t else ρ t
theorem ovr_at (W:List Nat) (g ρ:Env) (t:Nat):ovr W g ρ t=if W.contains t then g t else ρ t:=Eq.trans rfl rfl
def Keeps (W:List Nat) (ρ ρ':Env):Prop:= ∀t,W.contains t=false→ρ' t=ρ t
theorem Keeps.refl (W:List Nat) (ρ:Env):Keeps W ρ ρ:=fun _ _=>rfl
theorem Keeps.ovr (W:List Nat) (g ρ:Env):Keeps W ρ (ovr W g ρ):=fun t ht=>by simp only[ovr_at,ht,Bool.false_eq_true,if_false]
theorem Keeps.put {W:List Nat} {ρ ρ':Env} (h:Keeps W ρ ρ') {d:Nat} (hd:W.contains d=true) (v:Value):Keeps W ρ (put ρ' d v):=fun t ht=>by
 rw[put_at,if_neg (by intro e;subst e;rw[hd]at ht;cases ht)];exact h t ht
theorem Keeps.ovr2 {W W':List Nat} {ρ ρ':Env} (h:Keeps W ρ ρ') (hs:W'.all (W.contains ·)=true) (g:Env):Keeps W ρ (Go.Proofs.YteiildhelefodaaGreat.ovr W' g ρ'):=fun t ht=>by
 rw[ovr_at]
 split
 ·rename_i hc
  have:=List.all_eq_true.1 hs t (by simpa using hc)
  rw[ht]at this;cases this
 ·exact h t ht
theorem Keeps.eq {W:List Nat} {ρ ρ':Env} (h:Keeps W ρ ρ'):ρ'=Go.Proofs.YteiildhelefodaaGreat.ovr W ρ' ρ:=by
 funext t
 rw[ovr_at]
 split
 ·rfl
 ·rename_i hc;exact h t (by simpa using hc)
theorem run_loop {x:XCode} (W:List Nat) (I:Env→World→Prop) (μ:Env→World→Nat) (h0:I ρ w)
  (step: ∀(g:Env) (w':World),I g w'→(∀ρ' w'',I ρ' w''→μ ρ' w''<μ g w'→(hk:Keeps W ρ ρ':=by(repeat(first|with_reducible exact k_1|with_reducible exact Keeps.ovr _ _ _|refine Keeps.put ?_ rfl _|exact k_1|exact Keeps.ovr _ _ _|refine Keeps.ovr2 ?_ rfl _)))→Run P f (.lp x::kx) ρ' w'' R)→Run P f (.code x::.lp x::kx) (ovr W g ρ) w' R):
  Run P f (.code (.loop x)::kx) ρ w R:=by
 have key: ∀(m:Nat) (g:Env) (w':World),μ g w'=m→I g w'→Run P f (.code x::.lp x::kx) (ovr W g ρ) w' R:=by
  intro m
  induction m using Nat.strongRecOn with
  |_ m ih=>
   intro g w' hm hI
   refine step g w' hI fun ρ' w'' hI' hlt hk=>?_
   rw[hk.eq]
   exact run_lp (ih (μ ρ' w'') (hm▸hlt) ρ' w'' rfl hI')
 have:=run_loop1 (kx:=kx) (key (μ ρ w) ρ w rfl h0)
 rwa[←(Keeps.refl W ρ).eq]at this
end
attribute [irreducible] Run
end Go.Proofs.YteiildhelefodaaGreat
