import Derived.Test.YthamnonkfepafaaGreatZEngG
import Derived.RangeFuncRecord
set_option linter.unusedSimpArgs false
set_option linter.unusedVariables false
namespace Go.Proofs.YthamnonkfepafaaGreat
inductive bu where
 |skip
 |ret
 |ef (xs:List XO)
 |GX (xs:List XO)
 |GY (t:XT)
 |Np (g:Operand) (ps:List Nat) (a b:bu)
 |seq (a b:bu)
 |cond (c:Operand) (a b:bu)
 |block (id:Nat) (a:bu)
 |loop (a:bu)
 |exit (id:Nat)
 deriving Inhabited
def wu (P:Program) (n:Nat) (d:Array Oper):Nat→Array Bool→IT
 |0,_=>.nil
 |f+1,b=>
  let k:=Region.ready .any d b
  match k.find? (fun i=>Region.free .any d b i&&nH P n d i)with
  |some i=>.p i (wu P n d f (b.setIfInBounds i true))
  |none=>match k with
   | []=>.nil
   |i::r=>r.foldl (fun t j=>.or t (.a j (wu P n d f (b.setIfInBounds j true)))) (.a i (wu P n d f (b.setIfInBounds i true)))
def Ef (P:Program) (n:Nat) (b:Array Oper):Option bu:=
 let it:=wu P n b b.size (Array.replicate b.size false)
 if Region.noSelect b&&b.all iT&&decide (it.depth≤b.size)&&Dw P n b false it (Array.replicate b.size false)then(rM P n b it).map .GY else none
def Eg (P:Program) (n:Nat) (rd:Bool) (b:Array Oper):Option bu:=
 if P.follows .mixedOrders then
  match b.toList.mapM (uH P n b)with
  |none=>none
  |some xs=>
   if !rd&&xX xs&&oX xs&&Region.lexB .any b then some (.GX xs)
   else if !rd&&xX xs&&Region.lexTailB .any b (xs.takeWhile fun x=>x.body.lK).length then some (.GX xs)
   else Ef P n b
 else none
def uh (P:Program) (n:Nat) (rd:Bool):Code→Option bu
 |.skip=>some .skip
 |.ret=>some .ret
 |.region _ d j=>match j with
  |true=>Eg P n rd d
  |false=>(d.toList.mapM (uH P n d)).map .ef
 |.seq a b=>match uh P n rd a,uh P n rd b with|some x,some y=>some (.seq x y)|_,_=>none
 |.cond c a b=>match uh P n rd a,uh P n rd b with|some x,some y=>some (.cond c x y)|_,_=>none
 |.block id a=>match uh P n rd a with|some x=>some (.block id x)|none=>none
 |.loop a=>match uh P n rd a with|some x=>some (.loop x)|none=>none
 |.exit id=>some (.exit id)
 |.rangeFunc g k a b=>if k.all fun t=>decide (t<n)then match uh P n true a,uh P n true b with|some x,some y=>some (.Np g k.toList x y)|_,_=>none else none
 |_=>none
def Tr (P:Program) (n:Nat):Code→bu→Prop
 |.skip,.skip=>True
 |.ret,.ret=>True
 |.region _ l false,.ef xs=>l.toList.mapM (uH P n l)=some xs
 |.region _ l true,.GX xs=>P.follows .mixedOrders=true∧l.toList.mapM (uH P n l)=some xs∧xX xs=true∧
   ((oX xs=true∧Region.lexB .any l=true)∨ ∃k,oX (xs.take k)=true∧Region.lexTailB .any l k=true)
 |.region _ l true,.GY o=>P.follows .mixedOrders=true∧Region.noSelect l=true∧l.all iT=true∧ ∃it:IT,it.depth≤l.size∧rM P n l it=some o∧Dw P n l false it (Array.replicate l.size false)=true
 |.seq a b,.seq x y=>Tr P n a x∧Tr P n b y
 |.cond c a b,.cond d x y=>c=d∧Tr P n a x∧Tr P n b y
 |.block i a,.block j x=>i=j∧Tr P n a x
 |.loop a,.loop x=>Tr P n a x
 |.exit i,.exit j=>i=j
 |.rangeFunc g q a b,.Np r m x y=>g=r∧q=⟨m⟩∧(∀t,t∈m→t<n)∧Tr P n a x∧Tr P n b y
 |_,_=>False
theorem ti (xs:List XO):oX (xs.take (xs.takeWhile fun x=>x.body.lK).length)=true:=by
 induction xs with
 |nil=>rfl
 |cons x xs b=>
  rw[List.takeWhile_cons];split
  ·rename_i h;simp only[List.length_cons,List.take_succ_cons,oX,List.all_cons,h,Bool.true_and];exact b
  ·rfl
theorem ln {P:Program} {n:Nat}: ∀(rd:Bool) (c:Code) (x:bu),uh P n rd c=some x→Tr P n c x
 |rd,.skip,x,h=>by cases h;trivial
 |rd,.ret,x,h=>by cases h;trivial
 |rd,.region i m false,x,h=>by
  simp only[uh]at h
  obtain⟨xs,l,rfl⟩:=Option.map_eq_some_iff.1 h
  exact l
 |rd,.region i m true,x,h=>by
  simp only[uh,Eg]at h
  split at h
  ·rename_i o
   split at h
   ·cases h
   ·rename_i xs l
    split at h
    ·rename_i d
     cases h
     simp only[Bool.and_eq_true]at d
     exact⟨o,l,d.1.1.2,.inl ⟨d.1.2,d.2⟩⟩
    ·split at h
     ·rename_i d
      cases h
      simp only[Bool.and_eq_true]at d
      exact⟨o,l,d.1.2,.inr ⟨_,ti xs,d.2⟩⟩
     ·unfold Ef at h
      simp only at h
      split at h
      ·rename_i d
       obtain⟨ys,r,rfl⟩:=Option.map_eq_some_iff.1 h
       simp only[Bool.and_eq_true,decide_eq_true_eq]at d
       obtain⟨⟨⟨u,w⟩,z⟩,B⟩:=d
       exact⟨o,u,w,_,z,r,B⟩
      ·cases h
  ·cases h
 |rd,.seq a b,x,h=>by
  simp only[uh]at h
  split at h
  ·rename_i x y j k;cases h;exact⟨ln rd a x j,ln rd b y k⟩
  ·cases h
 |rd,.cond c a b,x,h=>by
  simp only[uh]at h
  split at h
  ·rename_i x y j k;cases h;exact⟨rfl,ln rd a x j,ln rd b y k⟩
  ·cases h
 |rd,.block id a,x,h=>by
  simp only[uh]at h
  split at h
  ·rename_i x j;cases h;exact⟨rfl,ln rd a x j⟩
  ·cases h
 |rd,.loop a,x,h=>by
  simp only[uh]at h
  split at h
  ·rename_i x j;cases h;exact ln rd a x j
  ·cases h
 |rd,.exit id,x,h=>by cases h;rfl
 |rd,.rangeFunc g D a b,x,h=>by
  simp only[uh]at h
  split at h
  ·rename_i q
   split at h
   ·rename_i x y j k
    cases h
    refine⟨rfl,by simp,fun t C=>?_,ln true a x j,ln true b y k⟩
    rw[Array.all_eq_true']at q
    exact of_decide_eq_true (q t (by simpa using C))
   ·cases h
  ·cases h
 |rd,.scope ..,x,h=>by cases h
 |rd,.label ..,x,h=>by cases h
 |rd,.goto ..,x,h=>by cases h
 |rd,.refuse ..,x,h=>by cases h
inductive XR where
 |t (t:Nat)
 |c (a:Nat)
 |cN (a n:Nat)
 deriving Inhabited
def J3 (P:Program):ResultVar→Option XR
 |.tmp t=>some (.t t)
 |.cell a t=>match P.underlying t with
  |some d=>if sK d then(P.info? t).map fun i=>.cN a i.size else some (.c a)
  |none=>none
def wv (r:XR) (ρ:Env) (w:World):Option Value:=match r with
 |.t t=>some (ρ t)
 |.c a=>qZ w (ρ a)
 |.cN a n=>fG w n (ρ a)
def Ot (vs:Option (List Value)):Option Value:=match vs with|some vs=>some (.tuple ⟨vs⟩)|none=>none
def Bj (v:Option Value) (vs:Option (List Value)):Option (List Value):=match v,vs with|some v,some vs=>some (v::vs)|_,_=>none
def rO:List XR→Env→World→Option (List Value)
 | [],_,_=>some []
 |r::b,ρ,w=>Bj (wv r ρ w) (rO b ρ w)
def uo (b:List XR) (ρ:Env) (w:World):Option Value:=match b with
 | [r]=>wv r ρ w
 |b=>Ot (rO b ρ w)
structure FX where
 F:FuncId
 fn:Func
 rs:List XR
 ro:Option Nat:=none
 ds:List Deferred:=[]
def FX.ok (P:Program) (f:FX):Prop:=P.funcs[f.F]? =some f.fn∧f.fn.results.toList.mapM (J3 P)=some f.rs
inductive XI where
 |code (x:bu)
 |uP (id:Nat)
 |lp (x:bu)
 |La
def zY (P:Program) (n:Nat) (i:Item) (x:XI):Prop:=match i,x with
 |.code c,.code x=>Tr P n c x
 |.inBlock i,.uP j=>i=j
 |.inLoop c,.lp x=>Tr P n c x
 |.beginRound,.La=>True
 |_,_=>False
def rP (P:Program) (n:Nat):List Item→List XI→Prop
 | [],[]=>True
 |i::k,x::kx=>zY P n i x∧rP P n k kx
 |_,_=>False
def base (F:FuncId) (ro:Option Nat):Frame:= {(default:Frame)with fn:=F,kind:=.normal,roundOf:=ro}
def Fin (P:Program) (f:FX) (R:Value→World→Prop) (m:Machine) (cs:List Frame):Prop:=match f.ro,cs with
 |none,cs=> ∃v w' fr,R v w'∧Steps P m (lone fr cs w')∧fr.fn=f.F∧fr.leaving P w' (.returned v)
 |some _,c::cs=> ∃v w',R v w'∧Steps P m (lone (c.finish v) cs w')
 |some _,[]=>True
theorem Fin.of_steps {P:Program} {f:FX} {R:Value→World→Prop} {m j:Machine} {cs:List Frame} (h:Steps P m j) (k:Fin P f R j cs):Fin P f R m cs:=by
 unfold Fin at*;split at k<;>rename_i b
 ·obtain⟨v,w',fr,b,d,l⟩:=k;exact⟨v,w',fr,b,h.trans d,l⟩
 ·obtain⟨v,w',b,d⟩:=k;exact⟨v,w',b,h.trans d⟩
 ·trivial
def dr (P:Program) (f:FX) (kx:List XI) (ρ:Env) (w:World) (R:Value→World→Prop):Prop:=
 f.ok P→ ∀(k:List Item) (a:Act) (cs:List Frame),rP P f.fn.ntmps k kx→nt f.fn.ntmps f.ds ρ a→Fin P f R (lone ((base f.F f.ro).atR a k) cs w) cs
section
variable {P:Program} {f:FX} {kx:List XI} {ρ:Env} {w:World} {R:Value→World→Prop}
theorem kL {n:Nat} {k:List Item} {x:XI} (h:rP P n k (x::kx)): ∃i k',k=i::k'∧zY P n i x∧rP P n k' kx:=by
 cases k with
 |nil=>exact h.elim
 |cons i k'=>exact⟨i,k',rfl,h.1,h.2⟩
theorem db {n:Nat} {k:List Item} {x:bu} (h:rP P n k (.code x::kx)): ∃c k',k=.code c::k'∧Tr P n c x∧rP P n k' kx:=by
 obtain⟨i,k',rfl,b,d⟩:=kL h;cases i<;>simp only[zY]at b
 exact⟨_,k',rfl,b,d⟩
theorem yi {n id:Nat} {k:List Item} (h:rP P n k (.uP id::kx)): ∃k',k=.inBlock id::k'∧rP P n k' kx:=by
 obtain⟨i,k',rfl,b,d⟩:=kL h;cases i<;>simp only[zY]at b
 subst b;exact⟨k',rfl,d⟩
theorem Bk {n:Nat} {k:List Item} {x:bu} (h:rP P n k (.lp x::kx)): ∃c k',k=.inLoop c::k'∧Tr P n c x∧rP P n k' kx:=by
 obtain⟨i,k',rfl,b,d⟩:=kL h;cases i<;>simp only[zY]at b
 exact⟨_,k',rfl,b,d⟩
theorem run_seq {a b:bu} (h:dr P f (.code a::.code b::kx) ρ w R):dr P f (.code (.seq a b)::kx) ρ w R:=by
 intro l k ac cs m o;obtain⟨c,k',rfl,d,j⟩:=db m;cases c<;>simp only[Tr]at d
 case seq q r=>exact Fin.of_steps (.one stepR_seq) (h l (.code q::.code r::k') ac cs ⟨d.1,d.2,j⟩ o)
theorem mo (h:dr P f kx ρ w R):dr P f (.code .skip::kx) ρ w R:=by
 intro d k ac cs j l;obtain⟨c,k',rfl,m,b⟩:=db j;cases c<;>simp only[Tr]at m
 exact Fin.of_steps (.one stepR_skip) (h d k' ac cs b l)
theorem Eh {c:Operand} {a b:bu} {t:Bool} (u:ev ρ c=.bool t) (y:t=true→dr P f (.code a::kx) ρ w R) (z:t=false→dr P f (.code b::kx) ρ w R):
  dr P f (.code (.cond c a b)::kx) ρ w R:=by
 intro q k ac cs B j;obtain⟨l,k',rfl,r,d⟩:=db B;cases l<;>simp only[Tr]at r
 case cond l C D=>
  obtain⟨rfl,m,o⟩:=r;have E:ac.eval l=.bool t:=by rw[j.eval];exact u
  refine Fin.of_steps (.one (stepR_cond E)) ?_;cases t with
  |true=>exact y rfl q (.code C::k') ac cs ⟨m,d⟩ j
  |false=>exact z rfl q (.code D::k') ac cs ⟨o,d⟩ j
theorem jb {id:Nat} {a:bu} (h:dr P f (.code a::.uP id::kx) ρ w R):dr P f (.code (.block id a)::kx) ρ w R:=by
 intro j k ac cs l m;obtain⟨c,k',rfl,b,d⟩:=db l;cases c<;>simp only[Tr]at b
 case block i c=>
  obtain⟨rfl,b⟩:=b;exact Fin.of_steps (.one stepR_block) (h j (.code c::.inBlock i::k') ac cs ⟨b,rfl,d⟩ m)
theorem HB {id:Nat} (h:dr P f kx ρ w R):dr P f (.uP id::kx) ρ w R:=by
 intro d k ac cs j l;obtain⟨k',rfl,b⟩:=yi j;exact Fin.of_steps (.one stepR_inBlock) (h d k' ac cs b l)
def pa (id:Nat):List XI→Option (List XI)
 | []=>none
 |.uP i::k=>if i=id then some k else pa id k
 |_::k=>pa id k
theorem js {n id:Nat}: ∀ {kx d:List XI} {k:List Item},pa id kx=some d→rP P n k kx→ ∃k',exitTo id k=some k'∧rP P n k' d
 | [],_,_,h,_=>by cases h
 |.uP i::kx,d,k,h,j=>by
  obtain⟨k',rfl,b⟩:=yi j
  simp only[pa]at h
  split at h
  ·rename_i q
   cases h
   exact⟨k',by simp[exitTo,q],b⟩
  ·rename_i q
   obtain⟨l,m,o⟩:=js h b
   refine⟨l,?_,o⟩
   simp only[exitTo,beq_iff_eq,if_neg q];exact m
 |.code x::kx,d,k,h,j=>by
  obtain⟨c,k',rfl,_,b⟩:=db j
  obtain⟨l,m,o⟩:=js (by simpa[pa]using h) b
  exact⟨l,by simpa[exitTo]using m,o⟩
 |.lp x::kx,d,k,h,j=>by
  obtain⟨c,k',rfl,_,b⟩:=Bk j
  obtain⟨l,m,o⟩:=js (by simpa[pa]using h) b
  exact⟨l,by simpa[exitTo]using m,o⟩
 |.La::kx,d,k,h,j=>by
  obtain⟨i,k',rfl,r,b⟩:=kL j
  cases i<;>simp only[zY]at r
  obtain⟨l,m,o⟩:=js (by simpa[pa]using h) b
  exact⟨l,by simpa[exitTo]using m,o⟩
theorem Ei {id:Nat} {b:List XI} (l:pa id kx=some b) (h:dr P f b ρ w R):dr P f (.code (.exit id)::kx) ρ w R:=by
 intro m k ac cs o q;obtain⟨c,k',rfl,j,d⟩:=db o;cases c<;>simp only[Tr]at j
 subst j;obtain⟨r,t,u⟩:=js l d;exact Fin.of_steps (.one (stepR_exit t)) (h m r ac cs u q)
theorem Lb {x:bu} (h:dr P f (.code x::.lp x::kx) ρ w R):dr P f (.lp x::kx) ρ w R:=by
 intro j k ac cs l m;obtain⟨c,k',rfl,d,b⟩:=Bk l;exact Fin.of_steps (.one stepR_inLoop) (h j (.code c::.inLoop c::k') ac cs ⟨d,d,b⟩ m)
theorem Cy {x:bu} (h:dr P f (.code x::.lp x::kx) ρ w R):dr P f (.code (.loop x)::kx) ρ w R:=by
 intro j k ac cs l m;obtain⟨c,k',rfl,b,d⟩:=db l;cases c<;>simp only[Tr]at b
 exact Fin.of_steps (.one stepR_loop) (h j _ ac cs ⟨b,b,d⟩ m)
theorem mW {c:Code} {C:Env→World→Prop} {k':List Item} {a:Act} {cs:List Frame} {n:Nat} (h:c.wpIn (FR f.ro) 0 P (QC n f.ds C) a w)
  (m: ∀b j w',nt n f.ds b j→C b w'→Fin P f R (lone ((base f.F f.ro).atR j k') cs w') cs):Fin P f R (lone ((base f.F f.ro).atR a (.code c::k')) cs w) cs:=by
 obtain⟨e,j,w',⟨rfl,b,k,l⟩,d⟩:=h (base f.F f.ro) k' cs rfl trivial (fun _ h=>by simp[FR,Fence.wide]at h);exact Fin.of_steps (StepsIn.steps d) (m b j w' k l)
theorem wx {xs:List XO} (h:VO P xs ρ w (fun ρ w=>dr P f kx ρ w R)):dr P f (.code (.ef xs)::kx) ρ w R:=by
 intro o k ac cs q r;obtain⟨c,k',rfl,b,l⟩:=db q;cases c<;>try(exact b.elim)
 case region i d j=>
  cases j with
  |true=>exact b.elim
  |false=>
  have b:d.toList.mapM (uH P f.fn.ntmps d)=some xs:=b;exact mW (xY b r h) fun t u w' m y=>y o k' u cs l m
theorem HC {xs:List XO} (h:VO P xs ρ w.drew (fun ρ w=>dr P f kx ρ w R)) (d:f.ro=none:=by rfl):dr P f (.code (.GX xs)::kx) ρ w R:=by
 intro E k ac cs H F;obtain⟨c,k',rfl,r,j⟩:=db H;cases c<;>try(exact r.elim)
 case region i I l=>
  cases l with
  |false=>exact r.elim
  |true=>
  obtain⟨G,q,t,J⟩:=r;rcases J with⟨u,y⟩|⟨m,u,y⟩
  ·have o:=wp_of_still (m:=0) (id:=i) G y u q F h;rw[←d]at o;exact mW o fun z B w' b C=>C E k' B cs j b
  ·have D:xX (xs.drop m)=true:=by
    unfold xX at t⊢;rw[List.all_eq_true]at t⊢;exact fun x q=>t x (List.mem_of_mem_drop q)
   have o:=zU (m:=0) (id:=i) G y u D q F h;rw[←d]at o;exact mW o fun z B w' b C=>C E k' B cs j b
theorem aW {t:XT} (L:List Nat) (h:VT P L w.drew t ρ w.drew (fun ρ w=>dr P f kx ρ w R)):dr P f (.code (.GY t)::kx) ρ w R:=by
 intro q k ac cs r u;obtain⟨c,k',rfl,l,m⟩:=db r;cases c<;>try(exact l.elim)
 case region i y b=>
  cases b with
  |false=>exact l.elim
  |true=>
  obtain⟨z,d,B,it,j,C,D⟩:=l;exact mW (zX z d B j C D u h) fun E F w' o G=>G q k' F cs m o
def Cz (tmps:Array Value):ResultVar→Sem Value
 |.tmp t=>pure (tmps.getD t undef)
 |.cell b t=>do loadVar t (←asAddr (tmps.getD b undef))
theorem wy (fn:Func) (tmps:Array Value):results fn tmps=(do let vs←fn.results.mapM (Cz tmps);pure (if h:vs.size=1 then vs[0]else .tuple vs)):=by
 have e:(fun(r:ResultVar)=>(match r with|.tmp t=>pure (tmps.getD t undef)|.cell b t=>do loadVar t (←asAddr (tmps.getD b undef)):Sem Value))=Cz tmps:=by
  funext r;cases r<;>rfl
 rw[←e];rfl
theorem Ej {n:Nat} {ds:List Deferred} {r:ResultVar} {x:XR} (h:J3 P r=some x) {a:Act} (k:nt n ds ρ a) {v:Value} (b:wv x ρ w=some v):
  (Cz a.tmps r).run P w=.ok v w:=by
 unfold Cz;cases r with
 |tmp t=>
  cases h;simp only[wv,Option.some.injEq]at b;subst b;simp[k.get t]
 |cell l t=>
  simp only[J3]at h;split at h
  ·rename_i d m;split at h
   ·rename_i j;obtain⟨i,o,rfl⟩:=Option.map_eq_some_iff.1 h;simp only[wv,fG]at b;split at b
    ·rename_i p e;unfold sQ at b;split at b
     ·rename_i xs q;cases b;simp only[Sem.run_bind,k.get l,e,asAddr,Sem.run_pure,Result.andThen_ok,loadVar,fX m,j,if_true,ct o,run_loadCells q]
     ·cases b
    ·cases b
   ·rename_i j;cases h;simp only[wv,qZ]at b;split at b
    ·rename_i p e;simp only[Sem.run_bind,k.get l,e,asAddr,Sem.run_pure,Result.andThen_ok,loadVar,fX m,Bool.not_eq_true _▸j,Bool.false_eq_true,if_false,kn b]
    ·cases b
  ·cases h
theorem yj {n:Nat} {ds:List Deferred} {a:Act} (j:nt n ds ρ a): ∀(d:List ResultVar) (xs:List XR),d.mapM (J3 P)=some xs→ ∀(vs:List Value),rO xs ρ w=some vs→
  (d.mapM (Cz a.tmps)).run P w=.ok vs w
 | [],xs,h,vs,b=>by
  simp at h;subst h
  simp only[rO,Option.some.injEq]at b
  subst b
  simp
 |r::d,xs,h,vs,b=>by
  simp only[List.mapM_cons,Option.bind_eq_bind,Option.bind_eq_some_iff,Option.pure_def,Option.some.injEq]at h
  obtain⟨x,k,ys,l,rfl⟩:=h
  simp only[rO]at b
  unfold Bj at b
  split at b
  ·rename_i u us m o
   cases b
   rw[List.mapM_cons,Sem.run_bind,Ej k j m]
   simp only[Result.andThen_ok,Sem.run_bind,Sem.run_pure]
   rw[yj j d ys l us o]
   rfl
  ·cases b
theorem yk {n:Nat} {ds:List Deferred} {a:Act} (o:nt n ds ρ a) {fn:Func} {xs:List XR} (h:fn.results.toList.mapM (J3 P)=some xs) {v:Value} (d:uo xs ρ w=some v):(results fn a.tmps).run P w=.ok v w:=by
 rw[wy,Array.mapM_eq_mapM_toList];have key: ∀vs,rO xs ρ w=some vs→(if h:vs.toArray.size=1 then vs.toArray[0]else .tuple vs.toArray)=v→
   (do let us←(List.toArray<$>fn.results.toList.mapM (Cz a.tmps));pure (if h:us.size=1 then us[0]else .tuple us):Sem Value).run P w=.ok v w:=by
  intro vs j b;rw[Sem.run_bind,Sem.run_map,yj o _ _ h vs j];simp only[Result.andThen_ok,Sem.run_pure];rw[b]
 unfold uo at d;split at d
 ·rename_i r;refine key [v] ?_ rfl;simp only[rO,d,Bj]
 ·rename_i j;unfold Ot at d;split at d
  ·rename_i vs b;cases d;refine key vs b ?_;have l:vs.length≠1:=by
    intro k
    match xs,vs,k,j,b with
    | [],[],k,_,_=>cases k
    | [],_::_,_,_,b=>simp[rO]at b
    | [r],_,_,j,_=>exact j r rfl
    |r::s::xs,vs,k,_,b=>
     simp only[rO]at b;unfold Bj at b;split at b
     ·rename_i m;split at m
      ·cases m;cases b;simp at k
      ·cases m
     ·cases b
   rw[dif_neg (by simpa using l)]
  ·cases d
theorem Bl {m:Machine} {a:Act} {b:List Item} {cs:List Frame} (l:f.ok P) (d:f.ro=none) (j:f.ds=[]) (o:nt f.fn.ntmps f.ds ρ a) {v:Value} (q:uo f.rs ρ w=some v) (r:R v w)
  (k:Steps P m (lone {(base f.F f.ro).atR a b with mode:=.returning} cs w)):Fin P f R m cs:=by
 unfold Fin;rw[d];exact⟨v,w,_,r,k,rfl,rfl,o.defers.trans j,rfl,f.fn,l.1,yk o l.2 q⟩
theorem HD {v:Value} (b:f.ro=none) (d:f.ds=[]) (j:uo f.rs ρ w=some v) (l:R v w):dr P f (.code .ret::kx) ρ w R:=by
 intro m k ac cs o q;obtain⟨c,k',rfl,r,t⟩:=db o;cases c<;>simp only[Tr]at r
 exact Bl m b d q j l (.one (stepR_ret b))
theorem HE {v:Value} (b:f.ro=none) (d:f.ds=[]) (j:uo f.rs ρ w=some v) (l:R v w):dr P f [] ρ w R:=by
 intro m k ac cs o q;cases k with
 |cons i k=>exact o.elim
 |nil=>exact Bl m b d q j l (.one (stepR_end b))
theorem ae.putObj (w:World) (l:Nat) (o:Obj):ae [l] w (w.putObj l o):=
 ⟨rfl,rfl,rfl,by simp,fun k _ b=>by simp only[List.mem_singleton]at b;exact World.putObj_heap_other b⟩
theorem Ek {D:Nat} (b:f.ro=none) (d:f.ds=[{target:=.collected D,args:=#[]}]) (m:w.heap[D]? =some (.deferred (some [])))
  (h: ∀w',w'.heap.size=w.heap.size→ae [D] w w'→ ∃v,uo f.rs ρ w'=some v∧R v w'):dr P f (.code .ret::kx) ρ w R:=by
 intro j k ac cs o l;obtain⟨c,k',rfl,q,r⟩:=db o;cases c<;>simp only[Tr]at q
 obtain⟨v,t,u⟩:=h (w.putObj D (.deferred none)) (by simp) (ae.putObj w D _);have y:Steps P (lone ((base f.F f.ro).atR ac (.code .ret::k')) cs w) (lone {(base f.F f.ro).atR ac (.code .ret::k')with mode:=.returning} cs w):=.one (stepR_ret b);have z:({(base f.F f.ro).atR ac (.code .ret::k')with mode:=.returning}:Frame).defers= {target:=.collected D,args:=#[]}::[]:=by
  show ac.defers=_;rw[l.defers,d]
 have B:=step_collected (P:=P) (cs:=cs) (w:=w) (fr:= {(base f.F f.ro).atR ac (.code .ret::k')with mode:=.returning}) (by simp) z rfl (run_takeDeferred m);refine Fin.of_steps (y.trans (.one B)) ?_;unfold Fin;rw[b];exact⟨v,w.putObj D (.deferred none),{(base f.F none).atR ac (.code .ret::k')with mode:=.returning,defers:=[]},u,.refl _ _,rfl,rfl,rfl,rfl,f.fn,j.1,yk l j.2 t⟩
def E0:Env:=fun _=>undef
def jX:List Value→Nat→Env
 | [],_=>E0
 |v::vs,i=>put (jX vs (i+1)) i v
theorem El (vs:List Value): ∀(i t:Nat),i≤t→jX vs i t=vs.getD (t-i) undef:=by
 induction vs with
 |nil=>intro i t _;simp[jX,E0]
 |cons v vs b=>
  intro i t h;simp only[jX,vU];by_cases e:t=i
  ·subst e;simp
  ·rw[if_neg e,b (i+1) t (by omega),show t-i=(t-(i+1))+1 by omega];simp
theorem CA {c:Code} {x:bu} {args:List Value} (m:f.ok P) (j:f.ro=none) (l:f.ds=[]) (q:f.fn.body=some c) (r:uh P f.fn.ntmps false c=some x) (C:args.length≤f.fn.ntmps)
  (h:dr P f [.code x] (jX args 0) w R):Cs P f.F args w R:=by
 intro cs;have b:Frame.enter P f.F ⟨args⟩ .normal=(base f.F f.ro).atR {tmps:=⟨args⟩++Array.replicate (f.fn.ntmps-args.length) undef,defers:=[]} [.code c]:=by
  simp[Frame.enter,Frame.atR,m.1,q,base,j]
 have u:nt f.fn.ntmps f.ds (jX args 0) {tmps:=⟨args⟩++Array.replicate (f.fn.ntmps-args.length) undef,defers:=[]}:=by
  refine⟨l.symm,by simp;omega,fun t=>?_⟩;rw[El args 0 t (Nat.zero_le _)];simp only[Nat.sub_zero,Array.getD_eq_getD_getElem?,List.getD_eq_getElem?_getD];rw[Array.getElem?_append];by_cases o:t<args.length
  ·simp[o]
  ·rw[if_neg (by simpa using o),List.getElem?_eq_none (by omega)];by_cases k:t-args.length<f.fn.ntmps-args.length
   ·simp[k]
   ·simp[k]
 have d:=h m [.code c] _ cs ⟨ln false c x r,trivial⟩ u;unfold Fin at d;rw[j]at d;obtain⟨v,w',fr,y,k,z,B⟩:=d;rw[j]at b;rw[←b]at k;exact⟨.returned v,w',fr,⟨v,rfl,y⟩,k,z,B⟩
def ey (P:Program) (f:FX) (l:Nat) (w:World) (ρ:Env) (b:List Nat) (d j:bu) (st:LoopState) (D:Nat):Prop:=
 ∃r:Loop,w.heap[l]? =some (.loop r)∧r.state=st∧r.pending=none∧r.fn=f.F∧r.params=⟨b⟩∧(∀t,t∈b→t<f.fn.ntmps)∧r.defers=D∧Tr P f.fn.ntmps r.assign d∧Tr P f.fn.ntmps r.body j∧nt f.fn.ntmps [] ρ {tmps:=r.tmps,defers:=[]}
theorem ey.heap {l:Nat} {w w':World} {b:List Nat} {d j:bu} {st:LoopState} {D:Nat} (h:ey P f l w ρ b d j st D) (e:w'.heap[l]? =w.heap[l]?):ey P f l w' ρ b d j st D:=by
 obtain⟨r,k,m⟩:=h;exact⟨r,e.trans k,m⟩
theorem ey.lt {l:Nat} {w:World} {b:List Nat} {d j:bu} {st:LoopState} {D:Nat} (h:ey P f l w ρ b d j st D):l<w.heap.size:=by
 obtain⟨r,k,m⟩:=h;exact(Array.getElem?_eq_some_iff.1 k).1
theorem ey.keep {S:List Nat} {l:Nat} {w w':World} {b:List Nat} {d j:bu} {st:LoopState} {D:Nat} (h:ey P f l w ρ b d j st D) (k:ae S w w') (m:l∉S):ey P f l w' ρ b d j st D:=
 h.heap (k.block l h.lt m)
def CB (ρ:Env):List Nat→List Value→Env
 |p::b,v::vs=>CB (put ρ p v) b vs
 |_,_=>ρ
theorem uQ {n:Nat}: ∀(b:List Nat) (vs:List Value) (ρ:Env) (tmps:Array Value),(∀t,t∈b→t<n)→b.length=vs.length→nt n [] ρ {tmps:=tmps,defers:=[]}→
  nt n [] (CB ρ b vs) {tmps:=(b.zip vs).foldl (fun tmps (t,a)=>tmps.setIfInBounds t a) tmps,defers:=[]}
 | [],[],ρ,tmps,_,_,h=>h
 |p::b,v::vs,ρ,tmps,d,j,h=>by
  have:=h.put (d p (by simp)) v
  exact uQ b vs (put ρ p v) (tmps.setIfInBounds p v) (fun t k=>d t (by simp[k])) (by simpa using j) this
 | [],_::_,_,_,_,h,_=>by simp at h
 |_::_,[],_,_,_,h,_=>by simp at h
theorem Bm {l:Nat} {d:FX} {b:Env} {t:List Nat} {u y:bu} {D:Nat} (j:f.ro=some l) (B:ey P d l w b t u y .ready D)
  (h: ∀w',w'.heap.size=w.heap.size→ae [l] w w'→ey P d l w' b t u y .busy D→dr P f kx ρ w' R):dr P f (.La::kx) ρ w R:=by
 intro C k ac cs E F;obtain⟨i,k',rfl,G,m⟩:=kL E;cases i<;>simp only[zY]at G
 obtain⟨r,z,H,I,J,K,L,M,N,O,o⟩:=B;have q:=(Array.getElem?_eq_some_iff.1 z).1;refine Fin.of_steps (.one (stepR_beginRound (l:=l) j (run_beginRound z H))) ?_;exact h (w.putObj l (.loop {r with state:=.busy})) (by simp) (ae.putObj w l _) ⟨{r with state:=.busy},World.putObj_heap_same q,rfl,I,J,K,L,M,N,O,o⟩ C k' ac cs m F
theorem tk {l:Nat} {j:FX} {d:Env} {t:List Nat} {u y:bu} {D:Nat} (m:f.ro=some l) (B:ey P j l w d t u y .busy D)
  (h: ∀w',w'.heap.size=w.heap.size→ae [l] w w'→ey P j l w' d t u y .ready D→R (.bool true) w'):dr P f [] ρ w R:=by
 intro K k ac cs C L;cases k with
 |cons i k=>exact C.elim
 |nil=>
  obtain⟨r,z,M,N,E,F,G,H,I,J,o⟩:=B;have q:=(Array.getElem?_eq_some_iff.1 z).1;unfold Fin;rw[m];cases cs with
  |nil=>trivial
  |cons c cs=>
   refine⟨.bool true,w.putObj l (.loop {r with state:=.ready,pending:=none}),h _ (by simp) (ae.putObj w l _) ⟨{r with state:=.ready,pending:=none},World.putObj_heap_same q,rfl,rfl,E,F,G,H,I,J,o⟩,?_⟩;exact .one (stepR_round_end (b:=base f.F (some l)) (a:=ac) (v:=.bool true) rfl rfl (run_endRound none z))
theorem Em {l:Nat} {b:List Nat} {m o:bu} {D:Nat} {args:List Value} {K:Value→World→Prop} (y:f.ok P) (z:ey P f l w ρ b m o .ready D) (q:b.length=args.length)
  (h:dr P {f with ro:=some l,ds:=[]} [.code m,.La,.code o] (CB ρ b args) w K):Ys P l args w K:=by
 obtain⟨r,B,L,M,C,u,E,N,F,G,j⟩:=z;have k:(⟨args⟩:Array Value).size=r.params.size:=by rw[u];simp[q]
 refine⟨r.fn,(r.params.zip ⟨args⟩).foldl (fun tmps (t,a)=>tmps.setIfInBounds t a) r.tmps,r.assign,r.body,run_yield B k,fun c cs=>?_⟩;have H:=uQ b args ρ r.tmps E q j;have e:(r.params.zip ⟨args⟩).foldl (fun(tmps:Array Value) (x:Tmp×Value)=>tmps.setIfInBounds x.1 x.2) r.tmps=(b.zip args).foldl (fun tmps (t,a)=>tmps.setIfInBounds t a) r.tmps:=by
  rw[u,←Array.foldl_toList,Array.toList_zip]
 have:=h y [.code r.assign,.beginRound,.code r.body] {tmps:=(b.zip args).foldl (fun tmps (t,a)=>tmps.setIfInBounds t a) r.tmps,defers:=[]} (c::cs) ⟨F,trivial,G,trivial⟩ H;obtain⟨v,w',I,d⟩:=this;refine⟨v,w',I,?_⟩;have J:Frame.round l r.fn ((r.params.zip ⟨args⟩).foldl (fun(tmps:Array Value) (x:Tmp×Value)=>tmps.setIfInBounds x.1 x.2) r.tmps) r.assign r.body .normal=
   (base f.F (some l)).atR {tmps:=(b.zip args).foldl (fun tmps (t,a)=>tmps.setIfInBounds t a) r.tmps,defers:=[]} [.code r.assign,.beginRound,.code r.body]:=by
  rw[e,C];simp[Frame.round,Frame.atR,base]
 rw[←J]at d;exact d
theorem Bn {g:Operand} {z:List Nat} {L M:bu} {it:Nat} {caps:List Value} (F:f.ro=none) (N:f.ds=[]) (hg:ev ρ g=.func (.func it) #[] ⟨caps⟩) (o:okF P it=true)
  (h: ∀D l d,D=w.heap.size→l=w.heap.size+1→d.heap.size=w.heap.size+2→ae [] w d→d.heap[D]? =some (.deferred (some []))→ey P f l d ρ z L M .ready D→
   Cs P it (.func (.yield l) #[] #[]::caps) d fun _ G=>ey P f l G ρ z L M .ready D∧
    ∀O,O.heap.size=G.heap.size→ae [l] G O→dr P {f with ds:=[{target:=.collected D,args:=#[]}]} kx ρ O R):
  dr P f (.code (.Np g z L M)::kx) ρ w R:=by
 intro hf k ac cs hk E;obtain⟨c,k',rfl,hc,Q⟩:=db hk;cases c<;>simp only[Tr]at hc
 case rangeFunc g' ps' S T=>
  obtain⟨rfl,rfl,U,ha,hb⟩:=hc;have V:nt f.fn.ntmps [] ρ {tmps:=ac.tmps,defers:=[]}:=⟨rfl,E.size,E.get⟩
  let d:=(w.alloc (.deferred (some []))).alloc (.loop {state:=.ready,pending:=none,fn:=f.F,tmps:=ac.tmps,params:=⟨z⟩,assign:=S,body:=T,defers:=w.heap.size})
  have hD:d.heap[w.heap.size]? =some (.deferred (some [])):=by
   show((w.heap.push _).push _)[w.heap.size]? =_;rw[Array.getElem?_push,if_neg (by simp),Array.getElem?_push,if_pos rfl]
  have hl:ey P f (w.heap.size+1) d ρ z L M .ready w.heap.size:=by
   refine⟨{state:=.ready,pending:=none,fn:=f.F,tmps:=ac.tmps,params:=⟨z⟩,assign:=S,body:=T,defers:=w.heap.size},?_,rfl,rfl,rfl,rfl,U,rfl,ha,hb,V⟩;show((w.heap.push _).push _)[w.heap.size+1]? =_;rw[Array.getElem?_push,if_pos (by simp)]
  have hO:ae [] w d:=(ae.alloc [] w _).nil (ae.alloc [] _ _);have B:=h w.heap.size (w.heap.size+1) d rfl rfl (by show((w.heap.push _).push _).size=_;simp) hO hD hl;obtain⟨fn,C,H⟩: ∃fn,P.funcs[it]? =some fn∧(fn.name== "runtime.NumGoroutine")=false∧fn.body.isNone=false:=by
   unfold okF at o;split at o
   ·rename_i fn C;simp only[Bool.and_eq_true,Bool.not_eq_true']at o;exact⟨fn,C,o⟩
   ·cases o
  have W:ac.eval g'=.func (.func it) #[] ⟨caps⟩:=by rw[E.eval];exact hg
  have I:(resolve ac.eval (rangeCall g' (w.heap.size+1)) 0).run P d=.ok {target:=.fn (.func it) ⟨caps⟩,args:=#[.func (.yield (w.heap.size+1)) #[] #[]]} d:=by
   have X:ac.eval (.const (.func (.yield (w.heap.size+1)) #[] #[]))=.func (.yield (w.heap.size+1)) #[] #[]:=rfl;simp only[resolve,rangeCall,W,Deferred.ofValue,Sem.run_bind,Sem.run_pure,Result.andThen_ok];simp[X]
  have J:(invoke (.fn (.func it) ⟨caps⟩) #[.func (.yield (w.heap.size+1)) #[] #[]]).run P d=.ok (.enter it ⟨.func (.yield (w.heap.size+1)) #[] #[]::caps⟩) d:=by
   simp only[invoke,callFunc,Sem.run_bind,run_program,Result.andThen_ok,C,H.1,H.2,Bool.false_eq_true,if_false,Sem.run_pure];simp
  have he:(Instr.enterLoop (base f.F f.ro).fn ac.tmps ⟨z⟩ S T (base f.F f.ro).roundOf).run P w=.ok (w.heap.size+1,[{target:=.collected w.heap.size,args:=#[]}]) d:=by
   have:(base f.F f.ro).roundOf=none:=F;rw[this];exact run_enterLoop_outer _ _ _ _ _
  have m:=stepR_rangeFunc (P:=P) (b:=base f.F f.ro) (a:=ac) (k:=k') (cs:=cs) (w:=w) he I J;have Y: [({target:=.collected w.heap.size,args:=#[]}:Deferred)]++ac.defers=[{target:=.collected w.heap.size,args:=#[]}]:=by rw[E.defers,N];rfl
  rw[Y]at m;obtain⟨e,G,fr,⟨v,rfl,Z,K⟩,t,aab,u⟩:=B ((base f.F f.ro).atR {ac with defers:=[{target:=.collected w.heap.size,args:=#[]}]} (.inRangeFunc (w.heap.size+1)::k')::cs);obtain⟨r,h1,h2,h3,h4,h5,h6,h7,h8,h9,Nr⟩:=Z;have q:=step_leave_returned (c:=(base f.F f.ro).atR {ac with defers:=[{target:=.collected w.heap.size,args:=#[]}]} (.inRangeFunc (w.heap.size+1)::k')) (cs:=cs) u;rw[finish_atR_inRangeFunc]at q;have y:=stepR_endRangeFunc (P:=P) (b:=base f.F f.ro) (a:= {ac with defers:=[{target:=.collected w.heap.size,args:=#[]}]}) (k:=k') (cs:=cs) (run_endLoop (P:=P) h1 (by rw[h2];simp));have e3:(r.pending.map Item.code).toList++k'=k':=by rw[h3];rfl
  rw[e3]at y;have aac:=(Array.getElem?_eq_some_iff.1 h1).1;refine Fin.of_steps (.head m (Steps.trans t (.head q (.one y)))) ?_;have j:=K (G.putObj (w.heap.size+1) (.loop {r with state:=.exhausted})) (by simp) (ae.putObj _ _ _) hf k' {ac with defers:=[{target:=.collected w.heap.size,args:=#[]}]} cs Q ⟨rfl,E.size,E.get⟩;unfold Fin at j⊢;simp only[F]at j⊢;exact j
def xF (W:List Nat) (g ρ:Env):Env:=fun t=>if W.contains t then g t else ρ t
theorem wz (W:List Nat) (g ρ:Env) (t:Nat):xF W g ρ t=if W.contains t then g t else ρ t:=Eq.trans rfl rfl
def cw (W:List Nat) (ρ b:Env):Prop:= ∀t,W.contains t=false→b t=ρ t
theorem cw.refl (W:List Nat) (ρ:Env):cw W ρ ρ:=fun _ _=>rfl
theorem cw.xF (W:List Nat) (g ρ:Env):cw W ρ (xF W g ρ):=fun t b=>by simp only[wz,b,Bool.false_eq_true,if_false]
theorem cw.put {W:List Nat} {ρ b:Env} (h:cw W ρ b) {d:Nat} (k:W.contains d=true) (v:Value):cw W ρ (put b d v):=fun t j=>by
 rw[vU,if_neg (by intro e;subst e;rw[k]at j;cases j)];exact h t j
theorem cw.En {W d:List Nat} {ρ b:Env} (h:cw W ρ b) (k:d.all (W.contains ·)=true) (g:Env):cw W ρ (Go.Proofs.YthamnonkfepafaaGreat.xF d g b):=fun t j=>by
 rw[wz]
 split
 ·rename_i l
  have:=List.all_eq_true.1 k t (by simpa using l)
  rw[j]at this;cases this
 ·exact h t j
theorem cw.eq {W:List Nat} {ρ b:Env} (h:cw W ρ b):b=Go.Proofs.YthamnonkfepafaaGreat.xF W b ρ:=by
 funext t;rw[wz];split
 ·rfl
 ·rename_i d;exact h t (by simpa using d)
theorem az {x:bu} (W:List Nat) (I:Env→World→Prop) (j:Env→World→Nat) (q:I ρ w)
  (step: ∀(g:Env) (w':World),I g w'→(∀b d,I b d→j b d<j g w'→(o:cw W ρ b:=by(repeat(first|with_reducible exact GK|with_reducible exact cw.xF _ _ _|refine cw.put ?_ rfl _|exact GK|exact cw.xF _ _ _|refine cw.En ?_ rfl _)))→dr P f (.lp x::kx) b d R)→dr P f (.code x::.lp x::kx) (xF W g ρ) w' R):
  dr P f (.code (.loop x)::kx) ρ w R:=by
 have key: ∀(m:Nat) (g:Env) (w':World),j g w'=m→I g w'→dr P f (.code x::.lp x::kx) (xF W g ρ) w' R:=by
  intro m
  induction m using Nat.strongRecOn with
  |_ m r=>
   intro g w' t u;refine step g w' u fun b d k l o=>?_;rw[o.eq];exact Lb (r (j b d) (t▸l) b d rfl k)
 have:=Cy (kx:=kx) (key (j ρ w) ρ w rfl q);rwa[←(cw.refl W ρ).eq]at this
end
attribute [irreducible] dr
end Go.Proofs.YthamnonkfepafaaGreat
