/- The engine: symbolic execution. -/
import Derived.Test.YteiildhelefodaaGreatZEngE
import Derived.Still
import Derived.StillTail
import Derived.Tactics
import Derived.Below
import Derived.OrdersIn
import Derived.TacticsIn
set_option linter.unusedSimpArgs false
set_option linter.unusedVariables false
namespace Go.Proofs.YteiildhelefodaaGreat
structure XO where
 dst:Option Nat
 guard:Option (Nat×Bool)
 body:XB
 deriving Inhabited
def putO (ρ:Env) (d:Option Nat) (v:Value):Env:=match d with|some d=>put ρ d v|none=>ρ
theorem putO_some (ρ:Env) (d:Nat) (v:Value):putO ρ (some d) v=put ρ d v:=Eq.trans rfl rfl
theorem putO_none (ρ:Env) (v:Value):putO ρ none v=ρ:=Eq.trans rfl rfl
def gdV (v:Value) (b:Bool):Bool:=match v with|.bool t=>t==b|_=>false
def gdOk (g:Option (Nat×Bool)) (ρ:Env):Bool:=match g with|none=>true|some (s,b)=>gdV (ρ s) b
def stepX (P:Program) (x:XB) (ρ:Env) (w:World) (K:Value→World→Prop):Prop:=
 if x.pure? then(match val x ρ w with|some v=>K v w|none=>False)else fv P x ρ w K
def VO (P:Program):List XO→Env→World→(Env→World→Prop)→Prop
 | [],ρ,w,C=>C ρ w
 |o::rest,ρ,w,C=>
  if gdOk o.guard ρ then stepX P o.body ρ w (fun v w'=>VO P rest (putO ρ o.dst v) w' C)else VO P rest (putO ρ o.dst undef) w C
theorem stepX_mono {P:Program} {x:XB} {ρ:Env} {w:World} {K K':Value→World→Prop} (h:stepX P x ρ w K) (hk: ∀v w',K v w'→K' v w'):stepX P x ρ w K':=by
 unfold stepX at*
 split at h
 ·rename_i hp
  rw[if_pos hp]
  split at h
  ·exact hk _ _ h
  ·exact h
 ·rename_i hp
  rw[if_neg hp]
  cases x<;>simp only[fv]at h⊢
  case box=>exact hk _ _ h
  case alc=>exact hk _ _ h
  case st=>obtain⟨p,h1,h2,h3,h4,h5⟩:=h;exact⟨p,h1,h2,h3,h4,hk _ _ h5⟩
  case stN=>obtain⟨p,cs,h1,h2,h3,h4,h5⟩:=h;exact⟨p,cs,h1,h2,h3,h4,hk _ _ h5⟩
  case call=>exact h.mono hk
  case bsl=>obtain⟨cs,h1,h2⟩:=h;exact⟨cs,h1,hk _ _ h2⟩
  case mks=>obtain⟨k,k',n,m,h1,h2,h3,h4,h5,h6⟩:=h;exact⟨k,k',n,m,h1,h2,h3,h4,h5,hk _ _ h6⟩
  case app=>obtain⟨n,xs,fp,m,us,h1,h2,h3,h4,h5,h6⟩:=h;exact⟨n,xs,fp,m,us,h1,h2,h3,h4,h5,fun v' w' fp' a b c d e=>hk _ _ (h6 v' w' fp' a b c d e)⟩
  case callv=>exact h.mono hk
  case act op=>exact actV_mono h hk
theorem VO_append {P:Program}: ∀(xs ys:List XO) (ρ:Env) (w:World) (C:Env→World→Prop),VO P (xs++ys) ρ w C→VO P xs ρ w (fun ρ w=>VO P ys ρ w C)
 | [],_,_,_,_,h=>h
 |o::xs,ys,ρ,w,C,h=>by
  simp only[List.cons_append,VO]at h⊢
  split at h
  ·rename_i hg;rw[if_pos hg];exact stepX_mono h fun v w' hv=>VO_append xs ys _ _ _ hv
  ·rename_i hg;rw[if_neg hg];exact VO_append xs ys _ _ _ h
def trG (ops:Array Oper):Option (Nat×Bool)→Option (Option (Nat×Bool))
 |none=>some none
 |some (j,b)=>match (ops[j]?).bind (·.dst)with|some d=>some (some (d,b))|none=>none
def dstOk (n:Nat):Option Nat→Bool
 |some d=>decide (d<n)
 |none=>true
def trO (P:Program) (n:Nat) (ops:Array Oper) (o:Oper):Option XO:=
 match trB P o.op,trG ops o.guard with
 |some x,some g=>if dstOk n o.dst then some ⟨o.dst,g,x⟩else none
 |_,_=>none
section
variable {P:Program} {n:Nat} {ds:List Deferred} {ops:Array Oper}
theorem trO_spec {o:Oper} {x:XO} (h:trO P n ops o=some x):trB P o.op=some x.body∧trG ops o.guard=some x.guard∧x.dst=o.dst∧dstOk n o.dst=true:=by
 unfold trO at h
 split at h
 ·rename_i h1 h2
  split at h
  ·rename_i h3;cases h;exact⟨h1,h2,rfl,h3⟩
  ·cases h
 ·cases h
theorem sim_putO {ρ:Env} {a:Act} (h:Sim n ds ρ a) {d:Option Nat} (hd:dstOk n d=true) (v:Value):Sim n ds (putO ρ d v) (a.put d v):=by
 cases d with
 |none=>exact h
 |some d=>exact h.put (of_decide_eq_true hd) v
theorem wanted_eq {o:Oper} {g:Option (Nat×Bool)} (h:trG ops o.guard=some g) {ρ:Env} {a:Act} (hs:Sim n ds ρ a):Region.wanted o (yielded ops a.tmps)=gdOk g ρ:=by
 unfold Region.wanted trG at*
 cases hg:o.guard with
 |none=>simp only[hg]at h;cases h;rfl
 |some jb=>
  obtain⟨j,b⟩:=jb
  simp only[hg]at h
  split at h
  ·rename_i d hd
   cases h
   simp only[yielded,hd,Option.bind_some,gdOk,←hs.get d]
   cases hv:a.tmps[d]? with
   |none=>simp[hv,gdV,undef]
   |some v=>
    have e:a.tmps.getD d undef=v:=by simp[Array.getD_eq_getD_getElem?,hv]
    rw[e]
    cases v<;>simp[gdV]
  ·cases h
def QC (n:Nat) (ds:List Deferred) (C:Env→World→Prop):Exit→Act→World→Prop:=fun e a w=>e=.normal∧ ∃ρ,Sim n ds ρ a∧C ρ w
def FR (ro:Option Nat):Fence:= {Fence.wide with round:=ro}
theorem callsFR {ro:Option Nat} {m:Nat} {f:FuncId} {args:Array Value} {w:World} {R:Ending→World→Prop} (h:Calls P f args w R):CallsIn (FR ro) m P f args w R:=by
 have k:=(callsIn_wide (n:=m)).2 h
 exact k
def opX (P:Program) (o:Oper) (a:Act) (w:World) (K:Act→World→Prop):Prop:=match (execOp a.eval o).run P w with
 |.ok (.value v) w'=>K (a.put o.dst v) w'
 |.ok .skip w'=>K (a.put o.dst undef) w'
 |.ok (.enter f args) w'=>Calls P f args w' (fun e w''=> ∃v,e=.returned v∧K (a.put o.dst v) w'')
 |.ok (.round l f tmps assign body) w'=>RoundP P l f tmps assign body w' (fun v w''=>K (a.put o.dst v) w'')
 |_=>False
def noDefer (o:Oper):Bool:=match o.op with|.defer _=>false|_=>true
theorem noDefer_spec {o:Oper} (h:noDefer o=true): ∀c,o.op≠.defer c:=fun c e=>by simp[noDefer,e]at h
theorem noDefer_tr {o:Oper} {x:XB} (h:trB P o.op=some x):noDefer o=true:=by
 unfold noDefer
 split
 ·rename_i c e
  rw[e]at h
  rcases trB_spec h with h|⟨_,h⟩<;>cases h
 ·rfl
theorem opX_mono {o:Oper} {a:Act} {w:World} {K K':Act→World→Prop} (h:opX P o a w K) (hk: ∀a w,K a w→K' a w):opX P o a w K':=by
 unfold opX at*
 generalize (execOp a.eval o).run P w=r at*
 cases r with
 |halt x w'=>exact h
 |ok n w'=>
  cases n<;>simp only at h⊢ <;>first|exact hk _ _ h|exact Calls.mono h fun e w'' ⟨v,he,hv⟩=>⟨v,he,hk _ _ hv⟩|exact RoundP.mono h fun _ _ hv=>hk _ _ hv|exact h
theorem opX_wpIn {ro:Option Nat} {m:Nat} {o:Oper} {a:Act} {w:World} {K:Act→World→Prop} {Q:Exit→Act→World→Prop} (hd:noDefer o=true) (h:opX P o a w K):o.wpIn (FR ro) m P a w K Q:=by
 refine⟨fun _ _=>trivial,?_⟩
 rw[Oper.semAt_eq _ _ _ (noDefer_spec hd)]
 unfold opX at h
 generalize (execOp a.eval o).run P w=r at*
 cases r with
 |halt x w'=>exact h.elim
 |ok n w'=>
  cases n<;>simp only at h<;>try exact h.elim
  case value v=>exact h
  case skip=>exact h
  case enter f args=>exact⟨fun h=>by simp[FR,Fence.wide]at h,callsFR (Calls.mono h fun e w'' ⟨v,he,hv⟩=>by subst he;exact hv)⟩
  case round l f tmps assign body=>
   refine⟨fun h=>by simp[FR,Fence.wide]at h,trivial,fun c cs _=>?_⟩
   obtain⟨v,w'',hv,hs⟩:=h c cs
   refine⟨.returned v,w'',hv,?_⟩
   exact stepsIn_wide.2 hs
theorem stepX_upon {o:Oper} {x:XB} (hb:trB P o.op=some x) {ρ:Env} {a:Act} (hs:Sim n ds ρ a) {w:World} {K:Value→World→Prop} (hx:stepX P x ρ w K)
  {next:Act→World→Prop} (hk: ∀v w',K v w'→next (a.put o.dst v) w'):opX P o a w next:=by
 obtain⟨dd,op,ty,pos,af,g⟩:=o
 unfold opX
 rw[hs.evalFn]
 unfold stepX at hx
 split at hx
 ·rename_i hp
  split at hx
  ·rename_i v hv
   rw[val_sound hb hp hv dd ty pos af g]
   exact hk _ _ hx
  ·exact hx.elim
 ·have ha:=fv_sound hb hx dd ty pos af g
  unfold ActsV at ha
  generalize (execOp (ev ρ) ⟨dd,op,ty,pos,af,g⟩).run P w=r at ha
  cases r with
  |halt h w'=>exact ha.elim
  |ok nx w'=>
   cases nx<;>simp only at ha⊢
   case value v=>exact hk _ _ ha
   case skip=>exact hk _ _ ha
   case enter f args=>exact Calls.mono ha fun e w'' ⟨v,he,hv⟩=>⟨v,he,hk _ _ hv⟩
   case round l f tmps assign body=>exact RoundP.mono ha fun v w'' hv=>hk _ _ hv
theorem stepX_upon0 {o:Oper} {x:XB} (hb:trB P o.op=some x) (hV:x.isV=false) {ρ:Env} {a:Act} (hs:Sim n ds ρ a) {w:World} {K:Value→World→Prop} (hx:stepX P x ρ w K)
  {next:Act→World→Prop} {Q:Exit→Act→World→Prop} (hk: ∀v w',K v w'→next (a.put o.dst v) w'):o.wp P a w next Q:=by
 obtain⟨dd,op,ty,pos,af,g⟩:=o
 unfold Oper.wp
 rw[hs.evalFn]
 unfold stepX at hx
 split at hx
 ·rename_i hp
  split at hx
  ·rename_i v hv
   rw[val_sound hb hp hv dd ty pos af g]
   exact hk _ _ hx
  ·exact hx.elim
 ·have ha:=fv_sound0 hb hV hx dd ty pos af g
  unfold Acts at ha
  generalize (execOp (ev ρ) ⟨dd,op,ty,pos,af,g⟩).run P w=r at ha
  cases r with
  |halt h w'=>exact ha.elim
  |ok nx w'=>
   cases nx<;>simp only[Oper.upon]at ha⊢
   case value v=>exact hk _ _ ha
   case skip=>exact hk _ _ ha
   case enter f args=>exact Calls.mono ha fun e w'' ⟨v,he,hv⟩=>by subst he;exact hk _ _ hv
theorem VO_listR {ro:Option Nat} {m:Nat} {C:Env→World→Prop}: ∀(l:List Oper) (xs:List XO),l.mapM (trO P n ops)=some xs→ ∀(ρ:Env) (w:World) (a:Act),Sim n ds ρ a→VO P xs ρ w C→wpListIn (FR ro) m P ops (QC n ds C) l a w
 | [],xs,h,ρ,w,a,hs,hv=>by
  simp at h;subst h
  exact⟨rfl,ρ,hs,hv⟩
 |o::l,xs,h,ρ,w,a,hs,hv=>by
  simp only[List.mapM_cons,Option.bind_eq_bind,Option.bind_eq_some_iff,Option.pure_def,Option.some.injEq]at h
  obtain⟨x,hx,ys,hy,rfl⟩:=h
  obtain⟨h1,h2,h3,h4⟩:=trO_spec hx
  have hw:=wanted_eq h2 hs
  simp only[VO]at hv
  unfold wpListIn
  rw[hw]
  split at hv
  ·rename_i hg
   rw[if_pos hg]
   refine opX_wpIn (noDefer_tr h1) (stepX_upon h1 hs hv fun v w' hvv=>?_)
   rw[h3]at hvv
   exact VO_listR l ys hy _ _ _ (sim_putO hs h4 v) hvv
  ·rename_i hg
   rw[if_neg hg]
   rw[h3]at hv
   exact⟨fun _ _=>trivial,VO_listR l ys hy _ _ _ (sim_putO hs h4 undef) hv⟩
def noVs (xs:List XO):Bool:=xs.all fun x=>!x.body.isV
theorem VO_list {C:Env→World→Prop}: ∀(l:List Oper) (xs:List XO),l.mapM (trO P n ops)=some xs→noVs xs=true→ ∀(ρ:Env) (w:World) (a:Act),Sim n ds ρ a→VO P xs ρ w C→wpList P ops (QC n ds C) l a w
 | [],xs,h,_,ρ,w,a,hs,hv=>by
  simp at h;subst h
  exact⟨rfl,ρ,hs,hv⟩
 |o::l,xs,h,hn,ρ,w,a,hs,hv=>by
  simp only[List.mapM_cons,Option.bind_eq_bind,Option.bind_eq_some_iff,Option.pure_def,Option.some.injEq]at h
  obtain⟨x,hx,ys,hy,rfl⟩:=h
  obtain⟨h1,h2,h3,h4⟩:=trO_spec hx
  have hw:=wanted_eq h2 hs
  simp only[noVs,List.all_cons,Bool.and_eq_true,Bool.not_eq_true']at hn
  simp only[VO]at hv
  unfold wpList
  rw[hw]
  split at hv
  ·rename_i hg
   rw[if_pos hg]
   refine .inl (stepX_upon0 h1 hn.1 hs hv fun v w' hvv=>?_)
   rw[h3]at hvv
   exact VO_list l ys hy hn.2 _ _ _ (sim_putO hs h4 v) hvv
  ·rename_i hg
   rw[if_neg hg]
   rw[h3]at hv
   exact VO_list l ys hy hn.2 _ _ _ (sim_putO hs h4 undef) hv
def pureL (xs:List XO):Bool:=xs.all fun x=>x.body.pure?
theorem VO_still {Q:Act→Prop} {C:Env→World→Prop} {w:World} (hQ: ∀ρ a,Sim n ds ρ a→C ρ w→Q a): ∀(l:List Oper) (xs:List XO),l.mapM (trO P n ops)=some xs→pureL xs=true→ ∀(ρ:Env) (a:Act),Sim n ds ρ a→VO P xs ρ w C→
  wpStill P ops w Q l a
 | [],xs,h,_,ρ,a,hs,hv=>by
  simp at h;subst h
  exact hQ ρ a hs hv
 |o::l,xs,h,hp,ρ,a,hs,hv=>by
  simp only[List.mapM_cons,Option.bind_eq_bind,Option.bind_eq_some_iff,Option.pure_def,Option.some.injEq]at h
  obtain⟨x,hx,ys,hy,rfl⟩:=h
  obtain⟨h1,h2,h3,h4⟩:=trO_spec hx
  have hw:=wanted_eq h2 hs
  simp only[pureL,List.all_cons,Bool.and_eq_true]at hp
  obtain⟨hp1,hp2⟩:=hp
  simp only[VO]at hv
  unfold wpStill
  rw[hw]
  split at hv
  ·rename_i hg
   rw[if_pos hg]
   unfold stepX at hv
   rw[if_pos hp1]at hv
   split at hv
   ·rename_i v hvv
    obtain⟨dd,op,ty,pos,af,g⟩:=o
    unfold Oper.still
    rw[hs.evalFn,val_sound h1 hp1 hvv dd ty pos af g]
    simp only[Oper.stillUpon]
    refine⟨trivial,?_⟩
    rw[h3]at hv
    exact VO_still hQ l ys hy hp2 _ _ (sim_putO hs h4 v) hv
   ·exact hv.elim
  ·rename_i hg
   rw[if_neg hg]
   rw[h3]at hv
   exact VO_still hQ l ys hy hp2 _ _ (sim_putO hs h4 undef) hv
theorem wp_of_plain {ro:Option Nat} {id m:Nat} {C:Env→World→Prop} {xs:List XO} (h:ops.toList.mapM (trO P n ops)=some xs) {ρ:Env} {w:World} {a:Act} (hs:Sim n ds ρ a) (hv:VO P xs ρ w C):
  (Code.region id ops false).wpIn (FR ro) m P (QC n ds C) a w:=wpIn_region_list (VO_listR _ _ h ρ w a hs hv)
theorem wp_of_still {id m:Nat} {C:Env→World→Prop} {xs:List XO} (hm:P.follows .mixedOrders=true) (hB:Region.lexB .any ops=true) (hp:pureL xs=true)
  (h:ops.toList.mapM (trO P n ops)=some xs) {ρ:Env} {w:World} {a:Act} (hs:Sim n ds ρ a) (hv:VO P xs ρ w.drew C):(Code.region id ops true).wpIn (FR none) m P (QC n ds C) a w:=
 wpIn_wide.2<|wp_region_still hm hB (VO_still (C:=C) (w:=w.drew) (fun ρ _ hs hc=>⟨rfl,ρ,hs,hc⟩) _ _ h hp ρ a hs hv)
theorem mapM_take_drop {α β:Type} {f:α→Option β}: ∀(k:Nat) (l:List α) (xs:List β),l.mapM f=some xs→(l.take k).mapM f=some (xs.take k)∧(l.drop k).mapM f=some (xs.drop k)
 |0,l,xs,h=>by simpa using h
 |k+1,[],xs,h=>by simp at h;subst h;simp
 |k+1,a::l,xs,h=>by
  simp only[List.mapM_cons,Option.bind_eq_bind,Option.bind_eq_some_iff,Option.pure_def,Option.some.injEq]at h
  obtain⟨x,hx,ys,hy,rfl⟩:=h
  obtain⟨h1,h2⟩:=mapM_take_drop k l ys hy
  simp[hx,h1,h2]
theorem wp_of_tail {id k m:Nat} {C:Env→World→Prop} {xs:List XO} (hm:P.follows .mixedOrders=true) (hB:Region.lexTailB .any ops k=true) (hp:pureL (xs.take k)=true) (hn:noVs (xs.drop k)=true)
  (h:ops.toList.mapM (trO P n ops)=some xs) {ρ:Env} {w:World} {a:Act} (hs:Sim n ds ρ a) (hv:VO P xs ρ w.drew C):(Code.region id ops true).wpIn (FR none) m P (QC n ds C) a w:=by
 have e:ops=ops.toList.toArray:=by simp
 rw[e]
 refine wpIn_wide.2<|wp_region_still_tail k hm (by rw[←e];exact hB) ?_
 obtain⟨h1,h2⟩:=mapM_take_drop k _ _ h
 rw[←e]
 have hv':=VO_append (xs.take k) (xs.drop k) ρ w.drew C (by rw[List.take_append_drop];exact hv)
 exact VO_still (C:=fun ρ w=>VO P (xs.drop k) ρ w C) (w:=w.drew) (fun ρ _ hs hc=>VO_list _ _ h2 hn ρ _ _ hs hc) _ _ h1 hp ρ a hs hv'
end
def At (w:World) (b:Nat) (vs:List Value):Prop:= ∃T,w.heap[b]? =some (.cells ⟨vs⟩ T (0,0))
theorem At.cell {w:World} {b:Nat} {vs:List Value} (h:At w b vs) (i:Nat):w.cell? ⟨b,i,none⟩=vs[i]? :=by
 obtain⟨T,h⟩:=h;simp[World.cell?,h]
theorem At.free {w:World} {b:Nat} {vs:List Value} (h:At w b vs) (i:Nat):w.frozen? ⟨b,i,none⟩=false:=by
 obtain⟨T,h⟩:=h;simp[World.frozen?,h]
theorem At.lt {w:World} {b:Nat} {vs:List Value} (h:At w b vs):b<w.heap.size:=by
 obtain⟨T,h⟩:=h;exact(Array.getElem?_eq_some_iff.1 h).1
theorem At.drew {w:World} {b:Nat} {vs:List Value} (h:At w b vs):At w.drew b vs:=h
theorem At.heap {w w':World} {b:Nat} {vs:List Value} (h:At w b vs) (e:w'.heap[b]? =w.heap[b]?):At w' b vs:=by
 obtain⟨T,h⟩:=h;exact⟨T,by rw[e];exact h⟩
theorem At.inj {w:World} {b:Nat} {vs us:List Value} (h:At w b vs) (k:At w b us):vs=us:=by
 obtain⟨T,h⟩:=h;obtain⟨U,k⟩:=k;rw[h]at k;simp at k;exact k.1
theorem Only.same {S:List Nat} {a b c:World} (h:Only S a b) (k:Only S b c):Only S a c:=h.trans k fun _ hx=>.inl hx
theorem Only.nil {S:List Nat} {a b c:World} (h:Only S a b) (k:Only [] b c):Only S a c:=h.trans k fun _ hx=>absurd hx (by simp)
theorem Only.mono {S T:List Nat} {a b:World} (h:Only S a b) (hs: ∀x,x∈S→x∈T∨a.heap.size≤x):Only T a b:=
 ⟨h.os,h.tape,h.output,h.size,fun x hx hn=>h.block x hx fun hS=>(hs x hS).elim hn (fun hl=>absurd hx (Nat.not_lt.2 hl))⟩
theorem Only.of_nil {T:List Nat} {a b:World} (h:Only [] a b):Only T a b:=h.mono fun _ hx=>absurd hx (by simp)
theorem Only.drew (S:List Nat) (w:World):Only S w w.drew:=⟨rfl,rfl,rfl,Nat.le_refl _,fun _ _ _=>rfl⟩
theorem Only.drew_left {S:List Nat} {w w':World} (h:Only S w.drew w'):Only S w w':=⟨h.os,h.tape,h.output,h.size,h.block⟩
theorem Only.alloc (S:List Nat) (w:World) (o:Obj):Only S w (w.alloc o):=
 ⟨rfl,rfl,rfl,by simp,fun k hk _=>by show(w.heap.push o)[k]? =_;rw[Array.getElem?_push,if_neg (by omega)]⟩
theorem Only.below {S:List Nat} {w w':World} (h:Only S w w') (hs: ∀x,x∈S→w.heap.size≤x):Go.RowKit.Below w.heap.size w w':=
 ⟨h.os,h.tape,h.output,h.size,fun k hk=>h.block k hk fun hS=>absurd hk (Nat.not_lt.2 (hs k hS))⟩
theorem At.keep {S:List Nat} {w w':World} {b:Nat} {vs:List Value} (h:At w b vs) (k:Only S w w') (hb:b∉S):At w' b vs:=h.heap (k.block b h.lt hb)
theorem At.keep0 {w w':World} {b:Nat} {vs:List Value} (h:At w b vs) (k:Only [] w w'):At w' b vs:=h.keep k (by simp)
theorem At.alloc (w:World) (vs:List Value) (T:TypeId):At (w.alloc (.cells ⟨vs⟩ T)) w.heap.size vs:=⟨T,by show(w.heap.push _)[w.heap.size]? =_;simp⟩
theorem At.set {w:World} {b:Nat} {vs:List Value} (h:At w b vs) (i:Nat) (v:Value):At (w.setCell ⟨b,i,none⟩ v) b (vs.set i v):=by
 obtain⟨T,h⟩:=h
 refine⟨T,?_⟩
 simp[World.setCell,Array.getElem?_modify,h]
theorem cellsAt_at {w:World} {b:Nat} {vs:List Value} (h:At w b vs) (o n:Nat) (hn:o+n≤vs.length):cellsAt w ⟨b,o,none⟩ n=some ((vs.drop o).take n):=by
 unfold cellsAt
 have key: ∀m,m≤n→(List.range m).mapM (fun i=>w.cell? ((⟨b,o,none⟩:Addr).add i))=some ((vs.drop o).take m):=by
  intro m
  induction m with
  |zero=>intro _;simp
  |succ m ih=>
   intro hm
   rw[List.range_succ,List.mapM_append,ih (by omega)]
   have:w.cell? ((⟨b,o,none⟩:Addr).add m)=some (vs[o+m]'(by omega)):=by rw[addr_add,h.cell];simp
   simp only[List.mapM_cons,List.mapM_nil,this,Option.bind_eq_bind,Option.bind_some,Option.pure_def,Option.some.injEq]
   rw[List.take_add_one,List.getElem?_drop,List.getElem?_eq_getElem (by omega)]
   simp
 exact key n (Nat.le_refl n)
section
variable {P:Program} {rest:List XO} {ρ:Env} {w:World} {C:Env→World→Prop} {d:Option Nat}
def AndV (P:Program) (o:Option Value) (d:Option Nat) (rest:List XO) (ρ:Env) (w:World) (C:Env→World→Prop):Prop:=match o with
 |some v=>VO P rest (putO ρ d v) w C
 |none=>False
theorem AndV_some (v:Value):AndV P (some v) d rest ρ w C=VO P rest (putO ρ d v) w C:=propext Iff.rfl
def BoxT (P:Program) (t:TypeId) (cells:List Value) (d:Option Nat) (rest:List XO) (ρ:Env) (w:World) (C:Env→World→Prop):Prop:=
 VO P rest (putO ρ d (.pointer (some ⟨w.heap.size,0,none⟩))) (w.alloc (.cells ⟨cells⟩ t)) C
def StT (P:Program) (a v:Value) (d:Option Nat) (rest:List XO) (ρ:Env) (w:World) (C:Env→World→Prop):Prop:=
 ∃p,a=.pointer (some p)∧oneC v=true∧(w.cell? p).isSome=true∧w.frozen? p=false∧VO P rest (putO ρ d undef) (w.setCell p v) C
def StNT (P:Program) (n:Nat) (a v:Value) (d:Option Nat) (rest:List XO) (ρ:Env) (w:World) (C:Env→World→Prop):Prop:=
 ∃p cs,a=.pointer (some p)∧v=.agg cs∧cs.size=n∧World.mayCells w p cs.toList 0∧VO P rest (putO ρ d undef) (World.setCells w p cs.toList 0) C
def CallT (P:Program) (f:FuncId) (args:List Value) (d:Option Nat) (rest:List XO) (ρ:Env) (w:World) (C:Env→World→Prop):Prop:=
 Cs P f args w fun v w'=>VO P rest (putO ρ d v) w' C
def GdT (P:Program) (v:Value) (b:Bool) (d:Option Nat) (x:XB) (rest:List XO) (ρ:Env) (w:World) (C:Env→World→Prop):Prop:=
 if gdV v b then VO P (⟨d,none,x⟩::rest) ρ w C else VO P rest (putO ρ d undef) w C
theorem VO_guard (s:Nat) (b:Bool) (x:XB):VO P (⟨d,some (s,b),x⟩::rest) ρ w C=GdT P (ρ s) b d x rest ρ w C:=propext Iff.rfl
theorem GdT_tt (x:XB):GdT P (.bool true) true d x rest ρ w C=VO P (⟨d,none,x⟩::rest) ρ w C:=propext Iff.rfl
theorem GdT_ff (x:XB):GdT P (.bool false) false d x rest ρ w C=VO P (⟨d,none,x⟩::rest) ρ w C:=propext Iff.rfl
theorem GdT_tf (x:XB):GdT P (.bool true) false d x rest ρ w C=VO P rest (putO ρ d undef) w C:=propext Iff.rfl
theorem GdT_ft (x:XB):GdT P (.bool false) true d x rest ρ w C=VO P rest (putO ρ d undef) w C:=propext Iff.rfl
theorem GdT_un (b:Bool) (x:XB):GdT P undef b d x rest ρ w C=VO P rest (putO ρ d undef) w C:=propext Iff.rfl
theorem VO_nil:VO P [] ρ w C=C ρ w:=propext Iff.rfl
theorem VO_mv (x:Operand):VO P (⟨d,none,.mv x⟩::rest) ρ w C=VO P rest (putO ρ d (ev ρ x)) w C:=propext Iff.rfl
theorem VO_pick (c a b:Operand):VO P (⟨d,none,.pick c a b⟩::rest) ρ w C=AndV P (pickO (ev ρ c) (ev ρ a) (ev ρ b)) d rest ρ w C:=propext Iff.rfl
theorem VO_nilck (x:Operand):VO P (⟨d,none,.nilck x⟩::rest) ρ w C=AndV P (nilckO (ev ρ x)) d rest ρ w C:=propext Iff.rfl
theorem VO_ld (x:Operand):VO P (⟨d,none,.ld x⟩::rest) ρ w C=AndV P (cellO w (ev ρ x)) d rest ρ w C:=propext Iff.rfl
theorem VO_ldN (n:Nat) (x:Operand):VO P (⟨d,none,.ldN n x⟩::rest) ρ w C=AndV P (cellsO w n (ev ρ x)) d rest ρ w C:=propext Iff.rfl
theorem VO_fa (o:Nat) (x:Operand):VO P (⟨d,none,.fa o x⟩::rest) ρ w C=AndV P (faO o (ev ρ x)) d rest ρ w C:=propext Iff.rfl
theorem VO_ia (s:Nat) (x i:Operand):VO P (⟨d,none,.ia s x i⟩::rest) ρ w C=AndV P (iaO s (ev ρ x) (ev ρ i)) d rest ρ w C:=propext Iff.rfl
theorem VO_iaA (n s:Nat) (x i:Operand):VO P (⟨d,none,.iaA n s x i⟩::rest) ρ w C=AndV P (iaAO n s (ev ρ x) (ev ρ i)) d rest ρ w C:=propext Iff.rfl
theorem VO_bin (op:BinOp) (x y:Operand):VO P (⟨d,none,.bin op x y⟩::rest) ρ w C=AndV P (binO op (ev ρ x) (ev ρ y)) d rest ρ w C:=propext Iff.rfl
theorem VO_eqP (n:Bool) (x y:Operand):VO P (⟨d,none,.eqP n x y⟩::rest) ρ w C=AndV P (eqPO n (ev ρ x) (ev ρ y)) d rest ρ w C:=propext Iff.rfl
theorem VO_eqS (n:Bool) (x y:Operand):VO P (⟨d,none,.eqS n x y⟩::rest) ρ w C=AndV P (eqSO n (ev ρ x) (ev ρ y)) d rest ρ w C:=propext Iff.rfl
theorem VO_no (x:Operand):VO P (⟨d,none,.no x⟩::rest) ρ w C=AndV P (noO (ev ρ x)) d rest ρ w C:=propext Iff.rfl
theorem VO_conv (k:IntKind) (x:Operand):VO P (⟨d,none,.conv k x⟩::rest) ρ w C=AndV P (convO k (ev ρ x)) d rest ρ w C:=propext Iff.rfl
theorem VO_mkfn (fn:Fn) (a b:Array Operand):VO P (⟨d,none,.mkfn fn a b⟩::rest) ρ w C=VO P rest (putO ρ d (.func fn (a.map (ev ρ)) (b.map (ev ρ)))) w C:=propext Iff.rfl
theorem VO_slc (s:Nat) (x:Operand) (lo hi:Option Operand):VO P (⟨d,none,.slc s x lo hi⟩::rest) ρ w C=AndV P (slcO s (ev ρ x) (lo.map (ev ρ)) (hi.map (ev ρ))) d rest ρ w C:=propext Iff.rfl
theorem VO_slc3 (s:Nat) (x lo hi mx:Operand):VO P (⟨d,none,.slc3 s x lo hi mx⟩::rest) ρ w C=AndV P (slc3O s (ev ρ x) (ev ρ lo) (ev ρ hi) (ev ρ mx)) d rest ρ w C:=propext Iff.rfl
theorem VO_ext (x:Operand) (i:Nat):VO P (⟨d,none,.ext x i⟩::rest) ρ w C=AndV P (extO (ev ρ x) i) d rest ρ w C:=propext Iff.rfl
theorem VO_len (x:Operand):VO P (⟨d,none,.len x⟩::rest) ρ w C=AndV P (lenO (ev ρ x)) d rest ρ w C:=propext Iff.rfl
theorem VO_mnmx (m:Bool) (x y:Operand):VO P (⟨d,none,.mnmx m x y⟩::rest) ρ w C=AndV P (mnmxO m (ev ρ x) (ev ρ y)) d rest ρ w C:=propext Iff.rfl
theorem VO_box (t:TypeId) (x:Operand):VO P (⟨d,none,.box t x⟩::rest) ρ w C=BoxT P t (ev ρ x).cells.toList d rest ρ w C:=propext Iff.rfl
theorem VO_alc (t:TypeId) (z:List Value):VO P (⟨d,none,.alc t z⟩::rest) ρ w C=BoxT P t z d rest ρ w C:=propext Iff.rfl
theorem VO_st (a v:Operand):VO P (⟨d,none,.st a v⟩::rest) ρ w C=StT P (ev ρ a) (ev ρ v) d rest ρ w C:=propext Iff.rfl
theorem VO_stN (n:Nat) (a v:Operand):VO P (⟨d,none,.stN n a v⟩::rest) ρ w C=StNT P n (ev ρ a) (ev ρ v) d rest ρ w C:=propext Iff.rfl
def BslT (P:Program) (o:Option (List Value)) (e len:Nat) (d:Option Nat) (rest:List XO) (ρ:Env) (w:World) (C:Env→World→Prop):Prop:=
 ∃cs,o=some cs∧VO P rest (putO ρ d (.slice (some ⟨w.heap.size,0,none⟩) len len)) (w.alloc (.cells ⟨cs⟩ e)) C
def MksT (P:Program) (e bytes:Nat) (zero:List Value) (l c:Value) (d:Option Nat) (rest:List XO) (ρ:Env) (w:World) (C:Env→World→Prop):Prop:=
 ∃(k k':IntKind) (n m:Nat),l=.int k n∧c=.int k' m∧n≤m∧m≤1099511627776∧m*bytes≤1099511627776∧VO P rest (putO ρ d (.slice (some ⟨w.heap.size,0,none⟩) n m)) (w.alloc (.cells ⟨rowZ zero m⟩ e)) C
def AppT (P:Program) (sz bytes:Nat) (s x:Value) (d:Option Nat) (rest:List XO) (ρ:Env) (w:World) (C:Env→World→Prop):Prop:=
 ∃n xs fp m us,SlW w sz s n xs fp∧SrcIs w sz x m us∧(∀u,u∈us→oneC u=true)∧n+m≤1099511627776∧(n+m)*bytes≤1099511627776∧
   ∀v' w' fp',SlW w' sz v' (n+m) (xs++us) fp'→(Sl w sz s n xs fp→Sl w' sz v' (n+m) (xs++us) fp')→(fp'=fp∨fp'=[w.heap.size])→Only fp w w'→AppI s v' n m fp fp'→VO P rest (putO ρ d v') w' C
def RunT (P:Program) (s:Sem Value) (d:Option Nat) (rest:List XO) (ρ:Env) (w:World) (C:Env→World→Prop):Prop:= ∃v w',s.run P w=.ok v w'∧VO P rest (putO ρ d v) w' C
def RunUT (P:Program) (s:Sem Unit) (d:Option Nat) (rest:List XO) (ρ:Env) (w:World) (C:Env→World→Prop):Prop:= ∃w',s.run P w=.ok () w'∧VO P rest (putO ρ d undef) w' C
theorem VO_mkmap (t:TypeId) (r:Option Operand):VO P (⟨d,none,.act (.makeMap t r)⟩::rest) ρ w C=RunT P (Instr.makeMap t (r.map (ev ρ))) d rest ρ w C:=propext Iff.rfl
theorem VO_mput (t:TypeId) (m k x:Operand):VO P (⟨d,none,.act (.mapUpdate t m k x)⟩::rest) ρ w C=RunUT P (Instr.mapUpdate t (ev ρ m) (ev ρ k) (ev ρ x)) d rest ρ w C:=propext Iff.rfl
theorem VO_lkp (t:TypeId) (x i:Operand) (ok:Bool):VO P (⟨d,none,.act (.lookup t x i ok)⟩::rest) ρ w C=RunT P (Instr.lookup t (ev ρ x) (ev ρ i) ok) d rest ρ w C:=propext Iff.rfl
theorem VO_range (t:TypeId) (x:Operand):VO P (⟨d,none,.act (.range t x)⟩::rest) ρ w C=RunT P (Instr.range t (ev ρ x)) d rest ρ w C:=propext Iff.rfl
theorem VO_next (it:Operand) (b:Bool):VO P (⟨d,none,.act (.next it b)⟩::rest) ρ w C=RunT P (Instr.next (ev ρ it) b 0) d rest ρ w C:=propext Iff.rfl
theorem VO_entry (it:Operand):VO P (⟨d,none,.act (.entry it)⟩::rest) ρ w C=RunT P (Instr.entry (ev ρ it)) d rest ρ w C:=propext Iff.rfl
theorem VO_mdel (t k:TypeId) (m x:Operand):VO P (⟨d,none,.act (.call ⟨.builtin .delete,#[m,x],#[t,k]⟩)⟩::rest) ρ w C=RunT P (Builtin.delete_ #[t,k] 0 #[ev ρ m,ev ρ x]) d rest ρ w C:=by
 have e:(#[m,x]:Array Operand).map (ev ρ)=#[ev ρ m,ev ρ x]:=by simp
 rw[←e];exact propext Iff.rfl
theorem VO_clear (t:TypeId) (x:Operand):VO P (⟨d,none,.act (.call ⟨.builtin .clear,#[x],#[t]⟩)⟩::rest) ρ w C=RunT P (Builtin.clear_ #[t] 0 #[ev ρ x]) d rest ρ w C:=by
 have e:(#[x]:Array Operand).map (ev ρ)=#[ev ρ x]:=by simp
 rw[←e];exact propext Iff.rfl
theorem VO_mlen (t:TypeId) (x:Operand):VO P (⟨d,none,.act (.call ⟨.builtin .len,#[x],#[t]⟩)⟩::rest) ρ w C=RunT P (Builtin.len_ #[t] 0 #[ev ρ x]) d rest ρ w C:=by
 have e:(#[x]:Array Operand).map (ev ρ)=#[ev ρ x]:=by simp
 rw[←e];exact propext Iff.rfl
theorem runT {s:Sem Value} {v:Value} {w':World} (hr:s.run P w=.ok v w') (h:VO P rest (putO ρ d v) w' C):RunT P s d rest ρ w C:=⟨v,w',hr,h⟩
theorem runUT {s:Sem Unit} {w':World} (hr:s.run P w=.ok () w') (h:VO P rest (putO ρ d undef) w' C):RunUT P s d rest ρ w C:=⟨w',hr,h⟩
def CallVT (P:Program) (f:Value) (args:List Value) (d:Option Nat) (rest:List XO) (ρ:Env) (w:World) (C:Env→World→Prop):Prop:=
 CallV P f args w fun v w'=>VO P rest (putO ρ d v) w' C
theorem VO_bld (z:List Value) (ps:List (Nat×Nat×Operand)):VO P (⟨d,none,.bld z ps⟩::rest) ρ w C=AndV P (aggO (fillL z (ps.map (evP ρ)))) d rest ρ w C:=propext Iff.rfl
theorem VO_eqA (n:Bool) (k:Nat) (x y:Operand):VO P (⟨d,none,.eqA n k x y⟩::rest) ρ w C=AndV P (eqAO n k (ev ρ x) (ev ρ y)) d rest ρ w C:=propext Iff.rfl
theorem VO_bsl (e len:Nat) (z:List Value) (ps:List (Nat×Nat×Operand)):VO P (⟨d,none,.bsl e len z ps⟩::rest) ρ w C=BslT P (fillL z (ps.map (evP ρ))) e len d rest ρ w C:=propext Iff.rfl
theorem VO_mks (e b:Nat) (z:List Value) (l c:Operand):VO P (⟨d,none,.mks e b z l c⟩::rest) ρ w C=MksT P e b z (ev ρ l) (ev ρ c) d rest ρ w C:=propext Iff.rfl
theorem VO_app (e b:Nat) (z:List Value) (s x:Operand):VO P (⟨d,none,.app e b z s x⟩::rest) ρ w C=AppT P z.length b (ev ρ s) (ev ρ x) d rest ρ w C:=propext Iff.rfl
theorem VO_callv (f:Operand) (args:List Operand):VO P (⟨d,none,.callv f args⟩::rest) ρ w C=CallVT P (ev ρ f) (args.map (ev ρ)) d rest ρ w C:=propext Iff.rfl
theorem bslT {e len:Nat} {cs:List Value} (h: ∀g w',g=w.heap.size→w'.heap.size=w.heap.size+1→At w' g cs→Only [] w w'→VO P rest (putO ρ d (.slice (some ⟨g,0,none⟩) len len)) w' C):BslT P (some cs) e len d rest ρ w C:=
 ⟨cs,rfl,h _ _ rfl (by simp) (At.alloc w cs e) (Only.alloc [] w _)⟩
theorem mksT {e bytes:Nat} {zero:List Value} {k k':IntKind} {n m:Nat} (hnm:n≤m) (h1:m≤1099511627776) (h2:m*bytes≤1099511627776)
  (h: ∀g w',g=w.heap.size→w'.heap.size=w.heap.size+1→At w' g (rowZ zero m)→Only [] w w'→VO P rest (putO ρ d (.slice (some ⟨g,0,none⟩) n m)) w' C):MksT P e bytes zero (.int k n) (.int k' m) d rest ρ w C:=
 ⟨k,k',n,m,rfl,rfl,hnm,h1,h2,h _ _ rfl (by simp) (At.alloc w _ e) (Only.alloc [] w _)⟩
theorem appT {sz bytes:Nat} {s x:Value} {n m:Nat} {xs us:List Value} {fp:List Nat} (hs:Sl w sz s n xs fp) (hx:SrcIs w sz x m us) (h1: ∀u,u∈us→oneC u=true) (h2:n+m≤1099511627776) (h3:(n+m)*bytes≤1099511627776)
  (h: ∀v' w' fp',Sl w' sz v' (n+m) (xs++us) fp'→(fp'=fp∨fp'=[w.heap.size])→Only fp w w'→AppI s v' n m fp fp'→VO P rest (putO ρ d v') w' C):AppT P sz bytes s x d rest ρ w C:=
 ⟨n,xs,fp,m,us,hs.toW,hx,h1,h2,h3,fun v' w' fp' _ k=>h v' w' fp' (k hs)⟩
theorem appTW {sz bytes:Nat} {s x:Value} {n m:Nat} {xs us:List Value} {fp:List Nat} (hs:SlW w sz s n xs fp) (hx:SrcIs w sz x m us) (h1: ∀u,u∈us→oneC u=true) (h2:n+m≤1099511627776) (h3:(n+m)*bytes≤1099511627776)
  (h: ∀v' w' fp',SlW w' sz v' (n+m) (xs++us) fp'→(fp'=fp∨fp'=[w.heap.size])→Only fp w w'→AppI s v' n m fp fp'→VO P rest (putO ρ d v') w' C):AppT P sz bytes s x d rest ρ w C:=
 ⟨n,xs,fp,m,us,hs,hx,h1,h2,h3,fun v' w' fp' k _=>h v' w' fp' k⟩
theorem callVT {f:Value} {args:List Value} {g:Nat} {vs:List Value} {R:Value→World→Prop} (hv:callVals f args=some (g,vs)) (ho:okF P g=true) (h:Cs P g vs w R) (k: ∀v w',R v w'→VO P rest (putO ρ d v) w' C):CallVT P f args d rest ρ w C:=
 .inl ⟨g,vs,hv,ho,h.mono k⟩
theorem yieldT {l:Nat} {args:List Value} {R:Value→World→Prop} (h:Ys P l args w R) (k: ∀v w',R v w'→VO P rest (putO ρ d v) w' C):CallVT P (.func (.yield l) #[] #[]) args d rest ρ w C:=
 .inr ⟨l,rfl,h.mono k⟩
theorem VO_call (f:Nat) (args:List Operand):VO P (⟨d,none,.call f args⟩::rest) ρ w C=CallT P f (args.map (ev ρ)) d rest ρ w C:=propext Iff.rfl
theorem boxT {t:TypeId} {cells:List Value} (h: ∀g w',g=w.heap.size→w'.heap.size=w.heap.size+1→At w' g cells→Only [] w w'→VO P rest (putO ρ d (.pointer (some ⟨g,0,none⟩))) w' C):BoxT P t cells d rest ρ w C:=
 h _ _ rfl (by simp) (At.alloc w cells t) (Only.alloc [] w _)
theorem stT {b i:Nat} {vs:List Value} {v:Value} (h:At w b vs) (hi:i<vs.length) (hv:oneC v=true)
  (k: ∀w',w'.heap.size=w.heap.size→At w' b (vs.set i v)→Only [b] w w'→VO P rest (putO ρ d undef) w' C):StT P (.pointer (some ⟨b,i,none⟩)) v d rest ρ w C:=
 ⟨_,rfl,hv,by rw[h.cell];simp[hi],h.free i,k _ (by simp) (h.set i v) (Only.setCell w ⟨b,i,none⟩ v)⟩
theorem callT {f:FuncId} {args:List Value} {R:Value→World→Prop} (h:Cs P f args w R) (k: ∀v w',R v w'→VO P rest (putO ρ d v) w' C):CallT P f args d rest ρ w C:=
 h.mono k
theorem callT0 {f:FuncId} {args:List Value} {a:Value} (h:Cs P f args w fun v w'=>v=a∧w'=w) (k:VO P rest (putO ρ d a) w C):CallT P f args d rest ρ w C:=
 h.mono fun v w' e=>by rw[e.1,e.2];exact k
theorem callT1 {f:FuncId} {args:List Value} {a:Value} {S:List Nat} (h:Cs P f args w fun v w'=>v=a∧Only S w w') (k: ∀w',Only S w w'→VO P rest (putO ρ d a) w' C):CallT P f args d rest ρ w C:=
 h.mono fun v w' e=>by rw[e.1];exact k _ e.2
end
attribute [irreducible] VO AndV BoxT StT StNT CallT GdT BslT MksT AppT CallVT RunT RunUT
end Go.Proofs.YteiildhelefodaaGreat
