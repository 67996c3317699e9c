import Derived.Test.YthamnonkfepafaaGreatZEngE
import Derived.Still
import Derived.StillTail
import Derived.Tactics
import Derived.Below
import Derived.OrdersIn
import Derived.TacticsIn
set_option linter.unusedSimpArgs false
set_option linter.unusedVariables false
namespace Go.Proofs.YthamnonkfepafaaGreat
structure XO where
 dst:Option Nat
 guard:Option (Nat×Bool)
 body:XB
 deriving Inhabited
def bo (ρ:Env) (d:Option Nat) (v:Value):Env:=match d with|some d=>put ρ d v|none=>ρ
theorem Cp (ρ:Env) (d:Nat) (v:Value):bo ρ (some d) v=put ρ d v:=Eq.trans rfl rfl
theorem Cq (ρ:Env) (v:Value):bo ρ none v=ρ:=Eq.trans rfl rfl
def Nq (v:Value) (b:Bool):Bool:=match v with|.bool t=>t==b|_=>false
def DY (g:Option (Nat×Bool)) (ρ:Env):Bool:=match g with|none=>true|some (s,b)=>Nq (ρ s) b
def mg (P:Program) (x:XB) (ρ:Env) (w:World) (K:Value→World→Prop):Prop:=
 if x.lK then(match val x ρ w with|some v=>K v w|none=>False)else fv P x ρ w K
def VO (P:Program):List XO→Env→World→(Env→World→Prop)→Prop
 | [],ρ,w,C=>C ρ w
 |o::rest,ρ,w,C=>
  if DY o.guard ρ then mg P o.body ρ w (fun v w'=>VO P rest (bo ρ o.dst v) w' C)else VO P rest (bo ρ o.dst undef) w C
theorem zS {P:Program} {x:XB} {ρ:Env} {w:World} {K K':Value→World→Prop} (h:mg P x ρ w K) (j: ∀v w',K v w'→K' v w'):mg P x ρ w K':=by
 unfold mg at*;split at h
 ·rename_i u;rw[if_pos u];split at h
  ·exact j _ _ h
  ·exact h
 ·rename_i u;rw[if_neg u];cases x<;>simp only[fv]at h⊢
  case box=>exact j _ _ h
  case alc=>exact j _ _ h
  case st=>obtain⟨p,l,o,q,r,t⟩:=h;exact⟨p,l,o,q,r,j _ _ t⟩
  case stN=>obtain⟨p,cs,l,o,q,r,t⟩:=h;exact⟨p,cs,l,o,q,r,j _ _ t⟩
  case call=>exact h.mono j
  case bsl=>obtain⟨cs,l,o⟩:=h;exact⟨cs,l,j _ _ o⟩
  case mks=>obtain⟨k,k',n,m,l,o,q,r,t,y⟩:=h;exact⟨k,k',n,m,l,o,q,r,t,j _ _ y⟩
  case app=>obtain⟨n,xs,fp,m,us,l,o,q,r,t,y⟩:=h;exact⟨n,xs,fp,m,us,l,o,q,r,t,fun B w' z a b c d e=>j _ _ (y B w' z a b c d e)⟩
  case callv=>exact h.mono j
  case act C=>exact Cj h j
theorem qo {P:Program}: ∀(xs ys:List XO) (ρ:Env) (w:World) (C:Env→World→Prop),VO P (xs++ys) ρ w C→VO P xs ρ w (fun ρ w=>VO P ys ρ w C)
 | [],_,_,_,_,h=>h
 |o::xs,ys,ρ,w,C,h=>by
  simp only[List.cons_append,VO]at h⊢
  split at h
  ·rename_i b;rw[if_pos b];exact zS h fun v w' d=>qo xs ys _ _ _ d
  ·rename_i b;rw[if_neg b];exact qo xs ys _ _ _ h
def SF (k:Array Oper):Option (Nat×Bool)→Option (Option (Nat×Bool))
 |none=>some none
 |some (j,b)=>match (k[j]?).bind (·.dst)with|some d=>some (some (d,b))|none=>none
def DZ (n:Nat):Option Nat→Bool
 |some d=>decide (d<n)
 |none=>true
def uH (P:Program) (n:Nat) (b:Array Oper) (o:Oper):Option XO:=
 match DG P o.op,SF b o.guard with
 |some x,some g=>if DZ n o.dst then some ⟨o.dst,g,x⟩else none
 |_,_=>none
section
variable {P:Program} {n:Nat} {ds:List Deferred} {ops:Array Oper}
theorem mh {o:Oper} {x:XO} (h:uH P n ops o=some x):DG P o.op=some x.body∧SF ops o.guard=some x.guard∧x.dst=o.dst∧DZ n o.dst=true:=by
 unfold uH at h;split at h
 ·rename_i b d;split at h
  ·rename_i j;cases h;exact⟨b,d,rfl,j⟩
  ·cases h
 ·cases h
theorem gv {ρ:Env} {a:Act} (h:nt n ds ρ a) {d:Option Nat} (b:DZ n d=true) (v:Value):nt n ds (bo ρ d v) (a.put d v):=by
 cases d with
 |none=>exact h
 |some d=>exact h.put (of_decide_eq_true b) v
theorem kI {o:Oper} {g:Option (Nat×Bool)} (h:SF ops o.guard=some g) {ρ:Env} {a:Act} (m:nt n ds ρ a):Region.wanted o (yielded ops a.tmps)=DY g ρ:=by
 unfold Region.wanted SF at*;cases k:o.guard with
 |none=>simp only[k]at h;cases h;rfl
 |some q=>
  obtain⟨j,b⟩:=q;simp only[k]at h;split at h
  ·rename_i d r;cases h;simp only[yielded,r,Option.bind_some,DY,←m.get d];cases l:a.tmps[d]? with
   |none=>simp[l,Nq,undef]
   |some v=>
    have e:a.tmps.getD d undef=v:=by simp[Array.getD_eq_getD_getElem?,l]
    rw[e];cases v<;>simp[Nq]
  ·cases h
def QC (n:Nat) (ds:List Deferred) (C:Env→World→Prop):Exit→Act→World→Prop:=fun e a w=>e=.normal∧ ∃ρ,nt n ds ρ a∧C ρ w
def FR (ro:Option Nat):Fence:= {Fence.wide with round:=ro}
theorem Hc {ro:Option Nat} {m:Nat} {f:FuncId} {args:Array Value} {w:World} {R:Ending→World→Prop} (h:Calls P f args w R):CallsIn (FR ro) m P f args w R:=by
 have k:=(callsIn_wide (n:=m)).2 h;exact k
def GG (P:Program) (o:Oper) (a:Act) (w:World) (K:Act→World→Prop):Prop:=match (execOp a.eval o).run P w with
 |.ok (.value v) w'=>K (a.put o.dst v) w'
 |.ok .skip w'=>K (a.put o.dst undef) w'
 |.ok (.enter f args) w'=>Calls P f args w' (fun e b=> ∃v,e=.returned v∧K (a.put o.dst v) b)
 |.ok (.round l f tmps assign body) w'=>ll P l f tmps assign body w' (fun v b=>K (a.put o.dst v) b)
 |_=>False
def iT (o:Oper):Bool:=match o.op with|.defer _=>false|_=>true
theorem wi {o:Oper} (h:iT o=true): ∀c,o.op≠.defer c:=fun c e=>by simp[iT,e]at h
theorem zT {o:Oper} {x:XB} (h:DG P o.op=some x):iT o=true:=by
 unfold iT;split
 ·rename_i c e;rw[e]at h;rcases oQ h with h|⟨_,h⟩<;>cases h
 ·rfl
theorem D0 {o:Oper} {a:Act} {w:World} {K K':Act→World→Prop} (h:GG P o a w K) (b: ∀a w,K a w→K' a w):GG P o a w K':=by
 unfold GG at*;generalize (execOp a.eval o).run P w=r at*;cases r with
 |halt x w'=>exact h
 |ok n w'=>
  cases n<;>simp only at h⊢ <;>first|exact b _ _ h|exact Calls.mono h fun e j ⟨v,k,d⟩=>⟨v,k,b _ _ d⟩|exact ll.mono h fun _ _ d=>b _ _ d|exact h
theorem xV {ro:Option Nat} {m:Nat} {o:Oper} {a:Act} {w:World} {K:Act→World→Prop} {Q:Exit→Act→World→Prop} (j:iT o=true) (h:GG P o a w K):o.wpIn (FR ro) m P a w K Q:=by
 refine⟨fun _ _=>trivial,?_⟩;rw[Oper.semAt_eq _ _ _ (wi j)];unfold GG at h;generalize (execOp a.eval o).run P w=r at*;cases r with
 |halt x w'=>exact h.elim
 |ok n w'=>
  cases n<;>simp only at h<;>try exact h.elim
  case value v=>exact h
  case skip=>exact h
  case enter f args=>exact⟨fun h=>by simp[FR,Fence.wide]at h,Hc (Calls.mono h fun e b ⟨v,k,d⟩=>by subst k;exact d)⟩
  case round l f tmps assign body=>
   refine⟨fun h=>by simp[FR,Fence.wide]at h,trivial,fun c cs _=>?_⟩;obtain⟨v,b,d,q⟩:=h c cs;refine⟨.returned v,b,d,?_⟩;exact stepsIn_wide.2 q
theorem tc {o:Oper} {x:XB} (y:DG P o.op=some x) {ρ:Env} {a:Act} (z:nt n ds ρ a) {w:World} {K:Value→World→Prop} (j:mg P x ρ w K)
  {next:Act→World→Prop} (k: ∀v w',K v w'→next (a.put o.dst v) w'):GG P o a w next:=by
 obtain⟨q,B,ty,d,t,g⟩:=o;unfold GG;rw[z.sJ];unfold mg at j;split at j
 ·rename_i C;split at j
  ·rename_i v m;rw[kH y C m q ty d t g];exact k _ _ j
  ·exact j.elim
 ·have b:=DX y j q ty d t g;unfold oU at b;generalize (execOp (ev ρ) ⟨q,B,ty,d,t,g⟩).run P w=r at b;cases r with
  |halt h w'=>exact b.elim
  |ok nx w'=>
   cases nx<;>simp only at b⊢
   case value v=>exact k _ _ b
   case skip=>exact k _ _ b
   case enter f args=>exact Calls.mono b fun e u ⟨v,D,m⟩=>⟨v,D,k _ _ m⟩
   case round l f tmps assign body=>exact ll.mono b fun v u m=>k _ _ m
theorem xW {o:Oper} {x:XB} (t:DG P o.op=some x) (u:x.N4=false) {ρ:Env} {a:Act} (y:nt n ds ρ a) {w:World} {K:Value→World→Prop} (j:mg P x ρ w K)
  {next:Act→World→Prop} {Q:Exit→Act→World→Prop} (k: ∀v w',K v w'→next (a.put o.dst v) w'):o.wp P a w next Q:=by
 obtain⟨l,z,ty,b,m,g⟩:=o;unfold Oper.wp;rw[y.sJ];unfold mg at j;split at j
 ·rename_i B;split at j
  ·rename_i v q;rw[kH t B q l ty b m g];exact k _ _ j
  ·exact j.elim
 ·have d:=Co t u j l ty b m g;unfold rL at d;generalize (execOp (ev ρ) ⟨l,z,ty,b,m,g⟩).run P w=r at d;cases r with
  |halt h w'=>exact d.elim
  |ok nx w'=>
   cases nx<;>simp only[Oper.upon]at d⊢
   case value v=>exact k _ _ d
   case skip=>exact k _ _ d
   case enter f args=>exact Calls.mono d fun e C ⟨v,D,q⟩=>by subst D;exact k _ _ q
theorem te {ro:Option Nat} {m:Nat} {C:Env→World→Prop}: ∀(l:List Oper) (xs:List XO),l.mapM (uH P n ops)=some xs→ ∀(ρ:Env) (w:World) (a:Act),nt n ds ρ a→VO P xs ρ w C→wpListIn (FR ro) m P ops (QC n ds C) l a w
 | [],xs,h,ρ,w,a,d,b=>by
  simp at h;subst h
  exact⟨rfl,ρ,d,b⟩
 |o::l,xs,h,ρ,w,a,d,b=>by
  simp only[List.mapM_cons,Option.bind_eq_bind,Option.bind_eq_some_iff,Option.pure_def,Option.some.injEq]at h
  obtain⟨x,y,ys,q,rfl⟩:=h
  obtain⟨r,z,t,u⟩:=mh y
  have B:=kI z d
  simp only[VO]at b
  unfold wpListIn
  rw[B]
  split at b
  ·rename_i k
   rw[if_pos k]
   refine xV (zT r) (tc r d b fun v w' j=>?_)
   rw[t]at j
   exact te l ys q _ _ _ (gv d u v) j
  ·rename_i k
   rw[if_neg k]
   rw[t]at b
   exact⟨fun _ _=>trivial,te l ys q _ _ _ (gv d u undef) b⟩
def xX (xs:List XO):Bool:=xs.all fun x=>!x.body.N4
theorem wj {C:Env→World→Prop}: ∀(l:List Oper) (xs:List XO),l.mapM (uH P n ops)=some xs→xX xs=true→ ∀(ρ:Env) (w:World) (a:Act),nt n ds ρ a→VO P xs ρ w C→wpList P ops (QC n ds C) l a w
 | [],xs,h,_,ρ,w,a,d,b=>by
  simp at h;subst h
  exact⟨rfl,ρ,d,b⟩
 |o::l,xs,h,k,ρ,w,a,d,b=>by
  simp only[List.mapM_cons,Option.bind_eq_bind,Option.bind_eq_some_iff,Option.pure_def,Option.some.injEq]at h
  obtain⟨x,u,ys,q,rfl⟩:=h
  obtain⟨y,z,r,t⟩:=mh u
  have B:=kI z d
  simp only[xX,List.all_cons,Bool.and_eq_true,Bool.not_eq_true']at k
  simp only[VO]at b
  unfold wpList
  rw[B]
  split at b
  ·rename_i m
   rw[if_pos m]
   refine .inl (xW y k.1 d b fun v w' j=>?_)
   rw[r]at j
   exact wj l ys q k.2 _ _ _ (gv d t v) j
  ·rename_i m
   rw[if_neg m]
   rw[r]at b
   exact wj l ys q k.2 _ _ _ (gv d t undef) b
def oX (xs:List XO):Bool:=xs.all fun x=>x.body.lK
theorem oY {Q:Act→Prop} {C:Env→World→Prop} {w:World} (m: ∀ρ a,nt n ds ρ a→C ρ w→Q a): ∀(l:List Oper) (xs:List XO),l.mapM (uH P n ops)=some xs→oX xs=true→ ∀(ρ:Env) (a:Act),nt n ds ρ a→VO P xs ρ w C→
  wpStill P ops w Q l a
 | [],xs,h,_,ρ,a,d,b=>by
  simp at h;subst h
  exact m ρ a d b
 |o::l,xs,h,u,ρ,a,d,b=>by
  simp only[List.mapM_cons,Option.bind_eq_bind,Option.bind_eq_some_iff,Option.pure_def,Option.some.injEq]at h
  obtain⟨x,D,ys,y,rfl⟩:=h
  obtain⟨E,F,z,B⟩:=mh D
  have G:=kI F d
  simp only[oX,List.all_cons,Bool.and_eq_true]at u
  obtain⟨j,k⟩:=u
  simp only[VO]at b
  unfold wpStill
  rw[G]
  split at b
  ·rename_i q
   rw[if_pos q]
   unfold mg at b
   rw[if_pos j]at b
   split at b
   ·rename_i v r
    obtain⟨H,J,ty,t,I,g⟩:=o
    unfold Oper.still
    rw[d.sJ,kH E j r H ty t I g]
    simp only[Oper.stillUpon]
    refine⟨trivial,?_⟩
    rw[z]at b
    exact oY m l ys y k _ _ (gv d B v) b
   ·exact b.elim
  ·rename_i q
   rw[if_neg q]
   rw[z]at b
   exact oY m l ys y k _ _ (gv d B undef) b
theorem xY {ro:Option Nat} {id m:Nat} {C:Env→World→Prop} {xs:List XO} (h:ops.toList.mapM (uH P n ops)=some xs) {ρ:Env} {w:World} {a:Act} (b:nt n ds ρ a) (d:VO P xs ρ w C):
  (Code.region id ops false).wpIn (FR ro) m P (QC n ds C) a w:=wpIn_region_list (te _ _ h ρ w a b d)
theorem wp_of_still {id m:Nat} {C:Env→World→Prop} {xs:List XO} (d:P.follows .mixedOrders=true) (j:Region.lexB .any ops=true) (k:oX xs=true)
  (h:ops.toList.mapM (uH P n ops)=some xs) {ρ:Env} {w:World} {a:Act} (b:nt n ds ρ a) (l:VO P xs ρ w.drew C):(Code.region id ops true).wpIn (FR none) m P (QC n ds C) a w:=
 wpIn_wide.2<|wp_region_still d j (oY (C:=C) (w:=w.drew) (fun ρ _ b o=>⟨rfl,ρ,b,o⟩) _ _ h k ρ a b l)
theorem mi {α b:Type} {f:α→Option b}: ∀(k:Nat) (l:List α) (xs:List b),l.mapM f=some xs→(l.take k).mapM f=some (xs.take k)∧(l.drop k).mapM f=some (xs.drop k)
 |0,l,xs,h=>by simpa using h
 |k+1,[],xs,h=>by simp at h;subst h;simp
 |k+1,a::l,xs,h=>by
  simp only[List.mapM_cons,Option.bind_eq_bind,Option.bind_eq_some_iff,Option.pure_def,Option.some.injEq]at h
  obtain⟨x,d,ys,j,rfl⟩:=h
  obtain⟨m,o⟩:=mi k l ys j
  simp[d,m,o]
theorem zU {id k m:Nat} {C:Env→World→Prop} {xs:List XO} (j:P.follows .mixedOrders=true) (l:Region.lexTailB .any ops k=true) (o:oX (xs.take k)=true) (q:xX (xs.drop k)=true)
  (h:ops.toList.mapM (uH P n ops)=some xs) {ρ:Env} {w:World} {a:Act} (b:nt n ds ρ a) (r:VO P xs ρ w.drew C):(Code.region id ops true).wpIn (FR none) m P (QC n ds C) a w:=by
 have e:ops=ops.toList.toArray:=by simp
 rw[e];refine wpIn_wide.2<|wp_region_still_tail k j (by rw[←e];exact l) ?_
 obtain⟨t,u⟩:=mi k _ _ h;rw[←e];have d:=qo (xs.take k) (xs.drop k) ρ w.drew C (by rw[List.take_append_drop];exact r);exact oY (C:=fun ρ w=>VO P (xs.drop k) ρ w C) (w:=w.drew) (fun ρ _ b y=>wj _ _ u q ρ _ _ b y) _ _ t o ρ a b d
end
def At (w:World) (b:Nat) (vs:List Value):Prop:= ∃T,w.heap[b]? =some (.cells ⟨vs⟩ T (0,0))
theorem At.cell {w:World} {b:Nat} {vs:List Value} (h:At w b vs) (i:Nat):w.cell? ⟨b,i,none⟩=vs[i]? :=by
 obtain⟨T,h⟩:=h;simp[World.cell?,h]
theorem At.free {w:World} {b:Nat} {vs:List Value} (h:At w b vs) (i:Nat):w.frozen? ⟨b,i,none⟩=false:=by
 obtain⟨T,h⟩:=h;simp[World.frozen?,h]
theorem At.lt {w:World} {b:Nat} {vs:List Value} (h:At w b vs):b<w.heap.size:=by
 obtain⟨T,h⟩:=h;exact(Array.getElem?_eq_some_iff.1 h).1
theorem At.drew {w:World} {b:Nat} {vs:List Value} (h:At w b vs):At w.drew b vs:=h
theorem At.heap {w w':World} {b:Nat} {vs:List Value} (h:At w b vs) (e:w'.heap[b]? =w.heap[b]?):At w' b vs:=by
 obtain⟨T,h⟩:=h;exact⟨T,by rw[e];exact h⟩
theorem At.inj {w:World} {b:Nat} {vs us:List Value} (h:At w b vs) (k:At w b us):vs=us:=by
 obtain⟨T,h⟩:=h;obtain⟨U,k⟩:=k;rw[h]at k;simp at k;exact k.1
theorem ae.same {S:List Nat} {a b c:World} (h:ae S a b) (k:ae S b c):ae S a c:=h.trans k fun _ d=>.inl d
theorem ae.nil {S:List Nat} {a b c:World} (h:ae S a b) (k:ae [] b c):ae S a c:=h.trans k fun _ d=>absurd d (by simp)
theorem ae.mono {S T:List Nat} {a b:World} (h:ae S a b) (j: ∀x,x∈S→x∈T∨a.heap.size≤x):ae T a b:=
 ⟨h.os,h.tape,h.output,h.size,fun x d k=>h.block x d fun l=>(j x l).elim k (fun m=>absurd d (Nat.not_lt.2 m))⟩
theorem ae.of_nil {T:List Nat} {a b:World} (h:ae [] a b):ae T a b:=h.mono fun _ d=>absurd d (by simp)
theorem ae.drew (S:List Nat) (w:World):ae S w w.drew:=⟨rfl,rfl,rfl,Nat.le_refl _,fun _ _ _=>rfl⟩
theorem ae.eh {S:List Nat} {w w':World} (h:ae S w.drew w'):ae S w w':=⟨h.os,h.tape,h.output,h.size,h.block⟩
theorem ae.alloc (S:List Nat) (w:World) (o:Obj):ae S w (w.alloc o):=
 ⟨rfl,rfl,rfl,by simp,fun k b _=>by show(w.heap.push o)[k]? =_;rw[Array.getElem?_push,if_neg (by omega)]⟩
theorem ae.below {S:List Nat} {w w':World} (h:ae S w w') (d: ∀x,x∈S→w.heap.size≤x):Go.RowKit.Below w.heap.size w w':=
 ⟨h.os,h.tape,h.output,h.size,fun k b=>h.block k b fun j=>absurd b (Nat.not_lt.2 (d k j))⟩
theorem At.keep {S:List Nat} {w w':World} {b:Nat} {vs:List Value} (h:At w b vs) (k:ae S w w') (d:b∉S):At w' b vs:=h.heap (k.block b h.lt d)
theorem At.ab {w w':World} {b:Nat} {vs:List Value} (h:At w b vs) (k:ae [] w w'):At w' b vs:=h.keep k (by simp)
theorem At.alloc (w:World) (vs:List Value) (T:TypeId):At (w.alloc (.cells ⟨vs⟩ T)) w.heap.size vs:=⟨T,by show(w.heap.push _)[w.heap.size]? =_;simp⟩
theorem At.set {w:World} {b:Nat} {vs:List Value} (h:At w b vs) (i:Nat) (v:Value):At (w.setCell ⟨b,i,none⟩ v) b (vs.set i v):=by
 obtain⟨T,h⟩:=h;refine⟨T,?_⟩;simp[World.setCell,Array.getElem?_modify,h]
theorem ay {w:World} {b:Nat} {vs:List Value} (h:At w b vs) (o n:Nat) (j:o+n≤vs.length):aC w ⟨b,o,none⟩ n=some ((vs.drop o).take n):=by
 unfold aC;have key: ∀m,m≤n→(List.range m).mapM (fun i=>w.cell? ((⟨b,o,none⟩:Addr).add i))=some ((vs.drop o).take m):=by
  intro m
  induction m with
  |zero=>intro _;simp
  |succ m d=>
   intro k;rw[List.range_succ,List.mapM_append,d (by omega)];have:w.cell? ((⟨b,o,none⟩:Addr).add m)=some (vs[o+m]'(by omega)):=by rw[bQ,h.cell];simp
   simp only[List.mapM_cons,List.mapM_nil,this,Option.bind_eq_bind,Option.bind_some,Option.pure_def,Option.some.injEq];rw[List.take_add_one,List.getElem?_drop,List.getElem?_eq_getElem (by omega)];simp
 exact key n (Nat.le_refl n)
section
variable {P:Program} {rest:List XO} {ρ:Env} {w:World} {C:Env→World→Prop} {d:Option Nat}
def jU (P:Program) (o:Option Value) (d:Option Nat) (rest:List XO) (ρ:Env) (w:World) (C:Env→World→Prop):Prop:=match o with
 |some v=>VO P rest (bo ρ d v) w C
 |none=>False
theorem Cr (v:Value):jU P (some v) d rest ρ w C=VO P rest (bo ρ d v) w C:=propext Iff.rfl
def Hd (P:Program) (t:TypeId) (cells:List Value) (d:Option Nat) (rest:List XO) (ρ:Env) (w:World) (C:Env→World→Prop):Prop:=
 VO P rest (bo ρ d (.pointer (some ⟨w.heap.size,0,none⟩))) (w.alloc (.cells ⟨cells⟩ t)) C
def TC (P:Program) (a v:Value) (d:Option Nat) (rest:List XO) (ρ:Env) (w:World) (C:Env→World→Prop):Prop:=
 ∃p,a=.pointer (some p)∧bh v=true∧(w.cell? p).isSome=true∧w.frozen? p=false∧VO P rest (bo ρ d undef) (w.setCell p v) C
def He (P:Program) (n:Nat) (a v:Value) (d:Option Nat) (rest:List XO) (ρ:Env) (w:World) (C:Env→World→Prop):Prop:=
 ∃p cs,a=.pointer (some p)∧v=.agg cs∧cs.size=n∧World.jm w p cs.toList 0∧VO P rest (bo ρ d undef) (World.setCells w p cs.toList 0) C
def xZ (P:Program) (f:FuncId) (args:List Value) (d:Option Nat) (rest:List XO) (ρ:Env) (w:World) (C:Env→World→Prop):Prop:=
 Cs P f args w fun v w'=>VO P rest (bo ρ d v) w' C
def GH (P:Program) (v:Value) (b:Bool) (d:Option Nat) (x:XB) (rest:List XO) (ρ:Env) (w:World) (C:Env→World→Prop):Prop:=
 if Nq v b then VO P (⟨d,none,x⟩::rest) ρ w C else VO P rest (bo ρ d undef) w C
theorem D1 (s:Nat) (b:Bool) (x:XB):VO P (⟨d,some (s,b),x⟩::rest) ρ w C=GH P (ρ s) b d x rest ρ w C:=propext Iff.rfl
theorem J8 (x:XB):GH P (.bool true) true d x rest ρ w C=VO P (⟨d,none,x⟩::rest) ρ w C:=propext Iff.rfl
theorem J9 (x:XB):GH P (.bool false) false d x rest ρ w C=VO P (⟨d,none,x⟩::rest) ρ w C:=propext Iff.rfl
theorem J' (x:XB):GH P (.bool true) false d x rest ρ w C=VO P rest (bo ρ d undef) w C:=propext Iff.rfl
theorem Ka (x:XB):GH P (.bool false) true d x rest ρ w C=VO P rest (bo ρ d undef) w C:=propext Iff.rfl
theorem Kc (b:Bool) (x:XB):GH P undef b d x rest ρ w C=VO P rest (bo ρ d undef) w C:=propext Iff.rfl
theorem Kd:VO P [] ρ w C=C ρ w:=propext Iff.rfl
theorem N6 (x:Operand):VO P (⟨d,none,.mv x⟩::rest) ρ w C=VO P rest (bo ρ d (ev ρ x)) w C:=propext Iff.rfl
theorem Hf (c a b:Operand):VO P (⟨d,none,.pick c a b⟩::rest) ρ w C=jU P (xQ (ev ρ c) (ev ρ a) (ev ρ b)) d rest ρ w C:=propext Iff.rfl
theorem D2 (x:Operand):VO P (⟨d,none,.nilck x⟩::rest) ρ w C=jU P (sO (ev ρ x)) d rest ρ w C:=propext Iff.rfl
theorem N7 (x:Operand):VO P (⟨d,none,.ld x⟩::rest) ρ w C=jU P (qZ w (ev ρ x)) d rest ρ w C:=propext Iff.rfl
theorem Ke (n:Nat) (x:Operand):VO P (⟨d,none,.ldN n x⟩::rest) ρ w C=jU P (fG w n (ev ρ x)) d rest ρ w C:=propext Iff.rfl
theorem N8 (o:Nat) (x:Operand):VO P (⟨d,none,.fa o x⟩::rest) ρ w C=jU P (NY o (ev ρ x)) d rest ρ w C:=propext Iff.rfl
theorem N9 (s:Nat) (x i:Operand):VO P (⟨d,none,.ia s x i⟩::rest) ρ w C=jU P (N0 s (ev ρ x) (ev ρ i)) d rest ρ w C:=propext Iff.rfl
theorem Kf (n s:Nat) (x i:Operand):VO P (⟨d,none,.iaA n s x i⟩::rest) ρ w C=jU P (DQ n s (ev ρ x) (ev ρ i)) d rest ρ w C:=propext Iff.rfl
theorem Kg (b:BinOp) (x y:Operand):VO P (⟨d,none,.bin b x y⟩::rest) ρ w C=jU P (eW b (ev ρ x) (ev ρ y)) d rest ρ w C:=propext Iff.rfl
theorem Kh (n:Bool) (x y:Operand):VO P (⟨d,none,.eqB n x y⟩::rest) ρ w C=jU P (G9 n (ev ρ x) (ev ρ y)) d rest ρ w C:=propext Iff.rfl
theorem Ki (n:Bool) (x y:Operand):VO P (⟨d,none,.eqP n x y⟩::rest) ρ w C=jU P (DR n (ev ρ x) (ev ρ y)) d rest ρ w C:=propext Iff.rfl
theorem Kj (n:Bool) (x y:Operand):VO P (⟨d,none,.eqS n x y⟩::rest) ρ w C=jU P (DS n (ev ρ x) (ev ρ y)) d rest ρ w C:=propext Iff.rfl
theorem N' (x:Operand):VO P (⟨d,none,.no x⟩::rest) ρ w C=jU P (N2 (ev ρ x)) d rest ρ w C:=propext Iff.rfl
theorem Hg (k:IntKind) (x:Operand):VO P (⟨d,none,.conv k x⟩::rest) ρ w C=jU P (xR k (ev ρ x)) d rest ρ w C:=propext Iff.rfl
theorem Hh (fn:Fn) (a b:Array Operand):VO P (⟨d,none,.mkfn fn a b⟩::rest) ρ w C=VO P rest (bo ρ d (.func fn (a.map (ev ρ)) (b.map (ev ρ)))) w C:=propext Iff.rfl
theorem Kk (s:Nat) (x:Operand) (b j:Option Operand):VO P (⟨d,none,.slc s x b j⟩::rest) ρ w C=jU P (iD s (ev ρ x) (b.map (ev ρ)) (j.map (ev ρ))) d rest ρ w C:=propext Iff.rfl
theorem Hi (s:Nat) (x b j mx:Operand):VO P (⟨d,none,.slc3 s x b j mx⟩::rest) ρ w C=jU P (xS s (ev ρ x) (ev ρ b) (ev ρ j) (ev ρ mx)) d rest ρ w C:=propext Iff.rfl
theorem Kl (x:Operand) (i:Nat):VO P (⟨d,none,.ext x i⟩::rest) ρ w C=jU P (zR (ev ρ x) i) d rest ρ w C:=propext Iff.rfl
theorem Km (x:Operand):VO P (⟨d,none,.len x⟩::rest) ρ w C=jU P (DT (ev ρ x)) d rest ρ w C:=propext Iff.rfl
theorem Hj (m:Bool) (x y:Operand):VO P (⟨d,none,.mnmx m x y⟩::rest) ρ w C=jU P (sR m (ev ρ x) (ev ρ y)) d rest ρ w C:=propext Iff.rfl
theorem Kn (t:TypeId) (x:Operand):VO P (⟨d,none,.box t x⟩::rest) ρ w C=Hd P t (ev ρ x).cells.toList d rest ρ w C:=propext Iff.rfl
theorem Ko (t:TypeId) (z:List Value):VO P (⟨d,none,.alc t z⟩::rest) ρ w C=Hd P t z d rest ρ w C:=propext Iff.rfl
theorem Oa (a v:Operand):VO P (⟨d,none,.st a v⟩::rest) ρ w C=TC P (ev ρ a) (ev ρ v) d rest ρ w C:=propext Iff.rfl
theorem Kr (n:Nat) (a v:Operand):VO P (⟨d,none,.stN n a v⟩::rest) ρ w C=He P n (ev ρ a) (ev ρ v) d rest ρ w C:=propext Iff.rfl
def Ks (P:Program) (o:Option (List Value)) (e len:Nat) (d:Option Nat) (rest:List XO) (ρ:Env) (w:World) (C:Env→World→Prop):Prop:=
 ∃cs,o=some cs∧VO P rest (bo ρ d (.slice (some ⟨w.heap.size,0,none⟩) len len)) (w.alloc (.cells ⟨cs⟩ e)) C
def Kt (P:Program) (e bytes:Nat) (zero:List Value) (l c:Value) (d:Option Nat) (rest:List XO) (ρ:Env) (w:World) (C:Env→World→Prop):Prop:=
 ∃(k k':IntKind) (n m:Nat),l=.int k n∧c=.int k' m∧n≤m∧m≤1099511627776∧m*bytes≤1099511627776∧VO P rest (bo ρ d (.slice (some ⟨w.heap.size,0,none⟩) n m)) (w.alloc (.cells ⟨il zero m⟩ e)) C
def Hk (P:Program) (sz bytes:Nat) (s x:Value) (d:Option Nat) (rest:List XO) (ρ:Env) (w:World) (C:Env→World→Prop):Prop:=
 ∃n xs fp m us,ql w sz s n xs fp∧bn w sz x m us∧(∀u,u∈us→bh u=true)∧n+m≤1099511627776∧(n+m)*bytes≤1099511627776∧
   ∀j w' b,ql w' sz j (n+m) (xs++us) b→(Sl w sz s n xs fp→Sl w' sz j (n+m) (xs++us) b)→(b=fp∨b=[w.heap.size])→ae fp w w'→wc s j n m fp b→VO P rest (bo ρ d j) w' C
def kJ (P:Program) (s:Sem Value) (d:Option Nat) (rest:List XO) (ρ:Env) (w:World) (C:Env→World→Prop):Prop:= ∃v w',s.run P w=.ok v w'∧VO P rest (bo ρ d v) w' C
def Bh (P:Program) (s:Sem Unit) (d:Option Nat) (rest:List XO) (ρ:Env) (w:World) (C:Env→World→Prop):Prop:= ∃w',s.run P w=.ok () w'∧VO P rest (bo ρ d undef) w' C
theorem D3 (t:TypeId) (r:Option Operand):VO P (⟨d,none,.act (.makeMap t r)⟩::rest) ρ w C=kJ P (Instr.makeMap t (r.map (ev ρ))) d rest ρ w C:=propext Iff.rfl
theorem Hl (t:TypeId) (m k x:Operand):VO P (⟨d,none,.act (.mapUpdate t m k x)⟩::rest) ρ w C=Bh P (Instr.mapUpdate t (ev ρ m) (ev ρ k) (ev ρ x)) d rest ρ w C:=propext Iff.rfl
theorem Ku (t:TypeId) (x i:Operand) (b:Bool):VO P (⟨d,none,.act (.lookup t x i b)⟩::rest) ρ w C=kJ P (Instr.lookup t (ev ρ x) (ev ρ i) b) d rest ρ w C:=propext Iff.rfl
theorem D4 (t:TypeId) (x:Operand):VO P (⟨d,none,.act (.range t x)⟩::rest) ρ w C=kJ P (Instr.range t (ev ρ x)) d rest ρ w C:=propext Iff.rfl
theorem Hm (it:Operand) (b:Bool):VO P (⟨d,none,.act (.next it b)⟩::rest) ρ w C=kJ P (Instr.next (ev ρ it) b 0) d rest ρ w C:=propext Iff.rfl
theorem D5 (it:Operand):VO P (⟨d,none,.act (.entry it)⟩::rest) ρ w C=kJ P (Instr.entry (ev ρ it)) d rest ρ w C:=propext Iff.rfl
theorem Hn (t k:TypeId) (m x:Operand):VO P (⟨d,none,.act (.call ⟨.builtin .delete,#[m,x],#[t,k]⟩)⟩::rest) ρ w C=kJ P (Builtin.delete_ #[t,k] 0 #[ev ρ m,ev ρ x]) d rest ρ w C:=by
 have e:(#[m,x]:Array Operand).map (ev ρ)=#[ev ρ m,ev ρ x]:=by simp
 rw[←e];exact propext Iff.rfl
theorem D6 (t:TypeId) (x:Operand):VO P (⟨d,none,.act (.call ⟨.builtin .clear,#[x],#[t]⟩)⟩::rest) ρ w C=kJ P (Builtin.clear_ #[t] 0 #[ev ρ x]) d rest ρ w C:=by
 have e:(#[x]:Array Operand).map (ev ρ)=#[ev ρ x]:=by simp
 rw[←e];exact propext Iff.rfl
theorem Ho (t:TypeId) (x:Operand):VO P (⟨d,none,.act (.call ⟨.builtin .len,#[x],#[t]⟩)⟩::rest) ρ w C=kJ P (Builtin.len_ #[t] 0 #[ev ρ x]) d rest ρ w C:=by
 have e:(#[x]:Array Operand).map (ev ρ)=#[ev ρ x]:=by simp
 rw[←e];exact propext Iff.rfl
theorem runT {s:Sem Value} {v:Value} {w':World} (b:s.run P w=.ok v w') (h:VO P rest (bo ρ d v) w' C):kJ P s d rest ρ w C:=⟨v,w',b,h⟩
theorem Oc {s:Sem Unit} {w':World} (b:s.run P w=.ok () w') (h:VO P rest (bo ρ d undef) w' C):Bh P s d rest ρ w C:=⟨w',b,h⟩
def zV (P:Program) (f:Value) (args:List Value) (d:Option Nat) (rest:List XO) (ρ:Env) (w:World) (C:Env→World→Prop):Prop:=
 sU P f args w fun v w'=>VO P rest (bo ρ d v) w' C
theorem Kv (z:List Value) (b:List (Nat×Nat×Operand)):VO P (⟨d,none,.bld z b⟩::rest) ρ w C=jU P (sQ (dQ z (b.map (Bf ρ)))) d rest ρ w C:=propext Iff.rfl
theorem Kw (n:Bool) (k:Nat) (x y:Operand):VO P (⟨d,none,.eqA n k x y⟩::rest) ρ w C=jU P (uk n k (ev ρ x) (ev ρ y)) d rest ρ w C:=propext Iff.rfl
theorem Kx (e len:Nat) (z:List Value) (b:List (Nat×Nat×Operand)):VO P (⟨d,none,.bsl e len z b⟩::rest) ρ w C=Ks P (dQ z (b.map (Bf ρ))) e len d rest ρ w C:=propext Iff.rfl
theorem Ky (e b:Nat) (z:List Value) (l c:Operand):VO P (⟨d,none,.mks e b z l c⟩::rest) ρ w C=Kt P e b z (ev ρ l) (ev ρ c) d rest ρ w C:=propext Iff.rfl
theorem Kz (e b:Nat) (z:List Value) (s x:Operand):VO P (⟨d,none,.app e b z s x⟩::rest) ρ w C=Hk P z.length b (ev ρ s) (ev ρ x) d rest ρ w C:=propext Iff.rfl
theorem D7 (f:Operand) (args:List Operand):VO P (⟨d,none,.callv f args⟩::rest) ρ w C=zV P (ev ρ f) (args.map (ev ρ)) d rest ρ w C:=propext Iff.rfl
theorem eJ {e len:Nat} {cs:List Value} (h: ∀g w',g=w.heap.size→w'.heap.size=w.heap.size+1→At w' g cs→ae [] w w'→VO P rest (bo ρ d (.slice (some ⟨g,0,none⟩) len len)) w' C):Ks P (some cs) e len d rest ρ w C:=
 ⟨cs,rfl,h _ _ rfl (by simp) (At.alloc w cs e) (ae.alloc [] w _)⟩
theorem Hp {e bytes:Nat} {zero:List Value} {k k':IntKind} {n m:Nat} (b:n≤m) (j:m≤1099511627776) (l:m*bytes≤1099511627776)
  (h: ∀g w',g=w.heap.size→w'.heap.size=w.heap.size+1→At w' g (il zero m)→ae [] w w'→VO P rest (bo ρ d (.slice (some ⟨g,0,none⟩) n m)) w' C):Kt P e bytes zero (.int k n) (.int k' m) d rest ρ w C:=
 ⟨k,k',n,m,rfl,rfl,b,j,l,h _ _ rfl (by simp) (At.alloc w _ e) (ae.alloc [] w _)⟩
theorem eM {sz bytes:Nat} {s x:Value} {n m:Nat} {xs us:List Value} {fp:List Nat} (l:Sl w sz s n xs fp) (o:bn w sz x m us) (q: ∀u,u∈us→bh u=true) (r:n+m≤1099511627776) (t:(n+m)*bytes≤1099511627776)
  (h: ∀j w' b,Sl w' sz j (n+m) (xs++us) b→(b=fp∨b=[w.heap.size])→ae fp w w'→wc s j n m fp b→VO P rest (bo ρ d j) w' C):Hk P sz bytes s x d rest ρ w C:=
 ⟨n,xs,fp,m,us,l.N3,o,q,r,t,fun j w' b _ k=>h j w' b (k l)⟩
theorem Od {sz bytes:Nat} {s x:Value} {n m:Nat} {xs us:List Value} {fp:List Nat} (l:ql w sz s n xs fp) (o:bn w sz x m us) (q: ∀u,u∈us→bh u=true) (r:n+m≤1099511627776) (t:(n+m)*bytes≤1099511627776)
  (h: ∀j w' b,ql w' sz j (n+m) (xs++us) b→(b=fp∨b=[w.heap.size])→ae fp w w'→wc s j n m fp b→VO P rest (bo ρ d j) w' C):Hk P sz bytes s x d rest ρ w C:=
 ⟨n,xs,fp,m,us,l,o,q,r,t,fun j w' b k _=>h j w' b k⟩
theorem fI {f:Value} {args:List Value} {g:Nat} {vs:List Value} {R:Value→World→Prop} (b:me f args=some (g,vs)) (j:okF P g=true) (h:Cs P g vs w R) (k: ∀v w',R v w'→VO P rest (bo ρ d v) w' C):zV P f args d rest ρ w C:=
 .inl ⟨g,vs,b,j,h.mono k⟩
theorem Hq (f:Nat) (args:List Operand):VO P (⟨d,none,.call f args⟩::rest) ρ w C=xZ P f (args.map (ev ρ)) d rest ρ w C:=propext Iff.rfl
theorem bp {t:TypeId} {cells:List Value} (h: ∀g w',g=w.heap.size→w'.heap.size=w.heap.size+1→At w' g cells→ae [] w w'→VO P rest (bo ρ d (.pointer (some ⟨g,0,none⟩))) w' C):Hd P t cells d rest ρ w C:=
 h _ _ rfl (by simp) (At.alloc w cells t) (ae.alloc [] w _)
theorem fJ {b i:Nat} {vs:List Value} {v:Value} (h:At w b vs) (j:i<vs.length) (l:bh v=true)
  (k: ∀w',w'.heap.size=w.heap.size→At w' b (vs.set i v)→ae [b] w w'→VO P rest (bo ρ d undef) w' C):TC P (.pointer (some ⟨b,i,none⟩)) v d rest ρ w C:=
 ⟨_,rfl,l,by rw[h.cell];simp[j],h.free i,k _ (by simp) (h.set i v) (ae.setCell w ⟨b,i,none⟩ v)⟩
theorem aw {f:FuncId} {args:List Value} {R:Value→World→Prop} (h:Cs P f args w R) (k: ∀v w',R v w'→VO P rest (bo ρ d v) w' C):xZ P f args d rest ρ w C:=
 h.mono k
theorem aH {f:FuncId} {args:List Value} {a:Value} (h:Cs P f args w fun v w'=>v=a∧w'=w) (k:VO P rest (bo ρ d a) w C):xZ P f args d rest ρ w C:=
 h.mono fun v w' e=>by rw[e.1,e.2];exact k
theorem aM {f:FuncId} {args:List Value} {a:Value} {S:List Nat} (h:Cs P f args w fun v w'=>v=a∧ae S w w') (k: ∀w',ae S w w'→VO P rest (bo ρ d a) w' C):xZ P f args d rest ρ w C:=
 h.mono fun v w' e=>by rw[e.1];exact k _ e.2
end
attribute [irreducible] VO jU Hd TC He xZ GH Ks Kt Hk zV kJ Bh
end Go.Proofs.YthamnonkfepafaaGreat
