import Derived.Test.YthamnonkfepafaaGreatZEngE
import Derived.Still
import Derived.StillTail
import Derived.Tactics
import Derived.Below
import Derived.OrdersIn
import Derived.TacticsIn
set_option linter.unusedSimpArgs false
set_option linter.unusedVariables false
namespace Go.Proofs.YthamnonkfepafaaGreat
structure XO where
 dst:Option Nat
 guard:Option (Nat×Bool)
 body:XB
 deriving Inhabited
def aV (ρ:Env) (d:Option Nat) (v:Value):Env:=match d with|some d=>put ρ d v|none=>ρ
theorem uB (ρ:Env) (d:Nat) (v:Value):aV ρ (some d) v=put ρ d v:=Eq.trans rfl rfl
theorem uC (ρ:Env) (v:Value):aV ρ none v=ρ:=Eq.trans rfl rfl
def DR (v:Value) (b:Bool):Bool:=match v with|.bool t=>t==b|_=>false
def uD (g:Option (Nat×Bool)) (ρ:Env):Bool:=match g with|none=>true|some (s,b)=>DR (ρ s) b
def iw (P:Program) (x:XB) (ρ:Env) (w:World) (K:Value→World→Prop):Prop:=
 if x.ie then(match val x ρ w with|some v=>K v w|none=>False)else fv P x ρ w K
def VO (P:Program):List XO→Env→World→(Env→World→Prop)→Prop
 | [],ρ,w,C=>C ρ w
 |o::rest,ρ,w,C=>
  if uD o.guard ρ then iw P o.body ρ w (fun v w'=>VO P rest (aV ρ o.dst v) w' C)else VO P rest (aV ρ o.dst undef) w C
theorem sj {P:Program} {x:XB} {ρ:Env} {w:World} {K B:Value→World→Prop} (h:iw P x ρ w K) (j: ∀v w',K v w'→B v w'):iw P x ρ w B:=by
 unfold iw at*;split at h
 ·rename_i u;rw[if_pos u];split at h
  ·exact j _ _ h
  ·exact h
 ·rename_i u;rw[if_neg u];cases x<;>simp only[fv]at h⊢
  case box=>exact j _ _ h
  case alc=>exact j _ _ h
  case st=>obtain⟨p,l,o,q,r,t⟩:=h;exact⟨p,l,o,q,r,j _ _ t⟩
  case stN=>obtain⟨p,cs,l,o,q,r,t⟩:=h;exact⟨p,cs,l,o,q,r,j _ _ t⟩
  case call=>exact h.mono j
  case bsl=>obtain⟨cs,l,o⟩:=h;exact⟨cs,l,j _ _ o⟩
  case mks=>obtain⟨k,k',n,m,l,o,q,r,t,y⟩:=h;exact⟨k,k',n,m,l,o,q,r,t,j _ _ y⟩
  case app=>obtain⟨n,xs,fp,m,us,l,o,q,r,t,y⟩:=h;exact⟨n,xs,fp,m,us,l,o,q,r,t,fun C w' z a b c d e=>j _ _ (y C w' z a b c d e)⟩
  case callv=>exact h.mono j
  case act D=>exact uw h j
theorem ku {P:Program}: ∀(xs ys:List XO) (ρ:Env) (w:World) (C:Env→World→Prop),VO P (xs++ys) ρ w C→VO P xs ρ w (fun ρ w=>VO P ys ρ w C)
 | [],_,_,_,_,h=>h
 |o::xs,ys,ρ,w,C,h=>by
  simp only[List.cons_append,VO]at h⊢
  split at h
  ·rename_i b;rw[if_pos b];exact sj h fun v w' d=>ku xs ys _ _ _ d
  ·rename_i b;rw[if_neg b];exact ku xs ys _ _ _ h
def GG (k:Array Oper):Option (Nat×Bool)→Option (Option (Nat×Bool))
 |none=>some none
 |some (j,b)=>match (k[j]?).bind (·.dst)with|some d=>some (some (d,b))|none=>none
def wW (n:Nat):Option Nat→Bool
 |some d=>decide (d<n)
 |none=>true
def nQ (P:Program) (n:Nat) (b:Array Oper) (o:Oper):Option XO:=
 match wG P o.op,GG b o.guard with
 |some x,some g=>if wW n o.dst then some ⟨o.dst,g,x⟩else none
 |_,_=>none
section
variable {P:Program} {n:Nat} {ds:List Deferred} {ops:Array Oper}
theorem ix {o:Oper} {x:XO} (h:nQ P n ops o=some x):wG P o.op=some x.body∧GG ops o.guard=some x.guard∧x.dst=o.dst∧wW n o.dst=true:=by
 unfold nQ at h;split at h
 ·rename_i b d;split at h
  ·rename_i j;cases h;exact⟨b,d,rfl,j⟩
  ·cases h
 ·cases h
theorem dp {ρ:Env} {a:Act} (h:je n ds ρ a) {d:Option Nat} (b:wW n d=true) (v:Value):je n ds (aV ρ d v) (a.put d v):=by
 cases d with
 |none=>exact h
 |some d=>exact h.put (of_decide_eq_true b) v
theorem gv {o:Oper} {g:Option (Nat×Bool)} (h:GG ops o.guard=some g) {ρ:Env} {a:Act} (m:je n ds ρ a):Region.wanted o (yielded ops a.tmps)=uD g ρ:=by
 unfold Region.wanted GG at*;cases k:o.guard with
 |none=>simp only[k]at h;cases h;rfl
 |some q=>
  obtain⟨j,b⟩:=q;simp only[k]at h;split at h
  ·rename_i d r;cases h;simp only[yielded,r,Option.bind_some,uD,←m.get d];cases l:a.tmps[d]? with
   |none=>simp[l,DR,undef]
   |some v=>
    have e:a.tmps.getD d undef=v:=by simp[Array.getD_eq_getD_getElem?,l]
    rw[e];cases v<;>simp[DR]
  ·cases h
def QC (n:Nat) (ds:List Deferred) (C:Env→World→Prop):Exit→Act→World→Prop:=fun e a w=>e=.normal∧ ∃ρ,je n ds ρ a∧C ρ w
def FR (ro:Option Nat):Fence:= {Fence.wide with round:=ro}
theorem zR {ro:Option Nat} {m:Nat} {f:FuncId} {args:Array Value} {w:World} {R:Ending→World→Prop} (h:Calls P f args w R):CallsIn (FR ro) m P f args w R:=by
 have k:=(callsIn_wide (n:=m)).2 h;exact k
def yK (P:Program) (o:Oper) (a:Act) (w:World) (K:Act→World→Prop):Prop:=match (execOp a.eval o).run P w with
 |.ok (.value v) w'=>K (a.put o.dst v) w'
 |.ok .skip w'=>K (a.put o.dst undef) w'
 |.ok (.enter f args) w'=>Calls P f args w' (fun e b=> ∃v,e=.returned v∧K (a.put o.dst v) b)
 |.ok (.round l f tmps assign body) w'=>gM P l f tmps assign body w' (fun v b=>K (a.put o.dst v) b)
 |_=>False
def ee (o:Oper):Bool:=match o.op with|.defer _=>false|_=>true
theorem pC {o:Oper} (h:ee o=true): ∀c,o.op≠.defer c:=fun c e=>by simp[ee,e]at h
theorem sk {o:Oper} {x:XB} (h:wG P o.op=some x):ee o=true:=by
 unfold ee;split
 ·rename_i c e;rw[e]at h;rcases jM h with h|⟨_,h⟩<;>cases h
 ·rfl
theorem wX {o:Oper} {a:Act} {w:World} {K j:Act→World→Prop} (h:yK P o a w K) (b: ∀a w,K a w→j a w):yK P o a w j:=by
 unfold yK at*;generalize (execOp a.eval o).run P w=r at*;cases r with
 |halt x w'=>exact h
 |ok n w'=>
  cases n<;>simp only at h⊢ <;>first|exact b _ _ h|exact Calls.mono h fun e k ⟨v,l,d⟩=>⟨v,l,b _ _ d⟩|exact gM.mono h fun _ _ d=>b _ _ d|exact h
theorem qB {ro:Option Nat} {m:Nat} {o:Oper} {a:Act} {w:World} {K:Act→World→Prop} {Q:Exit→Act→World→Prop} (j:ee o=true) (h:yK P o a w K):o.wpIn (FR ro) m P a w K Q:=by
 refine⟨fun _ _=>trivial,?_⟩;rw[Oper.semAt_eq _ _ _ (pC j)];unfold yK at h;generalize (execOp a.eval o).run P w=r at*;cases r with
 |halt x w'=>exact h.elim
 |ok n w'=>
  cases n<;>simp only at h<;>try exact h.elim
  case value v=>exact h
  case skip=>exact h
  case enter f args=>exact⟨fun h=>by simp[FR,Fence.wide]at h,zR (Calls.mono h fun e b ⟨v,k,d⟩=>by subst k;exact d)⟩
  case round l f tmps assign body=>
   refine⟨fun h=>by simp[FR,Fence.wide]at h,trivial,fun c cs _=>?_⟩;obtain⟨v,b,d,q⟩:=h c cs;refine⟨.returned v,b,d,?_⟩;exact stepsIn_wide.2 q
theorem mH {o:Oper} {x:XB} (y:wG P o.op=some x) {ρ:Env} {a:Act} (z:je n ds ρ a) {w:World} {K:Value→World→Prop} (j:iw P x ρ w K)
  {next:Act→World→Prop} (k: ∀v w',K v w'→next (a.put o.dst v) w'):yK P o a w next:=by
 obtain⟨q,B,ty,d,t,g⟩:=o;unfold yK;rw[z.mr];unfold iw at j;split at j
 ·rename_i C;split at j
  ·rename_i v m;rw[gq y C m q ty d t g];exact k _ _ j
  ·exact j.elim
 ·have b:=wV y j q ty d t g;unfold jQ at b;generalize (execOp (ev ρ) ⟨q,B,ty,d,t,g⟩).run P w=r at b;cases r with
  |halt h w'=>exact b.elim
  |ok nx w'=>
   cases nx<;>simp only at b⊢
   case value v=>exact k _ _ b
   case skip=>exact k _ _ b
   case enter f args=>exact Calls.mono b fun e u ⟨v,D,m⟩=>⟨v,D,k _ _ m⟩
   case round l f tmps assign body=>exact gM.mono b fun v u m=>k _ _ m
theorem qC {o:Oper} {x:XB} (t:wG P o.op=some x) (u:x.Ft=false) {ρ:Env} {a:Act} (y:je n ds ρ a) {w:World} {K:Value→World→Prop} (j:iw P x ρ w K)
  {next:Act→World→Prop} {Q:Exit→Act→World→Prop} (k: ∀v w',K v w'→next (a.put o.dst v) w'):o.wp P a w next Q:=by
 obtain⟨l,z,ty,b,m,g⟩:=o;unfold Oper.wp;rw[y.mr];unfold iw at j;split at j
 ·rename_i B;split at j
  ·rename_i v q;rw[gq t B q l ty b m g];exact k _ _ j
  ·exact j.elim
 ·have d:=uA t u j l ty b m g;unfold k8 at d;generalize (execOp (ev ρ) ⟨l,z,ty,b,m,g⟩).run P w=r at d;cases r with
  |halt h w'=>exact d.elim
  |ok nx w'=>
   cases nx<;>simp only[Oper.upon]at d⊢
   case value v=>exact k _ _ d
   case skip=>exact k _ _ d
   case enter f args=>exact Calls.mono d fun e C ⟨v,D,q⟩=>by subst D;exact k _ _ q
theorem mJ {ro:Option Nat} {m:Nat} {C:Env→World→Prop}: ∀(l:List Oper) (xs:List XO),l.mapM (nQ P n ops)=some xs→ ∀(ρ:Env) (w:World) (a:Act),je n ds ρ a→VO P xs ρ w C→wpListIn (FR ro) m P ops (QC n ds C) l a w
 | [],xs,h,ρ,w,a,d,b=>by
  simp at h;subst h
  exact⟨rfl,ρ,d,b⟩
 |o::l,xs,h,ρ,w,a,d,b=>by
  simp only[List.mapM_cons,Option.bind_eq_bind,Option.bind_eq_some_iff,Option.pure_def,Option.some.injEq]at h
  obtain⟨x,y,ys,q,rfl⟩:=h
  obtain⟨r,z,t,u⟩:=ix y
  have B:=gv z d
  simp only[VO]at b
  unfold wpListIn
  rw[B]
  split at b
  ·rename_i k
   rw[if_pos k]
   refine qB (sk r) (mH r d b fun v w' j=>?_)
   rw[t]at j
   exact mJ l ys q _ _ _ (dp d u v) j
  ·rename_i k
   rw[if_neg k]
   rw[t]at b
   exact⟨fun _ _=>trivial,mJ l ys q _ _ _ (dp d u undef) b⟩
def qD (xs:List XO):Bool:=xs.all fun x=>!x.body.Ft
theorem pD {C:Env→World→Prop}: ∀(l:List Oper) (xs:List XO),l.mapM (nQ P n ops)=some xs→qD xs=true→ ∀(ρ:Env) (w:World) (a:Act),je n ds ρ a→VO P xs ρ w C→wpList P ops (QC n ds C) l a w
 | [],xs,h,_,ρ,w,a,d,b=>by
  simp at h;subst h
  exact⟨rfl,ρ,d,b⟩
 |o::l,xs,h,k,ρ,w,a,d,b=>by
  simp only[List.mapM_cons,Option.bind_eq_bind,Option.bind_eq_some_iff,Option.pure_def,Option.some.injEq]at h
  obtain⟨x,u,ys,q,rfl⟩:=h
  obtain⟨y,z,r,t⟩:=ix u
  have B:=gv z d
  simp only[qD,List.all_cons,Bool.and_eq_true,Bool.not_eq_true']at k
  simp only[VO]at b
  unfold wpList
  rw[B]
  split at b
  ·rename_i m
   rw[if_pos m]
   refine .inl (qC y k.1 d b fun v w' j=>?_)
   rw[r]at j
   exact pD l ys q k.2 _ _ _ (dp d t v) j
  ·rename_i m
   rw[if_neg m]
   rw[r]at b
   exact pD l ys q k.2 _ _ _ (dp d t undef) b
def jS (xs:List XO):Bool:=xs.all fun x=>x.body.ie
theorem jT {Q:Act→Prop} {C:Env→World→Prop} {w:World} (m: ∀ρ a,je n ds ρ a→C ρ w→Q a): ∀(l:List Oper) (xs:List XO),l.mapM (nQ P n ops)=some xs→jS xs=true→ ∀(ρ:Env) (a:Act),je n ds ρ a→VO P xs ρ w C→
  wpStill P ops w Q l a
 | [],xs,h,_,ρ,a,d,b=>by
  simp at h;subst h
  exact m ρ a d b
 |o::l,xs,h,u,ρ,a,d,b=>by
  simp only[List.mapM_cons,Option.bind_eq_bind,Option.bind_eq_some_iff,Option.pure_def,Option.some.injEq]at h
  obtain⟨x,D,ys,y,rfl⟩:=h
  obtain⟨E,F,z,B⟩:=ix D
  have G:=gv F d
  simp only[jS,List.all_cons,Bool.and_eq_true]at u
  obtain⟨j,k⟩:=u
  simp only[VO]at b
  unfold wpStill
  rw[G]
  split at b
  ·rename_i q
   rw[if_pos q]
   unfold iw at b
   rw[if_pos j]at b
   split at b
   ·rename_i v r
    obtain⟨H,J,ty,t,I,g⟩:=o
    unfold Oper.still
    rw[d.mr,gq E j r H ty t I g]
    simp only[Oper.stillUpon]
    refine⟨trivial,?_⟩
    rw[z]at b
    exact jT m l ys y k _ _ (dp d B v) b
   ·exact b.elim
  ·rename_i q
   rw[if_neg q]
   rw[z]at b
   exact jT m l ys y k _ _ (dp d B undef) b
theorem qE {ro:Option Nat} {id m:Nat} {C:Env→World→Prop} {xs:List XO} (h:ops.toList.mapM (nQ P n ops)=some xs) {ρ:Env} {w:World} {a:Act} (b:je n ds ρ a) (d:VO P xs ρ w C):
  (Code.region id ops false).wpIn (FR ro) m P (QC n ds C) a w:=wpIn_region_list (mJ _ _ h ρ w a b d)
theorem wp_of_still {id m:Nat} {C:Env→World→Prop} {xs:List XO} (d:P.follows .mixedOrders=true) (j:Region.lexB .any ops=true) (k:jS xs=true)
  (h:ops.toList.mapM (nQ P n ops)=some xs) {ρ:Env} {w:World} {a:Act} (b:je n ds ρ a) (l:VO P xs ρ w.drew C):(Code.region id ops true).wpIn (FR none) m P (QC n ds C) a w:=
 wpIn_wide.2<|wp_region_still d j (jT (C:=C) (w:=w.drew) (fun ρ _ b o=>⟨rfl,ρ,b,o⟩) _ _ h k ρ a b l)
theorem iy {b d:Type} {f:b→Option d}: ∀(k:Nat) (l:List b) (xs:List d),l.mapM f=some xs→(l.take k).mapM f=some (xs.take k)∧(l.drop k).mapM f=some (xs.drop k)
 |0,l,xs,h=>by simpa using h
 |k+1,[],xs,h=>by simp at h;subst h;simp
 |k+1,a::l,xs,h=>by
  simp only[List.mapM_cons,Option.bind_eq_bind,Option.bind_eq_some_iff,Option.pure_def,Option.some.injEq]at h
  obtain⟨x,j,ys,m,rfl⟩:=h
  obtain⟨o,q⟩:=iy k l ys m
  simp[j,o,q]
theorem sm {id k m:Nat} {C:Env→World→Prop} {xs:List XO} (j:P.follows .mixedOrders=true) (l:Region.lexTailB .any ops k=true) (o:jS (xs.take k)=true) (q:qD (xs.drop k)=true)
  (h:ops.toList.mapM (nQ P n ops)=some xs) {ρ:Env} {w:World} {a:Act} (b:je n ds ρ a) (r:VO P xs ρ w.drew C):(Code.region id ops true).wpIn (FR none) m P (QC n ds C) a w:=by
 have e:ops=ops.toList.toArray:=by simp
 rw[e];refine wpIn_wide.2<|wp_region_still_tail k j (by rw[←e];exact l) ?_
 obtain⟨t,u⟩:=iy k _ _ h;rw[←e];have d:=ku (xs.take k) (xs.drop k) ρ w.drew C (by rw[List.take_append_drop];exact r);exact jT (C:=fun ρ w=>VO P (xs.drop k) ρ w C) (w:=w.drew) (fun ρ _ b y=>pD _ _ u q ρ _ _ b y) _ _ t o ρ a b d
end
def At (w:World) (b:Nat) (vs:List Value):Prop:= ∃T,w.heap[b]? =some (.cells ⟨vs⟩ T (0,0))
theorem At.cell {w:World} {b:Nat} {vs:List Value} (h:At w b vs) (i:Nat):w.cell? ⟨b,i,none⟩=vs[i]? :=by
 obtain⟨T,h⟩:=h;simp[World.cell?,h]
theorem At.free {w:World} {b:Nat} {vs:List Value} (h:At w b vs) (i:Nat):w.frozen? ⟨b,i,none⟩=false:=by
 obtain⟨T,h⟩:=h;simp[World.frozen?,h]
theorem At.lt {w:World} {b:Nat} {vs:List Value} (h:At w b vs):b<w.heap.size:=by
 obtain⟨T,h⟩:=h;exact(Array.getElem?_eq_some_iff.1 h).1
theorem At.drew {w:World} {b:Nat} {vs:List Value} (h:At w b vs):At w.drew b vs:=h
theorem At.heap {w w':World} {b:Nat} {vs:List Value} (h:At w b vs) (e:w'.heap[b]? =w.heap[b]?):At w' b vs:=by
 obtain⟨T,h⟩:=h;exact⟨T,by rw[e];exact h⟩
theorem ad.same {S:List Nat} {a b c:World} (h:ad S a b) (k:ad S b c):ad S a c:=h.trans k fun _ d=>.inl d
theorem ad.nil {S:List Nat} {a b c:World} (h:ad S a b) (k:ad [] b c):ad S a c:=h.trans k fun _ d=>absurd d (by simp)
theorem ad.mono {S T:List Nat} {a b:World} (h:ad S a b) (j: ∀x,x∈S→x∈T∨a.heap.size≤x):ad T a b:=
 ⟨h.os,h.tape,h.output,h.size,fun x d k=>h.block x d fun l=>(j x l).elim k (fun m=>absurd d (Nat.not_lt.2 m))⟩
theorem ad.of_nil {T:List Nat} {a b:World} (h:ad [] a b):ad T a b:=h.mono fun _ d=>absurd d (by simp)
theorem ad.drew (S:List Nat) (w:World):ad S w w.drew:=⟨rfl,rfl,rfl,Nat.le_refl _,fun _ _ _=>rfl⟩
theorem ad.ey {S:List Nat} {w w':World} (h:ad S w.drew w'):ad S w w':=⟨h.os,h.tape,h.output,h.size,h.block⟩
theorem ad.alloc (S:List Nat) (w:World) (o:Obj):ad S w (w.alloc o):=
 ⟨rfl,rfl,rfl,by simp,fun k b _=>by show(w.heap.push o)[k]? =_;rw[Array.getElem?_push,if_neg (by omega)]⟩
theorem ad.below {S:List Nat} {w w':World} (h:ad S w w') (d: ∀x,x∈S→w.heap.size≤x):Go.RowKit.Below w.heap.size w w':=
 ⟨h.os,h.tape,h.output,h.size,fun k b=>h.block k b fun j=>absurd b (Nat.not_lt.2 (d k j))⟩
theorem At.ae {S:List Nat} {w w':World} {b:Nat} {vs:List Value} (h:At w b vs) (k:ad S w w') (d:b∉S):At w' b vs:=h.heap (k.block b h.lt d)
theorem At.aa {w w':World} {b:Nat} {vs:List Value} (h:At w b vs) (k:ad [] w w'):At w' b vs:=h.ae k (by simp)
theorem At.alloc (w:World) (vs:List Value) (T:TypeId):At (w.alloc (.cells ⟨vs⟩ T)) w.heap.size vs:=⟨T,by show(w.heap.push _)[w.heap.size]? =_;simp⟩
theorem At.set {w:World} {b:Nat} {vs:List Value} (h:At w b vs) (i:Nat) (v:Value):At (w.setCell ⟨b,i,none⟩ v) b (vs.set i v):=by
 obtain⟨T,h⟩:=h;refine⟨T,?_⟩;simp[World.setCell,Array.getElem?_modify,h]
theorem ax {w:World} {b:Nat} {vs:List Value} (h:At w b vs) (o n:Nat) (j:o+n≤vs.length):aI w ⟨b,o,none⟩ n=some ((vs.drop o).take n):=by
 unfold aI;have key: ∀m,m≤n→(List.range m).mapM (fun i=>w.cell? ((⟨b,o,none⟩:Addr).add i))=some ((vs.drop o).take m):=by
  intro m
  induction m with
  |zero=>intro _;simp
  |succ m d=>
   intro k;rw[List.range_succ,List.mapM_append,d (by omega)];have:w.cell? ((⟨b,o,none⟩:Addr).add m)=some (vs[o+m]'(by omega)):=by rw[bX,h.cell];simp
   simp only[List.mapM_cons,List.mapM_nil,this,Option.bind_eq_bind,Option.bind_some,Option.pure_def,Option.some.injEq];rw[List.take_add_one,List.getElem?_drop,List.getElem?_eq_getElem (by omega)];simp
 exact key n (Nat.le_refl n)
section
variable {P:Program} {rest:List XO} {ρ:Env} {w:World} {C:Env→World→Prop} {d:Option Nat}
def hH (P:Program) (o:Option Value) (d:Option Nat) (rest:List XO) (ρ:Env) (w:World) (C:Env→World→Prop):Prop:=match o with
 |some v=>VO P rest (aV ρ d v) w C
 |none=>False
theorem uE (v:Value):hH P (some v) d rest ρ w C=VO P rest (aV ρ d v) w C:=propext Iff.rfl
def zS (P:Program) (t:TypeId) (cells:List Value) (d:Option Nat) (rest:List XO) (ρ:Env) (w:World) (C:Env→World→Prop):Prop:=
 VO P rest (aV ρ d (.pointer (some ⟨w.heap.size,0,none⟩))) (w.alloc (.cells ⟨cells⟩ t)) C
def Ia (P:Program) (a v:Value) (d:Option Nat) (rest:List XO) (ρ:Env) (w:World) (C:Env→World→Prop):Prop:=
 ∃p,a=.pointer (some p)∧bu v=true∧(w.cell? p).isSome=true∧w.frozen? p=false∧VO P rest (aV ρ d undef) (w.setCell p v) C
def zT (P:Program) (n:Nat) (a v:Value) (d:Option Nat) (rest:List XO) (ρ:Env) (w:World) (C:Env→World→Prop):Prop:=
 ∃p cs,a=.pointer (some p)∧v=.agg cs∧cs.size=n∧World.gu w p cs.toList 0∧VO P rest (aV ρ d undef) (World.setCells w p cs.toList 0) C
def qF (P:Program) (f:FuncId) (args:List Value) (d:Option Nat) (rest:List XO) (ρ:Env) (w:World) (C:Env→World→Prop):Prop:=
 Cs P f args w fun v w'=>VO P rest (aV ρ d v) w' C
def Cl (P:Program) (v:Value) (b:Bool) (d:Option Nat) (x:XB) (rest:List XO) (ρ:Env) (w:World) (C:Env→World→Prop):Prop:=
 if DR v b then VO P (⟨d,none,x⟩::rest) ρ w C else VO P rest (aV ρ d undef) w C
theorem wY (s:Nat) (b:Bool) (x:XB):VO P (⟨d,some (s,b),x⟩::rest) ρ w C=Cl P (ρ s) b d x rest ρ w C:=propext Iff.rfl
theorem Cm (x:XB):Cl P (.bool true) true d x rest ρ w C=VO P (⟨d,none,x⟩::rest) ρ w C:=propext Iff.rfl
theorem Cn (x:XB):Cl P (.bool false) false d x rest ρ w C=VO P (⟨d,none,x⟩::rest) ρ w C:=propext Iff.rfl
theorem Co (x:XB):Cl P (.bool true) false d x rest ρ w C=VO P rest (aV ρ d undef) w C:=propext Iff.rfl
theorem Cp (x:XB):Cl P (.bool false) true d x rest ρ w C=VO P rest (aV ρ d undef) w C:=propext Iff.rfl
theorem Cq (b:Bool) (x:XB):Cl P undef b d x rest ρ w C=VO P rest (aV ρ d undef) w C:=propext Iff.rfl
theorem Cr:VO P [] ρ w C=C ρ w:=propext Iff.rfl
theorem Fu (x:Operand):VO P (⟨d,none,.mv x⟩::rest) ρ w C=VO P rest (aV ρ d (ev ρ x)) w C:=propext Iff.rfl
theorem zU (c a b:Operand):VO P (⟨d,none,.pick c a b⟩::rest) ρ w C=hH P (qx (ev ρ c) (ev ρ a) (ev ρ b)) d rest ρ w C:=propext Iff.rfl
theorem wZ (x:Operand):VO P (⟨d,none,.nilck x⟩::rest) ρ w C=hH P (kr (ev ρ x)) d rest ρ w C:=propext Iff.rfl
theorem Fv (x:Operand):VO P (⟨d,none,.ld x⟩::rest) ρ w C=hH P (jP w (ev ρ x)) d rest ρ w C:=propext Iff.rfl
theorem Ct (n:Nat) (x:Operand):VO P (⟨d,none,.ldN n x⟩::rest) ρ w C=hH P (eR w n (ev ρ x)) d rest ρ w C:=propext Iff.rfl
theorem Fw (o:Nat) (x:Operand):VO P (⟨d,none,.fa o x⟩::rest) ρ w C=hH P (Fk o (ev ρ x)) d rest ρ w C:=propext Iff.rfl
theorem Fx (s:Nat) (x i:Operand):VO P (⟨d,none,.ia s x i⟩::rest) ρ w C=hH P (Fo s (ev ρ x) (ev ρ i)) d rest ρ w C:=propext Iff.rfl
theorem Cu (b:BinOp) (x y:Operand):VO P (⟨d,none,.bin b x y⟩::rest) ρ w C=hH P (cI b (ev ρ x) (ev ρ y)) d rest ρ w C:=propext Iff.rfl
theorem Cv (n:Bool) (x y:Operand):VO P (⟨d,none,.eqP n x y⟩::rest) ρ w C=hH P (wQ n (ev ρ x) (ev ρ y)) d rest ρ w C:=propext Iff.rfl
theorem Cw (n:Bool) (x y:Operand):VO P (⟨d,none,.eqS n x y⟩::rest) ρ w C=hH P (wR n (ev ρ x) (ev ρ y)) d rest ρ w C:=propext Iff.rfl
theorem Fy (x:Operand):VO P (⟨d,none,.no x⟩::rest) ρ w C=hH P (Fs (ev ρ x)) d rest ρ w C:=propext Iff.rfl
theorem zV (fn:Fn) (a b:Array Operand):VO P (⟨d,none,.mkfn fn a b⟩::rest) ρ w C=VO P rest (aV ρ d (.func fn (a.map (ev ρ)) (b.map (ev ρ)))) w C:=propext Iff.rfl
theorem Cx (s:Nat) (x:Operand) (b j:Option Operand):VO P (⟨d,none,.slc s x b j⟩::rest) ρ w C=hH P (nI s (ev ρ x) (b.map (ev ρ)) (j.map (ev ρ))) d rest ρ w C:=propext Iff.rfl
theorem Cy (x:Operand) (i:Nat):VO P (⟨d,none,.ext x i⟩::rest) ρ w C=hH P (uq (ev ρ x) i) d rest ρ w C:=propext Iff.rfl
theorem Cz (x:Operand):VO P (⟨d,none,.len x⟩::rest) ρ w C=hH P (wS (ev ρ x)) d rest ρ w C:=propext Iff.rfl
theorem zW (m:Bool) (x y:Operand):VO P (⟨d,none,.mnmx m x y⟩::rest) ρ w C=hH P (mB m (ev ρ x) (ev ρ y)) d rest ρ w C:=propext Iff.rfl
theorem CA (t:TypeId) (x:Operand):VO P (⟨d,none,.box t x⟩::rest) ρ w C=zS P t (ev ρ x).cells.toList d rest ρ w C:=propext Iff.rfl
theorem CB (t:TypeId) (z:List Value):VO P (⟨d,none,.alc t z⟩::rest) ρ w C=zS P t z d rest ρ w C:=propext Iff.rfl
theorem Fz (a v:Operand):VO P (⟨d,none,.st a v⟩::rest) ρ w C=Ia P (ev ρ a) (ev ρ v) d rest ρ w C:=propext Iff.rfl
theorem CC (n:Nat) (a v:Operand):VO P (⟨d,none,.stN n a v⟩::rest) ρ w C=zT P n (ev ρ a) (ev ρ v) d rest ρ w C:=propext Iff.rfl
def CD (P:Program) (o:Option (List Value)) (e len:Nat) (d:Option Nat) (rest:List XO) (ρ:Env) (w:World) (C:Env→World→Prop):Prop:=
 ∃cs,o=some cs∧VO P rest (aV ρ d (.slice (some ⟨w.heap.size,0,none⟩) len len)) (w.alloc (.cells ⟨cs⟩ e)) C
def CE (P:Program) (e bytes:Nat) (zero:List Value) (l c:Value) (d:Option Nat) (rest:List XO) (ρ:Env) (w:World) (C:Env→World→Prop):Prop:=
 ∃(k k':IntKind) (n m:Nat),l=.int k n∧c=.int k' m∧n≤m∧m≤1099511627776∧m*bytes≤1099511627776∧VO P rest (aV ρ d (.slice (some ⟨w.heap.size,0,none⟩) n m)) (w.alloc (.cells ⟨eP zero m⟩ e)) C
def CF (P:Program) (sz bytes:Nat) (s x:Value) (d:Option Nat) (rest:List XO) (ρ:Env) (w:World) (C:Env→World→Prop):Prop:=
 ∃n xs fp m us,wT w sz s n xs fp∧bO w sz x m us∧(∀u,u∈us→bu u=true)∧n+m≤1099511627776∧(n+m)*bytes≤1099511627776∧
   ∀j w' b,wT w' sz j (n+m) (xs++us) b→(Sl w sz s n xs fp→Sl w' sz j (n+m) (xs++us) b)→(b=fp∨b=[w.heap.size])→ad fp w w'→qy s j n m fp b→VO P rest (aV ρ d j) w' C
def kv (P:Program) (s:Sem Value) (d:Option Nat) (rest:List XO) (ρ:Env) (w:World) (C:Env→World→Prop):Prop:= ∃v w',s.run P w=.ok v w'∧VO P rest (aV ρ d v) w' C
def tp (P:Program) (s:Sem Unit) (d:Option Nat) (rest:List XO) (ρ:Env) (w:World) (C:Env→World→Prop):Prop:= ∃w',s.run P w=.ok () w'∧VO P rest (aV ρ d undef) w' C
theorem xa (t:TypeId) (r:Option Operand):VO P (⟨d,none,.act (.makeMap t r)⟩::rest) ρ w C=kv P (Instr.makeMap t (r.map (ev ρ))) d rest ρ w C:=propext Iff.rfl
theorem zX (t:TypeId) (x:Operand):VO P (⟨d,none,.act (.makeInterface t x)⟩::rest) ρ w C=kv P (Instr.makeInterface t (ev ρ x)) d rest ρ w C:=propext Iff.rfl
theorem zY (t:TypeId) (m k x:Operand):VO P (⟨d,none,.act (.mapUpdate t m k x)⟩::rest) ρ w C=tp P (Instr.mapUpdate t (ev ρ m) (ev ρ k) (ev ρ x)) d rest ρ w C:=propext Iff.rfl
theorem CG (t:TypeId) (x i:Operand) (b:Bool):VO P (⟨d,none,.act (.lookup t x i b)⟩::rest) ρ w C=kv P (Instr.lookup t (ev ρ x) (ev ρ i) b) d rest ρ w C:=propext Iff.rfl
theorem zZ (t k:TypeId) (m x:Operand):VO P (⟨d,none,.act (.call ⟨.builtin .delete,#[m,x],#[t,k]⟩)⟩::rest) ρ w C=kv P (Builtin.delete_ #[t,k] 0 #[ev ρ m,ev ρ x]) d rest ρ w C:=by
 have e:(#[m,x]:Array Operand).map (ev ρ)=#[ev ρ m,ev ρ x]:=by simp
 rw[←e];exact propext Iff.rfl
theorem xb (t:TypeId) (x:Operand):VO P (⟨d,none,.act (.call ⟨.builtin .clear,#[x],#[t]⟩)⟩::rest) ρ w C=kv P (Builtin.clear_ #[t] 0 #[ev ρ x]) d rest ρ w C:=by
 have e:(#[x]:Array Operand).map (ev ρ)=#[ev ρ x]:=by simp
 rw[←e];exact propext Iff.rfl
theorem z' (t:TypeId) (x:Operand):VO P (⟨d,none,.act (.call ⟨.builtin .len,#[x],#[t]⟩)⟩::rest) ρ w C=kv P (Builtin.len_ #[t] 0 #[ev ρ x]) d rest ρ w C:=by
 have e:(#[x]:Array Operand).map (ev ρ)=#[ev ρ x]:=by simp
 rw[←e];exact propext Iff.rfl
theorem runT {s:Sem Value} {v:Value} {w':World} (b:s.run P w=.ok v w') (h:VO P rest (aV ρ d v) w' C):kv P s d rest ρ w C:=⟨v,w',b,h⟩
theorem FA {s:Sem Unit} {w':World} (b:s.run P w=.ok () w') (h:VO P rest (aV ρ d undef) w' C):tp P s d rest ρ w C:=⟨w',b,h⟩
def pE (P:Program) (f:Value) (args:List Value) (d:Option Nat) (rest:List XO) (ρ:Env) (w:World) (C:Env→World→Prop):Prop:=
 kN P f args w fun v w'=>VO P rest (aV ρ d v) w' C
theorem CH (z:List Value) (b:List (Nat×Nat×Operand)):VO P (⟨d,none,.bld z b⟩::rest) ρ w C=hH P (pA (cV z (b.map (tl ρ)))) d rest ρ w C:=propext Iff.rfl
theorem CI (n:Bool) (k:Nat) (x y:Operand):VO P (⟨d,none,.eqA n k x y⟩::rest) ρ w C=hH P (rV n k (ev ρ x) (ev ρ y)) d rest ρ w C:=propext Iff.rfl
theorem CJ (e len:Nat) (z:List Value) (b:List (Nat×Nat×Operand)):VO P (⟨d,none,.bsl e len z b⟩::rest) ρ w C=CD P (cV z (b.map (tl ρ))) e len d rest ρ w C:=propext Iff.rfl
theorem CK (e b:Nat) (z:List Value) (l c:Operand):VO P (⟨d,none,.mks e b z l c⟩::rest) ρ w C=CE P e b z (ev ρ l) (ev ρ c) d rest ρ w C:=propext Iff.rfl
theorem CL (e b:Nat) (z:List Value) (s x:Operand):VO P (⟨d,none,.app e b z s x⟩::rest) ρ w C=CF P z.length b (ev ρ s) (ev ρ x) d rest ρ w C:=propext Iff.rfl
theorem xc (f:Operand) (args:List Operand):VO P (⟨d,none,.callv f args⟩::rest) ρ w C=pE P (ev ρ f) (args.map (ev ρ)) d rest ρ w C:=propext Iff.rfl
theorem jc {e len:Nat} {cs:List Value} (h: ∀g w',g=w.heap.size→w'.heap.size=w.heap.size+1→At w' g cs→ad [] w w'→VO P rest (aV ρ d (.slice (some ⟨g,0,none⟩) len len)) w' C):CD P (some cs) e len d rest ρ w C:=
 ⟨cs,rfl,h _ _ rfl (by simp) (At.alloc w cs e) (ad.alloc [] w _)⟩
theorem FB {e bytes:Nat} {zero:List Value} {k k':IntKind} {n m:Nat} (b:n≤m) (j:m≤1099511627776) (l:m*bytes≤1099511627776)
  (h: ∀g w',g=w.heap.size→w'.heap.size=w.heap.size+1→At w' g (eP zero m)→ad [] w w'→VO P rest (aV ρ d (.slice (some ⟨g,0,none⟩) n m)) w' C):CE P e bytes zero (.int k n) (.int k' m) d rest ρ w C:=
 ⟨k,k',n,m,rfl,rfl,b,j,l,h _ _ rfl (by simp) (At.alloc w _ e) (ad.alloc [] w _)⟩
theorem nu {sz bytes:Nat} {s x:Value} {n m:Nat} {xs us:List Value} {fp:List Nat} (l:Sl w sz s n xs fp) (o:bO w sz x m us) (q: ∀u,u∈us→bu u=true) (r:n+m≤1099511627776) (t:(n+m)*bytes≤1099511627776)
  (h: ∀j w' b,Sl w' sz j (n+m) (xs++us) b→(b=fp∨b=[w.heap.size])→ad fp w w'→qy s j n m fp b→VO P rest (aV ρ d j) w' C):CF P sz bytes s x d rest ρ w C:=
 ⟨n,xs,fp,m,us,l.GF,o,q,r,t,fun j w' b _ k=>h j w' b (k l)⟩
theorem di {f:Value} {args:List Value} {g:Nat} {vs:List Value} {R:Value→World→Prop} (b:iq f args=some (g,vs)) (j:okF P g=true) (h:Cs P g vs w R) (k: ∀v w',R v w'→VO P rest (aV ρ d v) w' C):pE P f args d rest ρ w C:=
 .inl ⟨g,vs,b,j,h.mono k⟩
theorem CN {f:Value} {args:List Value} {R:Value→World→Prop} (h:kN P f args w R) (k: ∀v w',R v w'→VO P rest (aV ρ d v) w' C):pE P f args d rest ρ w C:=h.mono k
theorem Aa (f:Nat) (args:List Operand):VO P (⟨d,none,.call f args⟩::rest) ρ w C=qF P f (args.map (ev ρ)) d rest ρ w C:=propext Iff.rfl
theorem bm {t:TypeId} {cells:List Value} (h: ∀g w',g=w.heap.size→w'.heap.size=w.heap.size+1→At w' g cells→ad [] w w'→VO P rest (aV ρ d (.pointer (some ⟨g,0,none⟩))) w' C):zS P t cells d rest ρ w C:=
 h _ _ rfl (by simp) (At.alloc w cells t) (ad.alloc [] w _)
theorem nt {b i:Nat} {vs:List Value} {v:Value} (h:At w b vs) (j:i<vs.length) (l:bu v=true)
  (k: ∀w',w'.heap.size=w.heap.size→At w' b (vs.set i v)→ad [b] w w'→VO P rest (aV ρ d undef) w' C):Ia P (.pointer (some ⟨b,i,none⟩)) v d rest ρ w C:=
 ⟨_,rfl,l,by rw[h.cell];simp[j],h.free i,k _ (by simp) (h.set i v) (ad.setCell w ⟨b,i,none⟩ v)⟩
theorem ak {f:FuncId} {args:List Value} {R:Value→World→Prop} (h:Cs P f args w R) (k: ∀v w',R v w'→VO P rest (aV ρ d v) w' C):qF P f args d rest ρ w C:=
 h.mono k
theorem ao {f:FuncId} {args:List Value} {a:Value} (h:Cs P f args w fun v w'=>v=a∧w'=w) (k:VO P rest (aV ρ d a) w C):qF P f args d rest ρ w C:=
 h.mono fun v w' e=>by rw[e.1,e.2];exact k
theorem aH {f:FuncId} {args:List Value} {a:Value} {S:List Nat} (h:Cs P f args w fun v w'=>v=a∧ad S w w') (k: ∀w',ad S w w'→VO P rest (aV ρ d a) w' C):qF P f args d rest ρ w C:=
 h.mono fun v w' e=>by rw[e.1];exact k _ e.2
end
attribute [irreducible] VO hH zS Ia zT qF Cl CD CE CF pE kv tp
end Go.Proofs.YthamnonkfepafaaGreat
