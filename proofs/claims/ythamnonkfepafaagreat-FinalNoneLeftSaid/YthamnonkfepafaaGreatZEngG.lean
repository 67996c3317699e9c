import Derived.Test.YthamnonkfepafaaGreatZEngF
set_option linter.unusedSimpArgs false
set_option linter.unusedVariables false
namespace Go.Proofs.YthamnonkfepafaaGreat
def SB (L:List Nat) (w w':World):Prop:= ∀b,b∈L→w'.heap[b]? =w.heap[b]?
theorem SB.refl (L:List Nat) (w:World):SB L w w:=fun _ _=>rfl
theorem iU {w w':World} {a:Addr} (h:w'.heap[a.block]? =w.heap[a.block]?):w'.cell? a=w.cell? a:=by simp[World.cell?,h]
def sj (x:XB) (ρ:Env) (L:List Nat):Prop:=match x with
 |.ld x=>match ev ρ x with|.pointer (some p)=>p.block∈L|_=>False
 |.ldN _ x=>match ev ρ x with|.pointer (some p)=>p.block∈L|_=>False
 |_=>True
theorem oZ {w w':World} {p:Addr} (h:w'.heap[p.block]? =w.heap[p.block]?) (n:Nat):aC w' p n=aC w p n:=by
 unfold aC;congr 1;funext i;apply iU;have:(p.add i).block=p.block:=by unfold Addr.add;split<;>rfl
 rw[this];exact h
theorem KA {x:XB} {ρ:Env} {L:List Nat} {w w':World} (h:SB L w w') (b:sj x ρ L):val x ρ w'=val x ρ w:=by
 cases x<;>simp only[val]
 case ld x=>
  simp only[sj]at b;unfold qZ;split at b
  ·rename_i p e;simp only[e];exact iU (h _ b)
  ·exact b.elim
 case ldN n x=>
  simp only[sj]at b;unfold fG;split at b
  ·rename_i p e;simp only[e];rw[oZ (h _ b)]
  ·exact b.elim
section
variable {P:Program} {ops:Array Oper} {Q:Exit→Act→World→Prop} {S:World→Prop} {Z:Nat→Bool}
def j1 (P:Program) (ops:Array Oper) (i:Nat) (K:Act→World→Prop) (a:Act) (w:World):Prop:=
 match ops[i]? with
 |none=>K a w
 |some o=>if Region.wanted o (yielded ops a.tmps)then GG P o a w K else K (a.put o.dst undef) w
theorem tf {i:Nat} {a:Act} {w:World} {K K':Act→World→Prop} (b: ∀a w,K a w→K' a w) (h:j1 P ops i K a w):j1 P ops i K' a w:=by
 unfold j1 at*;cases d:ops[i]? with
 |none=>rw[d]at h;exact b _ _ h
 |some o=>
  rw[d]at h;simp only at h⊢;by_cases j:Region.wanted o (yielded ops a.tmps)=true
  ·rw[if_pos j]at h⊢;exact D0 h b
  ·rw[if_neg j]at h⊢;exact b _ _ h
theorem o0 {i:Nat} {o:Oper} {v:Value} {a:Act} {Si:World→Prop} (d:ops[i]? =some o) (j:YieldsIf P ops Si o v a) {K:Act→World→Prop} {w:World} (k:Si w) (h:K (a.put o.dst v) w):j1 P ops i K a w:=by
 unfold j1;simp only[d];rcases j with⟨b,l⟩|⟨b,rfl⟩
 ·simp only[b,if_true,GG,l w k];exact h
 ·simp only[b,Bool.false_eq_true,if_false];exact h
theorem x0 {j:Nat} {k m:Oper} {v:Value} {Si:World→Prop} (H:ops[j]? =some m) (q:k.apart ops m=true) (t: ∀cs b,k.op≠.select cs b) (B: ∀cs b,m.op≠.select cs b)
  {K:Act→World→Prop} {a:Act} {w:World} (I:YieldsIf P ops Si k v a) (h:j1 P ops j K (a.put k.dst v) w):
  j1 P ops j (fun E w'=>YieldsIf P ops Si k v E∧K (E.put k.dst v) w') a w:=by
 obtain⟨F,J,G⟩:=Oper.apart_spec q;have stays: ∀u,YieldsIf P ops Si k v (a.put m.dst u):=fun u=>I.of_same (execOp_put k t a m.dst u G) (wanted_put k a m.dst u G);have d: ∀u w',K ((a.put k.dst v).put m.dst u) w'→K ((a.put m.dst u).put k.dst v) w':=fun u w' o=>by rw[←Act.put_comm a v u J];exact o
 unfold j1 at*;simp only[H]at h⊢;rw[wanted_put m a k.dst v F]at h;split at h
 ·rename_i C;rw[if_pos C];unfold GG at*;rw[execOp_put m B a k.dst v F]at h;generalize (execOp a.eval m).run P w=r at*;cases r with
  |halt x w'=>exact h
  |ok n w'=>
   cases n<;>simp only at h⊢ <;>try exact h
   case value u=>exact⟨stays u,d u _ h⟩
   case skip=>exact⟨stays _,d _ _ h⟩
   case enter f args=>exact Calls.mono h fun e D ⟨u,L,o⟩=>⟨u,L,stays u,d u _ o⟩
   case round l f x y z=>exact ll.mono h fun u D o=>⟨stays u,d u _ o⟩
 ·rename_i C;rw[if_neg C];exact⟨stays _,d _ _ h⟩
def nv (S:World→Prop) (Z:Nat→Bool) (b:Array Bool) (w:World):Prop:=(∀k,Z k=true→b.getD k true=false)→S w
inductive iE (ops:Array Oper):Nat→Nat→Prop
 |one {k j:Nat} {o:Oper} {e:Edge} (ho:ops[k]? =some o) (he:e∈o.after) (hb:Region.binds .any e=true) (hj:e.on=j):iE ops k j
 |more {k i j:Nat} (h1:iE ops k i) (h2:iE ops i j):iE ops k j
def Down (ops:Array Oper) (b:Array Bool):Prop:= ∀k o,ops[k]? =some o→b.getD k true=true→ ∀e,e∈o.after→Region.binds .any e=true→b.getD e.on false=true
def qq (ops:Array Oper) (rd Z:Nat→Bool) (b:Array Bool):Prop:=Down ops b∧ ∀k,Z k=true→b.getD k true=true→ ∀j,rd j=true→b.getD j true=true
def ib (P:Program) (ops:Array Oper) (Q:Exit→Act→World→Prop) (S:World→Prop) (Z:Nat→Bool):Nat→Array Bool→Act→World→Prop
 |0,b,a,w=>Region.ready .any ops b=[]∧Q .normal a w
 |n+1,b,a,w=>(Region.ready .any ops b=[]→Q .normal a w)∧
   ∀i,i∈Region.ready .any ops b→j1 P ops i (fun d w'=>nv S Z (b.setIfInBounds i true) w'∧ib P ops Q S Z n (b.setIfInBounds i true) d w') a w
theorem kK {ro:Option Nat} {m:Nat} (q: ∀(i:Nat) (o:Oper),ops[i]? =some o→iT o=true): ∀(n:Nat) (b:Array Bool) (a:Act) (w:World),ib P ops Q S Z n b a w→wpAnyIn (FR ro) m P .any ops Q n b a w
 |0,_,_,_,h=>h
 |n+1,b,a,w,h=>⟨h.1,fun i r=>by
   have d:=tf (fun t w' k=>kK (ro:=ro) (m:=m) q n _ t w' k.2) (h.2 i r)
   unfold j1 at d
   unfold wpOpIn
   cases j:ops[i]? with
   |none=>rw[j]at d;exact d
   |some o=>
    simp only[j]at d⊢
    split at d
    ·rename_i l;rw[if_pos l];exact xV (q i o j) d
    ·rename_i l;rw[if_neg l];exact⟨fun _ _=>trivial,d⟩⟩
theorem mj {b:Array Bool} {i j:Nat} (h:b.getD j true=true):(b.setIfInBounds i true).getD j true=true:=by
 by_cases e:i=j
 ·subst e;by_cases d:i<b.size
  ·simp[d]
  ·simp[Array.getElem?_eq_none (Nat.not_lt.1 d)]
 ·rw[getD_set_ne true e];exact h
theorem uN {b:Array Bool} {i j:Nat} (h:(b.setIfInBounds i true).getD j true=false):b.getD j true=false:=by
 cases e:b.getD j true with
 |false=>rfl
 |true=>rw[mj e]at h;cases h
theorem uO {b:Array Bool} {i j:Nat} (d:j≠i) (h:(b.setIfInBounds i true).getD j true=true):b.getD j true=true:=by
 rw[getD_set_ne true (Ne.symm d)]at h;exact h
theorem nv.set {b:Array Bool} {i:Nat} {w:World} (h:nv S Z b w):nv S Z (b.setIfInBounds i true) w:=fun d=>h fun k j=>uN (d k j)
theorem nv.Oe {b:Array Bool} {i:Nat} {w:World} (j:Z i=false) (h:nv S Z (b.setIfInBounds i true) w):nv S Z b w:=fun l=>h fun k d=>by
 have:k≠i:=fun e=>by rw[e,j]at d;cases d
 rw[getD_set_ne true (Ne.symm this)];exact l k d
def tg (ops:Array Oper) (rd Z:Nat→Bool):Prop:= ∀k,Z k=true→(∃o,ops[k]? =some o)∧ ∀j,rd j=true→iE ops k j
theorem wm {d:Array Bool} {j:Nat} (h:d.getD j false=true):d.getD j true=true:=by
 cases k:d[j]? with
 |none=>simp[k]
 |some b=>simp[k]at h⊢;exact h
theorem ya {b:Array Bool} {i j:Nat} (h:b.getD j false=true):(b.setIfInBounds i true).getD j false=true:=by
 by_cases e:i=j
 ·subst e;by_cases d:i<b.size
  ·simp[d]
  ·simp[Array.getElem?_eq_none (Nat.not_lt.1 d)]at h
 ·rw[getD_set_ne false e];exact h
theorem Down.before {b:Array Bool} (o:Down ops b) {k j:Nat} (h:iE ops k j):b.getD k true=true→b.getD j false=true:=by
 induction h with
 |one q r t u=>intro d;subst u;exact o _ _ q d _ r t
 |more _ _ l m=>intro d;exact m (wm (l d))
theorem Down.ready {b:Array Bool} (r:Down ops b) {k j:Nat} (h:iE ops k j):k∈Region.ready .any ops b→b.getD j false=true:=by
 induction h with
 |one t u w y=>
  intro m;subst y;obtain⟨_,o,d,l⟩:=mem_ready.1 m;rw[t]at d;cases d;exact l _ u w
 |more _ z q _=>intro m;exact r.before z (wm (q m))
theorem qq.set {rd:Nat→Bool} (B:tg ops rd Z) {b:Array Bool} {j:Nat} (h:qq ops rd Z b) (q:j∈Region.ready .any ops b):qq ops rd Z (b.setIfInBounds j true):=by
 refine⟨fun k o r m e t u=>?_,fun k w m i y=>?_⟩
 ·refine ya ?_;by_cases z:k=j
  ·subst z;obtain⟨_,C,d,l⟩:=mem_ready.1 q;rw[r]at d;cases d;exact l e t u
  ·exact h.1 k o r (uO z m) e t u
 ·by_cases e:k=j
  ·subst e;exact mj (wm (h.1.ready ((B k w).2 i y) q))
  ·exact mj (h.2 k w (uO e m) i y)
theorem um {rd:Nat→Bool} (U:tg ops rd Z) {i:Nat} {F:Oper} {v:Value} {Si:World→Prop} (V:ops[i]? =some F) (W:Z i=false) (z:Region.noSelect ops=true)
  (X:(rd i=true∧Si=S)∨Si=fun _=>True):
  ∀(n:Nat) (d:Array Bool) (a:Act) (w:World),qq ops rd Z d→nv S Z d w→
   (∀j B,ops[j]? =some B→j≠i→d.getD j true=false→(∀e∈B.after,Region.binds .any e=true→e.on≠i)→F.apart ops B=true)→
   i∈Region.ready .any ops d→YieldsIf P ops Si F v a→ib P ops Q S Z n (d.setIfInBounds i true) (a.put F.dst v) w→ib P ops Q S Z (n+1) d a w:=by
 have o: ∀(d:Array Bool) (w:World),qq ops rd Z d→nv S Z d w→d.getD i true=false→Si w:=by
  intro d w G C m;rcases X with⟨q,rfl⟩|rfl
  ·refine C fun k Y=>?_;cases e:d.getD k true with
   |false=>rfl
   |true=>rw[G.2 k Y e i q]at m;cases m
  ·trivial
 intro n
 induction n with
 |zero=>
  intro d a w G C _ q T H;refine⟨fun h=>(by rw[h]at q;cases q),fun j J=>?_⟩;by_cases l:j=i
  ·subst l;exact o0 V T (o d w G C (mem_ready.1 q).1) ⟨C.set,H⟩
  ·have:=ready_mono J l;rw[H.1]at this;cases this
 |succ n ih=>
  intro d a w G C r q T H;refine⟨fun h=>(by rw[h]at q;cases q),fun j J=>?_⟩;by_cases l:j=i
  ·subst l;exact o0 V T (o d w G C (mem_ready.1 q).1) ⟨C.set,H⟩
  ·have h1:=H.2 j (ready_mono J l);obtain⟨K,B,D,L⟩:=mem_ready.1 J;have m:=(mem_ready.1 q).1;have M: ∀e∈B.after,Region.binds .any e=true→e.on≠i:=fun e he hb heq=>by
    have I:=L e he hb;rw[heq]at I;cases hs:d[i]? with
    |none=>simp[hs]at I
    |some b=>simp[hs]at I m;rw[I]at m;cases m
   have I:=x0 D (r j B D l K M) (fun cs b=>Region.noSelect_spec z i F cs b V) (fun cs b=>Region.noSelect_spec z j B cs b D) T h1;have y: ∀k N,ops[k]? =some N→k≠i→(d.setIfInBounds j true).getD k true=false→(∀e∈N.after,Region.binds .any e=true→e.on≠i)→F.apart ops N=true:=by
    intro k N Y hki O GI;exact r k N Y hki (uN O) GI
   refine tf (fun a' w' h3=>?_) I;obtain⟨hy',R,t⟩:=h3;have E:(d.setIfInBounds i true).setIfInBounds j true=(d.setIfInBounds j true).setIfInBounds i true:=Array.setIfInBounds_comm _ _ (Ne.symm l);rw[E]at R t;have u:nv S Z (d.setIfInBounds j true) w':=R.Oe W;exact⟨u,ih (d.setIfInBounds j true) a' w' (G.set U J) u y (ready_mono q (Ne.symm l)) hy' t⟩
end
inductive XT where
 |nil
 |p (o:XO) (t:XT)
 |a (fl:Bool) (o:XO) (t:XT)
 |or (s t:XT)
 deriving Inhabited
def VT (P:Program) (L:List Nat) (w0:World):XT→Env→World→(Env→World→Prop)→Prop
 |.nil,ρ,w,C=>C ρ w
 |.p o t,ρ,w,C=>
  if DY o.guard ρ then sj o.body ρ L∧(match val o.body ρ w0 with|some v=>VT P L w0 t (bo ρ o.dst v) w C|none=>False)
  else VT P L w0 t (bo ρ o.dst undef) w C
 |.a fl o t,ρ,w,C=>
  if DY o.guard ρ then fv P o.body ρ w (fun v w'=>(fl=true∨SB L w0 w')∧VT P L w0 t (bo ρ o.dst v) w' C)
  else VT P L w0 t (bo ρ o.dst undef) w C
 |.or s t,ρ,w,C=>VT P L w0 s ρ w C∧VT P L w0 t ρ w C
def Ct (P:Program) (n:Nat) (b:Array Oper) (i:Nat):Bool:=match (b[i]?).bind (uH P n b)with
 |some x=>x.body.lK &&x.body.reads
 |none=>false
def nH (P:Program) (n:Nat) (b:Array Oper) (i:Nat):Bool:=match (b[i]?).bind (uH P n b)with
 |some x=>x.body.lK
 |none=>false
def sm (b:Array Oper) (i:Nat):List Nat:=match b[i]? with
 |some o=>(o.after.toList.filter fun e=>Region.binds .any e).map (·.on)
 |none=>[]
def TE (b : Array Oper) : Nat → List Nat → List Nat → List Nat
  | 0, _, seen => seen
  | _ + 1, [], seen => seen
  | f + 1, i :: d, seen => let k := (sm b i).filter fun j => !seen.contains j
                           TE b f (k ++ d) (k ++ seen)
def yc (P:Program) (n:Nat) (b:Array Oper) (z:Nat):Bool:=!nH P n b z&&(b[z]?).isSome&&(let a:=TE b (b.size+b.size) [z] []
 (List.range b.size).all fun j=>!Ct P n b j||a.contains j)
inductive IT where
 |nil
 |p (i:Nat) (t:IT)
 |a (i:Nat) (t:IT)
 |or (s t:IT)
 deriving Inhabited
def IT.ml:IT→List Nat
 |.a i _=>[i]
 |.or s t=>s.ml++t.ml
 |_=>[]
def IT.depth:IT→Nat
 |.nil=>0
 |.p _ t|.a _ t=>t.depth+1
 |.or s t=>max s.depth t.depth
def rM (P:Program) (n:Nat) (b:Array Oper):IT→Option XT
 |.nil=>some .nil
 |.p i t=>match (b[i]?).bind (uH P n b),rM P n b t with|some x,some y=>some (.p x y)|_,_=>none
 |.a i t=>match (b[i]?).bind (uH P n b),rM P n b t with|some x,some y=>some (.a (yc P n b i) x y)|_,_=>none
 |.or s t=>match rM P n b s,rM P n b t with|some x,some y=>some (.or x y)|_,_=>none
def Dw (P:Program) (n:Nat) (d:Array Oper):Bool→IT→Array Bool→Bool
 |h,.nil,b=>!h&&(Region.ready .any d b).isEmpty
 |h,.p i t,b=>!h&&nH P n d i&&(Region.ready .any d b).contains i&&Region.free .any d b i&&Dw P n d false t (b.setIfInBounds i true)
 |h,.a i t,b=>!nH P n d i&&(Region.ready .any d b).contains i&&Dw P n d false t (b.setIfInBounds i true)&&(h||(Region.ready .any d b).all (· ==i))
 |h,.or s t,b=>Dw P n d true s b&&Dw P n d true t b&&!(Region.ready .any d b).isEmpty&&(h||(Region.ready .any d b).all fun i=>(s.ml++t.ml).contains i)
section
variable {P:Program} {n:Nat} {ds:List Deferred} {ops:Array Oper}
theorem wo {i j:Nat} (h:j∈sm ops i):iE ops i j:=by
 unfold sm at h;split at h
 ·rename_i o b;simp only[List.mem_map,List.mem_filter]at h;obtain⟨e,⟨d,k⟩,l⟩:=h;exact .one b (by simpa using d) k l
 ·cases h
theorem ye {z:Nat}: ∀(f:Nat) (d seen:List Nat),(∀i,i∈d→i=z∨iE ops z i)→(∀i,i∈seen→iE ops z i)→ ∀j,j∈TE ops f d seen→iE ops z j
 |0,_,_,_,l,j,m=>l j m
 |_+1,[],_,_,l,j,m=>l j m
 |f+1,i::d,seen,o,l,j,m=>by
  have q: ∀k,k∈(sm ops i).filter (fun j=>!seen.contains j)→iE ops z k:=fun k b=>by
   have r:=wo (List.mem_filter.1 b).1
   rcases o i (by simp)with rfl|t
   ·exact r
   ·exact .more t r
  refine ye f _ _ (fun k b=>?_) (fun k b=>?_) j m
  ·rcases List.mem_append.1 b with b|b
   ·exact .inr (q k b)
   ·exact o k (by simp[b])
  ·rcases List.mem_append.1 b with b|b
   ·exact q k b
   ·exact l k b
theorem mV:tg ops (Ct P n ops) (yc P n ops):=by
 intro k b;unfold yc at b;simp only[Bool.and_eq_true,List.all_eq_true,List.mem_range]at b;obtain⟨⟨_,o⟩,h⟩:=b;refine⟨Option.isSome_iff_exists.1 o,fun j m=>?_⟩;have d:j<ops.size:=by
  rcases Nat.lt_or_ge j ops.size with l|l
  ·exact l
  ·simp[Ct,Array.getElem?_eq_none l]at m
 have:=h j d;simp only[m,Bool.not_true,Bool.false_or,List.contains_iff_mem]at this;exact ye _ _ _ (fun i q=>.inl (by simpa using q)) (by simp) j this
theorem D8 {i:Nat} (h:nH P n ops i=true):yc P n ops i=false:=by unfold yc;rw[h];simp
theorem yf {x:XB} {ρ:Env} {w:World} {K:Value→World→Prop} (b:x.lK =false) (h:fv P x ρ w K):mg P x ρ w K:=by
 unfold mg;rw[b];exact h
theorem zW {x:XB} {ρ:Env} (h:x.reads=false) (w w':World):val x ρ w=val x ρ w':=by
 cases x<;>first|rfl|cases h
def Shows (P:Program) (ops:Array Oper) (Q:Exit→Act→World→Prop) (S:World→Prop) (Z:Nat→Bool) (h:Bool) (d:List Nat) (m:Nat) (b:Array Bool) (a:Act) (w:World):Prop:=
 if h then∀i,i∈d→i∈Region.ready .any ops b→ ∀k,m=k+1→j1 P ops i (fun j w'=>nv S Z (b.setIfInBounds i true) w'∧ib P ops Q S Z k (b.setIfInBounds i true) j w') a w
 else ib P ops Q S Z m b a w
theorem Cu {Q:Exit→Act→World→Prop} {S:World→Prop} {Z:Nat→Bool} {b:Array Bool} {a:Act} {w:World} (h:Region.ready .any ops b=[]) (d:Q .normal a w): ∀m,ib P ops Q S Z m b a w
 |0=>⟨h,d⟩
 |m+1=>⟨fun _=>d,fun i j=>by rw[h]at j;cases j⟩
theorem mm {L:List Nat} {w0:World} {C:Env→World→Prop} (z:Region.noSelect ops=true): ∀(it:IT) (Y:XT) (h:Bool) (m:Nat) (b:Array Bool),rM P n ops it=some Y→Dw P n ops h it b=true→it.depth≤m→
  ∀(ρ:Env) (w:World) (a:Act),qq ops (Ct P n ops) (yc P n ops) b→nv (SB L w0) (yc P n ops) b w→nt n ds ρ a→VT P L w0 Y ρ w C→
   Shows P ops (QC n ds C) (SB L w0) (yc P n ops) h it.ml m b a w
 |.nil,Y,h,m,b,B,D,T,ρ,w,a,U,O,F,q=>by
  simp only[rM,Option.some.injEq]at B
  subst B
  simp only[Dw,Bool.and_eq_true,Bool.not_eq_true',List.isEmpty_iff]at D
  obtain⟨rfl,D⟩:=D
  exact Cu D ⟨rfl,ρ,F,q⟩ m
 |.p i t,Y,h,m,b,B,D,T,ρ,w,a,U,O,F,q=>by
  simp only[rM]at B
  split at B
  ·rename_i x y E H
   cases B
   simp only[Dw,Bool.and_eq_true,Bool.not_eq_true']at D
   obtain⟨⟨⟨⟨rfl,hp⟩,Z⟩,hf⟩,D⟩:=D
   have G:i∈Region.ready .any ops b:=by simpa using Z
   obtain⟨o,Q,W⟩:=Option.bind_eq_some_iff.1 E
   obtain⟨h1,h2,h3,h4⟩:=mh W
   have hw:=kI h2 F
   have I:x.body.lK =true:=by simpa[nH,E]using hp
   obtain⟨m,rfl⟩: ∃k,m=k+1:=⟨m-1,by simp only[IT.depth]at T;omega⟩
   have ih:=fun ρ v X J=>mm (L:=L) (w0:=w0) (C:=C) z t y false m (b.setIfInBounds i true) H D (by simp only[IT.depth]at T;omega) ρ w (a.put o.dst v) (U.set mV G) O.set X J
   have hiz:=D8 hp
   simp only[VT]at q
   have go: ∀(v:Value) (Si:World→Prop),((Ct P n ops i=true∧Si=SB L w0)∨Si=fun _=>True)→YieldsIf P ops Si o v a→VT P L w0 y (bo ρ x.dst v) w C→ib P ops (QC n ds C) (SB L w0) (yc P n ops) (m+1) b a w:=by
    intro v Si hSi hy J;refine um (v:=v) (Si:=Si) mV Q hiz z hSi _ b a w U O (Region.free_spec Q hf) G hy ?_;exact ih _ v (by rw[h3];exact gv F h4 v) J
   obtain⟨dd,op,ty,pos,af,g⟩:=o;split at q
   ·rename_i V;obtain⟨R,q⟩:=q;split at q
    ·rename_i v K;cases M:x.body.reads with
     |true=>
      refine go v (SB L w0) (.inl ⟨by simp[Ct,E,I,M],rfl⟩) (.inl ⟨by rw[hw];exact V,fun w' hw'=>?_⟩) q;rw[F.sJ];exact kH h1 I ((KA hw' R).trans K) dd ty pos af g
     |false=>
      refine go v (fun _=>True) (.inr rfl) (.inl ⟨by rw[hw];exact V,fun w' _=>?_⟩) q;rw[F.sJ];exact kH h1 I ((zW M w' w0).trans K) dd ty pos af g
    ·exact q.elim
   ·rename_i V;exact go undef (fun _=>True) (.inr rfl) (.inr ⟨by rw[hw];simpa using V,rfl⟩) q
  ·cases B
 |.a i t,Y,h,m,b,B,D,T,ρ,w,a,U,O,F,q=>by
  simp only[rM]at B;split at B
  ·rename_i x y E H;cases B;simp only[Dw,Bool.and_eq_true,Bool.not_eq_true']at D;obtain⟨⟨⟨hp,Z⟩,D⟩,r⟩:=D;have G:i∈Region.ready .any ops b:=by simpa using Z
   obtain⟨o,Q,W⟩:=Option.bind_eq_some_iff.1 E;obtain⟨h1,h2,h3,h4⟩:=mh W;have hw:=kI h2 F;have I:x.body.lK =false:=by simpa[nH,E]using hp
   obtain⟨m,rfl⟩: ∃k,m=k+1:=⟨m-1,by simp only[IT.depth]at T;omega⟩;have ih:=fun ρ w' v (hS':nv (SB L w0) (yc P n ops) (b.setIfInBounds i true) w') X J=>mm (L:=L) (w0:=w0) (C:=C) z t y false m (b.setIfInBounds i true) H D (by simp only[IT.depth]at T;omega) ρ w' (a.put o.dst v) (U.set mV G) hS' X J;simp only[VT]at q;have key:j1 P ops i (fun a' w'=>nv (SB L w0) (yc P n ops) (b.setIfInBounds i true) w'∧ib P ops (QC n ds C) (SB L w0) (yc P n ops) m (b.setIfInBounds i true) a' w') a w:=by
    unfold j1;simp only[Q];rw[hw];split at q
    ·rename_i V;rw[if_pos V];refine tc h1 F (yf I q) fun v w' K=>?_;have N:nv (SB L w0) (yc P n ops) (b.setIfInBounds i true) w':=by
      intro hz;rcases K.1 with he|GJ
      ·have:=hz i he;have hl:(b.setIfInBounds i true).getD i true=true:=by
        by_cases hl:i<b.size
        ·simp[hl]
        ·simp[hl]
       rw[hl]at this;cases this
      ·exact GJ
     exact⟨N,ih _ w' v N (by rw[h3];exact gv F h4 v) K.2⟩
    ·rename_i V;rw[if_neg V];exact⟨O.set,ih _ w undef O.set (by rw[h3];exact gv F h4 undef) q⟩
   cases h with
   |true=>
    intro j d _ k hk;simp only[IT.ml,List.mem_singleton]at d;subst d;cases hk;exact key
   |false=>
    simp only[Bool.false_or,List.all_eq_true,beq_iff_eq]at r;refine⟨fun e=>(by rw[e]at G;cases G),fun j d=>?_⟩;have:=r j d;subst this;exact key
  ·cases B
 |.or s t,Y,h,m,b,B,D,T,ρ,w,a,U,O,F,q=>by
  simp only[rM]at B;split at B
  ·rename_i x y E H;cases B;simp only[Dw,Bool.and_eq_true,Bool.not_eq_true']at D;obtain⟨⟨⟨ja,jq⟩,S⟩,r⟩:=D;simp only[VT]at q;simp only[IT.depth]at T;have k1:=mm (L:=L) (w0:=w0) (C:=C) z s x true m b E ja (by omega) ρ w a U O F q.1;have k2:=mm (L:=L) (w0:=w0) (C:=C) z t y true m b H jq (by omega) ρ w a U O F q.2;have key: ∀j,j∈s.ml++t.ml→j∈Region.ready .any ops b→ ∀k,m=k+1→j1 P ops j (fun a' w'=>nv (SB L w0) (yc P n ops) (b.setIfInBounds j true) w'∧ib P ops (QC n ds C) (SB L w0) (yc P n ops) k (b.setIfInBounds j true) a' w') a w:=by
    intro j d Z k hk;rcases List.mem_append.1 d with d|d
    ·exact k1 j d Z k hk
    ·exact k2 j d Z k hk
   cases h with
   |true=>exact key
   |false=>
    simp only[Bool.false_or,List.all_eq_true,List.contains_iff_mem]at r
    have hm0: ∃k,m=k+1:=by
     refine⟨m-1,?_⟩;have h0:0<max s.depth t.depth:=by
      have: ∀(u:IT),u.ml≠ []→0<u.depth:=by
       intro u
       induction u with
       |nil=>intro h;exact absurd rfl h
       |p _ _=>intro h;exact absurd rfl h
       |a _ _=>intro _;simp only[IT.depth];omega
       |or u v ih1 ih2=>
        intro h;simp only[IT.depth];by_cases e:u.ml=[]
        ·have:=ih2 (fun e'=>h (by simp[IT.ml,e,e']));omega
        ·have:=ih1 e;omega
      cases R:Region.ready .any ops b with
      |nil=>rw[R]at S;cases S
      |cons j l=>
       have d:=r j (by rw[R];simp);rcases List.mem_append.1 d with d|d
       ·have:=this s (fun e=>by rw[e]at d;cases d);omega
       ·have:=this t (fun e=>by rw[e]at d;cases d);omega
     omega
    obtain⟨k,rfl⟩:=hm0;exact⟨fun e=>(by rw[e]at S;cases S),fun j d=>key j (r j d) d k rfl⟩
  ·cases B
theorem zX {ro:Option Nat} {id m:Nat} {L:List Nat} {C:Env→World→Prop} {it:IT} {q:XT} (u:P.follows .mixedOrders=true) (b:Region.noSelect ops=true) (t:ops.all iT=true) (d:it.depth≤ops.size)
  (h:rM P n ops it=some q) (r:Dw P n ops false it (Array.replicate ops.size false)=true)
  {ρ:Env} {w:World} {a:Act} (y:nt n ds ρ a) (z:VT P L w.drew q ρ w.drew C):(Code.region id ops true).wpIn (FR ro) m P (QC n ds C) a w:=by
 have B: ∀k,yc P n ops k=true→(Array.replicate ops.size false).getD k true=false:=fun k j=>by
  obtain⟨o,r⟩:=(mV k j).1;have:=(Array.getElem?_eq_some_iff.1 r).1;simp[this]
 refine wpIn_region_any u (kK (S:=SB L w.drew) (Z:=yc P n ops) (fun i o D=>?_) _ _ _ _ ?_)
 ·rw[Array.all_eq_true]at t;obtain⟨E,F⟩:=Array.getElem?_eq_some_iff.1 D;rw[←F];exact t i E
 ·exact mm (L:=L) (w0:=w.drew) (C:=C) b it q false ops.size _ h r d ρ w.drew a ⟨fun k o j l=>(by simp[(Array.getElem?_eq_some_iff.1 j).1]at l),fun k j l=>by rw[B k j]at l;cases l⟩ (fun _=>SB.refl _ _) y z
end
section
variable {P:Program} {L:List Nat} {w0:World} {rest:XT} {fl:Bool} {ρ:Env} {w:World} {C:Env→World→Prop} {d:Option Nat}
def mn (P:Program) (L:List Nat) (w0:World) (o:Option Value) (d:Option Nat) (rest:XT) (ρ:Env) (w:World) (C:Env→World→Prop):Prop:=match o with
 |some v=>VT P L w0 rest (bo ρ d v) w C
 |none=>False
theorem Cv (v:Value):mn P L w0 (some v) d rest ρ w C=VT P L w0 rest (bo ρ d v) w C:=propext Iff.rfl
def Hr (P:Program) (fl:Bool) (L:List Nat) (w0:World) (t:TypeId) (cells:List Value) (d:Option Nat) (rest:XT) (ρ:Env) (w:World) (C:Env→World→Prop):Prop:=
 (fl=true∨SB L w0 (w.alloc (.cells ⟨cells⟩ t)))∧VT P L w0 rest (bo ρ d (.pointer (some ⟨w.heap.size,0,none⟩))) (w.alloc (.cells ⟨cells⟩ t)) C
def TF (P:Program) (fl:Bool) (L:List Nat) (w0:World) (a v:Value) (d:Option Nat) (rest:XT) (ρ:Env) (w:World) (C:Env→World→Prop):Prop:=
 ∃p,a=.pointer (some p)∧bh v=true∧(w.cell? p).isSome=true∧w.frozen? p=false∧(fl=true∨SB L w0 (w.setCell p v))∧VT P L w0 rest (bo ρ d undef) (w.setCell p v) C
def Hs (P:Program) (fl:Bool) (L:List Nat) (w0:World) (n:Nat) (a v:Value) (d:Option Nat) (rest:XT) (ρ:Env) (w:World) (C:Env→World→Prop):Prop:=
 ∃p cs,a=.pointer (some p)∧v=.agg cs∧cs.size=n∧World.jm w p cs.toList 0∧(fl=true∨SB L w0 (World.setCells w p cs.toList 0))∧VT P L w0 rest (bo ρ d undef) (World.setCells w p cs.toList 0) C
def yg (P:Program) (fl:Bool) (L:List Nat) (w0:World) (f:FuncId) (args:List Value) (d:Option Nat) (rest:XT) (ρ:Env) (w:World) (C:Env→World→Prop):Prop:=
 Cs P f args w fun v w'=>(fl=true∨SB L w0 w')∧VT P L w0 rest (bo ρ d v) w' C
def Ht (P:Program) (L:List Nat) (w0:World) (v:Value) (b:Bool) (d:Option Nat) (x:XB) (rest:XT) (ρ:Env) (w:World) (C:Env→World→Prop):Prop:=
 if Nq v b then VT P L w0 (.p ⟨d,none,x⟩ rest) ρ w C else VT P L w0 rest (bo ρ d undef) w C
def Hu (P:Program) (fl:Bool) (L:List Nat) (w0:World) (v:Value) (b:Bool) (d:Option Nat) (x:XB) (rest:XT) (ρ:Env) (w:World) (C:Env→World→Prop):Prop:=
 if Nq v b then VT P L w0 (.a fl ⟨d,none,x⟩ rest) ρ w C else VT P L w0 rest (bo ρ d undef) w C
theorem D9 (s:Nat) (b:Bool) (x:XB):VT P L w0 (.p ⟨d,some (s,b),x⟩ rest) ρ w C=Ht P L w0 (ρ s) b d x rest ρ w C:=propext Iff.rfl
theorem Cw (s:Nat) (b:Bool) (x:XB):VT P L w0 (.a fl ⟨d,some (s,b),x⟩ rest) ρ w C=Hu P fl L w0 (ρ s) b d x rest ρ w C:=propext Iff.rfl
theorem Of (s t:XT):VT P L w0 (.or s t) ρ w C=(VT P L w0 s ρ w C∧VT P L w0 t ρ w C):=propext Iff.rfl
theorem KB (x:XB):Ht P L w0 (.bool true) true d x rest ρ w C=VT P L w0 (.p ⟨d,none,x⟩ rest) ρ w C:=propext Iff.rfl
theorem KC (x:XB):Hu P fl L w0 (.bool true) true d x rest ρ w C=VT P L w0 (.a fl ⟨d,none,x⟩ rest) ρ w C:=propext Iff.rfl
theorem KD (x:XB):Ht P L w0 (.bool false) false d x rest ρ w C=VT P L w0 (.p ⟨d,none,x⟩ rest) ρ w C:=propext Iff.rfl
theorem KE (x:XB):Hu P fl L w0 (.bool false) false d x rest ρ w C=VT P L w0 (.a fl ⟨d,none,x⟩ rest) ρ w C:=propext Iff.rfl
theorem KF (x:XB):Ht P L w0 (.bool true) false d x rest ρ w C=VT P L w0 rest (bo ρ d undef) w C:=propext Iff.rfl
theorem KG (x:XB):Hu P fl L w0 (.bool true) false d x rest ρ w C=VT P L w0 rest (bo ρ d undef) w C:=propext Iff.rfl
theorem KH (x:XB):Ht P L w0 (.bool false) true d x rest ρ w C=VT P L w0 rest (bo ρ d undef) w C:=propext Iff.rfl
theorem KI (x:XB):Hu P fl L w0 (.bool false) true d x rest ρ w C=VT P L w0 rest (bo ρ d undef) w C:=propext Iff.rfl
theorem SB.only {L S:List Nat} {w0 w w':World} (h:SB L w0 w) (k:ae S w w') (j: ∀b,b∈L→b<w.heap.size∧b∉S):SB L w0 w':=fun b d=>
 (k.block b (j b d).1 (j b d).2).trans (h b d)
theorem KJ:VT P L w0 .nil ρ w C=C ρ w:=propext Iff.rfl
theorem Og (x:Operand):VT P L w0 (.p ⟨d,none,.mv x⟩ rest) ρ w C=VT P L w0 rest (bo ρ d (ev ρ x)) w C:=propext ⟨fun h=>h.2,fun h=>⟨trivial,h⟩⟩
theorem Hv (c a b:Operand):VT P L w0 (.p ⟨d,none,.pick c a b⟩ rest) ρ w C=mn P L w0 (xQ (ev ρ c) (ev ρ a) (ev ρ b)) d rest ρ w C:=propext ⟨fun h=>h.2,fun h=>⟨trivial,h⟩⟩
theorem Ea (x:Operand):VT P L w0 (.p ⟨d,none,.nilck x⟩ rest) ρ w C=mn P L w0 (sO (ev ρ x)) d rest ρ w C:=propext ⟨fun h=>h.2,fun h=>⟨trivial,h⟩⟩
def KK (L:List Nat) (v:Value):Prop:=match v with|.pointer (some p)=>p.block∈L|_=>False
theorem Oh (L:List Nat) (b o:Nat):KK L (.pointer (some ⟨b,o,none⟩))=(b∈L):=Eq.trans rfl rfl
theorem Oi (x:Operand):VT P L w0 (.p ⟨d,none,.ld x⟩ rest) ρ w C=(KK L (ev ρ x)∧mn P L w0 (qZ w0 (ev ρ x)) d rest ρ w C):=propext Iff.rfl
theorem KL (n:Nat) (x:Operand):VT P L w0 (.p ⟨d,none,.ldN n x⟩ rest) ρ w C=(KK L (ev ρ x)∧mn P L w0 (fG w0 n (ev ρ x)) d rest ρ w C):=propext Iff.rfl
theorem Oj (o:Nat) (x:Operand):VT P L w0 (.p ⟨d,none,.fa o x⟩ rest) ρ w C=mn P L w0 (NY o (ev ρ x)) d rest ρ w C:=propext ⟨fun h=>h.2,fun h=>⟨trivial,h⟩⟩
theorem Ol (s:Nat) (x i:Operand):VT P L w0 (.p ⟨d,none,.ia s x i⟩ rest) ρ w C=mn P L w0 (N0 s (ev ρ x) (ev ρ i)) d rest ρ w C:=propext ⟨fun h=>h.2,fun h=>⟨trivial,h⟩⟩
theorem KM (n s:Nat) (x i:Operand):VT P L w0 (.p ⟨d,none,.iaA n s x i⟩ rest) ρ w C=mn P L w0 (DQ n s (ev ρ x) (ev ρ i)) d rest ρ w C:=propext ⟨fun h=>h.2,fun h=>⟨trivial,h⟩⟩
theorem KN (b:BinOp) (x y:Operand):VT P L w0 (.p ⟨d,none,.bin b x y⟩ rest) ρ w C=mn P L w0 (eW b (ev ρ x) (ev ρ y)) d rest ρ w C:=propext ⟨fun h=>h.2,fun h=>⟨trivial,h⟩⟩
theorem Om (x:Operand):VT P L w0 (.p ⟨d,none,.no x⟩ rest) ρ w C=mn P L w0 (N2 (ev ρ x)) d rest ρ w C:=propext ⟨fun h=>h.2,fun h=>⟨trivial,h⟩⟩
theorem Hw (k:IntKind) (x:Operand):VT P L w0 (.p ⟨d,none,.conv k x⟩ rest) ρ w C=mn P L w0 (xR k (ev ρ x)) d rest ρ w C:=propext ⟨fun h=>h.2,fun h=>⟨trivial,h⟩⟩
theorem Hx (fn:Fn) (a b:Array Operand):VT P L w0 (.p ⟨d,none,.mkfn fn a b⟩ rest) ρ w C=VT P L w0 rest (bo ρ d (.func fn (a.map (ev ρ)) (b.map (ev ρ)))) w C:=propext ⟨fun h=>h.2,fun h=>⟨trivial,h⟩⟩
theorem KO (s:Nat) (x:Operand) (b j:Option Operand):VT P L w0 (.p ⟨d,none,.slc s x b j⟩ rest) ρ w C=mn P L w0 (iD s (ev ρ x) (b.map (ev ρ)) (j.map (ev ρ))) d rest ρ w C:=propext ⟨fun h=>h.2,fun h=>⟨trivial,h⟩⟩
theorem KP (x:Operand) (i:Nat):VT P L w0 (.p ⟨d,none,.ext x i⟩ rest) ρ w C=mn P L w0 (zR (ev ρ x) i) d rest ρ w C:=propext ⟨fun h=>h.2,fun h=>⟨trivial,h⟩⟩
theorem KQ (x:Operand):VT P L w0 (.p ⟨d,none,.len x⟩ rest) ρ w C=mn P L w0 (DT (ev ρ x)) d rest ρ w C:=propext ⟨fun h=>h.2,fun h=>⟨trivial,h⟩⟩
theorem KR (t:TypeId) (x:Operand):VT P L w0 (.a fl ⟨d,none,.box t x⟩ rest) ρ w C=Hr P fl L w0 t (ev ρ x).cells.toList d rest ρ w C:=propext Iff.rfl
theorem KS (t:TypeId) (z:List Value):VT P L w0 (.a fl ⟨d,none,.alc t z⟩ rest) ρ w C=Hr P fl L w0 t z d rest ρ w C:=propext Iff.rfl
theorem On (a v:Operand):VT P L w0 (.a fl ⟨d,none,.st a v⟩ rest) ρ w C=TF P fl L w0 (ev ρ a) (ev ρ v) d rest ρ w C:=propext Iff.rfl
theorem KT (n:Nat) (a v:Operand):VT P L w0 (.a fl ⟨d,none,.stN n a v⟩ rest) ρ w C=Hs P fl L w0 n (ev ρ a) (ev ρ v) d rest ρ w C:=propext Iff.rfl
def KU (P:Program) (fl:Bool) (L:List Nat) (w0:World) (o:Option (List Value)) (e len:Nat) (d:Option Nat) (rest:XT) (ρ:Env) (w:World) (C:Env→World→Prop):Prop:=
 ∃cs,o=some cs∧(fl=true∨SB L w0 (w.alloc (.cells ⟨cs⟩ e)))∧VT P L w0 rest (bo ρ d (.slice (some ⟨w.heap.size,0,none⟩) len len)) (w.alloc (.cells ⟨cs⟩ e)) C
def KV (P:Program) (fl:Bool) (L:List Nat) (w0:World) (e bytes:Nat) (zero:List Value) (l c:Value) (d:Option Nat) (rest:XT) (ρ:Env) (w:World) (C:Env→World→Prop):Prop:=
 ∃(k k':IntKind) (n m:Nat),l=.int k n∧c=.int k' m∧n≤m∧m≤1099511627776∧m*bytes≤1099511627776∧(fl=true∨SB L w0 (w.alloc (.cells ⟨il zero m⟩ e)))∧VT P L w0 rest (bo ρ d (.slice (some ⟨w.heap.size,0,none⟩) n m)) (w.alloc (.cells ⟨il zero m⟩ e)) C
def KW (P:Program) (fl:Bool) (L:List Nat) (w0:World) (sz bytes:Nat) (s x:Value) (d:Option Nat) (rest:XT) (ρ:Env) (w:World) (C:Env→World→Prop):Prop:=
 ∃n xs fp m us,ql w sz s n xs fp∧bn w sz x m us∧(∀u,u∈us→bh u=true)∧n+m≤1099511627776∧(n+m)*bytes≤1099511627776∧
   ∀j w' b,ql w' sz j (n+m) (xs++us) b→(Sl w sz s n xs fp→Sl w' sz j (n+m) (xs++us) b)→(b=fp∨b=[w.heap.size])→ae fp w w'→wc s j n m fp b→(fl=true∨SB L w0 w')∧VT P L w0 rest (bo ρ d j) w' C
def Cx (P:Program) (fl:Bool) (L:List Nat) (w0:World) (s:Sem Value) (d:Option Nat) (rest:XT) (ρ:Env) (w:World) (C:Env→World→Prop):Prop:= ∃v w',s.run P w=.ok v w'∧(fl=true∨SB L w0 w')∧VT P L w0 rest (bo ρ d v) w' C
def Bi (P:Program) (fl:Bool) (L:List Nat) (w0:World) (s:Sem Unit) (d:Option Nat) (rest:XT) (ρ:Env) (w:World) (C:Env→World→Prop):Prop:= ∃w',s.run P w=.ok () w'∧(fl=true∨SB L w0 w')∧VT P L w0 rest (bo ρ d undef) w' C
theorem Eb (t:TypeId) (r:Option Operand):VT P L w0 (.a fl ⟨d,none,.act (.makeMap t r)⟩ rest) ρ w C=Cx P fl L w0 (Instr.makeMap t (r.map (ev ρ))) d rest ρ w C:=propext Iff.rfl
theorem Hy (t:TypeId) (m k x:Operand):VT P L w0 (.a fl ⟨d,none,.act (.mapUpdate t m k x)⟩ rest) ρ w C=Bi P fl L w0 (Instr.mapUpdate t (ev ρ m) (ev ρ k) (ev ρ x)) d rest ρ w C:=propext Iff.rfl
theorem Hz (t:TypeId) (x:Operand):VT P L w0 (.a fl ⟨d,none,.act (.call ⟨.builtin .len,#[x],#[t]⟩)⟩ rest) ρ w C=Cx P fl L w0 (Builtin.len_ #[t] 0 #[ev ρ x]) d rest ρ w C:=by
 have e:(#[x]:Array Operand).map (ev ρ)=#[ev ρ x]:=by simp
 rw[←e];exact propext Iff.rfl
theorem Oo {s:Sem Value} {v:Value} {w':World} (b:s.run P w=.ok v w') (j:fl=true∨SB L w0 w') (h:VT P L w0 rest (bo ρ d v) w' C):Cx P fl L w0 s d rest ρ w C:=⟨v,w',b,j,h⟩
theorem Oq {s:Sem Unit} {w':World} (b:s.run P w=.ok () w') (j:fl=true∨SB L w0 w') (h:VT P L w0 rest (bo ρ d undef) w' C):Bi P fl L w0 s d rest ρ w C:=⟨w',b,j,h⟩
def wq (P:Program) (fl:Bool) (L:List Nat) (w0:World) (f:Value) (args:List Value) (d:Option Nat) (rest:XT) (ρ:Env) (w:World) (C:Env→World→Prop):Prop:=
 sU P f args w fun v w'=>(fl=true∨SB L w0 w')∧VT P L w0 rest (bo ρ d v) w' C
theorem KX (z:List Value) (b:List (Nat×Nat×Operand)):VT P L w0 (.p ⟨d,none,.bld z b⟩ rest) ρ w C=mn P L w0 (sQ (dQ z (b.map (Bf ρ)))) d rest ρ w C:=propext ⟨fun h=>h.2,fun h=>⟨trivial,h⟩⟩
theorem KY (n:Bool) (k:Nat) (x y:Operand):VT P L w0 (.p ⟨d,none,.eqA n k x y⟩ rest) ρ w C=mn P L w0 (uk n k (ev ρ x) (ev ρ y)) d rest ρ w C:=propext ⟨fun h=>h.2,fun h=>⟨trivial,h⟩⟩
theorem KZ (e len:Nat) (z:List Value) (b:List (Nat×Nat×Operand)):VT P L w0 (.a fl ⟨d,none,.bsl e len z b⟩ rest) ρ w C=KU P fl L w0 (dQ z (b.map (Bf ρ))) e len d rest ρ w C:=propext Iff.rfl
theorem K2 (e b:Nat) (z:List Value) (l c:Operand):VT P L w0 (.a fl ⟨d,none,.mks e b z l c⟩ rest) ρ w C=KV P fl L w0 e b z (ev ρ l) (ev ρ c) d rest ρ w C:=propext Iff.rfl
theorem K3 (e b:Nat) (z:List Value) (s x:Operand):VT P L w0 (.a fl ⟨d,none,.app e b z s x⟩ rest) ρ w C=KW P fl L w0 z.length b (ev ρ s) (ev ρ x) d rest ρ w C:=propext Iff.rfl
theorem Ec (f:Operand) (args:List Operand):VT P L w0 (.a fl ⟨d,none,.callv f args⟩ rest) ρ w C=wq P fl L w0 (ev ρ f) (args.map (ev ρ)) d rest ρ w C:=propext Iff.rfl
theorem yh {e len:Nat} {cs:List Value} (h: ∀g w',g=w.heap.size→w'.heap.size=w.heap.size+1→At w' g cs→ae [] w w'→(fl=true∨SB L w0 w')∧VT P L w0 rest (bo ρ d (.slice (some ⟨g,0,none⟩) len len)) w' C):KU P fl L w0 (some cs) e len d rest ρ w C:=
 ⟨cs,rfl,h _ _ rfl (by simp) (At.alloc w cs e) (ae.alloc [] w _)⟩
theorem th {e bytes:Nat} {zero:List Value} {k k':IntKind} {n m:Nat} (b:n≤m) (j:m≤1099511627776) (l:m*bytes≤1099511627776)
  (h: ∀g w',g=w.heap.size→w'.heap.size=w.heap.size+1→At w' g (il zero m)→ae [] w w'→(fl=true∨SB L w0 w')∧VT P L w0 rest (bo ρ d (.slice (some ⟨g,0,none⟩) n m)) w' C):KV P fl L w0 e bytes zero (.int k n) (.int k' m) d rest ρ w C:=
 ⟨k,k',n,m,rfl,rfl,b,j,l,h _ _ rfl (by simp) (At.alloc w _ e) (ae.alloc [] w _)⟩
theorem rN {sz bytes:Nat} {s x:Value} {n m:Nat} {xs us:List Value} {fp:List Nat} (l:Sl w sz s n xs fp) (o:bn w sz x m us) (q: ∀u,u∈us→bh u=true) (r:n+m≤1099511627776) (t:(n+m)*bytes≤1099511627776)
  (h: ∀j w' b,Sl w' sz j (n+m) (xs++us) b→(b=fp∨b=[w.heap.size])→ae fp w w'→wc s j n m fp b→(fl=true∨SB L w0 w')∧VT P L w0 rest (bo ρ d j) w' C):KW P fl L w0 sz bytes s x d rest ρ w C:=
 ⟨n,xs,fp,m,us,l.N3,o,q,r,t,fun j w' b _ k=>h j w' b (k l)⟩
theorem Ed {f:Value} {args:List Value} {g:Nat} {vs:List Value} {R:Value→World→Prop} (b:me f args=some (g,vs)) (j:okF P g=true) (h:Cs P g vs w R) (k: ∀v w',R v w'→(fl=true∨SB L w0 w')∧VT P L w0 rest (bo ρ d v) w' C):wq P fl L w0 f args d rest ρ w C:=
 .inl ⟨g,vs,b,j,h.mono k⟩
theorem K4 {l:Nat} {args:List Value} {R:Value→World→Prop} (h:Ys P l args w R) (k: ∀v w',R v w'→(fl=true∨SB L w0 w')∧VT P L w0 rest (bo ρ d v) w' C):wq P fl L w0 (.func (.yield l) #[] #[]) args d rest ρ w C:=
 .inr (.inl ⟨l,rfl,h.mono k⟩)
theorem HA (f:Nat) (args:List Operand):VT P L w0 (.a fl ⟨d,none,.call f args⟩ rest) ρ w C=yg P fl L w0 f (args.map (ev ρ)) d rest ρ w C:=propext Iff.rfl
theorem nw {t:TypeId} {cells:List Value} (h: ∀g w',g=w.heap.size→w'.heap.size=w.heap.size+1→At w' g cells→ae [] w w'→(fl=true∨SB L w0 w')∧VT P L w0 rest (bo ρ d (.pointer (some ⟨g,0,none⟩))) w' C):Hr P fl L w0 t cells d rest ρ w C:=
 h _ _ rfl (by simp) (At.alloc w cells t) (ae.alloc [] w _)
theorem Ee {b i:Nat} {vs:List Value} {v:Value} (h:At w b vs) (j:i<vs.length) (l:bh v=true)
  (k: ∀w',w'.heap.size=w.heap.size→At w' b (vs.set i v)→ae [b] w w'→(fl=true∨SB L w0 w')∧VT P L w0 rest (bo ρ d undef) w' C):TF P fl L w0 (.pointer (some ⟨b,i,none⟩)) v d rest ρ w C:=
 ⟨_,rfl,l,by rw[h.cell];simp[j],h.free i,k _ (by simp) (h.set i v) (ae.setCell w ⟨b,i,none⟩ v)⟩
theorem bI {f:FuncId} {args:List Value} {R:Value→World→Prop} (h:Cs P f args w R) (k: ∀v w',R v w'→(fl=true∨SB L w0 w')∧VT P L w0 rest (bo ρ d v) w' C):yg P fl L w0 f args d rest ρ w C:=
 h.mono k
theorem ks {f:FuncId} {args:List Value} {a:Value} (h:Cs P f args w fun v w'=>v=a∧w'=w) (b:fl=true∨SB L w0 w) (k:VT P L w0 rest (bo ρ d a) w C):yg P fl L w0 f args d rest ρ w C:=
 h.mono fun v w' e=>by rw[e.1,e.2];exact⟨b,k⟩
theorem jr {f:FuncId} {args:List Value} {a:Value} {S:List Nat} (h:Cs P f args w fun v w'=>v=a∧ae S w w') (j:fl=true∨(SB L w0 w∧ ∀b,b∈L→b<w.heap.size∧b∉S)) (k: ∀w',ae S w w'→VT P L w0 rest (bo ρ d a) w' C):yg P fl L w0 f args d rest ρ w C:=
 h.mono fun v w' e=>by rw[e.1];exact⟨j.imp id fun h=>h.1.only e.2 h.2,k _ e.2⟩
end
attribute [irreducible] VT Hu mn Hr TF Hs yg Ht KU KV KW wq Cx Bi
end Go.Proofs.YthamnonkfepafaaGreat
