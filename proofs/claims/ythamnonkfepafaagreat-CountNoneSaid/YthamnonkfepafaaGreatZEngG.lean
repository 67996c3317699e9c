import Derived.Test.YthamnonkfepafaaGreatZEngF
set_option linter.unusedSimpArgs false
set_option linter.unusedVariables false
namespace Go.Proofs.YthamnonkfepafaaGreat
def SB (L:List Nat) (w w':World):Prop:= ∀b,b∈L→w'.heap[b]? =w.heap[b]?
theorem SB.refl (L:List Nat) (w:World):SB L w w:=fun _ _=>rfl
theorem jU {w w':World} {a:Addr} (h:w'.heap[a.block]? =w.heap[a.block]?):w'.cell? a=w.cell? a:=by simp[World.cell?,h]
def lD (x:XB) (ρ:Env) (L:List Nat):Prop:=match x with
 |.ld x=>match ev ρ x with|.pointer (some p)=>p.block∈L|_=>False
 |.ldN _ x=>match ev ρ x with|.pointer (some p)=>p.block∈L|_=>False
 |_=>True
theorem jV {w w':World} {p:Addr} (h:w'.heap[p.block]? =w.heap[p.block]?) (n:Nat):aI w' p n=aI w p n:=by
 unfold aI;congr 1;funext i;apply jU;have:(p.add i).block=p.block:=by unfold Addr.add;split<;>rfl
 rw[this];exact h
theorem CO {x:XB} {ρ:Env} {L:List Nat} {w w':World} (h:SB L w w') (b:lD x ρ L):val x ρ w'=val x ρ w:=by
 cases x<;>simp only[val]
 case ld x=>
  simp only[lD]at b;unfold jP;split at b
  ·rename_i p e;simp only[e];exact jU (h _ b)
  ·exact b.elim
 case ldN n x=>
  simp only[lD]at b;unfold eR;split at b
  ·rename_i p e;simp only[e];rw[jV (h _ b)]
  ·exact b.elim
section
variable {P:Program} {ops:Array Oper} {Q:Exit→Act→World→Prop} {S:World→Prop} {Z:Nat→Bool}
def fE (P:Program) (ops:Array Oper) (i:Nat) (K:Act→World→Prop) (a:Act) (w:World):Prop:=
 match ops[i]? with
 |none=>K a w
 |some o=>if Region.wanted o (yielded ops a.tmps)then yK P o a w K else K (a.put o.dst undef) w
theorem mK {i:Nat} {a:Act} {w:World} {K d:Act→World→Prop} (b: ∀a w,K a w→d a w) (h:fE P ops i K a w):fE P ops i d a w:=by
 unfold fE at*;cases j:ops[i]? with
 |none=>rw[j]at h;exact b _ _ h
 |some o=>
  rw[j]at h;simp only at h⊢;by_cases k:Region.wanted o (yielded ops a.tmps)=true
  ·rw[if_pos k]at h⊢;exact wX h b
  ·rw[if_neg k]at h⊢;exact b _ _ h
theorem jW {i:Nat} {o:Oper} {v:Value} {a:Act} {Si:World→Prop} (d:ops[i]? =some o) (j:YieldsIf P ops Si o v a) {K:Act→World→Prop} {w:World} (k:Si w) (h:K (a.put o.dst v) w):fE P ops i K a w:=by
 unfold fE;simp only[d];rcases j with⟨b,l⟩|⟨b,rfl⟩
 ·simp only[b,if_true,yK,l w k];exact h
 ·simp only[b,Bool.false_eq_true,if_false];exact h
theorem qG {j:Nat} {m o:Oper} {v:Value} {Si:World→Prop} (I:ops[j]? =some o) (t:m.apart ops o=true) (B: ∀cs b,m.op≠.select cs b) (C: ∀cs b,o.op≠.select cs b)
  {K:Act→World→Prop} {a:Act} {w:World} (J:YieldsIf P ops Si m v a) (h:fE P ops j K (a.put m.dst v) w):
  fE P ops j (fun F w'=>YieldsIf P ops Si m v F∧K (F.put m.dst v) w') a w:=by
 obtain⟨G,L,H⟩:=Oper.apart_spec t;have d: ∀u,YieldsIf P ops Si m v (a.put o.dst u):=fun u=>J.of_same (execOp_put m B a o.dst u H) (wanted_put m a o.dst u H);have k: ∀u w',K ((a.put m.dst v).put o.dst u) w'→K ((a.put o.dst u).put m.dst v) w':=fun u w' q=>by rw[←Act.put_comm a v u L];exact q
 unfold fE at*;simp only[I]at h⊢;rw[wanted_put o a m.dst v G]at h;split at h
 ·rename_i D;rw[if_pos D];unfold yK at*;rw[execOp_put o C a m.dst v G]at h;generalize (execOp a.eval o).run P w=r at*;cases r with
  |halt x w'=>exact h
  |ok n w'=>
   cases n<;>simp only at h⊢ <;>try exact h
   case value u=>exact⟨d u,k u _ h⟩
   case skip=>exact⟨d _,k _ _ h⟩
   case enter f args=>exact Calls.mono h fun e E ⟨u,M,q⟩=>⟨u,M,d u,k u _ q⟩
   case round l f x y z=>exact gM.mono h fun u E q=>⟨d u,k u _ q⟩
 ·rename_i D;rw[if_neg D];exact⟨d _,k _ _ h⟩
def jg (S:World→Prop) (Z:Nat→Bool) (b:Array Bool) (w:World):Prop:=(∀k,Z k=true→b.getD k true=false)→S w
inductive dS (ops:Array Oper):Nat→Nat→Prop
 |one {k j:Nat} {o:Oper} {e:Edge} (ho:ops[k]? =some o) (he:e∈o.after) (hb:Region.binds .any e=true) (hj:e.on=j):dS ops k j
 |more {k i j:Nat} (h1:dS ops k i) (h2:dS ops i j):dS ops k j
def Down (ops:Array Oper) (b:Array Bool):Prop:= ∀k o,ops[k]? =some o→b.getD k true=true→ ∀e,e∈o.after→Region.binds .any e=true→b.getD e.on false=true
def ky (ops:Array Oper) (rd Z:Nat→Bool) (b:Array Bool):Prop:=Down ops b∧ ∀k,Z k=true→b.getD k true=true→ ∀j,rd j=true→b.getD j true=true
def dE (P:Program) (ops:Array Oper) (Q:Exit→Act→World→Prop) (S:World→Prop) (Z:Nat→Bool):Nat→Array Bool→Act→World→Prop
 |0,b,a,w=>Region.ready .any ops b=[]∧Q .normal a w
 |n+1,b,a,w=>(Region.ready .any ops b=[]→Q .normal a w)∧
   ∀i,i∈Region.ready .any ops b→fE P ops i (fun d w'=>jg S Z (b.setIfInBounds i true) w'∧dE P ops Q S Z n (b.setIfInBounds i true) d w') a w
theorem gw {ro:Option Nat} {m:Nat} (q: ∀(i:Nat) (o:Oper),ops[i]? =some o→ee o=true): ∀(n:Nat) (b:Array Bool) (a:Act) (w:World),dE P ops Q S Z n b a w→wpAnyIn (FR ro) m P .any ops Q n b a w
 |0,_,_,_,h=>h
 |n+1,b,a,w,h=>⟨h.1,fun i r=>by
   have d:=mK (fun t w' k=>gw (ro:=ro) (m:=m) q n _ t w' k.2) (h.2 i r)
   unfold fE at d
   unfold wpOpIn
   cases j:ops[i]? with
   |none=>rw[j]at d;exact d
   |some o=>
    simp only[j]at d⊢
    split at d
    ·rename_i l;rw[if_pos l];exact qB (q i o j) d
    ·rename_i l;rw[if_neg l];exact⟨fun _ _=>trivial,d⟩⟩
theorem iz {b:Array Bool} {i j:Nat} (h:b.getD j true=true):(b.setIfInBounds i true).getD j true=true:=by
 by_cases e:i=j
 ·subst e;by_cases d:i<b.size
  ·simp[d]
  ·simp[Array.getElem?_eq_none (Nat.not_lt.1 d)]
 ·rw[getD_set_ne true e];exact h
theorem ox {b:Array Bool} {i j:Nat} (h:(b.setIfInBounds i true).getD j true=false):b.getD j true=false:=by
 cases e:b.getD j true with
 |false=>rfl
 |true=>rw[iz e]at h;cases h
theorem oy {b:Array Bool} {i j:Nat} (d:j≠i) (h:(b.setIfInBounds i true).getD j true=true):b.getD j true=true:=by
 rw[getD_set_ne true (Ne.symm d)]at h;exact h
theorem jg.set {b:Array Bool} {i:Nat} {w:World} (h:jg S Z b w):jg S Z (b.setIfInBounds i true) w:=fun d=>h fun k j=>ox (d k j)
theorem jg.FC {b:Array Bool} {i:Nat} {w:World} (j:Z i=false) (h:jg S Z (b.setIfInBounds i true) w):jg S Z b w:=fun l=>h fun k d=>by
 have:k≠i:=fun e=>by rw[e,j]at d;cases d
 rw[getD_set_ne true (Ne.symm this)];exact l k d
def mL (ops:Array Oper) (rd Z:Nat→Bool):Prop:= ∀k,Z k=true→(∃o,ops[k]? =some o)∧ ∀j,rd j=true→dS ops k j
theorem pF {d:Array Bool} {j:Nat} (h:d.getD j false=true):d.getD j true=true:=by
 cases k:d[j]? with
 |none=>simp[k]
 |some b=>simp[k]at h⊢;exact h
theorem qH {b:Array Bool} {i j:Nat} (h:b.getD j false=true):(b.setIfInBounds i true).getD j false=true:=by
 by_cases e:i=j
 ·subst e;by_cases d:i<b.size
  ·simp[d]
  ·simp[Array.getElem?_eq_none (Nat.not_lt.1 d)]at h
 ·rw[getD_set_ne false e];exact h
theorem Down.before {b:Array Bool} (o:Down ops b) {k j:Nat} (h:dS ops k j):b.getD k true=true→b.getD j false=true:=by
 induction h with
 |one q r t u=>intro d;subst u;exact o _ _ q d _ r t
 |more _ _ l m=>intro d;exact m (pF (l d))
theorem Down.ready {b:Array Bool} (r:Down ops b) {k j:Nat} (h:dS ops k j):k∈Region.ready .any ops b→b.getD j false=true:=by
 induction h with
 |one t u w y=>
  intro m;subst y;obtain⟨_,o,d,l⟩:=mem_ready.1 m;rw[t]at d;cases d;exact l _ u w
 |more _ z q _=>intro m;exact r.before z (pF (q m))
theorem ky.set {rd:Nat→Bool} (B:mL ops rd Z) {b:Array Bool} {j:Nat} (h:ky ops rd Z b) (q:j∈Region.ready .any ops b):ky ops rd Z (b.setIfInBounds j true):=by
 refine⟨fun k o r m e t u=>?_,fun k w m i y=>?_⟩
 ·refine qH ?_;by_cases z:k=j
  ·subst z;obtain⟨_,C,d,l⟩:=mem_ready.1 q;rw[r]at d;cases d;exact l e t u
  ·exact h.1 k o r (oy z m) e t u
 ·by_cases e:k=j
  ·subst e;exact iz (pF (h.1.ready ((B k w).2 i y) q))
  ·exact iz (h.2 k w (oy e m) i y)
theorem nJ {rd:Nat→Bool} (U:mL ops rd Z) {i:Nat} {F:Oper} {v:Value} {Si:World→Prop} (V:ops[i]? =some F) (W:Z i=false) (z:Region.noSelect ops=true)
  (X:(rd i=true∧Si=S)∨Si=fun _=>True):
  ∀(n:Nat) (d:Array Bool) (a:Act) (w:World),ky ops rd Z d→jg S Z d w→
   (∀j B,ops[j]? =some B→j≠i→d.getD j true=false→(∀e∈B.after,Region.binds .any e=true→e.on≠i)→F.apart ops B=true)→
   i∈Region.ready .any ops d→YieldsIf P ops Si F v a→dE P ops Q S Z n (d.setIfInBounds i true) (a.put F.dst v) w→dE P ops Q S Z (n+1) d a w:=by
 have o: ∀(d:Array Bool) (w:World),ky ops rd Z d→jg S Z d w→d.getD i true=false→Si w:=by
  intro d w G C m;rcases X with⟨q,rfl⟩|rfl
  ·refine C fun k Y=>?_;cases e:d.getD k true with
   |false=>rfl
   |true=>rw[G.2 k Y e i q]at m;cases m
  ·trivial
 intro n
 induction n with
 |zero=>
  intro d a w G C _ q T H;refine⟨fun h=>(by rw[h]at q;cases q),fun j J=>?_⟩;by_cases l:j=i
  ·subst l;exact jW V T (o d w G C (mem_ready.1 q).1) ⟨C.set,H⟩
  ·have:=ready_mono J l;rw[H.1]at this;cases this
 |succ n ih=>
  intro d a w G C r q T H;refine⟨fun h=>(by rw[h]at q;cases q),fun j J=>?_⟩;by_cases l:j=i
  ·subst l;exact jW V T (o d w G C (mem_ready.1 q).1) ⟨C.set,H⟩
  ·have h1:=H.2 j (ready_mono J l);obtain⟨K,B,D,L⟩:=mem_ready.1 J;have m:=(mem_ready.1 q).1;have M: ∀e∈B.after,Region.binds .any e=true→e.on≠i:=fun e he hb heq=>by
    have I:=L e he hb;rw[heq]at I;cases hs:d[i]? with
    |none=>simp[hs]at I
    |some b=>simp[hs]at I m;rw[I]at m;cases m
   have I:=qG D (r j B D l K M) (fun cs b=>Region.noSelect_spec z i F cs b V) (fun cs b=>Region.noSelect_spec z j B cs b D) T h1;have y: ∀k N,ops[k]? =some N→k≠i→(d.setIfInBounds j true).getD k true=false→(∀e∈N.after,Region.binds .any e=true→e.on≠i)→F.apart ops N=true:=by
    intro k N Y L3 O L4;exact r k N Y L3 (ox O) L4
   refine mK (fun a' w' h3=>?_) I;obtain⟨L5,R,t⟩:=h3;have E:(d.setIfInBounds i true).setIfInBounds j true=(d.setIfInBounds j true).setIfInBounds i true:=Array.setIfInBounds_comm _ _ (Ne.symm l);rw[E]at R t;have u:jg S Z (d.setIfInBounds j true) w':=R.FC W;exact⟨u,ih (d.setIfInBounds j true) a' w' (G.set U J) u y (ready_mono q (Ne.symm l)) L5 t⟩
end
inductive XT where
 |nil
 |p (o:XO) (t:XT)
 |a (fl:Bool) (o:XO) (t:XT)
 |or (s t:XT)
 deriving Inhabited
def VT (P:Program) (L:List Nat) (w0:World):XT→Env→World→(Env→World→Prop)→Prop
 |.nil,ρ,w,C=>C ρ w
 |.p o t,ρ,w,C=>
  if uD o.guard ρ then lD o.body ρ L∧(match val o.body ρ w0 with|some v=>VT P L w0 t (aV ρ o.dst v) w C|none=>False)
  else VT P L w0 t (aV ρ o.dst undef) w C
 |.a fl o t,ρ,w,C=>
  if uD o.guard ρ then iw P o.body ρ w (fun v w'=>(fl=true∨SB L w0 w')∧VT P L w0 t (aV ρ o.dst v) w' C)
  else VT P L w0 t (aV ρ o.dst undef) w C
 |.or s t,ρ,w,C=>VT P L w0 s ρ w C∧VT P L w0 t ρ w C
def uG (P:Program) (n:Nat) (b:Array Oper) (i:Nat):Bool:=match (b[i]?).bind (nQ P n b)with
 |some x=>x.body.ie &&x.body.reads
 |none=>false
def mM (P:Program) (n:Nat) (b:Array Oper) (i:Nat):Bool:=match (b[i]?).bind (nQ P n b)with
 |some x=>x.body.ie
 |none=>false
def lE (b:Array Oper) (i:Nat):List Nat:=match b[i]? with
 |some o=>(o.after.toList.filter fun e=>Region.binds .any e).map (·.on)
 |none=>[]
def Ib (b : Array Oper) : Nat → List Nat → List Nat → List Nat
  | 0, _, seen => seen
  | _ + 1, [], seen => seen
  | f + 1, i :: d, seen => let k := (lE b i).filter fun j => !seen.contains j
                           Ib b f (k ++ d) (k ++ seen)
def qI (P:Program) (n:Nat) (b:Array Oper) (z:Nat):Bool:=!mM P n b z&&(b[z]?).isSome&&(let a:=Ib b (b.size+b.size) [z] []
 (List.range b.size).all fun j=>!uG P n b j||a.contains j)
inductive IT where
 |nil
 |p (i:Nat) (t:IT)
 |a (i:Nat) (t:IT)
 |or (s t:IT)
 deriving Inhabited
def IT.iA:IT→List Nat
 |.a i _=>[i]
 |.or s t=>s.iA++t.iA
 |_=>[]
def IT.depth:IT→Nat
 |.nil=>0
 |.p _ t|.a _ t=>t.depth+1
 |.or s t=>max s.depth t.depth
def k9 (P:Program) (n:Nat) (b:Array Oper):IT→Option XT
 |.nil=>some .nil
 |.p i t=>match (b[i]?).bind (nQ P n b),k9 P n b t with|some x,some y=>some (.p x y)|_,_=>none
 |.a i t=>match (b[i]?).bind (nQ P n b),k9 P n b t with|some x,some y=>some (.a (qI P n b i) x y)|_,_=>none
 |.or s t=>match k9 P n b s,k9 P n b t with|some x,some y=>some (.or x y)|_,_=>none
def rS (P:Program) (n:Nat) (d:Array Oper):Bool→IT→Array Bool→Bool
 |h,.nil,b=>!h&&(Region.ready .any d b).isEmpty
 |h,.p i t,b=>!h&&mM P n d i&&(Region.ready .any d b).contains i&&Region.free .any d b i&&rS P n d false t (b.setIfInBounds i true)
 |h,.a i t,b=>(Region.ready .any d b).contains i&&rS P n d false t (b.setIfInBounds i true)&&(h||(Region.ready .any d b).all (· ==i))
 |h,.or s t,b=>rS P n d true s b&&rS P n d true t b&&!(Region.ready .any d b).isEmpty&&(h||(Region.ready .any d b).all fun i=>(s.iA++t.iA).contains i)
section
variable {P:Program} {n:Nat} {ds:List Deferred} {ops:Array Oper}
theorem pG {i j:Nat} (h:j∈lE ops i):dS ops i j:=by
 unfold lE at h;split at h
 ·rename_i o b;simp only[List.mem_map,List.mem_filter]at h;obtain⟨e,⟨d,k⟩,l⟩:=h;exact .one b (by simpa using d) k l
 ·cases h
theorem qJ {z:Nat}: ∀(f:Nat) (d seen:List Nat),(∀i,i∈d→i=z∨dS ops z i)→(∀i,i∈seen→dS ops z i)→ ∀j,j∈Ib ops f d seen→dS ops z j
 |0,_,_,_,l,j,m=>l j m
 |_+1,[],_,_,l,j,m=>l j m
 |f+1,i::d,seen,o,l,j,m=>by
  have q: ∀k,k∈(lE ops i).filter (fun j=>!seen.contains j)→dS ops z k:=fun k b=>by
   have r:=pG (List.mem_filter.1 b).1
   rcases o i (by simp)with rfl|t
   ·exact r
   ·exact .more t r
  refine qJ f _ _ (fun k b=>?_) (fun k b=>?_) j m
  ·rcases List.mem_append.1 b with b|b
   ·exact .inr (q k b)
   ·exact o k (by simp[b])
  ·rcases List.mem_append.1 b with b|b
   ·exact q k b
   ·exact l k b
theorem iU:mL ops (uG P n ops) (qI P n ops):=by
 intro k b;unfold qI at b;simp only[Bool.and_eq_true,List.all_eq_true,List.mem_range]at b;obtain⟨⟨_,o⟩,h⟩:=b;refine⟨Option.isSome_iff_exists.1 o,fun j m=>?_⟩;have d:j<ops.size:=by
  rcases Nat.lt_or_ge j ops.size with l|l
  ·exact l
  ·simp[uG,Array.getElem?_eq_none l]at m
 have:=h j d;simp only[m,Bool.not_true,Bool.false_or,List.contains_iff_mem]at this;exact qJ _ _ _ (fun i q=>.inl (by simpa using q)) (by simp) j this
theorem xd {i:Nat} (h:mM P n ops i=true):qI P n ops i=false:=by unfold qI;rw[h];simp
theorem sq {x:XB} {ρ:Env} (h:x.reads=false) (w w':World):val x ρ w=val x ρ w':=by
 cases x<;>first|rfl|cases h
def Shows (P:Program) (ops:Array Oper) (Q:Exit→Act→World→Prop) (S:World→Prop) (Z:Nat→Bool) (h:Bool) (d:List Nat) (m:Nat) (b:Array Bool) (a:Act) (w:World):Prop:=
 if h then∀i,i∈d→i∈Region.ready .any ops b→ ∀k,m=k+1→fE P ops i (fun j w'=>jg S Z (b.setIfInBounds i true) w'∧dE P ops Q S Z k (b.setIfInBounds i true) j w') a w
 else dE P ops Q S Z m b a w
theorem uH {Q:Exit→Act→World→Prop} {S:World→Prop} {Z:Nat→Bool} {b:Array Bool} {a:Act} {w:World} (h:Region.ready .any ops b=[]) (d:Q .normal a w): ∀m,dE P ops Q S Z m b a w
 |0=>⟨h,d⟩
 |m+1=>⟨fun _=>d,fun i j=>by rw[h]at j;cases j⟩
theorem iB {L:List Nat} {w0:World} {C:Env→World→Prop} (z:Region.noSelect ops=true): ∀(it:IT) (Y:XT) (h:Bool) (m:Nat) (b:Array Bool),k9 P n ops it=some Y→rS P n ops h it b=true→it.depth≤m→
  ∀(ρ:Env) (w:World) (a:Act),ky ops (uG P n ops) (qI P n ops) b→jg (SB L w0) (qI P n ops) b w→je n ds ρ a→VT P L w0 Y ρ w C→
   Shows P ops (QC n ds C) (SB L w0) (qI P n ops) h it.iA m b a w
 |.nil,Y,h,m,b,B,D,S,ρ,w,a,T,N,F,q=>by
  simp only[k9,Option.some.injEq]at B
  subst B
  simp only[rS,Bool.and_eq_true,Bool.not_eq_true',List.isEmpty_iff]at D
  obtain⟨rfl,D⟩:=D
  exact uH D ⟨rfl,ρ,F,q⟩ m
 |.p i t,Y,h,m,b,B,D,S,ρ,w,a,T,N,F,q=>by
  simp only[k9]at B
  split at B
  ·rename_i x y E H
   cases B
   simp only[rS,Bool.and_eq_true,Bool.not_eq_true']at D
   obtain⟨⟨⟨⟨rfl,hp⟩,Z⟩,hf⟩,D⟩:=D
   have G:i∈Region.ready .any ops b:=by simpa using Z
   obtain⟨o,O,V⟩:=Option.bind_eq_some_iff.1 E
   obtain⟨h1,h2,h3,h4⟩:=ix V
   have hw:=gv h2 F
   have W:x.body.ie =true:=by simpa[mM,E]using hp
   obtain⟨m,rfl⟩: ∃k,m=k+1:=⟨m-1,by simp only[IT.depth]at S;omega⟩
   have ih:=fun ρ v X I=>iB (L:=L) (w0:=w0) (C:=C) z t y false m (b.setIfInBounds i true) H D (by simp only[IT.depth]at S;omega) ρ w (a.put o.dst v) (T.set iU G) N.set X I
   have L6:=xd hp
   simp only[VT]at q
   have go: ∀(v:Value) (Si:World→Prop),((uG P n ops i=true∧Si=SB L w0)∨Si=fun _=>True)→YieldsIf P ops Si o v a→VT P L w0 y (aV ρ x.dst v) w C→dE P ops (QC n ds C) (SB L w0) (qI P n ops) (m+1) b a w:=by
    intro v Si L7 hy I;refine nJ (v:=v) (Si:=Si) iU O L6 z L7 _ b a w T N (Region.free_spec O hf) G hy ?_;exact ih _ v (by rw[h3];exact dp F h4 v) I
   obtain⟨dd,op,ty,pos,af,g⟩:=o;split at q
   ·rename_i U;obtain⟨Q,q⟩:=q;split at q
    ·rename_i v J;cases K:x.body.reads with
     |true=>
      refine go v (SB L w0) (.inl ⟨by simp[uG,E,W,K],rfl⟩) (.inl ⟨by rw[hw];exact U,fun w' L8=>?_⟩) q;rw[F.mr];exact gq h1 W ((CO L8 Q).trans J) dd ty pos af g
     |false=>
      refine go v (fun _=>True) (.inr rfl) (.inl ⟨by rw[hw];exact U,fun w' _=>?_⟩) q;rw[F.mr];exact gq h1 W ((sq K w' w0).trans J) dd ty pos af g
    ·exact q.elim
   ·rename_i U;exact go undef (fun _=>True) (.inr rfl) (.inr ⟨by rw[hw];simpa using U,rfl⟩) q
  ·cases B
 |.a i t,Y,h,m,b,B,D,S,ρ,w,a,T,N,F,q=>by
  simp only[k9]at B;split at B
  ·rename_i x y E H;cases B;simp only[rS,Bool.and_eq_true,Bool.not_eq_true']at D;obtain⟨⟨Z,D⟩,r⟩:=D;have G:i∈Region.ready .any ops b:=by simpa using Z
   obtain⟨o,O,V⟩:=Option.bind_eq_some_iff.1 E;obtain⟨h1,h2,h3,h4⟩:=ix V;have hw:=gv h2 F;obtain⟨m,rfl⟩: ∃k,m=k+1:=⟨m-1,by simp only[IT.depth]at S;omega⟩;have ih:=fun ρ w' v (L9:jg (SB L w0) (qI P n ops) (b.setIfInBounds i true) w') X I=>iB (L:=L) (w0:=w0) (C:=C) z t y false m (b.setIfInBounds i true) H D (by simp only[IT.depth]at S;omega) ρ w' (a.put o.dst v) (T.set iU G) L9 X I;simp only[VT]at q;have key:fE P ops i (fun a' w'=>jg (SB L w0) (qI P n ops) (b.setIfInBounds i true) w'∧dE P ops (QC n ds C) (SB L w0) (qI P n ops) m (b.setIfInBounds i true) a' w') a w:=by
    unfold fE;simp only[O];rw[hw];split at q
    ·rename_i U;rw[if_pos U];refine mH h1 F q fun v w' J=>?_;have M:jg (SB L w0) (qI P n ops) (b.setIfInBounds i true) w':=by
      intro hz;rcases J.1 with he|JJ
      ·have:=hz i he;have hl:(b.setIfInBounds i true).getD i true=true:=by
        by_cases hl:i<b.size
        ·simp[hl]
        ·simp[hl]
       rw[hl]at this;cases this
      ·exact JJ
     exact⟨M,ih _ w' v M (by rw[h3];exact dp F h4 v) J.2⟩
    ·rename_i U;rw[if_neg U];exact⟨N.set,ih _ w undef N.set (by rw[h3];exact dp F h4 undef) q⟩
   cases h with
   |true=>
    intro j d _ k hk;simp only[IT.iA,List.mem_singleton]at d;subst d;cases hk;exact key
   |false=>
    simp only[Bool.false_or,List.all_eq_true,beq_iff_eq]at r;refine⟨fun e=>(by rw[e]at G;cases G),fun j d=>?_⟩;have:=r j d;subst this;exact key
  ·cases B
 |.or s t,Y,h,m,b,B,D,S,ρ,w,a,T,N,F,q=>by
  simp only[k9]at B;split at B
  ·rename_i x y E H;cases B;simp only[rS,Bool.and_eq_true,Bool.not_eq_true']at D;obtain⟨⟨⟨oe,vn⟩,R⟩,r⟩:=D;simp only[VT]at q;simp only[IT.depth]at S;have k1:=iB (L:=L) (w0:=w0) (C:=C) z s x true m b E oe (by omega) ρ w a T N F q.1;have k2:=iB (L:=L) (w0:=w0) (C:=C) z t y true m b H vn (by omega) ρ w a T N F q.2;have key: ∀j,j∈s.iA++t.iA→j∈Region.ready .any ops b→ ∀k,m=k+1→fE P ops j (fun a' w'=>jg (SB L w0) (qI P n ops) (b.setIfInBounds j true) w'∧dE P ops (QC n ds C) (SB L w0) (qI P n ops) k (b.setIfInBounds j true) a' w') a w:=by
    intro j d Z k hk;rcases List.mem_append.1 d with d|d
    ·exact k1 j d Z k hk
    ·exact k2 j d Z k hk
   cases h with
   |true=>exact key
   |false=>
    simp only[Bool.false_or,List.all_eq_true,List.contains_iff_mem]at r
    have Gr: ∃k,m=k+1:=by
     refine⟨m-1,?_⟩;have h0:0<max s.depth t.depth:=by
      have: ∀(u:IT),u.iA≠ []→0<u.depth:=by
       intro u
       induction u with
       |nil=>intro h;exact absurd rfl h
       |p _ _=>intro h;exact absurd rfl h
       |a _ _=>intro _;simp only[IT.depth];omega
       |or u v L' Ma=>
        intro h;simp only[IT.depth];by_cases e:u.iA=[]
        ·have:=Ma (fun e'=>h (by simp[IT.iA,e,e']));omega
        ·have:=L' e;omega
      cases Q:Region.ready .any ops b with
      |nil=>rw[Q]at R;cases R
      |cons j l=>
       have d:=r j (by rw[Q];simp);rcases List.mem_append.1 d with d|d
       ·have:=this s (fun e=>by rw[e]at d;cases d);omega
       ·have:=this t (fun e=>by rw[e]at d;cases d);omega
     omega
    obtain⟨k,rfl⟩:=Gr;exact⟨fun e=>(by rw[e]at R;cases R),fun j d=>key j (r j d) d k rfl⟩
  ·cases B
theorem sr {ro:Option Nat} {id m:Nat} {L:List Nat} {C:Env→World→Prop} {it:IT} {q:XT} (u:P.follows .mixedOrders=true) (b:Region.noSelect ops=true) (t:ops.all ee=true) (d:it.depth≤ops.size)
  (h:k9 P n ops it=some q) (r:rS P n ops false it (Array.replicate ops.size false)=true)
  {ρ:Env} {w:World} {a:Act} (y:je n ds ρ a) (z:VT P L w.drew q ρ w.drew C):(Code.region id ops true).wpIn (FR ro) m P (QC n ds C) a w:=by
 have B: ∀k,qI P n ops k=true→(Array.replicate ops.size false).getD k true=false:=fun k j=>by
  obtain⟨o,r⟩:=(iU k j).1;have:=(Array.getElem?_eq_some_iff.1 r).1;simp[this]
 refine wpIn_region_any u (gw (S:=SB L w.drew) (Z:=qI P n ops) (fun i o D=>?_) _ _ _ _ ?_)
 ·rw[Array.all_eq_true]at t;obtain⟨E,F⟩:=Array.getElem?_eq_some_iff.1 D;rw[←F];exact t i E
 ·exact iB (L:=L) (w0:=w.drew) (C:=C) b it q false ops.size _ h r d ρ w.drew a ⟨fun k o j l=>(by simp[(Array.getElem?_eq_some_iff.1 j).1]at l),fun k j l=>by rw[B k j]at l;cases l⟩ (fun _=>SB.refl _ _) y z
end
section
variable {P:Program} {L:List Nat} {w0:World} {rest:XT} {fl:Bool} {ρ:Env} {w:World} {C:Env→World→Prop} {d:Option Nat}
def jw (P:Program) (L:List Nat) (w0:World) (o:Option Value) (d:Option Nat) (rest:XT) (ρ:Env) (w:World) (C:Env→World→Prop):Prop:=match o with
 |some v=>VT P L w0 rest (aV ρ d v) w C
 |none=>False
theorem uJ (v:Value):jw P L w0 (some v) d rest ρ w C=VT P L w0 rest (aV ρ d v) w C:=propext Iff.rfl
def CP (P:Program) (fl:Bool) (L:List Nat) (w0:World) (t:TypeId) (cells:List Value) (d:Option Nat) (rest:XT) (ρ:Env) (w:World) (C:Env→World→Prop):Prop:=
 (fl=true∨SB L w0 (w.alloc (.cells ⟨cells⟩ t)))∧VT P L w0 rest (aV ρ d (.pointer (some ⟨w.heap.size,0,none⟩))) (w.alloc (.cells ⟨cells⟩ t)) C
def Ic (P:Program) (fl:Bool) (L:List Nat) (w0:World) (a v:Value) (d:Option Nat) (rest:XT) (ρ:Env) (w:World) (C:Env→World→Prop):Prop:=
 ∃p,a=.pointer (some p)∧bu v=true∧(w.cell? p).isSome=true∧w.frozen? p=false∧(fl=true∨SB L w0 (w.setCell p v))∧VT P L w0 rest (aV ρ d undef) (w.setCell p v) C
def qK (P:Program) (fl:Bool) (L:List Nat) (w0:World) (f:FuncId) (args:List Value) (d:Option Nat) (rest:XT) (ρ:Env) (w:World) (C:Env→World→Prop):Prop:=
 Cs P f args w fun v w'=>(fl=true∨SB L w0 w')∧VT P L w0 rest (aV ρ d v) w' C
def GH (P:Program) (L:List Nat) (w0:World) (v:Value) (b:Bool) (d:Option Nat) (x:XB) (rest:XT) (ρ:Env) (w:World) (C:Env→World→Prop):Prop:=
 if DR v b then VT P L w0 (.p ⟨d,none,x⟩ rest) ρ w C else VT P L w0 rest (aV ρ d undef) w C
def GI (P:Program) (fl:Bool) (L:List Nat) (w0:World) (v:Value) (b:Bool) (d:Option Nat) (x:XB) (rest:XT) (ρ:Env) (w:World) (C:Env→World→Prop):Prop:=
 if DR v b then VT P L w0 (.a fl ⟨d,none,x⟩ rest) ρ w C else VT P L w0 rest (aV ρ d undef) w C
theorem xe (s:Nat) (b:Bool) (x:XB):VT P L w0 (.p ⟨d,some (s,b),x⟩ rest) ρ w C=GH P L w0 (ρ s) b d x rest ρ w C:=propext Iff.rfl
theorem uK (s:Nat) (b:Bool) (x:XB):VT P L w0 (.a fl ⟨d,some (s,b),x⟩ rest) ρ w C=GI P fl L w0 (ρ s) b d x rest ρ w C:=propext Iff.rfl
theorem FD (s t:XT):VT P L w0 (.or s t) ρ w C=(VT P L w0 s ρ w C∧VT P L w0 t ρ w C):=propext Iff.rfl
theorem CQ (x:XB):GH P L w0 (.bool true) true d x rest ρ w C=VT P L w0 (.p ⟨d,none,x⟩ rest) ρ w C:=propext Iff.rfl
theorem CR (x:XB):GI P fl L w0 (.bool true) true d x rest ρ w C=VT P L w0 (.a fl ⟨d,none,x⟩ rest) ρ w C:=propext Iff.rfl
theorem CS (x:XB):GH P L w0 (.bool false) true d x rest ρ w C=VT P L w0 rest (aV ρ d undef) w C:=propext Iff.rfl
theorem CU (x:XB):GI P fl L w0 (.bool false) true d x rest ρ w C=VT P L w0 rest (aV ρ d undef) w C:=propext Iff.rfl
theorem SB.only {L S:List Nat} {w0 w w':World} (h:SB L w0 w) (k:ad S w w') (j: ∀b,b∈L→b<w.heap.size∧b∉S):SB L w0 w':=fun b d=>
 (k.block b (j b d).1 (j b d).2).trans (h b d)
theorem CV:VT P L w0 .nil ρ w C=C ρ w:=propext Iff.rfl
theorem FE (x:Operand):VT P L w0 (.p ⟨d,none,.mv x⟩ rest) ρ w C=VT P L w0 rest (aV ρ d (ev ρ x)) w C:=propext ⟨fun h=>h.2,fun h=>⟨trivial,h⟩⟩
theorem Ab (c a b:Operand):VT P L w0 (.p ⟨d,none,.pick c a b⟩ rest) ρ w C=jw P L w0 (qx (ev ρ c) (ev ρ a) (ev ρ b)) d rest ρ w C:=propext ⟨fun h=>h.2,fun h=>⟨trivial,h⟩⟩
theorem xf (x:Operand):VT P L w0 (.p ⟨d,none,.nilck x⟩ rest) ρ w C=jw P L w0 (kr (ev ρ x)) d rest ρ w C:=propext ⟨fun h=>h.2,fun h=>⟨trivial,h⟩⟩
def Ew (L:List Nat) (v:Value):Prop:=match v with|.pointer (some p)=>p.block∈L|_=>False
theorem FF (L:List Nat) (b o:Nat):Ew L (.pointer (some ⟨b,o,none⟩))=(b∈L):=Eq.trans rfl rfl
theorem FG (x:Operand):VT P L w0 (.p ⟨d,none,.ld x⟩ rest) ρ w C=(Ew L (ev ρ x)∧jw P L w0 (jP w0 (ev ρ x)) d rest ρ w C):=propext Iff.rfl
theorem CW (n:Nat) (x:Operand):VT P L w0 (.p ⟨d,none,.ldN n x⟩ rest) ρ w C=(Ew L (ev ρ x)∧jw P L w0 (eR w0 n (ev ρ x)) d rest ρ w C):=propext Iff.rfl
theorem Mb {x:Operand} {p:Addr} {v:Value} (b:ev ρ x=.pointer (some p)) (j:w.cell? p=some v) (k:fl=true∨SB L w0 w) (h:VT P L w0 rest (aV ρ d v) w C):VT P L w0 (.a fl ⟨d,none,.ld x⟩ rest) ρ w C:=by
 have:val (.ld x) ρ w=some v:=by show jP w (ev ρ x)=some v;rw[b];exact j
 unfold VT;refine(if_pos (show uD (none:Option (Nat×Bool)) ρ=true from rfl)).mpr ?_;unfold iw;refine(if_pos (show(XB.ld x).ie =true from rfl)).mpr ?_;simp only[this];exact⟨k,h⟩
theorem FH (o:Nat) (x:Operand):VT P L w0 (.p ⟨d,none,.fa o x⟩ rest) ρ w C=jw P L w0 (Fk o (ev ρ x)) d rest ρ w C:=propext ⟨fun h=>h.2,fun h=>⟨trivial,h⟩⟩
theorem FI (s:Nat) (x i:Operand):VT P L w0 (.p ⟨d,none,.ia s x i⟩ rest) ρ w C=jw P L w0 (Fo s (ev ρ x) (ev ρ i)) d rest ρ w C:=propext ⟨fun h=>h.2,fun h=>⟨trivial,h⟩⟩
theorem CX (b:BinOp) (x y:Operand):VT P L w0 (.p ⟨d,none,.bin b x y⟩ rest) ρ w C=jw P L w0 (cI b (ev ρ x) (ev ρ y)) d rest ρ w C:=propext ⟨fun h=>h.2,fun h=>⟨trivial,h⟩⟩
theorem FJ (x:Operand):VT P L w0 (.p ⟨d,none,.no x⟩ rest) ρ w C=jw P L w0 (Fs (ev ρ x)) d rest ρ w C:=propext ⟨fun h=>h.2,fun h=>⟨trivial,h⟩⟩
theorem Ac (k:IntKind) (x:Operand):VT P L w0 (.p ⟨d,none,.conv k x⟩ rest) ρ w C=jw P L w0 (tn k (ev ρ x)) d rest ρ w C:=propext ⟨fun h=>h.2,fun h=>⟨trivial,h⟩⟩
theorem Ad (fn:Fn) (a b:Array Operand):VT P L w0 (.p ⟨d,none,.mkfn fn a b⟩ rest) ρ w C=VT P L w0 rest (aV ρ d (.func fn (a.map (ev ρ)) (b.map (ev ρ)))) w C:=propext ⟨fun h=>h.2,fun h=>⟨trivial,h⟩⟩
theorem CY (s:Nat) (x:Operand) (b j:Option Operand):VT P L w0 (.p ⟨d,none,.slc s x b j⟩ rest) ρ w C=jw P L w0 (nI s (ev ρ x) (b.map (ev ρ)) (j.map (ev ρ))) d rest ρ w C:=propext ⟨fun h=>h.2,fun h=>⟨trivial,h⟩⟩
theorem CZ (x:Operand) (i:Nat):VT P L w0 (.p ⟨d,none,.ext x i⟩ rest) ρ w C=jw P L w0 (uq (ev ρ x) i) d rest ρ w C:=propext ⟨fun h=>h.2,fun h=>⟨trivial,h⟩⟩
theorem C0 (x:Operand):VT P L w0 (.p ⟨d,none,.len x⟩ rest) ρ w C=jw P L w0 (wS (ev ρ x)) d rest ρ w C:=propext ⟨fun h=>h.2,fun h=>⟨trivial,h⟩⟩
theorem C1 (t:TypeId) (x:Operand):VT P L w0 (.a fl ⟨d,none,.box t x⟩ rest) ρ w C=CP P fl L w0 t (ev ρ x).cells.toList d rest ρ w C:=propext Iff.rfl
theorem FK (a v:Operand):VT P L w0 (.a fl ⟨d,none,.st a v⟩ rest) ρ w C=Ic P fl L w0 (ev ρ a) (ev ρ v) d rest ρ w C:=propext Iff.rfl
def C2 (P:Program) (fl:Bool) (L:List Nat) (w0:World) (o:Option (List Value)) (e len:Nat) (d:Option Nat) (rest:XT) (ρ:Env) (w:World) (C:Env→World→Prop):Prop:=
 ∃cs,o=some cs∧(fl=true∨SB L w0 (w.alloc (.cells ⟨cs⟩ e)))∧VT P L w0 rest (aV ρ d (.slice (some ⟨w.heap.size,0,none⟩) len len)) (w.alloc (.cells ⟨cs⟩ e)) C
def C3 (P:Program) (fl:Bool) (L:List Nat) (w0:World) (e bytes:Nat) (zero:List Value) (l c:Value) (d:Option Nat) (rest:XT) (ρ:Env) (w:World) (C:Env→World→Prop):Prop:=
 ∃(k k':IntKind) (n m:Nat),l=.int k n∧c=.int k' m∧n≤m∧m≤1099511627776∧m*bytes≤1099511627776∧(fl=true∨SB L w0 (w.alloc (.cells ⟨eP zero m⟩ e)))∧VT P L w0 rest (aV ρ d (.slice (some ⟨w.heap.size,0,none⟩) n m)) (w.alloc (.cells ⟨eP zero m⟩ e)) C
def C4 (P:Program) (fl:Bool) (L:List Nat) (w0:World) (sz bytes:Nat) (s x:Value) (d:Option Nat) (rest:XT) (ρ:Env) (w:World) (C:Env→World→Prop):Prop:=
 ∃n xs fp m us,wT w sz s n xs fp∧bO w sz x m us∧(∀u,u∈us→bu u=true)∧n+m≤1099511627776∧(n+m)*bytes≤1099511627776∧
   ∀j w' b,wT w' sz j (n+m) (xs++us) b→(Sl w sz s n xs fp→Sl w' sz j (n+m) (xs++us) b)→(b=fp∨b=[w.heap.size])→ad fp w w'→qy s j n m fp b→(fl=true∨SB L w0 w')∧VT P L w0 rest (aV ρ d j) w' C
def Ae (P:Program) (fl:Bool) (L:List Nat) (w0:World) (s:Sem Value) (d:Option Nat) (rest:XT) (ρ:Env) (w:World) (C:Env→World→Prop):Prop:= ∃v w',s.run P w=.ok v w'∧(fl=true∨SB L w0 w')∧VT P L w0 rest (aV ρ d v) w' C
theorem xg (t:TypeId) (r:Option Operand):VT P L w0 (.a fl ⟨d,none,.act (.makeMap t r)⟩ rest) ρ w C=Ae P fl L w0 (Instr.makeMap t (r.map (ev ρ))) d rest ρ w C:=propext Iff.rfl
theorem Ie {s:Sem Value} {v:Value} {w':World} (b:s.run P w=.ok v w') (j:fl=true∨SB L w0 w') (h:VT P L w0 rest (aV ρ d v) w' C):Ae P fl L w0 s d rest ρ w C:=⟨v,w',b,j,h⟩
def pH (P:Program) (fl:Bool) (L:List Nat) (w0:World) (f:Value) (args:List Value) (d:Option Nat) (rest:XT) (ρ:Env) (w:World) (C:Env→World→Prop):Prop:=
 kN P f args w fun v w'=>(fl=true∨SB L w0 w')∧VT P L w0 rest (aV ρ d v) w' C
theorem C5 (z:List Value) (b:List (Nat×Nat×Operand)):VT P L w0 (.p ⟨d,none,.bld z b⟩ rest) ρ w C=jw P L w0 (pA (cV z (b.map (tl ρ)))) d rest ρ w C:=propext ⟨fun h=>h.2,fun h=>⟨trivial,h⟩⟩
theorem C6 (e len:Nat) (z:List Value) (b:List (Nat×Nat×Operand)):VT P L w0 (.a fl ⟨d,none,.bsl e len z b⟩ rest) ρ w C=C2 P fl L w0 (cV z (b.map (tl ρ))) e len d rest ρ w C:=propext Iff.rfl
theorem C7 (e b:Nat) (z:List Value) (l c:Operand):VT P L w0 (.a fl ⟨d,none,.mks e b z l c⟩ rest) ρ w C=C3 P fl L w0 e b z (ev ρ l) (ev ρ c) d rest ρ w C:=propext Iff.rfl
theorem C8 (e b:Nat) (z:List Value) (s x:Operand):VT P L w0 (.a fl ⟨d,none,.app e b z s x⟩ rest) ρ w C=C4 P fl L w0 z.length b (ev ρ s) (ev ρ x) d rest ρ w C:=propext Iff.rfl
theorem xh (f:Operand) (args:List Operand):VT P L w0 (.a fl ⟨d,none,.callv f args⟩ rest) ρ w C=pH P fl L w0 (ev ρ f) (args.map (ev ρ)) d rest ρ w C:=propext Iff.rfl
theorem BK {e len:Nat} {cs:List Value} (h: ∀g w',g=w.heap.size→w'.heap.size=w.heap.size+1→At w' g cs→ad [] w w'→(fl=true∨SB L w0 w')∧VT P L w0 rest (aV ρ d (.slice (some ⟨g,0,none⟩) len len)) w' C):C2 P fl L w0 (some cs) e len d rest ρ w C:=
 ⟨cs,rfl,h _ _ rfl (by simp) (At.alloc w cs e) (ad.alloc [] w _)⟩
theorem uL {e bytes:Nat} {zero:List Value} {k k':IntKind} {n m:Nat} (b:n≤m) (j:m≤1099511627776) (l:m*bytes≤1099511627776)
  (h: ∀g w',g=w.heap.size→w'.heap.size=w.heap.size+1→At w' g (eP zero m)→ad [] w w'→(fl=true∨SB L w0 w')∧VT P L w0 rest (aV ρ d (.slice (some ⟨g,0,none⟩) n m)) w' C):C3 P fl L w0 e bytes zero (.int k n) (.int k' m) d rest ρ w C:=
 ⟨k,k',n,m,rfl,rfl,b,j,l,h _ _ rfl (by simp) (At.alloc w _ e) (ad.alloc [] w _)⟩
theorem Ec {sz bytes:Nat} {s x:Value} {n m:Nat} {xs us:List Value} {fp:List Nat} (l:Sl w sz s n xs fp) (o:bO w sz x m us) (q: ∀u,u∈us→bu u=true) (r:n+m≤1099511627776) (t:(n+m)*bytes≤1099511627776)
  (h: ∀j w' b,Sl w' sz j (n+m) (xs++us) b→(b=fp∨b=[w.heap.size])→ad fp w w'→qy s j n m fp b→(fl=true∨SB L w0 w')∧VT P L w0 rest (aV ρ d j) w' C):C4 P fl L w0 sz bytes s x d rest ρ w C:=
 ⟨n,xs,fp,m,us,l.GF,o,q,r,t,fun j w' b _ k=>h j w' b (k l)⟩
theorem xi {f:Value} {args:List Value} {g:Nat} {vs:List Value} {R:Value→World→Prop} (b:iq f args=some (g,vs)) (j:okF P g=true) (h:Cs P g vs w R) (k: ∀v w',R v w'→(fl=true∨SB L w0 w')∧VT P L w0 rest (aV ρ d v) w' C):pH P fl L w0 f args d rest ρ w C:=
 .inl ⟨g,vs,b,j,h.mono k⟩
theorem C9 {l:Nat} {args:List Value} {R:Value→World→Prop} (h:Ys P l args w R) (k: ∀v w',R v w'→(fl=true∨SB L w0 w')∧VT P L w0 rest (aV ρ d v) w' C):pH P fl L w0 (.func (.yield l) #[] #[]) args d rest ρ w C:=
 .inr (.inl ⟨l,rfl,h.mono k⟩)
theorem Af (f:Nat) (args:List Operand):VT P L w0 (.a fl ⟨d,none,.call f args⟩ rest) ρ w C=qK P fl L w0 f (args.map (ev ρ)) d rest ρ w C:=propext Iff.rfl
theorem C' {t:TypeId} {cells:List Value} (h: ∀g w',g=w.heap.size→w'.heap.size=w.heap.size+1→At w' g cells→ad [] w w'→(fl=true∨SB L w0 w')∧VT P L w0 rest (aV ρ d (.pointer (some ⟨g,0,none⟩))) w' C):CP P fl L w0 t cells d rest ρ w C:=
 h _ _ rfl (by simp) (At.alloc w cells t) (ad.alloc [] w _)
theorem A' {b i:Nat} {vs:List Value} {v:Value} (h:At w b vs) (j:i<vs.length) (l:bu v=true)
  (k: ∀w',w'.heap.size=w.heap.size→At w' b (vs.set i v)→ad [b] w w'→(fl=true∨SB L w0 w')∧VT P L w0 rest (aV ρ d undef) w' C):Ic P fl L w0 (.pointer (some ⟨b,i,none⟩)) v d rest ρ w C:=
 ⟨_,rfl,l,by rw[h.cell];simp[j],h.free i,k _ (by simp) (h.set i v) (ad.setCell w ⟨b,i,none⟩ v)⟩
theorem eL {f:FuncId} {args:List Value} {R:Value→World→Prop} (h:Cs P f args w R) (k: ∀v w',R v w'→(fl=true∨SB L w0 w')∧VT P L w0 rest (aV ρ d v) w' C):qK P fl L w0 f args d rest ρ w C:=
 h.mono k
theorem fR {f:FuncId} {args:List Value} {a:Value} (h:Cs P f args w fun v w'=>v=a∧w'=w) (b:fl=true∨SB L w0 w) (k:VT P L w0 rest (aV ρ d a) w C):qK P fl L w0 f args d rest ρ w C:=
 h.mono fun v w' e=>by rw[e.1,e.2];exact⟨b,k⟩
theorem rU {f:FuncId} {args:List Value} {a:Value} {S:List Nat} (h:Cs P f args w fun v w'=>v=a∧ad S w w') (j:fl=true∨(SB L w0 w∧ ∀b,b∈L→b<w.heap.size∧b∉S)) (k: ∀w',ad S w w'→VT P L w0 rest (aV ρ d a) w' C):qK P fl L w0 f args d rest ρ w C:=
 h.mono fun v w' e=>by rw[e.1];exact⟨j.imp id fun h=>h.1.only e.2 h.2,k _ e.2⟩
end
attribute [irreducible] VT GI jw CP Ic qK GH C2 C3 C4 pH Ae
end Go.Proofs.YthamnonkfepafaaGreat
