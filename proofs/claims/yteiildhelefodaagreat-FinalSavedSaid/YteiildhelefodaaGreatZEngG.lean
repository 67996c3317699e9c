/- The engine: symbolic execution. -/
import Derived.Test.YteiildhelefodaaGreatZEngF
set_option linter.unusedSimpArgs false
set_option linter.unusedVariables false
namespace Go.Proofs.YteiildhelefodaaGreat
def SB (L:List Nat) (w w':World):Prop:= ∀b,b∈L→w'.heap[b]? =w.heap[b]?
theorem SB.refl (L:List Nat) (w:World):SB L w w:=fun _ _=>rfl
theorem cell_of_heap {w w':World} {a:Addr} (h:w'.heap[a.block]? =w.heap[a.block]?):w'.cell? a=w.cell? a:=by simp[World.cell?,h]
def readsIn (x:XB) (ρ:Env) (L:List Nat):Prop:=match x with
 |.ld x=>match ev ρ x with|.pointer (some p)=>p.block∈L|_=>False
 |.ldN _ x=>match ev ρ x with|.pointer (some p)=>p.block∈L|_=>False
 |_=>True
theorem cellsAt_heap {w w':World} {p:Addr} (h:w'.heap[p.block]? =w.heap[p.block]?) (n:Nat):cellsAt w' p n=cellsAt w p n:=by
 unfold cellsAt
 congr 1
 funext i
 apply cell_of_heap
 have:(p.add i).block=p.block:=by unfold Addr.add;split<;>rfl
 rw[this];exact h
theorem val_SB {x:XB} {ρ:Env} {L:List Nat} {w w':World} (h:SB L w w') (hr:readsIn x ρ L):val x ρ w'=val x ρ w:=by
 cases x<;>simp only[val]
 case ld x=>
  simp only[readsIn]at hr
  unfold cellO
  split at hr
  ·rename_i p e;simp only[e];exact cell_of_heap (h _ hr)
  ·exact hr.elim
 case ldN n x=>
  simp only[readsIn]at hr
  unfold cellsO
  split at hr
  ·rename_i p e;simp only[e];rw[cellsAt_heap (h _ hr)]
  ·exact hr.elim
section
variable {P:Program} {ops:Array Oper} {Q:Exit→Act→World→Prop} {S:World→Prop} {Z:Nat→Bool}
def opXat (P:Program) (ops:Array Oper) (i:Nat) (K:Act→World→Prop) (a:Act) (w:World):Prop:=
 match ops[i]? with
 |none=>K a w
 |some o=>if Region.wanted o (yielded ops a.tmps)then opX P o a w K else K (a.put o.dst undef) w
theorem opXat_mono {i:Nat} {a:Act} {w:World} {K K':Act→World→Prop} (hk: ∀a w,K a w→K' a w) (h:opXat P ops i K a w):opXat P ops i K' a w:=by
 unfold opXat at*
 cases ho:ops[i]? with
 |none=>rw[ho]at h;exact hk _ _ h
 |some o=>
  rw[ho]at h
  simp only at h⊢
  by_cases hw:Region.wanted o (yielded ops a.tmps)=true
  ·rw[if_pos hw]at h⊢;exact opX_mono h hk
  ·rw[if_neg hw]at h⊢;exact hk _ _ h
theorem yields_opXat {i:Nat} {o:Oper} {v:Value} {a:Act} {Si:World→Prop} (hi:ops[i]? =some o) (hy:YieldsIf P ops Si o v a) {K:Act→World→Prop} {w:World} (hS:Si w) (h:K (a.put o.dst v) w):opXat P ops i K a w:=by
 unfold opXat
 simp only[hi]
 rcases hy with⟨hw,hv⟩|⟨hw,rfl⟩
 ·simp only[hw,if_true,opX,hv w hS];exact h
 ·simp only[hw,Bool.false_eq_true,if_false];exact h
theorem opXat_putIf {j:Nat} {oi oj:Oper} {v:Value} {Si:World→Prop} (hj:ops[j]? =some oj) (hap:oi.apart ops oj=true) (hsi: ∀cs b,oi.op≠.select cs b) (hsj: ∀cs b,oj.op≠.select cs b)
  {K:Act→World→Prop} {a:Act} {w:World} (hy:YieldsIf P ops Si oi v a) (h:opXat P ops j K (a.put oi.dst v) w):
  opXat P ops j (fun a' w'=>YieldsIf P ops Si oi v a'∧K (a'.put oi.dst v) w') a w:=by
 obtain⟨h1,h2,h3⟩:=Oper.apart_spec hap
 have stays: ∀u,YieldsIf P ops Si oi v (a.put oj.dst u):=fun u=>hy.of_same (execOp_put oi hsi a oj.dst u h3) (wanted_put oi a oj.dst u h3)
 have swap: ∀u w',K ((a.put oi.dst v).put oj.dst u) w'→K ((a.put oj.dst u).put oi.dst v) w':=fun u w' hk=>by rw[←Act.put_comm a v u h2];exact hk
 unfold opXat at*
 simp only[hj]at h⊢
 rw[wanted_put oj a oi.dst v h1]at h
 split at h
 ·rename_i hw
  rw[if_pos hw]
  unfold opX at*
  rw[execOp_put oj hsj a oi.dst v h1]at h
  generalize (execOp a.eval oj).run P w=r at*
  cases r with
  |halt x w'=>exact h
  |ok n w'=>
   cases n<;>simp only at h⊢ <;>try exact h
   case value u=>exact⟨stays u,swap u _ h⟩
   case skip=>exact⟨stays _,swap _ _ h⟩
   case enter f args=>exact Calls.mono h fun e w'' ⟨u,he,hk⟩=>⟨u,he,stays u,swap u _ hk⟩
   case round l f x y z=>exact RoundP.mono h fun u w'' hk=>⟨stays u,swap u _ hk⟩
 ·rename_i hw
  rw[if_neg hw]
  exact⟨stays _,swap _ _ h⟩
def Held (S:World→Prop) (Z:Nat→Bool) (listed:Array Bool) (w:World):Prop:=(∀k,Z k=true→listed.getD k true=false)→S w
inductive Before (ops:Array Oper):Nat→Nat→Prop
 |one {k j:Nat} {o:Oper} {e:Edge} (ho:ops[k]? =some o) (he:e∈o.after) (hb:Region.binds .any e=true) (hj:e.on=j):Before ops k j
 |more {k i j:Nat} (h1:Before ops k i) (h2:Before ops i j):Before ops k j
def Down (ops:Array Oper) (listed:Array Bool):Prop:= ∀k o,ops[k]? =some o→listed.getD k true=true→ ∀e,e∈o.after→Region.binds .any e=true→listed.getD e.on false=true
def Closed (ops:Array Oper) (rd Z:Nat→Bool) (listed:Array Bool):Prop:=Down ops listed∧ ∀k,Z k=true→listed.getD k true=true→ ∀j,rd j=true→listed.getD j true=true
def wpEvery (P:Program) (ops:Array Oper) (Q:Exit→Act→World→Prop) (S:World→Prop) (Z:Nat→Bool):Nat→Array Bool→Act→World→Prop
 |0,listed,a,w=>Region.ready .any ops listed=[]∧Q .normal a w
 |n+1,listed,a,w=>(Region.ready .any ops listed=[]→Q .normal a w)∧
   ∀i,i∈Region.ready .any ops listed→opXat P ops i (fun a' w'=>Held S Z (listed.setIfInBounds i true) w'∧wpEvery P ops Q S Z n (listed.setIfInBounds i true) a' w') a w
theorem wpAnyIn_of_every {ro:Option Nat} {m:Nat} (hd: ∀(i:Nat) (o:Oper),ops[i]? =some o→noDefer o=true): ∀(n:Nat) (listed:Array Bool) (a:Act) (w:World),wpEvery P ops Q S Z n listed a w→wpAnyIn (FR ro) m P .any ops Q n listed a w
 |0,_,_,_,h=>h
 |n+1,listed,a,w,h=>⟨h.1,fun i hi=>by
   have h1:=opXat_mono (fun a' w' k=>wpAnyIn_of_every (ro:=ro) (m:=m) hd n _ a' w' k.2) (h.2 i hi)
   unfold opXat at h1
   unfold wpOpIn
   cases ho:ops[i]? with
   |none=>rw[ho]at h1;exact h1
   |some o=>
    simp only[ho]at h1⊢
    split at h1
    ·rename_i hw;rw[if_pos hw];exact opX_wpIn (hd i o ho) h1
    ·rename_i hw;rw[if_neg hw];exact⟨fun _ _=>trivial,h1⟩⟩
theorem listed_keep {listed:Array Bool} {i j:Nat} (h:listed.getD j true=true):(listed.setIfInBounds i true).getD j true=true:=by
 by_cases e:i=j
 ·subst e
  by_cases hl:i<listed.size
  ·simp[hl]
  ·simp[Array.getElem?_eq_none (Nat.not_lt.1 hl)]
 ·rw[getD_set_ne true e];exact h
theorem listed_un {listed:Array Bool} {i j:Nat} (h:(listed.setIfInBounds i true).getD j true=false):listed.getD j true=false:=by
 cases e:listed.getD j true with
 |false=>rfl
 |true=>rw[listed_keep e]at h;cases h
theorem listed_ne {listed:Array Bool} {i j:Nat} (hne:j≠i) (h:(listed.setIfInBounds i true).getD j true=true):listed.getD j true=true:=by
 rw[getD_set_ne true (Ne.symm hne)]at h;exact h
theorem Held.set {listed:Array Bool} {i:Nat} {w:World} (h:Held S Z listed w):Held S Z (listed.setIfInBounds i true) w:=fun hz=>h fun k hk=>listed_un (hz k hk)
theorem Held.unset {listed:Array Bool} {i:Nat} {w:World} (hi:Z i=false) (h:Held S Z (listed.setIfInBounds i true) w):Held S Z listed w:=fun hz=>h fun k hk=>by
 have:k≠i:=fun e=>by rw[e,hi]at hk;cases hk
 rw[getD_set_ne true (Ne.symm this)];exact hz k hk
def WaitsFor (ops:Array Oper) (rd Z:Nat→Bool):Prop:= ∀k,Z k=true→(∃o,ops[k]? =some o)∧ ∀j,rd j=true→Before ops k j
theorem getD_up {listed:Array Bool} {j:Nat} (h:listed.getD j false=true):listed.getD j true=true:=by
 cases hs:listed[j]? with
 |none=>simp[hs]
 |some b=>simp[hs]at h⊢;exact h
theorem getD_set_up {listed:Array Bool} {i j:Nat} (h:listed.getD j false=true):(listed.setIfInBounds i true).getD j false=true:=by
 by_cases e:i=j
 ·subst e
  by_cases hl:i<listed.size
  ·simp[hl]
  ·simp[Array.getElem?_eq_none (Nat.not_lt.1 hl)]at h
 ·rw[getD_set_ne false e];exact h
theorem Down.before {listed:Array Bool} (hd:Down ops listed) {k j:Nat} (h:Before ops k j):listed.getD k true=true→listed.getD j false=true:=by
 induction h with
 |one ho he hb hj=>intro hk;subst hj;exact hd _ _ ho hk _ he hb
 |more _ _ ih1 ih2=>intro hk;exact ih2 (getD_up (ih1 hk))
theorem Down.ready {listed:Array Bool} (hd:Down ops listed) {k j:Nat} (h:Before ops k j):k∈Region.ready .any ops listed→listed.getD j false=true:=by
 induction h with
 |one ho he hb hj=>
  intro hk
  subst hj
  obtain⟨_,o,ho',hall⟩:=mem_ready.1 hk
  rw[ho]at ho';cases ho'
  exact hall _ he hb
 |more _ h2 ih1 _=>intro hk;exact hd.before h2 (getD_up (ih1 hk))
theorem Closed.set {rd:Nat→Bool} (hw:WaitsFor ops rd Z) {listed:Array Bool} {j:Nat} (h:Closed ops rd Z listed) (hj:j∈Region.ready .any ops listed):Closed ops rd Z (listed.setIfInBounds j true):=by
 refine⟨fun k o ho hl e he hb=>?_,fun k hk hl i hi=>?_⟩
 ·refine getD_set_up ?_
  by_cases ek:k=j
  ·subst ek
   obtain⟨_,o',ho',hall⟩:=mem_ready.1 hj
   rw[ho]at ho';cases ho'
   exact hall e he hb
  ·exact h.1 k o ho (listed_ne ek hl) e he hb
 ·by_cases e:k=j
  ·subst e
   exact listed_keep (getD_up (h.1.ready ((hw k hk).2 i hi) hj))
  ·exact listed_keep (h.2 k hk (listed_ne e hl) i hi)
theorem wpEvery_first {rd:Nat→Bool} (hwz:WaitsFor ops rd Z) {i:Nat} {oi:Oper} {v:Value} {Si:World→Prop} (hi:ops[i]? =some oi) (hiz:Z i=false) (hsel:Region.noSelect ops=true)
  (hSi:(rd i=true∧Si=S)∨Si=fun _=>True):
  ∀(n:Nat) (listed:Array Bool) (a:Act) (w:World),Closed ops rd Z listed→Held S Z listed w→
   (∀j oj,ops[j]? =some oj→j≠i→listed.getD j true=false→(∀e∈oj.after,Region.binds .any e=true→e.on≠i)→oi.apart ops oj=true)→
   i∈Region.ready .any ops listed→YieldsIf P ops Si oi v a→wpEvery P ops Q S Z n (listed.setIfInBounds i true) (a.put oi.dst v) w→wpEvery P ops Q S Z (n+1) listed a w:=by
 have meets: ∀(listed:Array Bool) (w:World),Closed ops rd Z listed→Held S Z listed w→listed.getD i true=false→Si w:=by
  intro listed w hc hh hun
  rcases hSi with⟨hr,rfl⟩|rfl
  ·refine hh fun k hk=>?_
   cases e:listed.getD k true with
   |false=>rfl
   |true=>rw[hc.2 k hk e i hr]at hun;cases hun
  ·trivial
 intro n
 induction n with
 |zero=>
  intro listed a w hc hh _ hr hy H
  refine⟨fun h=>(by rw[h]at hr;cases hr),fun j hj=>?_⟩
  by_cases hji:j=i
  ·subst hji
   exact yields_opXat hi hy (meets listed w hc hh (mem_ready.1 hr).1) ⟨hh.set,H⟩
  ·have:=ready_mono hj hji
   rw[H.1]at this;cases this
 |succ n ih=>
  intro listed a w hc hh hfree hr hy H
  refine⟨fun h=>(by rw[h]at hr;cases hr),fun j hj=>?_⟩
  by_cases hji:j=i
  ·subst hji
   exact yields_opXat hi hy (meets listed w hc hh (mem_ready.1 hr).1) ⟨hh.set,H⟩
  ·have h1:=H.2 j (ready_mono hj hji)
   obtain⟨hjun,oj,hoj,hall⟩:=mem_ready.1 hj
   have hun:=(mem_ready.1 hr).1
   have hnot: ∀e∈oj.after,Region.binds .any e=true→e.on≠i:=fun e he hb heq=>by
    have h2:=hall e he hb
    rw[heq]at h2
    cases hs:listed[i]? with
    |none=>simp[hs]at h2
    |some b=>simp[hs]at h2 hun;rw[h2]at hun;cases hun
   have h2:=opXat_putIf hoj (hfree j oj hoj hji hjun hnot) (fun cs b=>Region.noSelect_spec hsel i oi cs b hi) (fun cs b=>Region.noSelect_spec hsel j oj cs b hoj) hy h1
   have hfree': ∀k ok,ops[k]? =some ok→k≠i→(listed.setIfInBounds j true).getD k true=false→(∀e∈ok.after,Region.binds .any e=true→e.on≠i)→oi.apart ops ok=true:=by
    intro k ok hk hki hkun hno
    exact hfree k ok hk hki (listed_un hkun) hno
   refine opXat_mono (fun a' w' h3=>?_) h2
   obtain⟨hy',hh',hrest⟩:=h3
   have hcomm:(listed.setIfInBounds i true).setIfInBounds j true=(listed.setIfInBounds j true).setIfInBounds i true:=Array.setIfInBounds_comm _ _ (Ne.symm hji)
   rw[hcomm]at hh' hrest
   have hheld:Held S Z (listed.setIfInBounds j true) w':=hh'.unset hiz
   exact⟨hheld,ih (listed.setIfInBounds j true) a' w' (hc.set hwz hj) hheld hfree' (ready_mono hr (Ne.symm hji)) hy' hrest⟩
end
inductive XT where
 |nil
 |p (o:XO) (t:XT)
 |a (fl:Bool) (o:XO) (t:XT)
 |or (s t:XT)
 deriving Inhabited
def VT (P:Program) (L:List Nat) (w0:World):XT→Env→World→(Env→World→Prop)→Prop
 |.nil,ρ,w,C=>C ρ w
 |.p o t,ρ,w,C=>
  if gdOk o.guard ρ then readsIn o.body ρ L∧(match val o.body ρ w0 with|some v=>VT P L w0 t (putO ρ o.dst v) w C|none=>False)
  else VT P L w0 t (putO ρ o.dst undef) w C
 |.a fl o t,ρ,w,C=>
  if gdOk o.guard ρ then fv P o.body ρ w (fun v w'=>(fl=true∨SB L w0 w')∧VT P L w0 t (putO ρ o.dst v) w' C)
  else VT P L w0 t (putO ρ o.dst undef) w C
 |.or s t,ρ,w,C=>VT P L w0 s ρ w C∧VT P L w0 t ρ w C
def rdAt (P:Program) (n:Nat) (ops:Array Oper) (i:Nat):Bool:=match (ops[i]?).bind (trO P n ops)with
 |some x=>x.body.pure? &&x.body.reads
 |none=>false
def pureAt (P:Program) (n:Nat) (ops:Array Oper) (i:Nat):Bool:=match (ops[i]?).bind (trO P n ops)with
 |some x=>x.body.pure?
 |none=>false
def predsOf (ops:Array Oper) (i:Nat):List Nat:=match ops[i]? with
 |some o=>(o.after.toList.filter fun e=>Region.binds .any e).map (·.on)
 |none=>[]
def anc (ops : Array Oper) : Nat → List Nat → List Nat → List Nat
  | 0, _, seen => seen
  | _ + 1, [], seen => seen
  | f + 1, i :: todo, seen => let ps := (predsOf ops i).filter fun j => !seen.contains j
                              anc ops f (ps ++ todo) (ps ++ seen)
def zAt (P:Program) (n:Nat) (ops:Array Oper) (z:Nat):Bool:=!pureAt P n ops z&&(ops[z]?).isSome&&(let a:=anc ops (ops.size+ops.size) [z] []
 (List.range ops.size).all fun j=>!rdAt P n ops j||a.contains j)
inductive IT where
 |nil
 |p (i:Nat) (t:IT)
 |a (i:Nat) (t:IT)
 |or (s t:IT)
 deriving Inhabited
def IT.heads:IT→List Nat
 |.a i _=>[i]
 |.or s t=>s.heads++t.heads
 |_=>[]
def IT.depth:IT→Nat
 |.nil=>0
 |.p _ t|.a _ t=>t.depth+1
 |.or s t=>max s.depth t.depth
def mapT (P:Program) (n:Nat) (ops:Array Oper):IT→Option XT
 |.nil=>some .nil
 |.p i t=>match (ops[i]?).bind (trO P n ops),mapT P n ops t with|some x,some y=>some (.p x y)|_,_=>none
 |.a i t=>match (ops[i]?).bind (trO P n ops),mapT P n ops t with|some x,some y=>some (.a (zAt P n ops i) x y)|_,_=>none
 |.or s t=>match mapT P n ops s,mapT P n ops t with|some x,some y=>some (.or x y)|_,_=>none
def okT (P:Program) (n:Nat) (ops:Array Oper):Bool→IT→Array Bool→Bool
 |h,.nil,listed=>!h&&(Region.ready .any ops listed).isEmpty
 |h,.p i t,listed=>!h&&pureAt P n ops i&&(Region.ready .any ops listed).contains i&&Region.free .any ops listed i&&okT P n ops false t (listed.setIfInBounds i true)
 |h,.a i t,listed=>!pureAt P n ops i&&(Region.ready .any ops listed).contains i&&okT P n ops false t (listed.setIfInBounds i true)&&(h||(Region.ready .any ops listed).all (· ==i))
 |h,.or s t,listed=>okT P n ops true s listed&&okT P n ops true t listed&&!(Region.ready .any ops listed).isEmpty&&(h||(Region.ready .any ops listed).all fun i=>(s.heads++t.heads).contains i)
section
variable {P:Program} {n:Nat} {ds:List Deferred} {ops:Array Oper}
theorem predsOf_spec {i j:Nat} (h:j∈predsOf ops i):Before ops i j:=by
 unfold predsOf at h
 split at h
 ·rename_i o ho
  simp only[List.mem_map,List.mem_filter]at h
  obtain⟨e,⟨he,hb⟩,hj⟩:=h
  exact .one ho (by simpa using he) hb hj
 ·cases h
theorem anc_spec {z:Nat}: ∀(f:Nat) (todo seen:List Nat),(∀i,i∈todo→i=z∨Before ops z i)→(∀i,i∈seen→Before ops z i)→ ∀j,j∈anc ops f todo seen→Before ops z j
 |0,_,_,_,hs,j,hj=>hs j hj
 |_+1,[],_,_,hs,j,hj=>hs j hj
 |f+1,i::todo,seen,ht,hs,j,hj=>by
  have hp: ∀k,k∈(predsOf ops i).filter (fun j=>!seen.contains j)→Before ops z k:=fun k hk=>by
   have h1:=predsOf_spec (List.mem_filter.1 hk).1
   rcases ht i (by simp)with rfl|h2
   ·exact h1
   ·exact .more h2 h1
  refine anc_spec f _ _ (fun k hk=>?_) (fun k hk=>?_) j hj
  ·rcases List.mem_append.1 hk with hk|hk
   ·exact .inr (hp k hk)
   ·exact ht k (by simp[hk])
  ·rcases List.mem_append.1 hk with hk|hk
   ·exact hp k hk
   ·exact hs k hk
theorem zAt_waits:WaitsFor ops (rdAt P n ops) (zAt P n ops):=by
 intro k hk
 unfold zAt at hk
 simp only[Bool.and_eq_true,List.all_eq_true,List.mem_range]at hk
 obtain⟨⟨_,h0⟩,h⟩:=hk
 refine⟨Option.isSome_iff_exists.1 h0,fun j hj=>?_⟩
 have hlt:j<ops.size:=by
  rcases Nat.lt_or_ge j ops.size with h'|h'
  ·exact h'
  ·simp[rdAt,Array.getElem?_eq_none h']at hj
 have:=h j hlt
 simp only[hj,Bool.not_true,Bool.false_or,List.contains_iff_mem]at this
 exact anc_spec _ _ _ (fun i hi=>.inl (by simpa using hi)) (by simp) j this
theorem zAt_pure {i:Nat} (h:pureAt P n ops i=true):zAt P n ops i=false:=by unfold zAt;rw[h];simp
theorem stepX_of_fv {x:XB} {ρ:Env} {w:World} {K:Value→World→Prop} (hp:x.pure? =false) (h:fv P x ρ w K):stepX P x ρ w K:=by
 unfold stepX;rw[hp];exact h
theorem val_noread {x:XB} {ρ:Env} (h:x.reads=false) (w w':World):val x ρ w=val x ρ w':=by
 cases x<;>first|rfl|cases h
def Shows (P:Program) (ops:Array Oper) (Q:Exit→Act→World→Prop) (S:World→Prop) (Z:Nat→Bool) (h:Bool) (hd:List Nat) (m:Nat) (listed:Array Bool) (a:Act) (w:World):Prop:=
 if h then∀i,i∈hd→i∈Region.ready .any ops listed→ ∀k,m=k+1→opXat P ops i (fun a' w'=>Held S Z (listed.setIfInBounds i true) w'∧wpEvery P ops Q S Z k (listed.setIfInBounds i true) a' w') a w
 else wpEvery P ops Q S Z m listed a w
theorem every_nil {Q:Exit→Act→World→Prop} {S:World→Prop} {Z:Nat→Bool} {listed:Array Bool} {a:Act} {w:World} (h:Region.ready .any ops listed=[]) (hq:Q .normal a w): ∀m,wpEvery P ops Q S Z m listed a w
 |0=>⟨h,hq⟩
 |m+1=>⟨fun _=>hq,fun i hi=>by rw[h]at hi;cases hi⟩
theorem VT_sound {L:List Nat} {w0:World} {C:Env→World→Prop} (hsel:Region.noSelect ops=true): ∀(it:IT) (xt:XT) (h:Bool) (m:Nat) (listed:Array Bool),mapT P n ops it=some xt→okT P n ops h it listed=true→it.depth≤m→
  ∀(ρ:Env) (w:World) (a:Act),Closed ops (rdAt P n ops) (zAt P n ops) listed→Held (SB L w0) (zAt P n ops) listed w→Sim n ds ρ a→VT P L w0 xt ρ w C→
   Shows P ops (QC n ds C) (SB L w0) (zAt P n ops) h it.heads m listed a w
 |.nil,xt,h,m,listed,hx,ho,hm,ρ,w,a,hc,hS,hs,hv=>by
  simp only[mapT,Option.some.injEq]at hx
  subst hx
  simp only[okT,Bool.and_eq_true,Bool.not_eq_true',List.isEmpty_iff]at ho
  obtain⟨rfl,ho⟩:=ho
  exact every_nil ho ⟨rfl,ρ,hs,hv⟩ m
 |.p i t,xt,h,m,listed,hx,ho,hm,ρ,w,a,hc,hS,hs,hv=>by
  simp only[mapT]at hx
  split at hx
  ·rename_i x y hx1 hx2
   cases hx
   simp only[okT,Bool.and_eq_true,Bool.not_eq_true']at ho
   obtain⟨⟨⟨⟨rfl,hp⟩,hr⟩,hf⟩,ho⟩:=ho
   have hir:i∈Region.ready .any ops listed:=by simpa using hr
   obtain⟨o,hoi,hxo⟩:=Option.bind_eq_some_iff.1 hx1
   obtain⟨h1,h2,h3,h4⟩:=trO_spec hxo
   have hw:=wanted_eq h2 hs
   have hp':x.body.pure? =true:=by simpa[pureAt,hx1]using hp
   obtain⟨m,rfl⟩: ∃k,m=k+1:=⟨m-1,by simp only[IT.depth]at hm;omega⟩
   have ih:=fun ρ v hs' hv'=>VT_sound (L:=L) (w0:=w0) (C:=C) hsel t y false m (listed.setIfInBounds i true) hx2 ho (by simp only[IT.depth]at hm;omega) ρ w (a.put o.dst v) (hc.set zAt_waits hir) hS.set hs' hv'
   have hiz:=zAt_pure hp
   simp only[VT]at hv
   have go: ∀(v:Value) (Si:World→Prop),((rdAt P n ops i=true∧Si=SB L w0)∨Si=fun _=>True)→YieldsIf P ops Si o v a→VT P L w0 y (putO ρ x.dst v) w C→wpEvery P ops (QC n ds C) (SB L w0) (zAt P n ops) (m+1) listed a w:=by
    intro v Si hSi hy hv'
    refine wpEvery_first (v:=v) (Si:=Si) zAt_waits hoi hiz hsel hSi _ listed a w hc hS (Region.free_spec hoi hf) hir hy ?_
    exact ih _ v (by rw[h3];exact sim_putO hs h4 v) hv'
   obtain⟨dd,op,ty,pos,af,g⟩:=o
   split at hv
   ·rename_i hg
    obtain⟨hrd,hv⟩:=hv
    split at hv
    ·rename_i v hvv
     cases hread:x.body.reads with
     |true=>
      refine go v (SB L w0) (.inl ⟨by simp[rdAt,hx1,hp',hread],rfl⟩) (.inl ⟨by rw[hw];exact hg,fun w' hw'=>?_⟩) hv
      rw[hs.evalFn]
      exact val_sound h1 hp' ((val_SB hw' hrd).trans hvv) dd ty pos af g
     |false=>
      refine go v (fun _=>True) (.inr rfl) (.inl ⟨by rw[hw];exact hg,fun w' _=>?_⟩) hv
      rw[hs.evalFn]
      exact val_sound h1 hp' ((val_noread hread w' w0).trans hvv) dd ty pos af g
    ·exact hv.elim
   ·rename_i hg
    exact go undef (fun _=>True) (.inr rfl) (.inr ⟨by rw[hw];simpa using hg,rfl⟩) hv
  ·cases hx
 |.a i t,xt,h,m,listed,hx,ho,hm,ρ,w,a,hc,hS,hs,hv=>by
  simp only[mapT]at hx
  split at hx
  ·rename_i x y hx1 hx2
   cases hx
   simp only[okT,Bool.and_eq_true,Bool.not_eq_true']at ho
   obtain⟨⟨⟨hp,hr⟩,ho⟩,hall⟩:=ho
   have hir:i∈Region.ready .any ops listed:=by simpa using hr
   obtain⟨o,hoi,hxo⟩:=Option.bind_eq_some_iff.1 hx1
   obtain⟨h1,h2,h3,h4⟩:=trO_spec hxo
   have hw:=wanted_eq h2 hs
   have hp':x.body.pure? =false:=by simpa[pureAt,hx1]using hp
   obtain⟨m,rfl⟩: ∃k,m=k+1:=⟨m-1,by simp only[IT.depth]at hm;omega⟩
   have ih:=fun ρ w' v (hS':Held (SB L w0) (zAt P n ops) (listed.setIfInBounds i true) w') hs' hv'=>VT_sound (L:=L) (w0:=w0) (C:=C) hsel t y false m (listed.setIfInBounds i true) hx2 ho (by simp only[IT.depth]at hm;omega) ρ w' (a.put o.dst v) (hc.set zAt_waits hir) hS' hs' hv'
   simp only[VT]at hv
   have key:opXat P ops i (fun a' w'=>Held (SB L w0) (zAt P n ops) (listed.setIfInBounds i true) w'∧wpEvery P ops (QC n ds C) (SB L w0) (zAt P n ops) m (listed.setIfInBounds i true) a' w') a w:=by
    unfold opXat
    simp only[hoi]
    rw[hw]
    split at hv
    ·rename_i hg
     rw[if_pos hg]
     refine stepX_upon h1 hs (stepX_of_fv hp' hv) fun v w' hvv=>?_
     have hheld:Held (SB L w0) (zAt P n ops) (listed.setIfInBounds i true) w':=by
      intro hz
      rcases hvv.1 with he|hsb
      ·have:=hz i he
       have hl:(listed.setIfInBounds i true).getD i true=true:=by
        by_cases hl:i<listed.size
        ·simp[hl]
        ·simp[hl]
       rw[hl]at this;cases this
      ·exact hsb
     exact⟨hheld,ih _ w' v hheld (by rw[h3];exact sim_putO hs h4 v) hvv.2⟩
    ·rename_i hg
     rw[if_neg hg]
     exact⟨hS.set,ih _ w undef hS.set (by rw[h3];exact sim_putO hs h4 undef) hv⟩
   cases h with
   |true=>
    intro j hj _ k hk
    simp only[IT.heads,List.mem_singleton]at hj
    subst hj
    cases hk
    exact key
   |false=>
    simp only[Bool.false_or,List.all_eq_true,beq_iff_eq]at hall
    refine⟨fun e=>(by rw[e]at hir;cases hir),fun j hj=>?_⟩
    have:=hall j hj
    subst this
    exact key
  ·cases hx
 |.or s t,xt,h,m,listed,hx,ho,hm,ρ,w,a,hc,hS,hs,hv=>by
  simp only[mapT]at hx
  split at hx
  ·rename_i x y hx1 hx2
   cases hx
   simp only[okT,Bool.and_eq_true,Bool.not_eq_true']at ho
   obtain⟨⟨⟨ho1,ho2⟩,hne⟩,hall⟩:=ho
   simp only[VT]at hv
   simp only[IT.depth]at hm
   have k1:=VT_sound (L:=L) (w0:=w0) (C:=C) hsel s x true m listed hx1 ho1 (by omega) ρ w a hc hS hs hv.1
   have k2:=VT_sound (L:=L) (w0:=w0) (C:=C) hsel t y true m listed hx2 ho2 (by omega) ρ w a hc hS hs hv.2
   have key: ∀j,j∈s.heads++t.heads→j∈Region.ready .any ops listed→ ∀k,m=k+1→opXat P ops j (fun a' w'=>Held (SB L w0) (zAt P n ops) (listed.setIfInBounds j true) w'∧wpEvery P ops (QC n ds C) (SB L w0) (zAt P n ops) k (listed.setIfInBounds j true) a' w') a w:=by
    intro j hj hr k hk
    rcases List.mem_append.1 hj with hj|hj
    ·exact k1 j hj hr k hk
    ·exact k2 j hj hr k hk
   cases h with
   |true=>exact key
   |false=>
    simp only[Bool.false_or,List.all_eq_true,List.contains_iff_mem]at hall
    -- something may come, so there is fuel
    have hm0: ∃k,m=k+1:=by
     refine⟨m-1,?_⟩
     have h0:0<max s.depth t.depth:=by
      have: ∀(u:IT),u.heads≠ []→0<u.depth:=by
       intro u
       induction u with
       |nil=>intro h;exact absurd rfl h
       |p _ _=>intro h;exact absurd rfl h
       |a _ _=>intro _;simp only[IT.depth];omega
       |or u v ih1 ih2=>
        intro h
        simp only[IT.depth]
        by_cases e:u.heads=[]
        ·have:=ih2 (fun e'=>h (by simp[IT.heads,e,e']));omega
        ·have:=ih1 e;omega
      cases hrd:Region.ready .any ops listed with
      |nil=>rw[hrd]at hne;cases hne
      |cons j l=>
       have hj:=hall j (by rw[hrd];simp)
       rcases List.mem_append.1 hj with hj|hj
       ·have:=this s (fun e=>by rw[e]at hj;cases hj);omega
       ·have:=this t (fun e=>by rw[e]at hj;cases hj);omega
     omega
    obtain⟨k,rfl⟩:=hm0
    exact⟨fun e=>(by rw[e]at hne;cases hne),fun j hj=>key j (hall j hj) hj k rfl⟩
  ·cases hx
theorem wp_of_tree {ro:Option Nat} {id m:Nat} {L:List Nat} {C:Env→World→Prop} {it:IT} {xt:XT} (hm:P.follows .mixedOrders=true) (hsel:Region.noSelect ops=true) (hd:ops.all noDefer=true) (hdep:it.depth≤ops.size)
  (h:mapT P n ops it=some xt) (ho:okT P n ops false it (Array.replicate ops.size false)=true)
  {ρ:Env} {w:World} {a:Act} (hs:Sim n ds ρ a) (hv:VT P L w.drew xt ρ w.drew C):(Code.region id ops true).wpIn (FR ro) m P (QC n ds C) a w:=by
 have hz: ∀k,zAt P n ops k=true→(Array.replicate ops.size false).getD k true=false:=fun k hk=>by
  obtain⟨o,ho⟩:=(zAt_waits k hk).1
  have:=(Array.getElem?_eq_some_iff.1 ho).1
  simp[this]
 refine wpIn_region_any hm (wpAnyIn_of_every (S:=SB L w.drew) (Z:=zAt P n ops) (fun i o hi=>?_) _ _ _ _ ?_)
 ·rw[Array.all_eq_true]at hd
  obtain⟨h1,h2⟩:=Array.getElem?_eq_some_iff.1 hi
  rw[←h2];exact hd i h1
 ·exact VT_sound (L:=L) (w0:=w.drew) (C:=C) hsel it xt false ops.size _ h ho hdep ρ w.drew a ⟨fun k o hk hl=>(by simp[(Array.getElem?_eq_some_iff.1 hk).1]at hl),fun k hk hl=>by rw[hz k hk]at hl;cases hl⟩ (fun _=>SB.refl _ _) hs hv
end
section
variable {P:Program} {L:List Nat} {w0:World} {rest:XT} {fl:Bool} {ρ:Env} {w:World} {C:Env→World→Prop} {d:Option Nat}
def AndS (P:Program) (L:List Nat) (w0:World) (o:Option Value) (d:Option Nat) (rest:XT) (ρ:Env) (w:World) (C:Env→World→Prop):Prop:=match o with
 |some v=>VT P L w0 rest (putO ρ d v) w C
 |none=>False
theorem AndS_some (v:Value):AndS P L w0 (some v) d rest ρ w C=VT P L w0 rest (putO ρ d v) w C:=propext Iff.rfl
def BoxS (P:Program) (fl:Bool) (L:List Nat) (w0:World) (t:TypeId) (cells:List Value) (d:Option Nat) (rest:XT) (ρ:Env) (w:World) (C:Env→World→Prop):Prop:=
 (fl=true∨SB L w0 (w.alloc (.cells ⟨cells⟩ t)))∧VT P L w0 rest (putO ρ d (.pointer (some ⟨w.heap.size,0,none⟩))) (w.alloc (.cells ⟨cells⟩ t)) C
def StS (P:Program) (fl:Bool) (L:List Nat) (w0:World) (a v:Value) (d:Option Nat) (rest:XT) (ρ:Env) (w:World) (C:Env→World→Prop):Prop:=
 ∃p,a=.pointer (some p)∧oneC v=true∧(w.cell? p).isSome=true∧w.frozen? p=false∧(fl=true∨SB L w0 (w.setCell p v))∧VT P L w0 rest (putO ρ d undef) (w.setCell p v) C
def StNS (P:Program) (fl:Bool) (L:List Nat) (w0:World) (n:Nat) (a v:Value) (d:Option Nat) (rest:XT) (ρ:Env) (w:World) (C:Env→World→Prop):Prop:=
 ∃p cs,a=.pointer (some p)∧v=.agg cs∧cs.size=n∧World.mayCells w p cs.toList 0∧(fl=true∨SB L w0 (World.setCells w p cs.toList 0))∧VT P L w0 rest (putO ρ d undef) (World.setCells w p cs.toList 0) C
def CallS (P:Program) (fl:Bool) (L:List Nat) (w0:World) (f:FuncId) (args:List Value) (d:Option Nat) (rest:XT) (ρ:Env) (w:World) (C:Env→World→Prop):Prop:=
 Cs P f args w fun v w'=>(fl=true∨SB L w0 w')∧VT P L w0 rest (putO ρ d v) w' C
def GdS (P:Program) (L:List Nat) (w0:World) (v:Value) (b:Bool) (d:Option Nat) (x:XB) (rest:XT) (ρ:Env) (w:World) (C:Env→World→Prop):Prop:=
 if gdV v b then VT P L w0 (.p ⟨d,none,x⟩ rest) ρ w C else VT P L w0 rest (putO ρ d undef) w C
def GdA (P:Program) (fl:Bool) (L:List Nat) (w0:World) (v:Value) (b:Bool) (d:Option Nat) (x:XB) (rest:XT) (ρ:Env) (w:World) (C:Env→World→Prop):Prop:=
 if gdV v b then VT P L w0 (.a fl ⟨d,none,x⟩ rest) ρ w C else VT P L w0 rest (putO ρ d undef) w C
theorem VT_guard (s:Nat) (b:Bool) (x:XB):VT P L w0 (.p ⟨d,some (s,b),x⟩ rest) ρ w C=GdS P L w0 (ρ s) b d x rest ρ w C:=propext Iff.rfl
theorem VT_guardA (s:Nat) (b:Bool) (x:XB):VT P L w0 (.a fl ⟨d,some (s,b),x⟩ rest) ρ w C=GdA P fl L w0 (ρ s) b d x rest ρ w C:=propext Iff.rfl
theorem VT_or (s t:XT):VT P L w0 (.or s t) ρ w C=(VT P L w0 s ρ w C∧VT P L w0 t ρ w C):=propext Iff.rfl
theorem GdS_tt (x:XB):GdS P L w0 (.bool true) true d x rest ρ w C=VT P L w0 (.p ⟨d,none,x⟩ rest) ρ w C:=propext Iff.rfl
theorem GdA_tt (x:XB):GdA P fl L w0 (.bool true) true d x rest ρ w C=VT P L w0 (.a fl ⟨d,none,x⟩ rest) ρ w C:=propext Iff.rfl
theorem GdS_ff (x:XB):GdS P L w0 (.bool false) false d x rest ρ w C=VT P L w0 (.p ⟨d,none,x⟩ rest) ρ w C:=propext Iff.rfl
theorem GdA_ff (x:XB):GdA P fl L w0 (.bool false) false d x rest ρ w C=VT P L w0 (.a fl ⟨d,none,x⟩ rest) ρ w C:=propext Iff.rfl
theorem GdS_tf (x:XB):GdS P L w0 (.bool true) false d x rest ρ w C=VT P L w0 rest (putO ρ d undef) w C:=propext Iff.rfl
theorem GdA_tf (x:XB):GdA P fl L w0 (.bool true) false d x rest ρ w C=VT P L w0 rest (putO ρ d undef) w C:=propext Iff.rfl
theorem GdS_ft (x:XB):GdS P L w0 (.bool false) true d x rest ρ w C=VT P L w0 rest (putO ρ d undef) w C:=propext Iff.rfl
theorem GdA_ft (x:XB):GdA P fl L w0 (.bool false) true d x rest ρ w C=VT P L w0 rest (putO ρ d undef) w C:=propext Iff.rfl
theorem SB.only {L S:List Nat} {w0 w w':World} (h:SB L w0 w) (k:Only S w w') (hs: ∀b,b∈L→b<w.heap.size∧b∉S):SB L w0 w':=fun b hb=>
 (k.block b (hs b hb).1 (hs b hb).2).trans (h b hb)
theorem VT_nil:VT P L w0 .nil ρ w C=C ρ w:=propext Iff.rfl
theorem VT_mv (x:Operand):VT P L w0 (.p ⟨d,none,.mv x⟩ rest) ρ w C=VT P L w0 rest (putO ρ d (ev ρ x)) w C:=propext ⟨fun h=>h.2,fun h=>⟨trivial,h⟩⟩
theorem VT_pick (c a b:Operand):VT P L w0 (.p ⟨d,none,.pick c a b⟩ rest) ρ w C=AndS P L w0 (pickO (ev ρ c) (ev ρ a) (ev ρ b)) d rest ρ w C:=propext ⟨fun h=>h.2,fun h=>⟨trivial,h⟩⟩
theorem VT_nilck (x:Operand):VT P L w0 (.p ⟨d,none,.nilck x⟩ rest) ρ w C=AndS P L w0 (nilckO (ev ρ x)) d rest ρ w C:=propext ⟨fun h=>h.2,fun h=>⟨trivial,h⟩⟩
def inL (L:List Nat) (v:Value):Prop:=match v with|.pointer (some p)=>p.block∈L|_=>False
theorem inL_p (L:List Nat) (b o:Nat):inL L (.pointer (some ⟨b,o,none⟩))=(b∈L):=Eq.trans rfl rfl
theorem VT_ld (x:Operand):VT P L w0 (.p ⟨d,none,.ld x⟩ rest) ρ w C=(inL L (ev ρ x)∧AndS P L w0 (cellO w0 (ev ρ x)) d rest ρ w C):=propext Iff.rfl
theorem VT_ldN (n:Nat) (x:Operand):VT P L w0 (.p ⟨d,none,.ldN n x⟩ rest) ρ w C=(inL L (ev ρ x)∧AndS P L w0 (cellsO w0 n (ev ρ x)) d rest ρ w C):=propext Iff.rfl
theorem VT_fa (o:Nat) (x:Operand):VT P L w0 (.p ⟨d,none,.fa o x⟩ rest) ρ w C=AndS P L w0 (faO o (ev ρ x)) d rest ρ w C:=propext ⟨fun h=>h.2,fun h=>⟨trivial,h⟩⟩
theorem VT_ia (s:Nat) (x i:Operand):VT P L w0 (.p ⟨d,none,.ia s x i⟩ rest) ρ w C=AndS P L w0 (iaO s (ev ρ x) (ev ρ i)) d rest ρ w C:=propext ⟨fun h=>h.2,fun h=>⟨trivial,h⟩⟩
theorem VT_iaA (n s:Nat) (x i:Operand):VT P L w0 (.p ⟨d,none,.iaA n s x i⟩ rest) ρ w C=AndS P L w0 (iaAO n s (ev ρ x) (ev ρ i)) d rest ρ w C:=propext ⟨fun h=>h.2,fun h=>⟨trivial,h⟩⟩
theorem VT_bin (op:BinOp) (x y:Operand):VT P L w0 (.p ⟨d,none,.bin op x y⟩ rest) ρ w C=AndS P L w0 (binO op (ev ρ x) (ev ρ y)) d rest ρ w C:=propext ⟨fun h=>h.2,fun h=>⟨trivial,h⟩⟩
theorem VT_no (x:Operand):VT P L w0 (.p ⟨d,none,.no x⟩ rest) ρ w C=AndS P L w0 (noO (ev ρ x)) d rest ρ w C:=propext ⟨fun h=>h.2,fun h=>⟨trivial,h⟩⟩
theorem VT_conv (k:IntKind) (x:Operand):VT P L w0 (.p ⟨d,none,.conv k x⟩ rest) ρ w C=AndS P L w0 (convO k (ev ρ x)) d rest ρ w C:=propext ⟨fun h=>h.2,fun h=>⟨trivial,h⟩⟩
theorem VT_mkfn (fn:Fn) (a b:Array Operand):VT P L w0 (.p ⟨d,none,.mkfn fn a b⟩ rest) ρ w C=VT P L w0 rest (putO ρ d (.func fn (a.map (ev ρ)) (b.map (ev ρ)))) w C:=propext ⟨fun h=>h.2,fun h=>⟨trivial,h⟩⟩
theorem VT_slc (s:Nat) (x:Operand) (lo hi:Option Operand):VT P L w0 (.p ⟨d,none,.slc s x lo hi⟩ rest) ρ w C=AndS P L w0 (slcO s (ev ρ x) (lo.map (ev ρ)) (hi.map (ev ρ))) d rest ρ w C:=propext ⟨fun h=>h.2,fun h=>⟨trivial,h⟩⟩
theorem VT_ext (x:Operand) (i:Nat):VT P L w0 (.p ⟨d,none,.ext x i⟩ rest) ρ w C=AndS P L w0 (extO (ev ρ x) i) d rest ρ w C:=propext ⟨fun h=>h.2,fun h=>⟨trivial,h⟩⟩
theorem VT_len (x:Operand):VT P L w0 (.p ⟨d,none,.len x⟩ rest) ρ w C=AndS P L w0 (lenO (ev ρ x)) d rest ρ w C:=propext ⟨fun h=>h.2,fun h=>⟨trivial,h⟩⟩
theorem VT_box (t:TypeId) (x:Operand):VT P L w0 (.a fl ⟨d,none,.box t x⟩ rest) ρ w C=BoxS P fl L w0 t (ev ρ x).cells.toList d rest ρ w C:=propext Iff.rfl
theorem VT_alc (t:TypeId) (z:List Value):VT P L w0 (.a fl ⟨d,none,.alc t z⟩ rest) ρ w C=BoxS P fl L w0 t z d rest ρ w C:=propext Iff.rfl
theorem VT_st (a v:Operand):VT P L w0 (.a fl ⟨d,none,.st a v⟩ rest) ρ w C=StS P fl L w0 (ev ρ a) (ev ρ v) d rest ρ w C:=propext Iff.rfl
theorem VT_stN (n:Nat) (a v:Operand):VT P L w0 (.a fl ⟨d,none,.stN n a v⟩ rest) ρ w C=StNS P fl L w0 n (ev ρ a) (ev ρ v) d rest ρ w C:=propext Iff.rfl
def BslS (P:Program) (fl:Bool) (L:List Nat) (w0:World) (o:Option (List Value)) (e len:Nat) (d:Option Nat) (rest:XT) (ρ:Env) (w:World) (C:Env→World→Prop):Prop:=
 ∃cs,o=some cs∧(fl=true∨SB L w0 (w.alloc (.cells ⟨cs⟩ e)))∧VT P L w0 rest (putO ρ d (.slice (some ⟨w.heap.size,0,none⟩) len len)) (w.alloc (.cells ⟨cs⟩ e)) C
def MksS (P:Program) (fl:Bool) (L:List Nat) (w0:World) (e bytes:Nat) (zero:List Value) (l c:Value) (d:Option Nat) (rest:XT) (ρ:Env) (w:World) (C:Env→World→Prop):Prop:=
 ∃(k k':IntKind) (n m:Nat),l=.int k n∧c=.int k' m∧n≤m∧m≤1099511627776∧m*bytes≤1099511627776∧(fl=true∨SB L w0 (w.alloc (.cells ⟨rowZ zero m⟩ e)))∧VT P L w0 rest (putO ρ d (.slice (some ⟨w.heap.size,0,none⟩) n m)) (w.alloc (.cells ⟨rowZ zero m⟩ e)) C
def AppS (P:Program) (fl:Bool) (L:List Nat) (w0:World) (sz bytes:Nat) (s x:Value) (d:Option Nat) (rest:XT) (ρ:Env) (w:World) (C:Env→World→Prop):Prop:=
 ∃n xs fp m us,SlW w sz s n xs fp∧SrcIs w sz x m us∧(∀u,u∈us→oneC u=true)∧n+m≤1099511627776∧(n+m)*bytes≤1099511627776∧
   ∀v' w' fp',SlW w' sz v' (n+m) (xs++us) fp'→(Sl w sz s n xs fp→Sl w' sz v' (n+m) (xs++us) fp')→(fp'=fp∨fp'=[w.heap.size])→Only fp w w'→AppI s v' n m fp fp'→(fl=true∨SB L w0 w')∧VT P L w0 rest (putO ρ d v') w' C
def RunS (P:Program) (fl:Bool) (L:List Nat) (w0:World) (s:Sem Value) (d:Option Nat) (rest:XT) (ρ:Env) (w:World) (C:Env→World→Prop):Prop:= ∃v w',s.run P w=.ok v w'∧(fl=true∨SB L w0 w')∧VT P L w0 rest (putO ρ d v) w' C
def RunUS (P:Program) (fl:Bool) (L:List Nat) (w0:World) (s:Sem Unit) (d:Option Nat) (rest:XT) (ρ:Env) (w:World) (C:Env→World→Prop):Prop:= ∃w',s.run P w=.ok () w'∧(fl=true∨SB L w0 w')∧VT P L w0 rest (putO ρ d undef) w' C
theorem VT_mkmap (t:TypeId) (r:Option Operand):VT P L w0 (.a fl ⟨d,none,.act (.makeMap t r)⟩ rest) ρ w C=RunS P fl L w0 (Instr.makeMap t (r.map (ev ρ))) d rest ρ w C:=propext Iff.rfl
theorem VT_mput (t:TypeId) (m k x:Operand):VT P L w0 (.a fl ⟨d,none,.act (.mapUpdate t m k x)⟩ rest) ρ w C=RunUS P fl L w0 (Instr.mapUpdate t (ev ρ m) (ev ρ k) (ev ρ x)) d rest ρ w C:=propext Iff.rfl
theorem VT_mlen (t:TypeId) (x:Operand):VT P L w0 (.a fl ⟨d,none,.act (.call ⟨.builtin .len,#[x],#[t]⟩)⟩ rest) ρ w C=RunS P fl L w0 (Builtin.len_ #[t] 0 #[ev ρ x]) d rest ρ w C:=by
 have e:(#[x]:Array Operand).map (ev ρ)=#[ev ρ x]:=by simp
 rw[←e];exact propext Iff.rfl
theorem runS {s:Sem Value} {v:Value} {w':World} (hr:s.run P w=.ok v w') (hs:fl=true∨SB L w0 w') (h:VT P L w0 rest (putO ρ d v) w' C):RunS P fl L w0 s d rest ρ w C:=⟨v,w',hr,hs,h⟩
theorem runUS {s:Sem Unit} {w':World} (hr:s.run P w=.ok () w') (hs:fl=true∨SB L w0 w') (h:VT P L w0 rest (putO ρ d undef) w' C):RunUS P fl L w0 s d rest ρ w C:=⟨w',hr,hs,h⟩
def CallVS (P:Program) (fl:Bool) (L:List Nat) (w0:World) (f:Value) (args:List Value) (d:Option Nat) (rest:XT) (ρ:Env) (w:World) (C:Env→World→Prop):Prop:=
 CallV P f args w fun v w'=>(fl=true∨SB L w0 w')∧VT P L w0 rest (putO ρ d v) w' C
theorem VT_bld (z:List Value) (ps:List (Nat×Nat×Operand)):VT P L w0 (.p ⟨d,none,.bld z ps⟩ rest) ρ w C=AndS P L w0 (aggO (fillL z (ps.map (evP ρ)))) d rest ρ w C:=propext ⟨fun h=>h.2,fun h=>⟨trivial,h⟩⟩
theorem VT_bsl (e len:Nat) (z:List Value) (ps:List (Nat×Nat×Operand)):VT P L w0 (.a fl ⟨d,none,.bsl e len z ps⟩ rest) ρ w C=BslS P fl L w0 (fillL z (ps.map (evP ρ))) e len d rest ρ w C:=propext Iff.rfl
theorem VT_mks (e b:Nat) (z:List Value) (l c:Operand):VT P L w0 (.a fl ⟨d,none,.mks e b z l c⟩ rest) ρ w C=MksS P fl L w0 e b z (ev ρ l) (ev ρ c) d rest ρ w C:=propext Iff.rfl
theorem VT_app (e b:Nat) (z:List Value) (s x:Operand):VT P L w0 (.a fl ⟨d,none,.app e b z s x⟩ rest) ρ w C=AppS P fl L w0 z.length b (ev ρ s) (ev ρ x) d rest ρ w C:=propext Iff.rfl
theorem VT_callv (f:Operand) (args:List Operand):VT P L w0 (.a fl ⟨d,none,.callv f args⟩ rest) ρ w C=CallVS P fl L w0 (ev ρ f) (args.map (ev ρ)) d rest ρ w C:=propext Iff.rfl
theorem bslS {e len:Nat} {cs:List Value} (h: ∀g w',g=w.heap.size→w'.heap.size=w.heap.size+1→At w' g cs→Only [] w w'→(fl=true∨SB L w0 w')∧VT P L w0 rest (putO ρ d (.slice (some ⟨g,0,none⟩) len len)) w' C):BslS P fl L w0 (some cs) e len d rest ρ w C:=
 ⟨cs,rfl,h _ _ rfl (by simp) (At.alloc w cs e) (Only.alloc [] w _)⟩
theorem mksS {e bytes:Nat} {zero:List Value} {k k':IntKind} {n m:Nat} (hnm:n≤m) (h1:m≤1099511627776) (h2:m*bytes≤1099511627776)
  (h: ∀g w',g=w.heap.size→w'.heap.size=w.heap.size+1→At w' g (rowZ zero m)→Only [] w w'→(fl=true∨SB L w0 w')∧VT P L w0 rest (putO ρ d (.slice (some ⟨g,0,none⟩) n m)) w' C):MksS P fl L w0 e bytes zero (.int k n) (.int k' m) d rest ρ w C:=
 ⟨k,k',n,m,rfl,rfl,hnm,h1,h2,h _ _ rfl (by simp) (At.alloc w _ e) (Only.alloc [] w _)⟩
theorem appS {sz bytes:Nat} {s x:Value} {n m:Nat} {xs us:List Value} {fp:List Nat} (hs:Sl w sz s n xs fp) (hx:SrcIs w sz x m us) (h1: ∀u,u∈us→oneC u=true) (h2:n+m≤1099511627776) (h3:(n+m)*bytes≤1099511627776)
  (h: ∀v' w' fp',Sl w' sz v' (n+m) (xs++us) fp'→(fp'=fp∨fp'=[w.heap.size])→Only fp w w'→AppI s v' n m fp fp'→(fl=true∨SB L w0 w')∧VT P L w0 rest (putO ρ d v') w' C):AppS P fl L w0 sz bytes s x d rest ρ w C:=
 ⟨n,xs,fp,m,us,hs.toW,hx,h1,h2,h3,fun v' w' fp' _ k=>h v' w' fp' (k hs)⟩
theorem callVS {f:Value} {args:List Value} {g:Nat} {vs:List Value} {R:Value→World→Prop} (hv:callVals f args=some (g,vs)) (ho:okF P g=true) (h:Cs P g vs w R) (k: ∀v w',R v w'→(fl=true∨SB L w0 w')∧VT P L w0 rest (putO ρ d v) w' C):CallVS P fl L w0 f args d rest ρ w C:=
 .inl ⟨g,vs,hv,ho,h.mono k⟩
theorem yieldS {l:Nat} {args:List Value} {R:Value→World→Prop} (h:Ys P l args w R) (k: ∀v w',R v w'→(fl=true∨SB L w0 w')∧VT P L w0 rest (putO ρ d v) w' C):CallVS P fl L w0 (.func (.yield l) #[] #[]) args d rest ρ w C:=
 .inr ⟨l,rfl,h.mono k⟩
theorem VT_call (f:Nat) (args:List Operand):VT P L w0 (.a fl ⟨d,none,.call f args⟩ rest) ρ w C=CallS P fl L w0 f (args.map (ev ρ)) d rest ρ w C:=propext Iff.rfl
theorem boxS {t:TypeId} {cells:List Value} (h: ∀g w',g=w.heap.size→w'.heap.size=w.heap.size+1→At w' g cells→Only [] w w'→(fl=true∨SB L w0 w')∧VT P L w0 rest (putO ρ d (.pointer (some ⟨g,0,none⟩))) w' C):BoxS P fl L w0 t cells d rest ρ w C:=
 h _ _ rfl (by simp) (At.alloc w cells t) (Only.alloc [] w _)
theorem stS {b i:Nat} {vs:List Value} {v:Value} (h:At w b vs) (hi:i<vs.length) (hv:oneC v=true)
  (k: ∀w',w'.heap.size=w.heap.size→At w' b (vs.set i v)→Only [b] w w'→(fl=true∨SB L w0 w')∧VT P L w0 rest (putO ρ d undef) w' C):StS P fl L w0 (.pointer (some ⟨b,i,none⟩)) v d rest ρ w C:=
 ⟨_,rfl,hv,by rw[h.cell];simp[hi],h.free i,k _ (by simp) (h.set i v) (Only.setCell w ⟨b,i,none⟩ v)⟩
theorem callS {f:FuncId} {args:List Value} {R:Value→World→Prop} (h:Cs P f args w R) (k: ∀v w',R v w'→(fl=true∨SB L w0 w')∧VT P L w0 rest (putO ρ d v) w' C):CallS P fl L w0 f args d rest ρ w C:=
 h.mono k
theorem callS0 {f:FuncId} {args:List Value} {a:Value} (h:Cs P f args w fun v w'=>v=a∧w'=w) (hs:fl=true∨SB L w0 w) (k:VT P L w0 rest (putO ρ d a) w C):CallS P fl L w0 f args d rest ρ w C:=
 h.mono fun v w' e=>by rw[e.1,e.2];exact⟨hs,k⟩
theorem callS1 {f:FuncId} {args:List Value} {a:Value} {S:List Nat} (h:Cs P f args w fun v w'=>v=a∧Only S w w') (hs:fl=true∨(SB L w0 w∧ ∀b,b∈L→b<w.heap.size∧b∉S)) (k: ∀w',Only S w w'→VT P L w0 rest (putO ρ d a) w' C):CallS P fl L w0 f args d rest ρ w C:=
 h.mono fun v w' e=>by rw[e.1];exact⟨hs.imp id fun h=>h.1.only e.2 h.2,k _ e.2⟩
end
attribute [irreducible] VT GdA AndS BoxS StS StNS CallS GdS BslS MksS AppS CallVS RunS RunUS
end Go.Proofs.YteiildhelefodaaGreat
