import Derived.Test.YthamnonkfepafaaGreatZEngH
set_option linter.unusedSimpArgs false
set_option linter.unusedVariables false
namespace Go.Proofs.YthamnonkfepafaaGreat
def iC (b:List XR) (ρ:Env) (w:World) (R:Value→World→Prop):Prop:=match qN b ρ w with|some v=>R v w|none=>False
theorem Dd (t:Nat) (ρ:Env) (w:World) (R:Value→World→Prop):iC [.t t] ρ w R=R (ρ t) w:=propext Iff.rfl
theorem De (ρ:Env) (w:World) (R:Value→World→Prop):iC [] ρ w R=R (.tuple #[]) w:=propext Iff.rfl
theorem Am (t u:Nat) (ρ:Env) (w:World) (R:Value→World→Prop):iC [.t t,.t u] ρ w R=R (.tuple #[ρ t,ρ u]) w:=propext Iff.rfl
def xq (o:Option Value) (w:World) (R:Value→World→Prop):Prop:=match o with|some v=>R v w|none=>False
theorem uQ (v:Value) (w:World) (R:Value→World→Prop):xq (some v) w R=R v w:=propext Iff.rfl
theorem An (a n:Nat) (ρ:Env) (w:World) (R:Value→World→Prop):iC [.cN a n] ρ w R=xq (eR w n (ρ a)) w R:=propext Iff.rfl
section
variable {P:Program} {f:FX} {kx:List XI} {ρ:Env} {w:World} {R:Value→World→Prop}
theorem xr (h:iC f.rs ρ w R) (b:f.ro=none:=by rfl) (d:f.ds=[]:=by rfl):bD P f (.code .ret::kx) ρ w R:=by
 unfold iC at h;split at h
 ·rename_i v j;exact Ai b d j h
 ·exact h.elim
theorem xt (h:iC f.rs ρ w R) (b:f.ro=none:=by rfl) (d:f.ds=[]:=by rfl):bD P f [] ρ w R:=by
 unfold iC at h;split at h
 ·rename_i v j;exact Aj b d j h
 ·exact h.elim
theorem uR {D:Nat} (j:w.heap[D]? =some (.deferred (some []))) (h: ∀w',w'.heap.size=w.heap.size→ad [D] w w'→iC f.rs ρ w' R) (b:f.ro=none:=by rfl) (d:f.ds=[{target:=.collected D,args:=#[]}]:=by rfl):bD P f (.code .ret::kx) ρ w R:=
 xo b d j fun w' k l=>by
  have:=h w' k l
  unfold iC at this
  split at this
  ·rename_i v m;exact⟨v,m,this⟩
  ·exact this.elim
theorem jo {x:aS} {args:List Value} (k:f.ok P) (b:f.ro=none) (d:f.ds=[]) (j:f.fn.body.bind (ns P f.fn.ntmps false)=some x) (l:Nat.ble args.length f.fn.ntmps=true)
  (h:bD P f [.code x] (fW args 0) w R):Cs P f.F args w R:=by
 obtain⟨c,m,j⟩:=Option.bind_eq_some_iff.1 j;exact uO k b d m j (Nat.le_of_ble_eq_true l) h
def jY (P:Program) (f:FX) (v:Value) (a b:aS) (kx:List XI) (ρ:Env) (w:World) (R:Value→World→Prop):Prop:=
 ∃t,v=.bool t∧(t=true→bD P f (.code a::kx) ρ w R)∧(t=false→bD P f (.code b::kx) ρ w R)
theorem oA {c:Operand} {a b:aS} (h:jY P f (ev ρ c) a b kx ρ w R):bD P f (.code (.cond c a b)::kx) ρ w R:=
 let ⟨_,d,j,k⟩:=h;xl d j k
theorem Ao (a b:aS):jY P f (.bool true) a b kx ρ w R=bD P f (.code a::kx) ρ w R:=by
 unfold jY;simp
theorem Ap (a b:aS):jY P f (.bool false) a b kx ρ w R=bD P f (.code b::kx) ρ w R:=by
 unfold jY;simp
theorem cD {t:Bool} {a b:aS} (d:t=true→bD P f (.code a::kx) ρ w R) (j:t=false→bD P f (.code b::kx) ρ w R):jY P f (.bool t) a b kx ρ w R:=⟨t,rfl,d,j⟩
end
theorem DS {P:Program} {f:FX} {kx:List XI} {ρ:Env} {w:World} {R:Value→World→Prop} {a b:aS} (h:bD P f (.code a::.code b::kx) ρ w R):bD P f (.code (.seq a b)::kx) ρ w R:=run_seq h
theorem DT {P:Program} {f:FX} {kx:List XI} {ρ:Env} {w:World} {R:Value→World→Prop} {xs:List XO} (h:VO P xs ρ w fun b w'=>bD P f kx b w' R):bD P f (.code (.dg xs)::kx) ρ w R:=tu h
theorem JK {P:Program} {f:FX} {kx:List XI} {ρ:Env} {w:World} {R:Value→World→Prop} {id:Nat} {a:aS} (h:bD P f (.code a::.yL id::kx) ρ w R):bD P f (.code (.block id a)::kx) ρ w R:=iV h
theorem DU {P:Program} {f:FX} {kx:List XI} {ρ:Env} {w:World} {R:Value→World→Prop} {id:Nat} (h:bD P f kx ρ w R):bD P f (.yL id::kx) ρ w R:=Ag h
theorem DV {P:Program} {f:FX} {kx:List XI} {ρ:Env} {w:World} {R:Value→World→Prop} (h:bD P f kx ρ w R):bD P f (.code .skip::kx) ρ w R:=qP h
theorem ch {P:Program} {f:FX} {kx:List XI} {ρ:Env} {w:World} {R:Value→World→Prop} {id:Nat} {b:List XI} (d:jX id kx=some b) (h:bD P f b ρ w R):bD P f (.code (.exit id)::kx) ρ w R:=xm d h
theorem FM {P:Program} {f:FX} {kx:List XI} {ρ:Env} {w:World} {R:Value→World→Prop} {xs:List XO} (h:VO P xs ρ w.drew fun b w'=>bD P f kx b w' R) (d:f.ro=none:=by rfl):bD P f (.code (.Bt xs)::kx) ρ w R:=Ah h d
theorem FN {P:Program} {f:FX} {kx:List XI} {ρ:Env} {w:World} {R:Value→World→Prop} {c:Operand} {a b:aS} (h:jY P f (ev ρ c) a b kx ρ w R):bD P f (.code (.cond c a b)::kx) ρ w R:=oA h
theorem FO {P:Program} {f:FX} {kx:List XI} {ρ:Env} {w:World} {R:Value→World→Prop} (h:iC f.rs ρ w R) (b:f.ro=none:=by rfl) (d:f.ds=[]:=by rfl):bD P f (.code .ret::kx) ρ w R:=xr h b d
theorem FP {P:Program} {f:FX} {ρ:Env} {w:World} {R:Value→World→Prop} (h:iC f.rs ρ w R) (b:f.ro=none:=by rfl) (d:f.ds=[]:=by rfl):bD P f [] ρ w R:=xt h b d
theorem Aq (t:Bool) (a b:Value):qx (.bool t) a b=some (if t then a else b):=Eq.trans rfl rfl
theorem xu (p:Addr):kr (.pointer (some p))=some (.pointer (some p)):=Eq.trans rfl rfl
theorem Ar (w:World) (p:Addr):jP w (.pointer (some p))=w.cell? p:=Eq.trans rfl rfl
theorem xv (w:World) (n:Nat) (p:Addr):eR w n (.pointer (some p))=pA (aI w p n):=Eq.trans rfl rfl
theorem uS (xs:List Value):pA (some xs)=some (.agg ⟨xs⟩):=Eq.trans rfl rfl
theorem FQ (o:Nat) (p:Addr):Fk o (.pointer (some p))=some (.pointer (some (p.add o))):=Eq.trans rfl rfl
theorem FT (s:Nat) (p:Addr) (len cap:Nat) (k:IntKind) (j:Int):Fo s (.slice (some p) len cap) (.int k j)=if 0≤j∧j<(len:Int)then some (.pointer (some (p.add (j.toNat*s))))else none:=Eq.trans rfl rfl
theorem sv (n:Nat) (v:Value):ik (n:Int) v=some v:=by simp[ik]
section
variable (k k':IntKind) (a b:Int)
theorem xw:cI .shl (.int k a) (.int k' b)=ik b (.int k (k.wrap (a*2^(min b.toNat k.bits)))):=Eq.trans rfl rfl
theorem xx:cI .shr (.int k a) (.int k' b)=ik b (.int k (a.fdiv (2^(min b.toNat k.bits)))):=Eq.trans rfl rfl
theorem xy:cI .add (.int k a) (.int k b)=some (.int k (k.wrap (a+b))):=by simp[cI,jf]
theorem xz:cI .sub (.int k a) (.int k b)=some (.int k (k.wrap (a-b))):=by simp[cI,jf]
theorem xA:cI .mul (.int k a) (.int k b)=some (.int k (k.wrap (a*b))):=by simp[cI,jf]
theorem xB:cI .quo (.int k a) (.int k b)=mz b (.int k (k.wrap (a.tdiv b))):=by simp[cI,jf]
theorem xC:cI .rem (.int k a) (.int k b)=mz b (.int k (a.tmod b)):=by simp[cI,jf]
theorem xD:cI .and (.int k a) (.int k b)=some (.int k (dz .and k a b)):=by simp[cI,jf]
theorem As:cI .or (.int k a) (.int k b)=some (.int k (dz .or k a b)):=by simp[cI,jf]
theorem qT:cI .andNot (.int k a) (.int k b)=some (.int k (dz .andNot k a b)):=by simp[cI,jf]
theorem xE:cI .eql (.int k a) (.int k b)=some (.bool (a==b)):=by simp[cI,jf]
theorem xF:cI .neq (.int k a) (.int k b)=some (.bool (a !=b)):=by simp[cI,jf]
theorem xG:cI .lss (.int k a) (.int k b)=some (.bool (decide (a<b))):=by simp[cI,jf]
theorem xH:cI .leq (.int k a) (.int k b)=some (.bool (decide (a≤b))):=by simp[cI,jf]
theorem xI:cI .gtr (.int k a) (.int k b)=some (.bool (decide (b<a))):=by simp[cI,jf]
theorem xJ:cI .geq (.int k a) (.int k b)=some (.bool (decide (b≤a))):=by simp[cI,jf]
end
theorem Au (v:Value):mz 64 v=some v:=Eq.trans rfl rfl
theorem Av (n:Bool):wQ n (.pointer none) (.pointer none)=some (.bool (!n)):=Eq.trans rfl rfl
theorem Aw (n:Bool) (p:Addr):wQ n (.pointer (some p)) (.pointer none)=some (.bool n):=Eq.trans rfl rfl
theorem Ax (n:Bool) (l c b c':Nat):wR n (.slice none l c) (.slice none b c')=some (.bool (!n)):=by cases n<;>rfl
theorem Ay (n:Bool) (p:Addr) (l c b c':Nat):wR n (.slice (some p) l c) (.slice none b c')=some (.bool n):=Eq.trans rfl rfl
theorem FU (b:Bool):Fs (.bool b)=some (.bool !b):=Eq.trans rfl rfl
theorem Az (k j:IntKind) (n:Int):tn k (.int j n)=some (.int k (k.wrap n)):=Eq.trans rfl rfl
theorem Df (a:Value) (vs:List Value):uq (.tuple ⟨a::vs⟩) 0=some a:=Eq.trans rfl rfl
theorem Dg (a b:Value) (vs:List Value):uq (.tuple ⟨a::b::vs⟩) 1=some b:=Eq.trans rfl rfl
theorem Dh (a:Option Addr) (n c:Nat):wS (.slice a n c)=some (.int .i64 n):=Eq.trans rfl rfl
theorem uU (k:IntKind) (a b:Int):mB true (.int k a) (.int k b)=some (.int k (max a b)):=by simp[mB]
theorem uV (k:IntKind) (a b:Int):mB false (.int k a) (.int k b)=some (.int k (min a b)):=by simp[mB]
theorem bA (g:Nat) (a:Array Value) (args:List Value) (c:Array Value):iq (.func (.func g) a c) args=some (g,a.toList++args++c.toList):=Eq.trans rfl rfl
theorem uW (cs:List Value):cV cs []=some cs:=Eq.trans rfl rfl
theorem ai {cs:List Value} {off:Nat} {v:Value} {r:List (Nat×Nat×Value)} (b:bu v=true) (d:Nat.ble (off+1) cs.length=true):cV cs ((off,1,v)::r)=cV (cs.set off v) r:=by
 simp only[cV,(jR b).2];rw[if_pos ⟨rfl,Nat.le_of_ble_eq_true d⟩];rfl
theorem Di (ρ:Env) (o s:Nat) (x:Operand):tl ρ (o,s,x)=(o,s,ev ρ x):=Eq.trans rfl rfl
theorem wA (neg:Bool) (n:Nat) (xs ys:List Value) (b:xs.length=n) (d:ys.length=n):rV neg n (.agg ⟨xs⟩) (.agg ⟨ys⟩)=wB neg (bS xs ys):=by simp[rV,b,d]
theorem oB (neg r:Bool):wB neg (some r)=some (.bool (r !=neg)):=Eq.trans rfl rfl
theorem kO:bS [] []=some true:=Eq.trans rfl rfl
theorem jZ (k:IntKind) (a b:Int) (xs ys:List Value):bS (.int k a::xs) (.int k b::ys)=if a==b then bS xs ys else some false:=by simp[bS]
theorem gy (z:Value) (n:Nat):eP [z] n=List.replicate n z:=by
 simp only[eP,List.length_singleton,Nat.mul_one,Nat.mod_one];apply List.ext_getElem
 ·simp
 ·intro i b d;simp
theorem uX (ρ:Env) (p:Nat) (b:List Nat) (v:Value) (vs:List Value):uP ρ (p::b) (v::vs)=uP (put ρ p v) b vs:=Eq.trans rfl rfl
theorem xK (ρ:Env) (vs:List Value):uP ρ [] vs=ρ:=by cases vs<;>rfl
theorem uY (i:Nat):fW [] i=E0:=Eq.trans rfl rfl
theorem sw (v:Value) (vs:List Value) (i:Nat):fW (v::vs) i=put (fW vs (i+1)) i v:=Eq.trans rfl rfl
attribute [irreducible] iC xq jY
theorem xL (t:TypeId) (v:Value):kr (.iface t v)=some (.iface t v):=Eq.trans rfl rfl
attribute [go_sem] xL zX xa zY CG zZ xb z' xg
attribute [go_sem] Cr wY Cm Cn Co Cp Cq Fu zU wZ Fv Ct Fw Fx Cu Cv Cw Fy zV Cx Cy Cz zW CA CB Fz CC Aa CH CI CJ CK CL xc uE uB uC pj pk wD tf Aq xu Ar xv uS FQ FT sv xw xx xy xz xA xB xC xD As qT xE xF xG xH xI xJ Au Av Aw Ax Ay FU Az Df Dg Dh uU uV bA uW Di oB kO jZ gy bX uY sw uX xK pJ Ao Ap Dd De Am An uQ
attribute [go_sem] List.map_cons List.map_nil List.getElem?_cons_zero List.getElem?_cons_succ Nat.zero_add Nat.add_zero Option.map_some Option.map_none Bool.not_true Bool.not_false decide_true decide_false List.toList_toArray List.append_nil List.nil_append List.cons_append List.set_cons_zero List.set_cons_succ List.length_cons List.length_nil List.map_toArray World.cell?_drew and_self and_true true_and
attribute [go_sem] uJ xe uK FD CR CU CQ CS CV FE Ab xf FF FG CW FH FI CX FJ Ac Ad CY CZ C0 C1 FK C5 C6 C7 C8 xh Af List.mem_cons List.not_mem_nil eq_self true_or or_true or_false List.contains_cons List.contains_nil Bool.or_true Bool.true_or Bool.or_false Bool.false_or
class Nx (g:Prop) (n:outParam Prop):Prop where
 Me:n→g
theorem nx {g n:Prop} [h:Nx g n] (x:n):g:=h.Me x
section
variable {P:Program} {f:FX} {kx:List XI} {ρ:Env} {w:World} {R:Value→World→Prop}
instance Mf {a b:aS}:Nx (bD P f (.code (.seq a b)::kx) ρ w R) (bD P f (.code a::.code b::kx) ρ w R):=⟨DS⟩
instance Mg {xs:List XO}:Nx (bD P f (.code (.dg xs)::kx) ρ w R) (VO P xs ρ w fun b w'=>bD P f kx b w' R):=⟨DT⟩
instance Mh {id:Nat} {a:aS}:Nx (bD P f (.code (.block id a)::kx) ρ w R) (bD P f (.code a::.yL id::kx) ρ w R):=⟨JK⟩
instance Mi {id:Nat}:Nx (bD P f (.yL id::kx) ρ w R) (bD P f kx ρ w R):=⟨DU⟩
instance Mj:Nx (bD P f (.code .skip::kx) ρ w R) (bD P f kx ρ w R):=⟨DV⟩
instance Mk {c:Operand} {a b:aS}:Nx (bD P f (.code (.cond c a b)::kx) ρ w R) (jY P f (ev ρ c) a b kx ρ w R):=⟨FN⟩
end
attribute [go_sem_proc ↓] reduceIte
attribute [go_sem_proc] Nat.reduceAdd Nat.reduceEqDiff Nat.reduceBEq reduceCtorEq Int.reduceBEq Int.reduceBNe Int.reduceLT Int.reduceLE
class Ig (f:FX):Prop where
 GK:f.ro=none
class Dj (f:FX):Prop where
 GK:f.ro=none
 fds:f.ds=[]
instance JL {i:FuncId} {F:Func} {b:List XR} {ds:List Deferred}:Ig ⟨i,F,b,none,ds⟩:=⟨rfl⟩
instance JM {i:FuncId} {F:Func} {b:List XR}:Dj ⟨i,F,b,none,[]⟩:=⟨rfl,rfl⟩
section
variable {P:Program} {f:FX} {kx:List XI} {ρ:Env} {w:World} {R:Value→World→Prop}
instance Ml {xs:List XO} [Ig f]:Nx (bD P f (.code (.Bt xs)::kx) ρ w R) (VO P xs ρ w.drew fun b w'=>bD P f kx b w' R):=⟨fun h=>FM h Ig.GK⟩
instance Mm [Dj f]:Nx (bD P f (.code .ret::kx) ρ w R) (iC f.rs ρ w R):=⟨fun h=>FO h Dj.GK Dj.fds⟩
instance Mn [Dj f]:Nx (bD P f [] ρ w R) (iC f.rs ρ w R):=⟨fun h=>FP h Dj.GK Dj.fds⟩
end
abbrev Gh (P:Program) (f:FX) (x:aS) (n:Nat) (id:FuncId):Prop:= ∀ {args:List Value} {w:World} {R:Value→World→Prop},Nat.ble args.length n=true→bD P f [.code x] (fW args 0) w R→Cs P id args w R
theorem lK {P:Program} {f:FX} {x:aS} {n:Nat} (j:f.ok P) (k:f.fn.body.bind (ns P f.fn.ntmps false)=some x) (l:f.fn.ntmps=n) (b:f.ro=none:=by rfl) (d:f.ds=[]:=by rfl):Gh P f x n f.F:=fun m o=>jo j b d k (by rw[l];exact m) o
theorem vk {S:List Nat} {ρ:Env}:bb S ρ ρ:=bb.refl _ _
theorem gO {g k:Prop} (h:k) (e:k→g:=by intro h;(repeat(first|with_reducible(first|refine nx ?_|refine ch rfl ?_)|simp only[go_sem]));exact h):g:=e h
theorem aQ {b g k:Prop} (d:b) (h:k) (e:b→k→g:=by intro f h;(repeat(first|with_reducible(first|refine nx ?_|refine ch rfl ?_)|simp only[go_sem,f]));exact h):g:=e d h
theorem bj {b d g k:Prop} (j:b) (l:d) (h:k) (e:b∧d→k→g:=by intro f h;(repeat(first|with_reducible(first|refine nx ?_|refine ch rfl ?_)|simp only[go_sem,f]));exact h):g:=e ⟨j,l⟩ h
theorem db {b d j g k:Prop} (l:b) (m:d) (o:j) (h:k) (e:b∧d∧j→k→g:=by intro f h;(repeat(first|with_reducible(first|refine nx ?_|refine ch rfl ?_)|simp only[go_sem,f]));exact h):g:=e ⟨l,m,o⟩ h
theorem jI {b d j l g k:Prop} (m:b) (o:d) (q:j) (r:l) (h:k) (e:b∧d∧j∧l→k→g:=by intro f h;(repeat(first|with_reducible(first|refine nx ?_|refine ch rfl ?_)|simp only[go_sem,f]));exact h):g:=e ⟨m,o,q,r⟩ h
theorem jr {b d j l m g k:Prop} (o:b) (q:d) (r:j) (t:l) (u:m) (h:k) (e:b∧d∧j∧l∧m→k→g:=by intro f h;(repeat(first|with_reducible(first|refine nx ?_|refine ch rfl ?_)|simp only[go_sem,f]));exact h):g:=e ⟨o,q,r,t,u⟩ h
theorem kZ {b d j l m o g k:Prop} (q:b) (r:d) (t:j) (u:l) (w:m) (y:o) (h:k) (e:b∧d∧j∧l∧m∧o→k→g:=by intro f h;(repeat(first|with_reducible(first|refine nx ?_|refine ch rfl ?_)|simp only[go_sem,f]));exact h):g:=e ⟨q,r,t,u,w,y⟩ h
theorem nX {b d j l m o q g k:Prop} (r:b) (t:d) (u:j) (w:l) (y:m) (z:o) (B:q) (h:k) (e:b∧d∧j∧l∧m∧o∧q→k→g:=by intro f h;(repeat(first|with_reducible(first|refine nx ?_|refine ch rfl ?_)|simp only[go_sem,f]));exact h):g:=e ⟨r,t,u,w,y,z,B⟩ h
theorem vS {b d j l m o q r g k:Prop} (t:b) (u:d) (w:j) (y:l) (z:m) (B:o) (C:q) (D:r) (h:k) (e:b∧d∧j∧l∧m∧o∧q∧r→k→g:=by intro f h;(repeat(first|with_reducible(first|refine nx ?_|refine ch rfl ?_)|simp only[go_sem,f]));exact h):g:=e ⟨t,u,w,y,z,B,C,D⟩ h
theorem FV {b d j l m o q r t g k:Prop} (u:b) (w:d) (y:j) (z:l) (B:m) (C:o) (D:q) (E:r) (F:t) (h:k) (e:b∧d∧j∧l∧m∧o∧q∧r∧t→k→g:=by intro f h;(repeat(first|with_reducible(first|refine nx ?_|refine ch rfl ?_)|simp only[go_sem,f]));exact h):g:=e ⟨u,w,y,z,B,C,D,E,F⟩ h
theorem Ih {j l m o q r t u w b g k:Prop} (y:j) (z:l) (B:m) (C:o) (D:q) (E:r) (F:t) (G:u) (H:w) (d:b) (h:k) (e:j∧l∧m∧o∧q∧r∧t∧u∧w∧b→k→g:=by intro f h;(repeat(first|with_reducible(first|refine nx ?_|refine ch rfl ?_)|simp only[go_sem,f]));exact h):g:=e ⟨y,z,B,C,D,E,F,G,H,d⟩ h
theorem xM {m o q r t u w y z b d g k:Prop} (B:m) (C:o) (D:q) (E:r) (F:t) (G:u) (H:w) (I:y) (J:z) (j:b) (l:d) (h:k) (e:m∧o∧q∧r∧t∧u∧w∧y∧z∧b∧d→k→g:=by intro f h;(repeat(first|with_reducible(first|refine nx ?_|refine ch rfl ?_)|simp only[go_sem,f]));exact h):g:=e ⟨B,C,D,E,F,G,H,I,J,j,l⟩ h
theorem AA {q r t u w y z B C b d j g k:Prop} (D:q) (E:r) (F:t) (G:u) (H:w) (I:y) (J:z) (K:B) (L:C) (l:b) (m:d) (o:j) (h:k) (e:q∧r∧t∧u∧w∧y∧z∧B∧C∧b∧d∧j→k→g:=by intro f h;(repeat(first|with_reducible(first|refine nx ?_|refine ch rfl ?_)|simp only[go_sem,f]));exact h):g:=e ⟨D,E,F,G,H,I,J,K,L,l,m,o⟩ h
theorem Ii {t u w y z B C D E b d j l g k:Prop} (F:t) (G:u) (H:w) (I:y) (J:z) (K:B) (L:C) (M:D) (N:E) (m:b) (o:d) (q:j) (r:l) (h:k) (e:t∧u∧w∧y∧z∧B∧C∧D∧E∧b∧d∧j∧l→k→g:=by intro f h;(repeat(first|with_reducible(first|refine nx ?_|refine ch rfl ?_)|simp only[go_sem,f]));exact h):g:=e ⟨F,G,H,I,J,K,L,M,N,m,o,q,r⟩ h
theorem Mo {w y z B C D E F G b d j l m g k:Prop} (H:w) (I:y) (J:z) (K:B) (L:C) (M:D) (N:E) (O:F) (P:G) (o:b) (q:d) (r:j) (t:l) (u:m) (h:k) (e:w∧y∧z∧B∧C∧D∧E∧F∧G∧b∧d∧j∧l∧m→k→g:=by intro f h;(repeat(first|with_reducible(first|refine nx ?_|refine ch rfl ?_)|simp only[go_sem,f]));exact h):g:=e ⟨H,I,J,K,L,M,N,O,P,o,q,r,t,u⟩ h
abbrev u (n:Nat):Operand:=.tmp n
abbrev uI (n:Int):Operand:=.const (.int .i64 n)
abbrev uT:Operand:=.const (.bool true)
abbrev uF:Operand:=.const (.bool false)
abbrev aO (d:Nat) (b:XB):XO:=⟨some d,none,b⟩
abbrev aT (d g:Nat) (b:XB):XO:=⟨some d,some (g,true),b⟩
abbrev aF (d g:Nat) (b:XB):XO:=⟨some d,some (g,false),b⟩
abbrev aN (b:XB):XO:=⟨none,none,b⟩
abbrev mO (d s:Nat):XO:=⟨some d,none,.mv (.tmp s)⟩
abbrev mI (d:Nat) (n:Int):XO:=⟨some d,none,.mv (.const (.int .i64 n))⟩
abbrev lO (d s:Nat):XO:=⟨some d,none,.ld (.tmp s)⟩
abbrev fO (d o s:Nat):XO:=⟨some d,none,.fa o (.tmp s)⟩
abbrev nO (d s:Nat):XO:=⟨some d,none,.nilck (.tmp s)⟩
abbrev eO (d s i:Nat):XO:=⟨some d,none,.ext (.tmp s) i⟩
abbrev iO (d k s t:Nat):XO:=⟨some d,none,.ia k (.tmp s) (.tmp t)⟩
abbrev z0:List Value:=[.int .i64 0]
end Go.Proofs.YthamnonkfepafaaGreat
