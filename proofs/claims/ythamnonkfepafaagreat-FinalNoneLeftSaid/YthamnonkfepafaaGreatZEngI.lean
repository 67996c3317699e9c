import Derived.Test.YthamnonkfepafaaGreatZEngH
set_option linter.unusedSimpArgs false
set_option linter.unusedVariables false
namespace Go.Proofs.YthamnonkfepafaaGreat
def ku (b:List XR) (ρ:Env) (w:World) (R:Value→World→Prop):Prop:=match uo b ρ w with|some v=>R v w|none=>False
theorem Lc (t:Nat) (ρ:Env) (w:World) (R:Value→World→Prop):ku [.t t] ρ w R=R (ρ t) w:=propext Iff.rfl
theorem Ld (ρ:Env) (w:World) (R:Value→World→Prop):ku [] ρ w R=R (.tuple #[]) w:=propext Iff.rfl
theorem HF (t u:Nat) (ρ:Env) (w:World) (R:Value→World→Prop):ku [.t t,.t u] ρ w R=R (.tuple #[ρ t,ρ u]) w:=propext Iff.rfl
def wE (o:Option Value) (w:World) (R:Value→World→Prop):Prop:=match o with|some v=>R v w|none=>False
theorem CC (v:Value) (w:World) (R:Value→World→Prop):wE (some v) w R=R v w:=propext Iff.rfl
theorem HG (a n:Nat) (ρ:Env) (w:World) (R:Value→World→Prop):ku [.cN a n] ρ w R=wE (fG w n (ρ a)) w R:=propext Iff.rfl
section
variable {P:Program} {f:FX} {kx:List XI} {ρ:Env} {w:World} {R:Value→World→Prop}
theorem Eo (h:ku f.rs ρ w R) (b:f.ro=none:=by rfl) (d:f.ds=[]:=by rfl):dr P f (.code .ret::kx) ρ w R:=by
 unfold ku at h;split at h
 ·rename_i v j;exact HD b d j h
 ·exact h.elim
theorem Ep (h:ku f.rs ρ w R) (b:f.ro=none:=by rfl) (d:f.ds=[]:=by rfl):dr P f [] ρ w R:=by
 unfold ku at h;split at h
 ·rename_i v j;exact HE b d j h
 ·exact h.elim
theorem uR {D:Nat} (j:w.heap[D]? =some (.deferred (some []))) (h: ∀w',w'.heap.size=w.heap.size→ae [D] w w'→ku f.rs ρ w' R) (b:f.ro=none:=by rfl) (d:f.ds=[{target:=.collected D,args:=#[]}]:=by rfl):dr P f (.code .ret::kx) ρ w R:=
 Ek b d j fun w' k l=>by
  have:=h w' k l
  unfold ku at this
  split at this
  ·rename_i v m;exact⟨v,m,this⟩
  ·exact this.elim
theorem la {x:bu} {args:List Value} (k:f.ok P) (b:f.ro=none) (d:f.ds=[]) (j:f.fn.body.bind (uh P f.fn.ntmps false)=some x) (l:Nat.ble args.length f.fn.ntmps=true)
  (h:dr P f [.code x] (jX args 0) w R):Cs P f.F args w R:=by
 obtain⟨c,m,j⟩:=Option.bind_eq_some_iff.1 j;exact CA k b d m j (Nat.le_of_ble_eq_true l) h
def nA (P:Program) (f:FX) (v:Value) (a b:bu) (kx:List XI) (ρ:Env) (w:World) (R:Value→World→Prop):Prop:=
 ∃t,v=.bool t∧(t=true→dr P f (.code a::kx) ρ w R)∧(t=false→dr P f (.code b::kx) ρ w R)
theorem kM {c:Operand} {a b:bu} (h:nA P f (ev ρ c) a b kx ρ w R):dr P f (.code (.cond c a b)::kx) ρ w R:=
 let ⟨_,d,j,k⟩:=h;Eh d j k
theorem HH (a b:bu):nA P f (.bool true) a b kx ρ w R=dr P f (.code a::kx) ρ w R:=by
 unfold nA;simp
theorem HI (a b:bu):nA P f (.bool false) a b kx ρ w R=dr P f (.code b::kx) ρ w R:=by
 unfold nA;simp
theorem cu {t:Bool} {a b:bu} (d:t=true→dr P f (.code a::kx) ρ w R) (j:t=false→dr P f (.code b::kx) ρ w R):nA P f (.bool t) a b kx ρ w R:=⟨t,rfl,d,j⟩
end
theorem Er {P:Program} {f:FX} {kx:List XI} {ρ:Env} {w:World} {R:Value→World→Prop} {a b:bu} (h:dr P f (.code a::.code b::kx) ρ w R):dr P f (.code (.seq a b)::kx) ρ w R:=run_seq h
theorem Es {P:Program} {f:FX} {kx:List XI} {ρ:Env} {w:World} {R:Value→World→Prop} {xs:List XO} (h:VO P xs ρ w fun b w'=>dr P f kx b w' R):dr P f (.code (.ef xs)::kx) ρ w R:=wx h
theorem SG {P:Program} {f:FX} {kx:List XI} {ρ:Env} {w:World} {R:Value→World→Prop} {id:Nat} {a:bu} (h:dr P f (.code a::.uP id::kx) ρ w R):dr P f (.code (.block id a)::kx) ρ w R:=jb h
theorem Et {P:Program} {f:FX} {kx:List XI} {ρ:Env} {w:World} {R:Value→World→Prop} {id:Nat} (h:dr P f kx ρ w R):dr P f (.uP id::kx) ρ w R:=HB h
theorem Eu {P:Program} {f:FX} {kx:List XI} {ρ:Env} {w:World} {R:Value→World→Prop} (h:dr P f kx ρ w R):dr P f (.code .skip::kx) ρ w R:=mo h
theorem bA {P:Program} {f:FX} {kx:List XI} {ρ:Env} {w:World} {R:Value→World→Prop} {id:Nat} {b:List XI} (d:pa id kx=some b) (h:dr P f b ρ w R):dr P f (.code (.exit id)::kx) ρ w R:=Ei d h
theorem Jf {P:Program} {f:FX} {kx:List XI} {ρ:Env} {w:World} {R:Value→World→Prop} {xs:List XO} (h:VO P xs ρ w.drew fun b w'=>dr P f kx b w' R) (d:f.ro=none:=by rfl):dr P f (.code (.GX xs)::kx) ρ w R:=HC h d
theorem Jg {P:Program} {f:FX} {kx:List XI} {ρ:Env} {w:World} {R:Value→World→Prop} {c:Operand} {a b:bu} (h:nA P f (ev ρ c) a b kx ρ w R):dr P f (.code (.cond c a b)::kx) ρ w R:=kM h
theorem Jh {P:Program} {f:FX} {kx:List XI} {ρ:Env} {w:World} {R:Value→World→Prop} (h:ku f.rs ρ w R) (b:f.ro=none:=by rfl) (d:f.ds=[]:=by rfl):dr P f (.code .ret::kx) ρ w R:=Eo h b d
theorem Ji {P:Program} {f:FX} {ρ:Env} {w:World} {R:Value→World→Prop} (h:ku f.rs ρ w R) (b:f.ro=none:=by rfl) (d:f.ds=[]:=by rfl):dr P f [] ρ w R:=Ep h b d
theorem HJ (t:Bool) (a b:Value):xQ (.bool t) a b=some (if t then a else b):=Eq.trans rfl rfl
theorem Ev (p:Addr):sO (.pointer (some p))=some (.pointer (some p)):=Eq.trans rfl rfl
theorem HK (w:World) (p:Addr):qZ w (.pointer (some p))=w.cell? p:=Eq.trans rfl rfl
theorem Ew (w:World) (n:Nat) (p:Addr):fG w n (.pointer (some p))=sQ (aC w p n):=Eq.trans rfl rfl
theorem CD (xs:List Value):sQ (some xs)=some (.agg ⟨xs⟩):=Eq.trans rfl rfl
theorem Ou (o:Nat) (p:Addr):NY o (.pointer (some p))=some (.pointer (some (p.add o))):=Eq.trans rfl rfl
theorem Ov (s:Nat) (p:Addr) (len cap:Nat) (k:IntKind) (j:Int):N0 s (.slice (some p) len cap) (.int k j)=if 0≤j∧j<(len:Int)then some (.pointer (some (p.add (j.toNat*s))))else none:=Eq.trans rfl rfl
theorem Le (n s:Nat) (p:Addr) (k:IntKind) (j:Int):DQ n s (.pointer (some p)) (.int k j)=if 0≤j∧j<(n:Int)then some (.pointer (some (p.add (j.toNat*s))))else none:=Eq.trans rfl rfl
theorem zZ (n:Nat) (v:Value):mc (n:Int) v=some v:=by simp[mc]
section
variable (k k':IntKind) (a b:Int)
theorem Ex:eW .shl (.int k a) (.int k' b)=mc b (.int k (k.wrap (a*2^(min b.toNat k.bits)))):=Eq.trans rfl rfl
theorem Ey:eW .shr (.int k a) (.int k' b)=mc b (.int k (a.fdiv (2^(min b.toNat k.bits)))):=Eq.trans rfl rfl
theorem Ez:eW .add (.int k a) (.int k b)=some (.int k (k.wrap (a+b))):=by simp[eW,nu]
theorem EA:eW .sub (.int k a) (.int k b)=some (.int k (k.wrap (a-b))):=by simp[eW,nu]
theorem EB:eW .mul (.int k a) (.int k b)=some (.int k (k.wrap (a*b))):=by simp[eW,nu]
theorem EC:eW .quo (.int k a) (.int k b)=ko b (.int k (k.wrap (a.tdiv b))):=by simp[eW,nu]
theorem ED:eW .rem (.int k a) (.int k b)=ko b (.int k (a.tmod b)):=by simp[eW,nu]
theorem EE:eW .and (.int k a) (.int k b)=some (.int k (km .and k a b)):=by simp[eW,nu]
theorem HN:eW .or (.int k a) (.int k b)=some (.int k (km .or k a b)):=by simp[eW,nu]
theorem ym:eW .andNot (.int k a) (.int k b)=some (.int k (km .andNot k a b)):=by simp[eW,nu]
theorem EF:eW .eql (.int k a) (.int k b)=some (.bool (a==b)):=by simp[eW,nu]
theorem EG:eW .neq (.int k a) (.int k b)=some (.bool (a !=b)):=by simp[eW,nu]
theorem EH:eW .lss (.int k a) (.int k b)=some (.bool (decide (a<b))):=by simp[eW,nu]
theorem EI:eW .leq (.int k a) (.int k b)=some (.bool (decide (a≤b))):=by simp[eW,nu]
theorem EJ:eW .gtr (.int k a) (.int k b)=some (.bool (decide (b<a))):=by simp[eW,nu]
theorem EK:eW .geq (.int k a) (.int k b)=some (.bool (decide (b≤a))):=by simp[eW,nu]
end
theorem wF {b:Int} (h:b≠0) (v:Value):ko b v=some v:=by simp[ko,h]
theorem HP (v:Value):ko 64 v=some v:=Eq.trans rfl rfl
theorem Lg (n a b:Bool):G9 n (.bool a) (.bool b)=some (.bool ((a==b) !=n)):=Eq.trans rfl rfl
theorem HQ (n:Bool):DR n (.pointer none) (.pointer none)=some (.bool (!n)):=Eq.trans rfl rfl
theorem HT (n:Bool) (p:Addr):DR n (.pointer (some p)) (.pointer none)=some (.bool n):=Eq.trans rfl rfl
theorem HU (n:Bool) (l c b d:Nat):DS n (.slice none l c) (.slice none b d)=some (.bool (!n)):=by cases n<;>rfl
theorem HV (n:Bool) (p:Addr) (l c b d:Nat):DS n (.slice (some p) l c) (.slice none b d)=some (.bool n):=Eq.trans rfl rfl
theorem Ow (b:Bool):N2 (.bool b)=some (.bool !b):=Eq.trans rfl rfl
theorem HW (k j:IntKind) (n:Int):xR k (.int j n)=some (.int k (k.wrap n)):=Eq.trans rfl rfl
theorem Lh (a:Value) (vs:List Value):zR (.tuple ⟨a::vs⟩) 0=some a:=Eq.trans rfl rfl
theorem Li (a b:Value) (vs:List Value):zR (.tuple ⟨a::b::vs⟩) 1=some b:=Eq.trans rfl rfl
theorem Lj (a b c:Value) (vs:List Value):zR (.tuple ⟨a::b::c::vs⟩) 2=some c:=Eq.trans rfl rfl
theorem Lk (a:Option Addr) (n c:Nat):DT (.slice a n c)=some (.int .i64 n):=Eq.trans rfl rfl
theorem CE (k:IntKind) (a b:Int):sR true (.int k a) (.int k b)=some (.int k (max a b)):=by simp[sR]
theorem CF (k:IntKind) (a b:Int):sR false (.int k a) (.int k b)=some (.int k (min a b)):=by simp[sR]
theorem cQ (g:Nat) (a:Array Value) (args:List Value) (c:Array Value):me (.func (.func g) a c) args=some (g,a.toList++args++c.toList):=Eq.trans rfl rfl
theorem CG (cs:List Value):dQ cs []=some cs:=Eq.trans rfl rfl
theorem ag {cs:List Value} {off:Nat} {v:Value} {r:List (Nat×Nat×Value)} (b:bh v=true) (d:Nat.ble (off+1) cs.length=true):dQ cs ((off,1,v)::r)=dQ (cs.set off v) r:=by
 simp only[dQ,(oV b).2];rw[if_pos ⟨rfl,Nat.le_of_ble_eq_true d⟩];rfl
theorem Ll (ρ:Env) (o s:Nat) (x:Operand):Bf ρ (o,s,x)=(o,s,ev ρ x):=Eq.trans rfl rfl
theorem wG (neg:Bool) (n:Nat) (xs ys:List Value) (b:xs.length=n) (d:ys.length=n):uk neg n (.agg ⟨xs⟩) (.agg ⟨ys⟩)=G' neg (dx xs ys):=by simp[uk,b,d]
theorem mX (neg r:Bool):G' neg (some r)=some (.bool (r !=neg)):=Eq.trans rfl rfl
theorem j4:dx [] []=some true:=Eq.trans rfl rfl
theorem gw (k:IntKind) (a b:Int) (xs ys:List Value):dx (.int k a::xs) (.int k b::ys)=if a==b then dx xs ys else some false:=by simp[dx]
theorem gx (z:Value) (n:Nat):il [z] n=List.replicate n z:=by
 simp only[il,List.length_singleton,Nat.mul_one,Nat.mod_one];apply List.ext_getElem
 ·simp
 ·intro i b d;simp
theorem CH (ρ:Env) (p:Nat) (b:List Nat) (v:Value) (vs:List Value):CB ρ (p::b) (v::vs)=CB (put ρ p v) b vs:=Eq.trans rfl rfl
theorem EL (ρ:Env) (vs:List Value):CB ρ [] vs=ρ:=by cases vs<;>rfl
theorem CI (i:Nat):jX [] i=E0:=Eq.trans rfl rfl
theorem z' (v:Value) (vs:List Value) (i:Nat):jX (v::vs) i=put (jX vs (i+1)) i v:=Eq.trans rfl rfl
attribute [irreducible] ku wE nA
attribute [go_sem] D3 Hl Ku D4 Hm D5 Hn D6 Ho Eb Hy Hz
attribute [go_sem] Kd D1 J8 J9 J' Ka Kc N6 Hf D2 N7 Ke N8 N9 Kf Kg Kh Ki Kj N' Hg Hh Kk Hi Kl Km Hj Kn Ko Oa Kr Hq Kv Kw Kx Ky Kz D7 Cr Cp Cq vU vV DD Ba HJ Ev HK Ew CD Ou Ov Le zZ Ex Ey Ez EA EB EC ED EE HN ym EF EG EH EI EJ EK HP Lg HQ HT HU HV Ow HW Lh Li Lj Lk CE CF cQ CG Ll mX j4 gw gx bQ CI z' CH EL wz HH HI Lc Ld HF HG CC
attribute [go_sem] List.map_cons List.map_nil List.getElem?_cons_zero List.getElem?_cons_succ Nat.zero_add Nat.add_zero Option.map_some Option.map_none Bool.not_true Bool.not_false decide_true decide_false List.toList_toArray List.append_nil List.nil_append List.cons_append List.set_cons_zero List.set_cons_succ List.length_cons List.length_nil List.map_toArray World.cell?_drew and_self and_true true_and
attribute [go_sem] Cv D9 Cw Of KC KE KG KI KB KD KF KH KJ Og Hv Ea Oh Oi KL Oj Ol KM KN Om Hw Hx KO KP KQ KR KS On KT KX KY KZ K2 K3 Ec HA List.mem_cons List.not_mem_nil eq_self true_or or_true or_false List.contains_cons List.contains_nil Bool.or_true Bool.true_or Bool.or_false Bool.false_or
class Nx (g:Prop) (n:outParam Prop):Prop where
 nxt:n→g
theorem nx {g n:Prop} [h:Nx g n] (x:n):g:=h.nxt x
section
variable {P:Program} {f:FX} {kx:List XI} {ρ:Env} {w:World} {R:Value→World→Prop}
instance aad {a b:bu}:Nx (dr P f (.code (.seq a b)::kx) ρ w R) (dr P f (.code a::.code b::kx) ρ w R):=⟨Er⟩
instance aae {xs:List XO}:Nx (dr P f (.code (.ef xs)::kx) ρ w R) (VO P xs ρ w fun b w'=>dr P f kx b w' R):=⟨Es⟩
instance aaf {id:Nat} {a:bu}:Nx (dr P f (.code (.block id a)::kx) ρ w R) (dr P f (.code a::.uP id::kx) ρ w R):=⟨SG⟩
instance aag {id:Nat}:Nx (dr P f (.uP id::kx) ρ w R) (dr P f kx ρ w R):=⟨Et⟩
instance aah:Nx (dr P f (.code .skip::kx) ρ w R) (dr P f kx ρ w R):=⟨Eu⟩
instance aai {c:Operand} {a b:bu}:Nx (dr P f (.code (.cond c a b)::kx) ρ w R) (nA P f (ev ρ c) a b kx ρ w R):=⟨Jg⟩
end
attribute [go_sem_proc ↓] reduceIte
attribute [go_sem_proc] Nat.reduceAdd Nat.reduceEqDiff Nat.reduceBEq reduceCtorEq Int.reduceBEq Int.reduceBNe Int.reduceLT Int.reduceLE
class TG (f:FX):Prop where
 SH:f.ro=none
class Lm (f:FX):Prop where
 SH:f.ro=none
 fds:f.ds=[]
instance YJ {i:FuncId} {F:Func} {b:List XR} {ds:List Deferred}:TG ⟨i,F,b,none,ds⟩:=⟨rfl⟩
instance YK {i:FuncId} {F:Func} {b:List XR}:Lm ⟨i,F,b,none,[]⟩:=⟨rfl,rfl⟩
section
variable {P:Program} {f:FX} {kx:List XI} {ρ:Env} {w:World} {R:Value→World→Prop}
instance aaj {xs:List XO} [TG f]:Nx (dr P f (.code (.GX xs)::kx) ρ w R) (VO P xs ρ w.drew fun b w'=>dr P f kx b w' R):=⟨fun h=>Jf h TG.SH⟩
instance aak [Lm f]:Nx (dr P f (.code .ret::kx) ρ w R) (ku f.rs ρ w R):=⟨fun h=>Jh h Lm.SH Lm.fds⟩
instance aal [Lm f]:Nx (dr P f [] ρ w R) (ku f.rs ρ w R):=⟨fun h=>Ji h Lm.SH Lm.fds⟩
end
abbrev NX (P:Program) (f:FX) (x:bu) (n:Nat) (id:FuncId):Prop:= ∀ {args:List Value} {w:World} {R:Value→World→Prop},Nat.ble args.length n=true→dr P f [.code x] (jX args 0) w R→Cs P id args w R
theorem oP {P:Program} {f:FX} {x:bu} {n:Nat} (j:f.ok P) (k:f.fn.body.bind (uh P f.fn.ntmps false)=some x) (l:f.fn.ntmps=n) (b:f.ro=none:=by rfl) (d:f.ds=[]:=by rfl):NX P f x n f.F:=fun m o=>la j b d k (by rw[l];exact m) o
theorem GK {S:List Nat} {ρ:Env}:cw S ρ ρ:=cw.refl _ _
theorem gO {g k:Prop} (h:k) (e:k→g:=by intro h;(repeat(first|with_reducible(first|refine nx ?_|refine bA rfl ?_)|simp only[go_sem]));exact h):g:=e h
theorem aQ {b g k:Prop} (d:b) (h:k) (e:b→k→g:=by intro f h;(repeat(first|with_reducible(first|refine nx ?_|refine bA rfl ?_)|simp only[go_sem,f]));exact h):g:=e d h
theorem aZ {b d g k:Prop} (j:b) (l:d) (h:k) (e:b∧d→k→g:=by intro f h;(repeat(first|with_reducible(first|refine nx ?_|refine bA rfl ?_)|simp only[go_sem,f]));exact h):g:=e ⟨j,l⟩ h
theorem cT {b d j g k:Prop} (l:b) (m:d) (o:j) (h:k) (e:b∧d∧j→k→g:=by intro f h;(repeat(first|with_reducible(first|refine nx ?_|refine bA rfl ?_)|simp only[go_sem,f]));exact h):g:=e ⟨l,m,o⟩ h
theorem eZ {b d j l g k:Prop} (m:b) (o:d) (q:j) (r:l) (h:k) (e:b∧d∧j∧l→k→g:=by intro f h;(repeat(first|with_reducible(first|refine nx ?_|refine bA rfl ?_)|simp only[go_sem,f]));exact h):g:=e ⟨m,o,q,r⟩ h
theorem lY {b d j l m g k:Prop} (o:b) (q:d) (r:j) (t:l) (u:m) (h:k) (e:b∧d∧j∧l∧m→k→g:=by intro f h;(repeat(first|with_reducible(first|refine nx ?_|refine bA rfl ?_)|simp only[go_sem,f]));exact h):g:=e ⟨o,q,r,t,u⟩ h
theorem k0 {b d j l m o g k:Prop} (q:b) (r:d) (t:j) (u:l) (w:m) (y:o) (h:k) (e:b∧d∧j∧l∧m∧o→k→g:=by intro f h;(repeat(first|with_reducible(first|refine nx ?_|refine bA rfl ?_)|simp only[go_sem,f]));exact h):g:=e ⟨q,r,t,u,w,y⟩ h
theorem k7 {b d j l m o q g k:Prop} (r:b) (t:d) (u:j) (w:l) (y:m) (z:o) (B:q) (h:k) (e:b∧d∧j∧l∧m∧o∧q→k→g:=by intro f h;(repeat(first|with_reducible(first|refine nx ?_|refine bA rfl ?_)|simp only[go_sem,f]));exact h):g:=e ⟨r,t,u,w,y,z,B⟩ h
theorem xG {b d j l m o q r g k:Prop} (t:b) (u:d) (w:j) (y:l) (z:m) (B:o) (C:q) (D:r) (h:k) (e:b∧d∧j∧l∧m∧o∧q∧r→k→g:=by intro f h;(repeat(first|with_reducible(first|refine nx ?_|refine bA rfl ?_)|simp only[go_sem,f]));exact h):g:=e ⟨t,u,w,y,z,B,C,D⟩ h
theorem Dx {b d j l m o q r t g k:Prop} (u:b) (w:d) (y:j) (z:l) (B:m) (C:o) (D:q) (E:r) (F:t) (h:k) (e:b∧d∧j∧l∧m∧o∧q∧r∧t→k→g:=by intro f h;(repeat(first|with_reducible(first|refine nx ?_|refine bA rfl ?_)|simp only[go_sem,f]));exact h):g:=e ⟨u,w,y,z,B,C,D,E,F⟩ h
theorem EM {j l m o q r t u w b g k:Prop} (y:j) (z:l) (B:m) (C:o) (D:q) (E:r) (F:t) (G:u) (H:w) (d:b) (h:k) (e:j∧l∧m∧o∧q∧r∧t∧u∧w∧b→k→g:=by intro f h;(repeat(first|with_reducible(first|refine nx ?_|refine bA rfl ?_)|simp only[go_sem,f]));exact h):g:=e ⟨y,z,B,C,D,E,F,G,H,d⟩ h
theorem uq {m o q r t u w y z b d g k:Prop} (B:m) (C:o) (D:q) (E:r) (F:t) (G:u) (H:w) (I:y) (J:z) (j:b) (l:d) (h:k) (e:m∧o∧q∧r∧t∧u∧w∧y∧z∧b∧d→k→g:=by intro f h;(repeat(first|with_reducible(first|refine nx ?_|refine bA rfl ?_)|simp only[go_sem,f]));exact h):g:=e ⟨B,C,D,E,F,G,H,I,J,j,l⟩ h
theorem HX {q r t u w y z B C b d j g k:Prop} (D:q) (E:r) (F:t) (G:u) (H:w) (I:y) (J:z) (K:B) (L:C) (l:b) (m:d) (o:j) (h:k) (e:q∧r∧t∧u∧w∧y∧z∧B∧C∧b∧d∧j→k→g:=by intro f h;(repeat(first|with_reducible(first|refine nx ?_|refine bA rfl ?_)|simp only[go_sem,f]));exact h):g:=e ⟨D,E,F,G,H,I,J,K,L,l,m,o⟩ h
theorem TH {t u w y z B C D E b d j l g k:Prop} (F:t) (G:u) (H:w) (I:y) (J:z) (K:B) (L:C) (M:D) (N:E) (m:b) (o:d) (q:j) (r:l) (h:k) (e:t∧u∧w∧y∧z∧B∧C∧D∧E∧b∧d∧j∧l→k→g:=by intro f h;(repeat(first|with_reducible(first|refine nx ?_|refine bA rfl ?_)|simp only[go_sem,f]));exact h):g:=e ⟨F,G,H,I,J,K,L,M,N,m,o,q,r⟩ h
theorem aam {w y z B C D E F G b d j l m g k:Prop} (H:w) (I:y) (J:z) (K:B) (L:C) (M:D) (N:E) (O:F) (P:G) (o:b) (q:d) (r:j) (t:l) (u:m) (h:k) (e:w∧y∧z∧B∧C∧D∧E∧F∧G∧b∧d∧j∧l∧m→k→g:=by intro f h;(repeat(first|with_reducible(first|refine nx ?_|refine bA rfl ?_)|simp only[go_sem,f]));exact h):g:=e ⟨H,I,J,K,L,M,N,O,P,o,q,r,t,u⟩ h
abbrev u (n:Nat):Operand:=.tmp n
abbrev uI (n:Int):Operand:=.const (.int .i64 n)
abbrev uT:Operand:=.const (.bool true)
abbrev uF:Operand:=.const (.bool false)
abbrev aO (d:Nat) (b:XB):XO:=⟨some d,none,b⟩
abbrev aT (d g:Nat) (b:XB):XO:=⟨some d,some (g,true),b⟩
abbrev aF (d g:Nat) (b:XB):XO:=⟨some d,some (g,false),b⟩
abbrev aN (b:XB):XO:=⟨none,none,b⟩
abbrev mO (d s:Nat):XO:=⟨some d,none,.mv (.tmp s)⟩
abbrev mI (d:Nat) (n:Int):XO:=⟨some d,none,.mv (.const (.int .i64 n))⟩
abbrev lO (d s:Nat):XO:=⟨some d,none,.ld (.tmp s)⟩
abbrev fO (d o s:Nat):XO:=⟨some d,none,.fa o (.tmp s)⟩
abbrev nO (d s:Nat):XO:=⟨some d,none,.nilck (.tmp s)⟩
abbrev eO (d s i:Nat):XO:=⟨some d,none,.ext (.tmp s) i⟩
abbrev iO (d k s t:Nat):XO:=⟨some d,none,.ia k (.tmp s) (.tmp t)⟩
abbrev z0:List Value:=[.int .i64 0]
end Go.Proofs.YthamnonkfepafaaGreat
