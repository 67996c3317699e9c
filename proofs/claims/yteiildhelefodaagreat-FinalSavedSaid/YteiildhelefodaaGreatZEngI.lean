/- The engine: symbolic execution. -/
import Derived.Test.YteiildhelefodaaGreatZEngH
set_option linter.unusedSimpArgs false
set_option linter.unusedVariables false
namespace Go.Proofs.YteiildhelefodaaGreat
def RetV (rs:List XR) (ρ:Env) (w:World) (R:Value→World→Prop):Prop:=match retO rs ρ w with|some v=>R v w|none=>False
theorem RetV_t (t:Nat) (ρ:Env) (w:World) (R:Value→World→Prop):RetV [.t t] ρ w R=R (ρ t) w:=propext Iff.rfl
theorem RetV_0 (ρ:Env) (w:World) (R:Value→World→Prop):RetV [] ρ w R=R (.tuple #[]) w:=propext Iff.rfl
theorem RetV_tt (t u:Nat) (ρ:Env) (w:World) (R:Value→World→Prop):RetV [.t t,.t u] ρ w R=R (.tuple #[ρ t,ρ u]) w:=propext Iff.rfl
def RetC (o:Option Value) (w:World) (R:Value→World→Prop):Prop:=match o with|some v=>R v w|none=>False
theorem RetC_some (v:Value) (w:World) (R:Value→World→Prop):RetC (some v) w R=R v w:=propext Iff.rfl
theorem RetV_cN (a n:Nat) (ρ:Env) (w:World) (R:Value→World→Prop):RetV [.cN a n] ρ w R=RetC (cellsO w n (ρ a)) w R:=propext Iff.rfl
section
variable {P:Program} {f:FX} {kx:List XI} {ρ:Env} {w:World} {R:Value→World→Prop}
theorem run_ret' (h:RetV f.rs ρ w R) (hro:f.ro=none:=by rfl) (hds:f.ds=[]:=by rfl):Run P f (.code .ret::kx) ρ w R:=by
 unfold RetV at h
 split at h
 ·rename_i v hv;exact run_ret hro hds hv h
 ·exact h.elim
theorem run_end' (h:RetV f.rs ρ w R) (hro:f.ro=none:=by rfl) (hds:f.ds=[]:=by rfl):Run P f [] ρ w R:=by
 unfold RetV at h
 split at h
 ·rename_i v hv;exact run_end hro hds hv h
 ·exact h.elim
theorem run_retM' {D:Nat} (hD:w.heap[D]? =some (.deferred (some []))) (h: ∀w',w'.heap.size=w.heap.size→Only [D] w w'→RetV f.rs ρ w' R) (hro:f.ro=none:=by rfl) (hds:f.ds=[{target:=.collected D,args:=#[]}]:=by rfl):Run P f (.code .ret::kx) ρ w R:=
 run_retM hro hds hD fun w' h1 h2=>by
  have:=h w' h1 h2
  unfold RetV at this
  split at this
  ·rename_i v hv;exact⟨v,hv,this⟩
  ·exact this.elim
theorem run_calls' {x:XCode} {args:List Value} (hf:f.ok P) (hro:f.ro=none) (hds:f.ds=[]) (hx:f.fn.body.bind (trC P f.fn.ntmps false)=some x) (hn:Nat.ble args.length f.fn.ntmps=true)
  (h:Run P f [.code x] (initE args 0) w R):Cs P f.F args w R:=by
 obtain⟨c,hc,hx⟩:=Option.bind_eq_some_iff.1 hx
 exact run_calls hf hro hds hc hx (Nat.le_of_ble_eq_true hn) h
def CondT (P:Program) (f:FX) (v:Value) (a b:XCode) (kx:List XI) (ρ:Env) (w:World) (R:Value→World→Prop):Prop:=
 ∃t,v=.bool t∧(t=true→Run P f (.code a::kx) ρ w R)∧(t=false→Run P f (.code b::kx) ρ w R)
theorem run_condT {c:Operand} {a b:XCode} (h:CondT P f (ev ρ c) a b kx ρ w R):Run P f (.code (.cond c a b)::kx) ρ w R:=
 let ⟨_,hc,h1,h0⟩:=h;run_cond hc h1 h0
theorem CondT_t (a b:XCode):CondT P f (.bool true) a b kx ρ w R=Run P f (.code a::kx) ρ w R:=by
 unfold CondT;simp
theorem CondT_f (a b:XCode):CondT P f (.bool false) a b kx ρ w R=Run P f (.code b::kx) ρ w R:=by
 unfold CondT;simp
theorem condT {t:Bool} {a b:XCode} (h1:t=true→Run P f (.code a::kx) ρ w R) (h0:t=false→Run P f (.code b::kx) ρ w R):CondT P f (.bool t) a b kx ρ w R:=⟨t,rfl,h1,h0⟩
end
theorem r_1 {P:Program} {f:FX} {kx:List XI} {ρ:Env} {w:World} {R:Value→World→Prop} {a b:XCode} (h:Run P f (.code a::.code b::kx) ρ w R):Run P f (.code (.seq a b)::kx) ρ w R:=run_seq h
theorem r_2 {P:Program} {f:FX} {kx:List XI} {ρ:Env} {w:World} {R:Value→World→Prop} {xs:List XO} (h:VO P xs ρ w fun ρ' w'=>Run P f kx ρ' w' R):Run P f (.code (.reg xs)::kx) ρ w R:=run_reg h
theorem r_3 {P:Program} {f:FX} {kx:List XI} {ρ:Env} {w:World} {R:Value→World→Prop} {id:Nat} {a:XCode} (h:Run P f (.code a::.blk id::kx) ρ w R):Run P f (.code (.block id a)::kx) ρ w R:=run_block h
theorem r_4 {P:Program} {f:FX} {kx:List XI} {ρ:Env} {w:World} {R:Value→World→Prop} {id:Nat} (h:Run P f kx ρ w R):Run P f (.blk id::kx) ρ w R:=run_blk h
theorem r_5 {P:Program} {f:FX} {kx:List XI} {ρ:Env} {w:World} {R:Value→World→Prop} (h:Run P f kx ρ w R):Run P f (.code .skip::kx) ρ w R:=run_skip h
theorem r_6 {P:Program} {f:FX} {kx:List XI} {ρ:Env} {w:World} {R:Value→World→Prop} {id:Nat} {kx':List XI} (he:exitX id kx=some kx') (h:Run P f kx' ρ w R):Run P f (.code (.exit id)::kx) ρ w R:=run_exit he h
theorem r_7 {P:Program} {f:FX} {kx:List XI} {ρ:Env} {w:World} {R:Value→World→Prop} {xs:List XO} (h:VO P xs ρ w.drew fun ρ' w'=>Run P f kx ρ' w' R) (hro:f.ro=none:=by rfl):Run P f (.code (.drw xs)::kx) ρ w R:=run_drw h hro
theorem r_8 {P:Program} {f:FX} {kx:List XI} {ρ:Env} {w:World} {R:Value→World→Prop} {c:Operand} {a b:XCode} (h:CondT P f (ev ρ c) a b kx ρ w R):Run P f (.code (.cond c a b)::kx) ρ w R:=run_condT h
theorem r_9 {P:Program} {f:FX} {kx:List XI} {ρ:Env} {w:World} {R:Value→World→Prop} (h:RetV f.rs ρ w R) (hro:f.ro=none:=by rfl) (hds:f.ds=[]:=by rfl):Run P f (.code .ret::kx) ρ w R:=run_ret' h hro hds
theorem r_0 {P:Program} {f:FX} {ρ:Env} {w:World} {R:Value→World→Prop} (h:RetV f.rs ρ w R) (hro:f.ro=none:=by rfl) (hds:f.ds=[]:=by rfl):Run P f [] ρ w R:=run_end' h hro hds
theorem pickO_b (t:Bool) (a b:Value):pickO (.bool t) a b=some (if t then a else b):=Eq.trans rfl rfl
theorem nilckO_p (p:Addr):nilckO (.pointer (some p))=some (.pointer (some p)):=Eq.trans rfl rfl
theorem cellO_p (w:World) (p:Addr):cellO w (.pointer (some p))=w.cell? p:=Eq.trans rfl rfl
theorem cellsO_p (w:World) (n:Nat) (p:Addr):cellsO w n (.pointer (some p))=aggO (cellsAt w p n):=Eq.trans rfl rfl
theorem aggO_some (xs:List Value):aggO (some xs)=some (.agg ⟨xs⟩):=Eq.trans rfl rfl
theorem faO_p (o:Nat) (p:Addr):faO o (.pointer (some p))=some (.pointer (some (p.add o))):=Eq.trans rfl rfl
theorem iaO_s (s:Nat) (p:Addr) (len cap:Nat) (k:IntKind) (j:Int):iaO s (.slice (some p) len cap) (.int k j)=if 0≤j∧j<(len:Int)then some (.pointer (some (p.add (j.toNat*s))))else none:=Eq.trans rfl rfl
theorem iaAO_p (n s:Nat) (p:Addr) (k:IntKind) (j:Int):iaAO n s (.pointer (some p)) (.int k j)=if 0≤j∧j<(n:Int)then some (.pointer (some (p.add (j.toNat*s))))else none:=Eq.trans rfl rfl
theorem shiftO_nat (n:Nat) (v:Value):shiftO (n:Int) v=some v:=by simp[shiftO]
section
variable (k k':IntKind) (a b:Int)
theorem binO_shl:binO .shl (.int k a) (.int k' b)=shiftO b (.int k (k.wrap (a*2^(min b.toNat k.bits)))):=Eq.trans rfl rfl
theorem binO_shr:binO .shr (.int k a) (.int k' b)=shiftO b (.int k (a.fdiv (2^(min b.toNat k.bits)))):=Eq.trans rfl rfl
theorem binO_add:binO .add (.int k a) (.int k b)=some (.int k (k.wrap (a+b))):=by simp[binO,binI]
theorem binO_sub:binO .sub (.int k a) (.int k b)=some (.int k (k.wrap (a-b))):=by simp[binO,binI]
theorem binO_mul:binO .mul (.int k a) (.int k b)=some (.int k (k.wrap (a*b))):=by simp[binO,binI]
theorem binO_quo:binO .quo (.int k a) (.int k b)=divO b (.int k (k.wrap (a.tdiv b))):=by simp[binO,binI]
theorem binO_rem:binO .rem (.int k a) (.int k b)=divO b (.int k (a.tmod b)):=by simp[binO,binI]
theorem binO_and:binO .and (.int k a) (.int k b)=some (.int k (bitI .and k a b)):=by simp[binO,binI]
theorem binO_or:binO .or (.int k a) (.int k b)=some (.int k (bitI .or k a b)):=by simp[binO,binI]
theorem binO_andNot:binO .andNot (.int k a) (.int k b)=some (.int k (bitI .andNot k a b)):=by simp[binO,binI]
theorem binO_eql:binO .eql (.int k a) (.int k b)=some (.bool (a==b)):=by simp[binO,binI]
theorem binO_neq:binO .neq (.int k a) (.int k b)=some (.bool (a !=b)):=by simp[binO,binI]
theorem binO_lss:binO .lss (.int k a) (.int k b)=some (.bool (decide (a<b))):=by simp[binO,binI]
theorem binO_leq:binO .leq (.int k a) (.int k b)=some (.bool (decide (a≤b))):=by simp[binO,binI]
theorem binO_gtr:binO .gtr (.int k a) (.int k b)=some (.bool (decide (b<a))):=by simp[binO,binI]
theorem binO_geq:binO .geq (.int k a) (.int k b)=some (.bool (decide (b≤a))):=by simp[binO,binI]
end
theorem divO_of {b:Int} (h:b≠0) (v:Value):divO b v=some v:=by simp[divO,h]
theorem divO_64 (v:Value):divO 64 v=some v:=Eq.trans rfl rfl
theorem eqPO_nn (n:Bool):eqPO n (.pointer none) (.pointer none)=some (.bool (!n)):=Eq.trans rfl rfl
theorem eqPO_sn (n:Bool) (p:Addr):eqPO n (.pointer (some p)) (.pointer none)=some (.bool n):=Eq.trans rfl rfl
theorem eqSO_nn (n:Bool) (l c l' c':Nat):eqSO n (.slice none l c) (.slice none l' c')=some (.bool (!n)):=by cases n<;>rfl
theorem eqSO_sn (n:Bool) (p:Addr) (l c l' c':Nat):eqSO n (.slice (some p) l c) (.slice none l' c')=some (.bool n):=Eq.trans rfl rfl
theorem noO_b (b:Bool):noO (.bool b)=some (.bool !b):=Eq.trans rfl rfl
theorem convO_i (k j:IntKind) (n:Int):convO k (.int j n)=some (.int k (k.wrap n)):=Eq.trans rfl rfl
theorem extO_0 (a:Value) (vs:List Value):extO (.tuple ⟨a::vs⟩) 0=some a:=Eq.trans rfl rfl
theorem extO_1 (a b:Value) (vs:List Value):extO (.tuple ⟨a::b::vs⟩) 1=some b:=Eq.trans rfl rfl
theorem extO_2 (a b c:Value) (vs:List Value):extO (.tuple ⟨a::b::c::vs⟩) 2=some c:=Eq.trans rfl rfl
theorem lenO_s (a:Option Addr) (n c:Nat):lenO (.slice a n c)=some (.int .i64 n):=Eq.trans rfl rfl
theorem mnmxO_max (k:IntKind) (a b:Int):mnmxO true (.int k a) (.int k b)=some (.int k (max a b)):=by simp[mnmxO]
theorem mnmxO_min (k:IntKind) (a b:Int):mnmxO false (.int k a) (.int k b)=some (.int k (min a b)):=by simp[mnmxO]
theorem callVals_f (g:Nat) (a:Array Value) (args:List Value) (c:Array Value):callVals (.func (.func g) a c) args=some (g,a.toList++args++c.toList):=Eq.trans rfl rfl
theorem fillL_nil (cs:List Value):fillL cs []=some cs:=Eq.trans rfl rfl
theorem fillL_one {cs:List Value} {off:Nat} {v:Value} {r:List (Nat×Nat×Value)} (h1:oneC v=true) (h2:Nat.ble (off+1) cs.length=true):fillL cs ((off,1,v)::r)=fillL (cs.set off v) r:=by
 simp only[fillL,(oneC_one h1).2]
 rw[if_pos ⟨rfl,Nat.le_of_ble_eq_true h2⟩]
 rfl
theorem evP_mk (ρ:Env) (o s:Nat) (x:Operand):evP ρ (o,s,x)=(o,s,ev ρ x):=Eq.trans rfl rfl
theorem eqAO_a (neg:Bool) (n:Nat) (xs ys:List Value) (h1:xs.length=n) (h2:ys.length=n):eqAO neg n (.agg ⟨xs⟩) (.agg ⟨ys⟩)=notO neg (eqCells xs ys):=by simp[eqAO,h1,h2]
theorem notO_some (neg r:Bool):notO neg (some r)=some (.bool (r !=neg)):=Eq.trans rfl rfl
theorem eqCells_nil:eqCells [] []=some true:=Eq.trans rfl rfl
theorem eqCells_cons (k:IntKind) (a b:Int) (xs ys:List Value):eqCells (.int k a::xs) (.int k b::ys)=if a==b then eqCells xs ys else some false:=by simp[eqCells]
theorem rowZ_one (z:Value) (n:Nat):rowZ [z] n=List.replicate n z:=by
 simp only[rowZ,List.length_singleton,Nat.mul_one,Nat.mod_one]
 apply List.ext_getElem
 ·simp
 ·intro i h1 h2;simp
theorem putL_cons (ρ:Env) (p:Nat) (ps:List Nat) (v:Value) (vs:List Value):putL ρ (p::ps) (v::vs)=putL (put ρ p v) ps vs:=Eq.trans rfl rfl
theorem putL_nil (ρ:Env) (vs:List Value):putL ρ [] vs=ρ:=by cases vs<;>rfl
theorem initE_nil (i:Nat):initE [] i=E0:=Eq.trans rfl rfl
theorem initE_cons (v:Value) (vs:List Value) (i:Nat):initE (v::vs) i=put (initE vs (i+1)) i v:=Eq.trans rfl rfl
attribute [irreducible] RetV RetC CondT
attribute [go_sem] VO_mkmap VO_mput VO_lkp VO_range VO_next VO_entry VO_mdel VO_clear VO_mlen VT_mkmap VT_mput VT_mlen
attribute [go_sem] VO_nil VO_guard GdT_tt GdT_ff GdT_tf GdT_ft GdT_un VO_mv VO_pick VO_nilck VO_ld VO_ldN VO_fa VO_ia VO_iaA VO_bin VO_eqP VO_eqS VO_no VO_conv VO_mkfn VO_slc VO_slc3 VO_ext VO_len VO_mnmx VO_box VO_alc VO_st VO_stN VO_call VO_bld VO_eqA VO_bsl VO_mks VO_app VO_callv AndV_some putO_some putO_none put_at ev_tmp ev_const ev_func pickO_b nilckO_p cellO_p cellsO_p aggO_some faO_p iaO_s iaAO_p shiftO_nat binO_shl binO_shr binO_add binO_sub binO_mul binO_quo binO_rem binO_and binO_or binO_andNot binO_eql binO_neq binO_lss binO_leq binO_gtr binO_geq divO_64 eqPO_nn eqPO_sn eqSO_nn eqSO_sn noO_b convO_i extO_0 extO_1 extO_2 lenO_s mnmxO_max mnmxO_min callVals_f fillL_nil evP_mk notO_some eqCells_nil eqCells_cons rowZ_one addr_add initE_nil initE_cons putL_cons putL_nil ovr_at CondT_t CondT_f RetV_t RetV_0 RetV_tt RetV_cN RetC_some
attribute [go_sem] List.map_cons List.map_nil List.getElem?_cons_zero List.getElem?_cons_succ Nat.zero_add Nat.add_zero Option.map_some Option.map_none Bool.not_true Bool.not_false decide_true decide_false List.toList_toArray List.append_nil List.nil_append List.cons_append List.set_cons_zero List.set_cons_succ List.length_cons List.length_nil List.map_toArray World.cell?_drew and_self and_true true_and
attribute [go_sem] AndS_some VT_guard VT_guardA VT_or GdA_tt GdA_ff GdA_tf GdA_ft GdS_tt GdS_ff GdS_tf GdS_ft VT_nil VT_mv VT_pick VT_nilck inL_p VT_ld VT_ldN VT_fa VT_ia VT_iaA VT_bin VT_no VT_conv VT_mkfn VT_slc VT_ext VT_len VT_box VT_alc VT_st VT_stN VT_bld VT_bsl VT_mks VT_app VT_callv VT_call List.mem_cons List.not_mem_nil eq_self true_or or_true or_false List.contains_cons List.contains_nil Bool.or_true Bool.true_or Bool.or_false Bool.false_or
class Nx (g:Prop) (n:outParam Prop):Prop where
 nxt:n→g
theorem nx {g n:Prop} [h:Nx g n] (x:n):g:=h.nxt x
section
variable {P:Program} {f:FX} {kx:List XI} {ρ:Env} {w:World} {R:Value→World→Prop}
instance nx_1 {a b:XCode}:Nx (Run P f (.code (.seq a b)::kx) ρ w R) (Run P f (.code a::.code b::kx) ρ w R):=⟨r_1⟩
instance nx_2 {xs:List XO}:Nx (Run P f (.code (.reg xs)::kx) ρ w R) (VO P xs ρ w fun ρ' w'=>Run P f kx ρ' w' R):=⟨r_2⟩
instance nx_3 {id:Nat} {a:XCode}:Nx (Run P f (.code (.block id a)::kx) ρ w R) (Run P f (.code a::.blk id::kx) ρ w R):=⟨r_3⟩
instance nx_4 {id:Nat}:Nx (Run P f (.blk id::kx) ρ w R) (Run P f kx ρ w R):=⟨r_4⟩
instance nx_5:Nx (Run P f (.code .skip::kx) ρ w R) (Run P f kx ρ w R):=⟨r_5⟩
instance nx_8 {c:Operand} {a b:XCode}:Nx (Run P f (.code (.cond c a b)::kx) ρ w R) (CondT P f (ev ρ c) a b kx ρ w R):=⟨r_8⟩
end
attribute [go_sem_proc ↓] reduceIte
attribute [go_sem_proc] Nat.reduceAdd Nat.reduceEqDiff Nat.reduceBEq reduceCtorEq Int.reduceBEq Int.reduceBNe Int.reduceLT Int.reduceLE
/-! ### The returns, and the entry of a function, under short names -/
class FxR (f:FX):Prop where
 fro:f.ro=none
class FxP (f:FX):Prop where
 fro:f.ro=none
 fds:f.ds=[]
instance fxr_i {i:FuncId} {F:Func} {rs:List XR} {ds:List Deferred}:FxR ⟨i,F,rs,none,ds⟩:=⟨rfl⟩
instance fxp_i {i:FuncId} {F:Func} {rs:List XR}:FxP ⟨i,F,rs,none,[]⟩:=⟨rfl,rfl⟩
section
variable {P:Program} {f:FX} {kx:List XI} {ρ:Env} {w:World} {R:Value→World→Prop}
instance nx_7 {xs:List XO} [FxR f]:Nx (Run P f (.code (.drw xs)::kx) ρ w R) (VO P xs ρ w.drew fun ρ' w'=>Run P f kx ρ' w' R):=⟨fun h=>r_7 h FxR.fro⟩
instance nx_9 [FxP f]:Nx (Run P f (.code .ret::kx) ρ w R) (RetV f.rs ρ w R):=⟨fun h=>r_9 h FxP.fro FxP.fds⟩
instance nx_0 [FxP f]:Nx (Run P f [] ρ w R) (RetV f.rs ρ w R):=⟨fun h=>r_0 h FxP.fro FxP.fds⟩
end
abbrev Ent (P:Program) (f:FX) (x:XCode) (n:Nat) (id:FuncId):Prop:= ∀ {args:List Value} {w:World} {R:Value→World→Prop},Nat.ble args.length n=true→Run P f [.code x] (initE args 0) w R→Cs P id args w R
theorem enter_of {P:Program} {f:FX} {x:XCode} {n:Nat} (hf:f.ok P) (hx:f.fn.body.bind (trC P f.fn.ntmps false)=some x) (hn:f.fn.ntmps=n) (hro:f.ro=none:=by rfl) (hds:f.ds=[]:=by rfl):Ent P f x n f.F:=fun h1 h2=>run_calls' hf hro hds hx (by rw[hn];exact h1) h2
theorem k_1 {S:List Nat} {ρ:Env}:Keeps S ρ ρ:=Keeps.refl _ _
/-! ### The walk under short names -/
theorem gO {g k:Prop} (h:k) (e:k→g:=by intro h;(repeat(first|with_reducible(first|refine nx ?_|refine r_6 rfl ?_)|simp only[go_sem]));exact h):g:=e h
theorem gO1 {F1 g k:Prop} (f1:F1) (h:k) (e:F1→k→g:=by intro f1 h;(repeat(first|with_reducible(first|refine nx ?_|refine r_6 rfl ?_)|simp only[go_sem,f1]));exact h):g:=e f1 h
theorem gJ1 {F1 g k:Prop} (f1:F1) (h:k) (e:F1→k→g:=by intro f1 h;(repeat(first|with_reducible(first|refine nx ?_|refine r_6 rfl ?_)|simp only[go_sem,f1,Int.toNat_natCast,Nat.mul_one]));exact h):g:=e f1 h
theorem gO2 {F1 F2 g k:Prop} (f1:F1) (f2:F2) (h:k) (e:F1→F2→k→g:=by intro f1 f2 h;(repeat(first|with_reducible(first|refine nx ?_|refine r_6 rfl ?_)|simp only[go_sem,f1,f2]));exact h):g:=e f1 f2 h
theorem gJ2 {F1 F2 g k:Prop} (f1:F1) (f2:F2) (h:k) (e:F1→F2→k→g:=by intro f1 f2 h;(repeat(first|with_reducible(first|refine nx ?_|refine r_6 rfl ?_)|simp only[go_sem,f1,f2,Int.toNat_natCast,Nat.mul_one]));exact h):g:=e f1 f2 h
theorem gO3 {F1 F2 F3 g k:Prop} (f1:F1) (f2:F2) (f3:F3) (h:k) (e:F1→F2→F3→k→g:=by intro f1 f2 f3 h;(repeat(first|with_reducible(first|refine nx ?_|refine r_6 rfl ?_)|simp only[go_sem,f1,f2,f3]));exact h):g:=e f1 f2 f3 h
theorem gJ3 {F1 F2 F3 g k:Prop} (f1:F1) (f2:F2) (f3:F3) (h:k) (e:F1→F2→F3→k→g:=by intro f1 f2 f3 h;(repeat(first|with_reducible(first|refine nx ?_|refine r_6 rfl ?_)|simp only[go_sem,f1,f2,f3,Int.toNat_natCast,Nat.mul_one]));exact h):g:=e f1 f2 f3 h
theorem gO4 {F1 F2 F3 F4 g k:Prop} (f1:F1) (f2:F2) (f3:F3) (f4:F4) (h:k) (e:F1→F2→F3→F4→k→g:=by intro f1 f2 f3 f4 h;(repeat(first|with_reducible(first|refine nx ?_|refine r_6 rfl ?_)|simp only[go_sem,f1,f2,f3,f4]));exact h):g:=e f1 f2 f3 f4 h
theorem gJ4 {F1 F2 F3 F4 g k:Prop} (f1:F1) (f2:F2) (f3:F3) (f4:F4) (h:k) (e:F1→F2→F3→F4→k→g:=by intro f1 f2 f3 f4 h;(repeat(first|with_reducible(first|refine nx ?_|refine r_6 rfl ?_)|simp only[go_sem,f1,f2,f3,f4,Int.toNat_natCast,Nat.mul_one]));exact h):g:=e f1 f2 f3 f4 h
theorem gO5 {F1 F2 F3 F4 F5 g k:Prop} (f1:F1) (f2:F2) (f3:F3) (f4:F4) (f5:F5) (h:k) (e:F1→F2→F3→F4→F5→k→g:=by intro f1 f2 f3 f4 f5 h;(repeat(first|with_reducible(first|refine nx ?_|refine r_6 rfl ?_)|simp only[go_sem,f1,f2,f3,f4,f5]));exact h):g:=e f1 f2 f3 f4 f5 h
theorem gJ5 {F1 F2 F3 F4 F5 g k:Prop} (f1:F1) (f2:F2) (f3:F3) (f4:F4) (f5:F5) (h:k) (e:F1→F2→F3→F4→F5→k→g:=by intro f1 f2 f3 f4 f5 h;(repeat(first|with_reducible(first|refine nx ?_|refine r_6 rfl ?_)|simp only[go_sem,f1,f2,f3,f4,f5,Int.toNat_natCast,Nat.mul_one]));exact h):g:=e f1 f2 f3 f4 f5 h
theorem gO6 {F1 F2 F3 F4 F5 F6 g k:Prop} (f1:F1) (f2:F2) (f3:F3) (f4:F4) (f5:F5) (f6:F6) (h:k) (e:F1→F2→F3→F4→F5→F6→k→g:=by intro f1 f2 f3 f4 f5 f6 h;(repeat(first|with_reducible(first|refine nx ?_|refine r_6 rfl ?_)|simp only[go_sem,f1,f2,f3,f4,f5,f6]));exact h):g:=e f1 f2 f3 f4 f5 f6 h
theorem gJ6 {F1 F2 F3 F4 F5 F6 g k:Prop} (f1:F1) (f2:F2) (f3:F3) (f4:F4) (f5:F5) (f6:F6) (h:k) (e:F1→F2→F3→F4→F5→F6→k→g:=by intro f1 f2 f3 f4 f5 f6 h;(repeat(first|with_reducible(first|refine nx ?_|refine r_6 rfl ?_)|simp only[go_sem,f1,f2,f3,f4,f5,f6,Int.toNat_natCast,Nat.mul_one]));exact h):g:=e f1 f2 f3 f4 f5 f6 h
theorem gO7 {F1 F2 F3 F4 F5 F6 F7 g k:Prop} (f1:F1) (f2:F2) (f3:F3) (f4:F4) (f5:F5) (f6:F6) (f7:F7) (h:k) (e:F1→F2→F3→F4→F5→F6→F7→k→g:=by intro f1 f2 f3 f4 f5 f6 f7 h;(repeat(first|with_reducible(first|refine nx ?_|refine r_6 rfl ?_)|simp only[go_sem,f1,f2,f3,f4,f5,f6,f7]));exact h):g:=e f1 f2 f3 f4 f5 f6 f7 h
theorem gJ7 {F1 F2 F3 F4 F5 F6 F7 g k:Prop} (f1:F1) (f2:F2) (f3:F3) (f4:F4) (f5:F5) (f6:F6) (f7:F7) (h:k) (e:F1→F2→F3→F4→F5→F6→F7→k→g:=by intro f1 f2 f3 f4 f5 f6 f7 h;(repeat(first|with_reducible(first|refine nx ?_|refine r_6 rfl ?_)|simp only[go_sem,f1,f2,f3,f4,f5,f6,f7,Int.toNat_natCast,Nat.mul_one]));exact h):g:=e f1 f2 f3 f4 f5 f6 f7 h
/-! ### Code under short names -/
abbrev u (n:Nat):Operand:=.tmp n
abbrev uI (n:Int):Operand:=.const (.int .i64 n)
abbrev uT:Operand:=.const (.bool true)
abbrev uF:Operand:=.const (.bool false)
abbrev aO (d:Nat) (b:XB):XO:=⟨some d,none,b⟩
abbrev aT (d g:Nat) (b:XB):XO:=⟨some d,some (g,true),b⟩
abbrev aF (d g:Nat) (b:XB):XO:=⟨some d,some (g,false),b⟩
abbrev aN (b:XB):XO:=⟨none,none,b⟩
abbrev mO (d s:Nat):XO:=⟨some d,none,.mv (.tmp s)⟩
abbrev mI (d:Nat) (n:Int):XO:=⟨some d,none,.mv (.const (.int .i64 n))⟩
abbrev lO (d s:Nat):XO:=⟨some d,none,.ld (.tmp s)⟩
abbrev fO (d o s:Nat):XO:=⟨some d,none,.fa o (.tmp s)⟩
abbrev nO (d s:Nat):XO:=⟨some d,none,.nilck (.tmp s)⟩
abbrev eO (d s i:Nat):XO:=⟨some d,none,.ext (.tmp s) i⟩
abbrev iO (d k s t:Nat):XO:=⟨some d,none,.ia k (.tmp s) (.tmp t)⟩
abbrev z0:List Value:=[.int .i64 0]
end Go.Proofs.YteiildhelefodaaGreat
