/- The engine: symbolic execution. -/
import Derived.Test.YteiildhelefodaaGreatZEngD
import Derived.Laws.Append
import Derived.IntWalk
set_option linter.unusedSimpArgs false
set_option linter.unusedVariables false
namespace Go.Proofs.YteiildhelefodaaGreat
def Cs (P:Program) (f:FuncId) (args:List Value) (w:World) (R:Value→World→Prop):Prop:=
 Calls P f ⟨args⟩ w fun e w'=> ∃v,e=.returned v∧R v w'
theorem Cs.mono {P:Program} {f:FuncId} {args:List Value} {w:World} {R R':Value→World→Prop} (h:Cs P f args w R) (hr: ∀v w',R v w'→R' v w'):Cs P f args w R':=
 Calls.mono h fun _ _ ⟨v,he,hv⟩=>⟨v,he,hr _ _ hv⟩
def oneC (v:Value):Bool:=match v with|.agg _=>false|.tuple _=>false|_=>true
def World.setCells (w:World) (p:Addr):List Value→Nat→World
 | [],_=>w
 |v::vs,i=>World.setCells (w.setCell (p.add i) v) p vs (i+1)
def World.mayCells (w:World) (p:Addr):List Value→Nat→Prop
 | [],_=>True
 |v::vs,i=>oneC v=true∧(w.cell? (p.add i)).isSome=true∧w.frozen? (p.add i)=false∧World.mayCells (w.setCell (p.add i) v) p vs (i+1)
def Sl (w:World) (sz:Nat) (v:Value) (n:Nat) (xs:List Value) (fp:List Nat):Prop:=
 xs.length=n*sz∧((v=.slice none 0 0∧n=0∧fp=[])∨
  ∃(g cap:Nat) (ys:List Value) (T:TypeId),v=.slice (some ⟨g,0,none⟩) n cap∧fp=[g]∧w.heap[g]? =some (.cells ⟨xs++ys⟩ T (0,0))∧(xs++ys).length=cap*sz∧n≤cap)
def AppI (s v':Value) (n m:Nat) (fp fp':List Nat):Prop:=(m=0→v'=s)∧ ∀a c,s=.slice a n c→n+m≤c→v'=.slice a (n+m) c∧fp'=fp
def SlW (w:World) (sz:Nat) (v:Value) (n:Nat) (xs:List Value) (fp:List Nat):Prop:=
 xs.length=n*sz∧((v=.slice none 0 0∧n=0∧fp=[])∨
  ∃(g cap:Nat) (pre ys post:List Value) (T:TypeId),v=.slice (some ⟨g,pre.length,none⟩) n cap∧fp=[g]∧w.heap[g]? =some (.cells ⟨pre++(xs++ys)++post⟩ T (0,0))∧(xs++ys).length=cap*sz∧n≤cap)
theorem Sl.toW {w:World} {sz:Nat} {v:Value} {n:Nat} {xs:List Value} {fp:List Nat} (h:Sl w sz v n xs fp):SlW w sz v n xs fp:=
 ⟨h.1,h.2.elim .inl fun⟨g,cap,ys,T,h1,h2,h3,h4,h5⟩=>.inr ⟨g,cap,[],ys,[],T,h1,h2,by simpa using h3,h4,h5⟩⟩
def SrcIs (w:World) (sz:Nat) (v:Value) (m:Nat) (us:List Value):Prop:=
 us.length=m*sz∧((∃c,v=.slice none 0 c∧m=0)∨ ∃p c,v=.slice (some p) m c∧cellsAt w p (m*sz)=some us)
structure Only (S:List Nat) (w w':World):Prop where
 os:w'.os=w.os
 tape:w'.tape=w.tape
 output:w'.output=w.output
 size:w.heap.size≤w'.heap.size
 block: ∀k,k<w.heap.size→k∉S→w'.heap[k]? =w.heap[k]?
def callVals (v:Value) (args:List Value):Option (Nat×List Value):=match v with
 |.func (.func g) first caps=>some (g,first.toList++args++caps.toList)
 |_=>none
def RoundP (P:Program) (l:Nat) (f:FuncId) (tmps:Array Value) (assign body:Code) (w:World) (K:Value→World→Prop):Prop:=
 ∀(c:Frame) (cs:List Frame),∃v w',K v w'∧Steps P (lone (Frame.round l f tmps assign body .normal) (c::cs) w) (lone (c.finish v) cs w')
def Ys (P:Program) (l:Nat) (args:List Value) (w:World) (K:Value→World→Prop):Prop:=
 ∃f tmps assign body,(Instr.yield l ⟨args⟩).run P w=.ok (.round l f tmps assign body) w∧RoundP P l f tmps assign body w K
theorem RoundP.mono {P:Program} {l:Nat} {f:FuncId} {tmps:Array Value} {assign body:Code} {w:World} {K K':Value→World→Prop} (h:RoundP P l f tmps assign body w K) (hk: ∀v w',K v w'→K' v w'):RoundP P l f tmps assign body w K':=
 fun c cs=>let ⟨v,w',h1,h2⟩:=h c cs;⟨v,w',hk _ _ h1,h2⟩
theorem Ys.mono {P:Program} {l:Nat} {args:List Value} {w:World} {K K':Value→World→Prop} (h:Ys P l args w K) (hk: ∀v w',K v w'→K' v w'):Ys P l args w K':=
 let ⟨f,tmps,assign,body,h1,h2⟩:=h;⟨f,tmps,assign,body,h1,h2.mono hk⟩
def CallV (P:Program) (f:Value) (args:List Value) (w:World) (K:Value→World→Prop):Prop:=
 (∃g vs,callVals f args=some (g,vs)∧okF P g=true∧Cs P g vs w K)∨(∃l,f=.func (.yield l) #[] #[]∧Ys P l args w K)
theorem CallV.mono {P:Program} {f:Value} {args:List Value} {w:World} {K K':Value→World→Prop} (h:CallV P f args w K) (hk: ∀v w',K v w'→K' v w'):CallV P f args w K':=
 h.elim (fun⟨g,vs,h1,h2,h3⟩=>.inl ⟨g,vs,h1,h2,h3.mono hk⟩) (fun⟨l,h1,h2⟩=>.inr ⟨l,h1,h2.mono hk⟩)
def RunV (P:Program) (s:Sem Value) (w:World) (K:Value→World→Prop):Prop:= ∃v w',s.run P w=.ok v w'∧K v w'
def RunU (P:Program) (s:Sem Unit) (w:World) (K:Value→World→Prop):Prop:= ∃w',s.run P w=.ok () w'∧K undef w'
def actB (P:Program) (b:Builtin) (ts:Array TypeId) (args:Array Value) (w:World) (K:Value→World→Prop):Prop:=match b with
 |.delete=>RunV P (Builtin.delete_ ts 0 args) w K
 |.clear=>RunV P (Builtin.clear_ ts 0 args) w K
 |.copy=>RunV P (Builtin.copy_ ts 0 args) w K
 |.len=>RunV P (Builtin.len_ ts 0 args) w K
 |_=>False
def actV (P:Program) (op:Op) (ρ:Env) (w:World) (K:Value→World→Prop):Prop:=match op with
 |.makeMap t r=>RunV P (Instr.makeMap t (r.map (ev ρ))) w K
 |.mapUpdate t m k x|.insert t m k x=>RunU P (Instr.mapUpdate t (ev ρ m) (ev ρ k) (ev ρ x)) w K
 |.lookup t x i ok=>RunV P (Instr.lookup t (ev ρ x) (ev ρ i) ok) w K
 |.range t x=>RunV P (Instr.range t (ev ρ x)) w K
 |.next it b=>RunV P (Instr.next (ev ρ it) b 0) w K
 |.entry it=>RunV P (Instr.entry (ev ρ it)) w K
 |.mapEntry t m k=>RunV P (Instr.mapEntry t (ev ρ m) (ev ρ k)) w K
 |.entryStore t m s x=>RunU P (Instr.entryStore t (ev ρ m) (ev ρ s) (ev ρ x)) w K
 |.unOp o _ x=>RunV P (Op.unary o (ev ρ x)) w K
 |.call c=>match c.callee with
  |.builtin b=>actB P b c.argTypes (c.args.map (ev ρ)) w K
  |_=>False
 |_=>False
theorem RunV.mono {P:Program} {s:Sem Value} {w:World} {K K':Value→World→Prop} (h:RunV P s w K) (hk: ∀v w',K v w'→K' v w'):RunV P s w K':=by
 obtain⟨v,w',h1,h2⟩:=h;exact⟨v,w',h1,hk _ _ h2⟩
theorem RunU.mono {P:Program} {s:Sem Unit} {w:World} {K K':Value→World→Prop} (h:RunU P s w K) (hk: ∀v w',K v w'→K' v w'):RunU P s w K':=by
 obtain⟨w',h1,h2⟩:=h;exact⟨w',h1,hk _ _ h2⟩
theorem actB_mono {P:Program} {b:Builtin} {ts:Array TypeId} {args:Array Value} {w:World} {K K':Value→World→Prop} (h:actB P b ts args w K) (hk: ∀v w',K v w'→K' v w'):actB P b ts args w K':=by
 cases b<;>first|exact RunV.mono h hk|exact h.elim
theorem actV_mono {P:Program} {op:Op} {ρ:Env} {w:World} {K K':Value→World→Prop} (h:actV P op ρ w K) (hk: ∀v w',K v w'→K' v w'):actV P op ρ w K':=by
 cases op<;>first|exact RunV.mono h hk|exact RunU.mono h hk|exact h.elim|skip
 case call c=>
  obtain⟨cl,args,ts⟩:=c
  cases cl<;>first|exact actB_mono h hk|exact h.elim
def fv (P:Program) (x:XB) (ρ:Env) (w:World) (K:Value→World→Prop):Prop:=match x with
 |.box t x=>K (.pointer (some ⟨w.heap.size,0,none⟩)) (w.alloc (.cells (ev ρ x).cells t))
 |.alc t zero=>K (.pointer (some ⟨w.heap.size,0,none⟩)) (w.alloc (.cells ⟨zero⟩ t))
 |.st a v=> ∃p,ev ρ a=.pointer (some p)∧oneC (ev ρ v)=true∧(w.cell? p).isSome=true∧w.frozen? p=false∧K undef (w.setCell p (ev ρ v))
 |.stN n a v=> ∃p cs,ev ρ a=.pointer (some p)∧ev ρ v=.agg cs∧cs.size=n∧World.mayCells w p cs.toList 0∧K undef (World.setCells w p cs.toList 0)
 |.call f args=>Cs P f (args.map (ev ρ)) w K
 |.callv f args=>CallV P (ev ρ f) (args.map (ev ρ)) w K
 |.act op=>actV P op ρ w K
 |.bsl e len zeros parts=> ∃cs,fillL zeros (parts.map (evP ρ))=some cs∧K (.slice (some ⟨w.heap.size,0,none⟩) len len) (w.alloc (.cells ⟨cs⟩ e))
 |.mks e bytes zero l c=> ∃(k k':IntKind) (n m:Nat),ev ρ l=.int k n∧ev ρ c=.int k' m∧n≤m∧m≤1099511627776∧m*bytes≤1099511627776∧
   K (.slice (some ⟨w.heap.size,0,none⟩) n m) (w.alloc (.cells ⟨rowZ zero m⟩ e))
 |.app _ bytes zero s x=> ∃n xs fp m us,SlW w zero.length (ev ρ s) n xs fp∧SrcIs w zero.length (ev ρ x) m us∧(∀u,u∈us→oneC u=true)∧n+m≤1099511627776∧(n+m)*bytes≤1099511627776∧
   ∀v' w' fp',SlW w' zero.length v' (n+m) (xs++us) fp'→(Sl w zero.length (ev ρ s) n xs fp→Sl w' zero.length v' (n+m) (xs++us) fp')→(fp'=fp∨fp'=[w.heap.size])→Only fp w w'→AppI (ev ρ s) v' n m fp fp'→K v' w'
 |_=>False
def Acts (P:Program) (s:Sem Next) (w:World) (K:Value→World→Prop):Prop:=match s.run P w with
 |.ok (.value v) w'=>K v w'
 |.ok .skip w'=>K undef w'
 |.ok (.enter f args) w'=>Calls P f args w' (fun e w''=> ∃v,e=.returned v∧K v w'')
 |_=>False
def ActsV (P:Program) (s:Sem Next) (w:World) (K:Value→World→Prop):Prop:=match s.run P w with
 |.ok (.value v) w'=>K v w'
 |.ok .skip w'=>K undef w'
 |.ok (.enter f args) w'=>Calls P f args w' (fun e w''=> ∃v,e=.returned v∧K v w'')
 |.ok (.round l f tmps assign body) w'=>RoundP P l f tmps assign body w' K
 |_=>False
theorem Acts.v {P:Program} {s:Sem Next} {w:World} {K:Value→World→Prop} (h:Acts P s w K):ActsV P s w K:=by
 unfold Acts at h;unfold ActsV
 generalize s.run P w=r at*
 cases r with
 |halt x w'=>exact h
 |ok n w'=>cases n<;>first|exact h|exact h.elim
def XB.isV:XB→Bool
 |.callv _ _=>true
 |_=>false
section
variable {P:Program} {w:World} {K:Value→World→Prop}
theorem acts_value {s:Sem Value} {v:Value} {w':World} (h:s.run P w=.ok v w') (hk:K v w'):Acts P (do pure (.value (←s))) w K:=by
 unfold Acts;simp only[Sem.run_bind,h,Result.andThen_ok,Sem.run_pure];exact hk
theorem acts_skip {s:Sem Unit} {w':World} (h:s.run P w=.ok () w') (hk:K undef w'):Acts P (do s;pure .skip) w K:=by
 unfold Acts;simp only[Sem.run_bind,h,Result.andThen_ok,Sem.run_pure];exact hk
theorem oneC_one {v:Value} (h:oneC v=true):v.oneCell'=true∧v.cells=#[v]:=by cases v<;>first|exact⟨rfl,rfl⟩|cases h
theorem run_store1 {p:Addr} {v:Value} (h1:oneC v=true) (h2:(w.cell? p).isSome=true) (h3:w.frozen? p=false):(store p v).run P w=.ok () (w.setCell p v):=by
 rw[run_store P w p v .plain (oneC_one h1).1]
 cases hc:w.cell? p with
 |none=>simp[hc]at h2
 |some u=>simp[h3]
theorem run_storeCells {p:Addr}: ∀(vs:List Value) (i:Nat) (w:World),World.mayCells w p vs i→(storeCells p vs i).run P w=.ok () (World.setCells w p vs i)
 | [],_,_,_=>by simp[storeCells,World.setCells]
 |v::vs,i,w,h=>by
  obtain⟨h1,h2,h3,h4⟩:=h
  simp only[storeCells,Sem.run_bind,run_store1 h1 h2 h3,Result.andThen_ok,World.setCells]
  exact run_storeCells vs (i+1) _ h4
theorem addr_add (b o n:Nat):(⟨b,o,none⟩:Addr).add n=⟨b,o+n,none⟩:=by
 unfold Addr.add;split
 ·rename_i h;subst h;rfl
 ·rfl
theorem Only.refl (S:List Nat) (w:World):Only S w w:=⟨rfl,rfl,rfl,Nat.le_refl _,fun _ _ _=>rfl⟩
theorem Only.setCell (w:World) (a:Addr) (v:Value):Only [a.block] w (w.setCell a v):=
 ⟨rfl,rfl,rfl,by simp,fun k _ hn=>by
  simp only[List.mem_singleton]at hn
  simp only[World.setCell,Array.getElem?_modify]
  rw[if_neg (by omega)]⟩
theorem Only.trans {S T:List Nat} {a b c:World} (h:Only S a b) (k:Only T b c) (hs: ∀x,x∈T→x∈S∨a.heap.size≤x):Only S a c:=
 ⟨k.os.trans h.os,k.tape.trans h.tape,k.output.trans h.output,Nat.le_trans h.size k.size,fun x hx hn=>
  (k.block x (Nat.lt_of_lt_of_le hx h.size) (fun ht=>(hs x ht).elim hn (fun hl=>absurd hx (Nat.not_lt.2 hl)))).trans (h.block x hx hn)⟩
theorem heap_setCell {w:World} {g i:Nat} {cs:List Value} {T:TypeId} (h:w.heap[g]? =some (.cells ⟨cs⟩ T (0,0))) (v:Value):
  (w.setCell ⟨g,i,none⟩ v).heap[g]? =some (.cells ⟨cs.set i v⟩ T (0,0)):=by
 simp[World.setCell,Array.getElem?_modify,h]
theorem setCells_at {g off:Nat} {T:TypeId}: ∀(us:List Value) (i:Nat) (w:World) (cs:List Value),w.heap[g]? =some (.cells ⟨cs⟩ T (0,0))→off+i+us.length≤cs.length→(∀u,u∈us→oneC u=true)→
  World.mayCells w ⟨g,off,none⟩ us i∧(World.setCells w ⟨g,off,none⟩ us i).heap[g]? =some (.cells ⟨setL cs (off+i) us⟩ T (0,0))∧Only [g] w (World.setCells w ⟨g,off,none⟩ us i)∧
   (World.setCells w ⟨g,off,none⟩ us i).heap.size=w.heap.size
 | [],i,w,cs,h,_,_=>⟨trivial,h,Only.refl _ _,rfl⟩
 |u::us,i,w,cs,h,hl,h1=>by
  simp only[List.length_cons]at hl
  have hs:=heap_setCell (i:=off+i) h u
  obtain⟨k1,k2,k3,k4⟩:=setCells_at (off:=off) us (i+1) (w.setCell ⟨g,off+i,none⟩ u) (cs.set (off+i) u) hs (by simp;omega) (fun v hv=>h1 v (List.mem_cons_of_mem _ hv))
  simp only[World.mayCells,World.setCells,addr_add,setL]
  refine⟨⟨h1 u (by simp),?_,?_,k1⟩,k2,(Only.setCell w ⟨g,off+i,none⟩ u).trans k3 (fun x hx=>.inl hx),?_⟩
  ·simp[World.cell?,h,show off+i<cs.length from by omega]
  ·simp[World.frozen?,h]
  ·rw[k4];simp
theorem setL_append: ∀(us xs ys:List Value),us.length≤ys.length→setL (xs++ys) xs.length us=xs++us++ys.drop us.length
 | [],xs,ys,_=>by simp[setL]
 |u::us,xs,y::ys,h=>by
  simp only[List.length_cons,Nat.add_le_add_iff_right]at h
  simp only[setL]
  have e:(xs++y::ys).set xs.length u=(xs++[u])++ys:=by simp
  rw[e,show xs.length+1=(xs++[u]).length by simp,setL_append us (xs++[u]) ys h]
  simp
 |u::us,xs,[],h=>by simp at h
theorem src_cells {sz m:Nat} {p:Addr} {us:List Value} (h:cellsAt w p (m*sz)=some us):us.length=m*sz∧ ∀j v,us[j]? =some v→w.cell? (p.add j)=some v:=by
 obtain⟨hl,hj⟩:=cellsAt_spec h
 refine⟨hl,fun j v hv=>?_⟩
 have:j<us.length:=by
  rcases Nat.lt_or_ge j us.length with h'|h'
  ·exact h'
  ·rw[List.getElem?_eq_none h']at hv;cases hv
 rw[hj j (by omega)];exact hv
theorem run_firstCells {sz m:Nat} {x:Value} {us:List Value} (h:SrcIs w sz x m us):(Builtin.lenOf x).run P w=.ok m w∧(Builtin.firstCells sz m x).run P w=.ok ⟨us⟩ w:=by
 obtain⟨hl,⟨c,rfl,rfl⟩|⟨p,c,rfl,hc⟩⟩:=h
 ·have:us=[]:=List.eq_nil_of_length_eq_zero (by simpa using hl)
  subst this
  exact⟨by simp[Builtin.lenOf],by simp[Builtin.firstCells]⟩
 ·exact⟨by simp[Builtin.lenOf],by simp only[Builtin.firstCells];exact run_loadCells hc⟩
theorem run_app {t e ty:TypeId} {i:TypeInfo} {z:Value} (ht:P.underlying t=some (.slice e)) (hi:P.info? e=some i) (hz:i.zero=some z) (hzs:z.cells.size=i.size)
  {s x:Value} {n m:Nat} {xs us:List Value} {fp:List Nat} (hs:Sl w i.size s n xs fp) (hx:SrcIs w i.size x m us) (h1: ∀u,u∈us→oneC u=true) (hb1:n+m≤1099511627776) (hb2:(n+m)*i.bytes≤1099511627776):
  ∃v' w' fp',(Builtin.append_ #[t,t] ty #[s,x]).run P w=.ok v' w'∧Sl w' i.size v' (n+m) (xs++us) fp'∧(fp'=fp∨fp'=[w.heap.size])∧Only fp w w'∧AppI s v' n m fp fp':=by
 have hlen:(xs++us).length=(n+m)*i.size:=by rw[List.length_append,hs.1,hx.1,Nat.add_mul]
 have hnz:(match P.underlying t with|some (.int _)=>true|_=>false)=false:=by rw[ht]
 -- what growing gives
 have grown: ∀(old:Nat),(w.drew.alloc (.cells (xs.toArray++us.toArray++Builtin.zeroCells z.cells (grownCap w (n+m) old e-(n+m))) e)).heap[w.heap.size]? =
    some (.cells ⟨(xs++us)++(Builtin.zeroCells z.cells (grownCap w (n+m) old e-(n+m))).toList⟩ e (0,0))∧
   ((xs++us)++(Builtin.zeroCells z.cells (grownCap w (n+m) old e-(n+m))).toList).length=grownCap w (n+m) old e*i.size∧n+m≤grownCap w (n+m) old e:=by
  intro old
  have hge:n+m≤grownCap w (n+m) old e:=by simp[grownCap,Question.cut]
  refine⟨?_,?_,hge⟩
  ·show(w.drew.heap.push _)[w.heap.size]? =_
   have e2:w.drew.heap=w.heap:=rfl
   rw[e2]
   simp only[Array.getElem?_push_size,Option.some.injEq,Obj.cells.injEq,and_true]
   apply Array.ext'
   simp
  ·have hzl:(Builtin.zeroCells z.cells (grownCap w (n+m) old e-(n+m))).toList.length=(grownCap w (n+m) old e-(n+m))*i.size:=by
    simp[Builtin.zeroCells,hzs]
   rw[List.length_append,hlen,hzl,←Nat.add_mul]
   congr 1
   omega
 have hOnly: ∀(S:List Nat) (o:Obj),Only S w (w.drew.alloc o):=fun S o=>⟨rfl,rfl,rfl,by simp,fun k hk _=>by
  show(w.heap.push o)[k]? =_;rw[Array.getElem?_push,if_neg (by omega)]⟩
 rcases hs.2 with⟨rfl,rfl,rfl⟩|⟨g,cap,ys,T,rfl,rfl,hg,hcl,hnc⟩
 ·have hx0:xs=[]:=List.eq_nil_of_length_eq_zero (by simpa using hs.1)
  subst hx0
  obtain⟨hlo,hfc⟩:=run_firstCells (P:=P) hx
  by_cases hm:m=0
  ·subst hm
   have hu0:us=[]:=List.eq_nil_of_length_eq_zero (by simpa using hx.1)
   subst hu0
   refine⟨.slice none 0 0,w,[],?_,hs,.inl rfl,Only.refl _ _,fun _=>rfl,fun a c h1 _=>by cases h1;exact⟨rfl,rfl⟩⟩
   have hty:(underlying t).run P w=.ok (.slice e) w:=run_under ht
   simp[Builtin.append_,hty,run_size hi,hlo,hfc]
  ·rcases hx.2 with⟨c,_,h⟩|⟨p,c,rfl,hc⟩
   ·exact absurd h hm
   ·obtain⟨hl,hj⟩:=src_cells hc
    have hr:=run_append_nil (P:=P) w t ty e i z ht hi hz p m c us hl hj (by omega) (by omega) (by have:=hb2;simp only[Nat.zero_add]at this;omega)
    obtain⟨g1,g2,g3⟩:=grown 0
    simp only[Nat.zero_add]at g1 g2 g3
    have e0:(([]:List Value).toArray++us.toArray++Builtin.zeroCells z.cells (grownCap w m 0 e-m))=us.toArray++Builtin.zeroCells z.cells (grownCap w m 0 e-m):=by simp
    rw[e0]at g1
    refine⟨_,_,[w.heap.size],hr,⟨by simpa using hlen,.inr ⟨_,_,_,_,by rw[Nat.zero_add],rfl,g1,g2,by simpa using g3⟩⟩,.inr rfl,hOnly _ _,fun h=>absurd h hm,fun a c h1 h2=>by cases h1;omega⟩
 ·by_cases hroom:n+m≤cap
  ·obtain⟨hlo,hfc⟩:=run_firstCells (P:=P) hx
   have hys:us.length≤ys.length:=by
    have h2:(n+m)*i.size≤cap*i.size:=Nat.mul_le_mul_right _ hroom
    rw[List.length_append]at hcl
    have:=hs.1;have:=hx.1
    rw[Nat.add_mul]at h2
    omega
   obtain⟨k1,k2,k3,k4⟩:=setCells_at (off:=n*i.size) us 0 w (xs++ys) hg (by rw[List.length_append,←hs.1];omega) h1
   refine⟨.slice (some ⟨g,0,none⟩) (n+m) cap,World.setCells w ⟨g,n*i.size,none⟩ us 0,[g],?_,⟨hlen,.inr ⟨g,cap,ys.drop us.length,T,rfl,rfl,?_,?_,hroom⟩⟩,.inl rfl,k3,fun h=>by subst h;rfl,fun a c h1 _=>by cases h1;exact⟨rfl,rfl⟩⟩
   ·have hty:(underlying t).run P w=.ok (.slice e) w:=run_under ht
    have hst:=run_storeCells (P:=P) us 0 w k1
    simp[Builtin.append_,hty,run_size hi,hlo,hfc,hroom,addr_add,hst]
   ·rw[k2,←hs.1,Nat.add_zero,setL_append us xs ys hys]
   ·rw[←hcl];simp only[List.length_append,List.length_drop];omega
  ·have hn0:m≠0:=by omega
   rcases hx.2 with⟨c,_,h⟩|⟨p,c,rfl,hc⟩
   ·exact absurd h hn0
   ·obtain⟨hl,hj⟩:=src_cells hc
    have holds: ∀j v,xs[j]? =some v→w.cell? ((⟨g,0,none⟩:Addr).add j)=some v:=fun j v hv=>by
     rw[addr_add]
     have hlt:j<xs.length:=by
      rcases Nat.lt_or_ge j xs.length with h'|h'
      ·exact h'
      ·rw[List.getElem?_eq_none h']at hv;cases hv
     simp only[World.cell?,hg]
     simp[List.getElem?_append_left hlt,hv]
    have hr:=run_append_grow (P:=P) w t ty e i z ht hi hz ⟨g,0,none⟩ n cap xs hs.1 holds p m c us hl hj (by omega) (by omega) (growslice_fits (by omega) (by omega))
    obtain⟨g1,g2,g3⟩:=grown cap
    refine⟨_,_,[w.heap.size],hr,⟨hlen,.inr ⟨_,_,_,_,rfl,rfl,g1,g2,g3⟩⟩,.inr rfl,hOnly _ _,fun h=>absurd h hn0,fun a c h1 h2=>by cases h1;exact absurd h2 hroom⟩
theorem run_appW0 {t e ty:TypeId} {i:TypeInfo} {z:Value} (ht:P.underlying t=some (.slice e)) (hi:P.info? e=some i) (hz:i.zero=some z) (hzs:z.cells.size=i.size)
  {s x:Value} {n m:Nat} {xs us:List Value} {fp:List Nat} (hs:SlW w i.size s n xs fp) (hns: ¬Sl w i.size s n xs fp) (hx:SrcIs w i.size x m us) (h1: ∀u,u∈us→oneC u=true) (hb1:n+m≤1099511627776) (hb2:(n+m)*i.bytes≤1099511627776):
  ∃v' w' fp',(Builtin.append_ #[t,t] ty #[s,x]).run P w=.ok v' w'∧SlW w' i.size v' (n+m) (xs++us) fp'∧(fp'=fp∨fp'=[w.heap.size])∧Only fp w w'∧AppI s v' n m fp fp':=by
 have hlen:(xs++us).length=(n+m)*i.size:=by rw[List.length_append,hs.1,hx.1,Nat.add_mul]
 have hnz:(match P.underlying t with|some (.int _)=>true|_=>false)=false:=by rw[ht]
 -- what growing gives
 have grown: ∀(old:Nat),(w.drew.alloc (.cells (xs.toArray++us.toArray++Builtin.zeroCells z.cells (grownCap w (n+m) old e-(n+m))) e)).heap[w.heap.size]? =
    some (.cells ⟨(xs++us)++(Builtin.zeroCells z.cells (grownCap w (n+m) old e-(n+m))).toList⟩ e (0,0))∧
   ((xs++us)++(Builtin.zeroCells z.cells (grownCap w (n+m) old e-(n+m))).toList).length=grownCap w (n+m) old e*i.size∧n+m≤grownCap w (n+m) old e:=by
  intro old
  have hge:n+m≤grownCap w (n+m) old e:=by simp[grownCap,Question.cut]
  refine⟨?_,?_,hge⟩
  ·show(w.drew.heap.push _)[w.heap.size]? =_
   have e2:w.drew.heap=w.heap:=rfl
   rw[e2]
   simp only[Array.getElem?_push_size,Option.some.injEq,Obj.cells.injEq,and_true]
   apply Array.ext'
   simp
  ·have hzl:(Builtin.zeroCells z.cells (grownCap w (n+m) old e-(n+m))).toList.length=(grownCap w (n+m) old e-(n+m))*i.size:=by
    simp[Builtin.zeroCells,hzs]
   rw[List.length_append,hlen,hzl,←Nat.add_mul]
   congr 1
   omega
 have hOnly: ∀(S:List Nat) (o:Obj),Only S w (w.drew.alloc o):=fun S o=>⟨rfl,rfl,rfl,by simp,fun k hk _=>by
  show(w.heap.push o)[k]? =_;rw[Array.getElem?_push,if_neg (by omega)]⟩
 rcases hs.2 with⟨rfl,rfl,rfl⟩|⟨g,cap,pre,ys,post,T,rfl,rfl,hg,hcl,hnc⟩
 ·exact absurd ⟨hs.1,.inl ⟨rfl,rfl,rfl⟩⟩ hns
 ·by_cases hroom:n+m≤cap
  ·obtain⟨hlo,hfc⟩:=run_firstCells (P:=P) hx
   have hys:us.length≤ys.length:=by
    have h2:(n+m)*i.size≤cap*i.size:=Nat.mul_le_mul_right _ hroom
    rw[List.length_append]at hcl
    have:=hs.1;have:=hx.1
    rw[Nat.add_mul]at h2
    omega
   obtain⟨k1,k2,k3,k4⟩:=setCells_at (off:=pre.length+n*i.size) us 0 w (pre++(xs++ys)++post) hg (by simp only[List.length_append];have:=hs.1;omega) h1
   refine⟨.slice (some ⟨g,pre.length,none⟩) (n+m) cap,World.setCells w ⟨g,pre.length+n*i.size,none⟩ us 0,[g],?_,⟨hlen,.inr ⟨g,cap,pre,ys.drop us.length,post,T,rfl,rfl,?_,?_,hroom⟩⟩,.inl rfl,k3,fun h=>by subst h;rfl,fun a c h1 _=>by cases h1;exact⟨rfl,rfl⟩⟩
   ·have hty:(underlying t).run P w=.ok (.slice e) w:=run_under ht
    have hst:=run_storeCells (P:=P) us 0 w k1
    simp[Builtin.append_,hty,run_size hi,hlo,hfc,hroom,addr_add,hst]
   ·rw[k2,←hs.1,Nat.add_zero,show pre++(xs++ys)++post=(pre++xs)++(ys++post) by simp,show pre.length+xs.length=(pre++xs).length by simp,setL_append us (pre++xs) (ys++post) (by rw[List.length_append];omega),
     List.drop_append_of_le_length hys]
    simp
   ·rw[←hcl];simp only[List.length_append,List.length_drop];omega
  ·have hn0:m≠0:=by omega
   rcases hx.2 with⟨c,_,h⟩|⟨p,c,rfl,hc⟩
   ·exact absurd h hn0
   ·obtain⟨hl,hj⟩:=src_cells hc
    have holds: ∀j v,xs[j]? =some v→w.cell? ((⟨g,pre.length,none⟩:Addr).add j)=some v:=fun j v hv=>by
     rw[addr_add]
     have hlt:j<xs.length:=by
      rcases Nat.lt_or_ge j xs.length with h'|h'
      ·exact h'
      ·rw[List.getElem?_eq_none h']at hv;cases hv
     simp only[World.cell?,hg]
     simp[List.append_assoc,List.getElem?_append_right,List.getElem?_append_left hlt,hv]
    have hr:=run_append_grow (P:=P) w t ty e i z ht hi hz ⟨g,pre.length,none⟩ n cap xs hs.1 holds p m c us hl hj (by omega) (by omega) (growslice_fits (by omega) (by omega))
    obtain⟨g1,g2,g3⟩:=grown cap
    refine⟨_,_,[w.heap.size],hr,Sl.toW ⟨hlen,.inr ⟨_,_,_,_,rfl,rfl,g1,g2,g3⟩⟩,.inr rfl,hOnly _ _,fun h=>absurd h hn0,fun a c h1 h2=>by cases h1;exact absurd h2 hroom⟩
theorem run_appW {t e ty:TypeId} {i:TypeInfo} {z:Value} (ht:P.underlying t=some (.slice e)) (hi:P.info? e=some i) (hz:i.zero=some z) (hzs:z.cells.size=i.size)
  {s x:Value} {n m:Nat} {xs us:List Value} {fp:List Nat} (hs:SlW w i.size s n xs fp) (hx:SrcIs w i.size x m us) (h1: ∀u,u∈us→oneC u=true) (hb1:n+m≤1099511627776) (hb2:(n+m)*i.bytes≤1099511627776):
  ∃v' w' fp',(Builtin.append_ #[t,t] ty #[s,x]).run P w=.ok v' w'∧SlW w' i.size v' (n+m) (xs++us) fp'∧(Sl w i.size s n xs fp→Sl w' i.size v' (n+m) (xs++us) fp')∧(fp'=fp∨fp'=[w.heap.size])∧Only fp w w'∧AppI s v' n m fp fp':=by
 by_cases h:Sl w i.size s n xs fp
 ·obtain⟨v',w',fp',k1,k2,k3⟩:=run_app (ty:=ty) ht hi hz hzs h hx h1 hb1 hb2
  exact⟨v',w',fp',k1,k2.toW,fun _=>k2,k3⟩
 ·obtain⟨v',w',fp',k1,k2,k3⟩:=run_appW0 (ty:=ty) ht hi hz hzs hs h hx h1 hb1 hb2
  exact⟨v',w',fp',k1,k2,fun k=>absurd k h,k3⟩
theorem elemInfo_spec {t:TypeId} {e:TypeId×Nat×List Value} (h:elemInfo P t=some e): ∃i z,P.underlying t=some (.slice e.1)∧P.info? e.1=some i∧i.zero=some z∧z.cells.size=i.size∧0<i.size∧e.2.1=i.bytes∧e.2.2=z.cells.toList:=by
 unfold elemInfo at h
 split at h
 ·rename_i el ht
  split at h
  ·rename_i i hi
   split at h
   ·rename_i z hz
    split at h
    ·rename_i hc;cases h;exact⟨i,z,ht,hi,hz,hc.1,hc.2,rfl,rfl⟩
    ·cases h
   ·cases h
  ·cases h
 ·cases h
theorem rowZ_eq (z:Array Value) (n:Nat):((Array.range (n*z.size)).map fun i=>z[i%z.size]!)=⟨rowZ z.toList n⟩:=by
 apply Array.ext'
 simp only[rowZ,Array.toList_map,Array.toList_range,Array.length_toList]
 apply List.map_congr_left
 intro i hi
 have hi':i<n*z.size:=by simpa using hi
 have hz:0<z.size:=by
  rcases Nat.eq_zero_or_pos z.size with h|h
  ·rw[h]at hi';simp at hi'
  ·exact h
 have hm:i%z.size<z.size:=Nat.mod_lt _ hz
 simp[hm]
theorem rowZ_length (z:List Value) (n:Nat):(rowZ z n).length=n*z.length:=by simp[rowZ]
theorem fill_rows {sz:Nat}: ∀(parts:List (Nat×Value)) (cells:Array Value) (cs:List Value),fillL cells.toList (parts.map fun p=>(p.1*sz,sz,p.2))=some cs→
  Instr.fill (fun i=>some (i*sz,sz)) cells parts=some ⟨cs⟩:=fun parts cells cs h=>by
 refine fill_fillL parts _ ?_ cells cs h
 clear h
 induction parts with
 |nil=>simp
 |cons p parts ih=>simp at ih⊢;rw[ih];rfl
theorem run_buildSlice {t e:TypeId} {i:TypeInfo} {z:Value} {len:Nat} {parts:Array (Nat×Value)} {cs:List Value} (h1:P.underlying t=some (.slice e)) (h2:P.info? e=some i) (h3:i.zero=some z)
  (hlim:len*i.size≤2^24) (hf:Instr.fill (fun j=>some (j*i.size,i.size)) ((Array.range (len*i.size)).map fun j=>z.cells[j%z.cells.size]!) parts.toList=some ⟨cs⟩):
  (Instr.buildSlice t len parts).run P w=.ok (.slice (some ⟨w.heap.size,0,none⟩) len len) (w.alloc (.cells ⟨cs⟩ e)):=by
 have hlim': ¬(len*i.size>2^24):=Nat.not_lt.2 hlim
 unfold Instr.buildSlice
 rw[Sem.run_bind,run_under h1]
 simp only[Result.andThen_ok]
 rw[Sem.run_bind,run_size h2]
 simp only[Result.andThen_ok]
 rw[if_neg hlim']
 by_cases hz0:len*i.size=0
 ·rw[if_pos hz0]
  rw[hz0]at hf
  have e0:((Array.range 0).map fun j=>z.cells[j%z.cells.size]!)=((Array.range (len*i.size)).map fun j=>(#[]:Array Value)[j%(#[]:Array Value).size]!):=by rw[hz0];simp
  rw[e0]at hf
  simp only[Sem.run_bind,Sem.run_pure,Result.andThen_ok,hf,newRow,run_newObj,World.alloc_eq]
 ·rw[if_neg hz0]
  simp only[Sem.run_bind,Sem.run_pure,Result.andThen_ok,zeroValue,run_info h2,h3,hf,newRow,run_newObj,World.alloc_eq]
theorem run_makeSlice {t e:TypeId} {i:TypeInfo} {z:Value} {k k':IntKind} {n m:Nat} (h1:P.underlying t=some (.slice e)) (h2:P.info? e=some i) (h3:i.zero=some z) (h4:z.cells.size=i.size) (hnm:n≤m) (hb1:m≤1099511627776) (hb2:m*i.bytes≤1099511627776):
  (Instr.makeSlice t (.int k n) (.int k' m)).run P w=.ok (.slice (some ⟨w.heap.size,0,none⟩) n m) (w.alloc (.cells ⟨rowZ z.cells.toList m⟩ e)):=by
 have w1:IntKind.i64.wrap (n:Int)=n:=IntWalk.i64_in _ (by omega)
 have w2:IntKind.i64.wrap (m:Int)=m:=IntWalk.i64_in _ (by omega)
 have hb3:((i.bytes:Int)*(m:Int))≤1099511627776:=by
  have:((m*i.bytes:Nat):Int)≤((1099511627776:Nat):Int):=Int.ofNat_le.2 hb2
  rw[Int.natCast_mul,Int.mul_comm]at this
  exact this
 have c1:((decide ((m:Int)<0)||decide ((i.bytes:Int)*(m:Int)>2^48))||decide ((n:Int)<0)||decide ((n:Int)>(m:Int)))=false:=by
  simp only[Bool.or_eq_false_iff,decide_eq_false_iff_not]
  refine⟨⟨⟨by omega,?_⟩,by omega⟩,by omega⟩
  have:(2:Int)^48=281474976710656:=by decide
  rw[this];omega
 unfold Instr.makeSlice
 rw[Sem.run_bind,run_under h1]
 simp only[Result.andThen_ok,asInt,asIntOf,Sem.run_bind,Sem.run_pure,run_info h2,w1,w2,c1,Bool.false_eq_true,if_false,run_askRoom,Int.toNat_natCast,run_size h2]
 by_cases hz0:m*i.size=0
 ·rw[if_pos hz0]
  have e0:((Array.range (m*i.size)).map fun j=>(#[]:Array Value)[j%(#[]:Array Value).size]!)=⟨rowZ z.cells.toList m⟩:=by
   rw[←rowZ_eq,h4,hz0];simp
  simp only[Sem.run_pure,Result.andThen_ok,newRow,Sem.run_bind,run_newObj,World.alloc_eq,e0]
 ·rw[if_neg hz0]
  have e1:((Array.range (m*i.size)).map fun j=>z.cells[j%z.cells.size]!)=⟨rowZ z.cells.toList m⟩:=by rw[←h4,rowZ_eq]
  simp only[zeroValue,Sem.run_bind,run_info h2,h3,Sem.run_pure,Result.andThen_ok,newRow,run_newObj,World.alloc_eq,e1]
theorem fv_sound00 {op:Op} {x:XB} (h:trB0 P op=some x) (hV:x.isV=false) {ρ:Env} (hk:fv P x ρ w K) (dd:Option Nat) (ty:TypeId) (pos:String) (af:Array Edge) (g:Option (Nat×Bool)):
  Acts P (execOp (ev ρ) ⟨dd,op,ty,pos,af,g⟩) w K:=by
 cases op<;>simp only[trB0]at h
 case box t a=>
  cases h
  exact acts_value (s:=Instr.box t (ev ρ a)) (by simp[Instr.box,newVar,newRow]) hk
 case alloc t=>
  split at h
  ·rename_i i hi
   obtain⟨z,hz,rfl⟩:=Option.map_eq_some_iff.1 h
   refine acts_value (s:=Instr.alloc t true (.tuple #[])) ?_ hk
   simp only[Instr.alloc,zeroValue,Sem.run_bind,run_info hi,Result.andThen_ok,hz,Sem.run_pure,newVar,newRow,run_newObj,World.alloc_eq]
  ·cases h
 case store t a v=>
  unfold trStore at h
  split at h
  ·rename_i d i ht hi
   split at h
   ·cases h
    obtain⟨p,cs,ha,hv,hn,hm,hk⟩:=hk
    refine acts_skip (s:=Instr.storeAt t (ev ρ a) (ev ρ v)) ?_ hk
    simp only[Instr.storeAt,ha,hv,Instr.sureAddr,storeVar,Sem.run_bind,Sem.run_pure,Result.andThen_ok,run_size hi,Value.cells,hn,ne_eq,not_true_eq_false,if_false]
    exact run_storeCells _ _ _ hm
   ·cases h
    obtain⟨p,cs,ha,hv,hn,hm,hk⟩:=hk
    refine acts_skip (s:=Instr.storeAt t (ev ρ a) (ev ρ v)) ?_ hk
    simp only[Instr.storeAt,ha,hv,Instr.sureAddr,storeVar,Sem.run_bind,Sem.run_pure,Result.andThen_ok,run_size hi,Value.cells,hn,ne_eq,not_true_eq_false,if_false]
    exact run_storeCells _ _ _ hm
   ·split at h
    ·rename_i hs
     cases h
     obtain⟨p,ha,h1,h2,h3,hk⟩:=hk
     refine acts_skip (s:=Instr.storeAt t (ev ρ a) (ev ρ v)) ?_ hk
     have e:=(oneC_one h1).2
     have hz:p.add 0=p:=by simp[Addr.add]
     simp only[Instr.storeAt,ha,Instr.sureAddr,storeVar,Sem.run_bind,Sem.run_pure,Result.andThen_ok,run_size hi,e,hs,List.size_toArray,List.length_cons,List.length_nil,Nat.zero_add,ne_eq,not_true_eq_false,if_false,
      storeCells,hz,run_store1 h1 h2 h3]
    ·cases h
  ·cases h
 case call c=>
  obtain⟨cl,args,ts⟩:=c
  unfold trCall at h
  simp only at h
  split at h
  ·unfold trBuiltin at h
   split at h
   ·obtain⟨j,hi,rfl⟩:=Option.map_eq_some_iff.1 h;exact hk.elim
   ·cases h;exact hk.elim
   ·cases h;exact hk.elim
   ·split at h
    ·rename_i s x t u ha ht heq
     subst heq
     obtain⟨e,he,rfl⟩:=Option.map_eq_some_iff.1 h
     obtain⟨i,z,h1,h2,h3,h4,h5,h6,h7⟩:=elemInfo_spec he
     obtain⟨n,xs,fp,m,us,hs,hx,hone,hb1,hb2,hk⟩:=hk
     have hzl:e.2.2.length=i.size:=by rw[h7];simpa using h4
     rw[hzl]at hs hx hk
     rw[h6]at hb2
     obtain⟨v',w',fp',hr,hs',hk',hfp,ho,hm⟩:=run_appW (ty:=ty) h1 h2 h3 h4 hs hx hone hb1 hb2
     have ha':args=#[s,x]:=by cases args;simp_all
     have ht':ts=#[t,t]:=by cases ts;simp_all
     subst ha';subst ht'
     rw[run_builtin]
     simp only[List.map_toArray,List.map_cons,List.map_nil]
     exact acts_value (s:=Builtin.append_ #[t,t] ty #[ev ρ s,ev ρ x]) hr (hk v' w' fp' hs' hk' hfp ho hm)
    ·cases h
   ·cases h
  ·rename_i f
   split at h
   ·rename_i hokf
    obtain⟨fn,hf,hc⟩: ∃fn,P.funcs[f]? =some fn∧(fn.name== "runtime.NumGoroutine")=false∧fn.body.isNone=false:=by
     unfold okF at hokf
     split at hokf
     ·rename_i fn hf;simp only[Bool.and_eq_true,Bool.not_eq_true']at hokf;exact⟨fn,hf,hokf⟩
     ·cases hokf
    ·
     cases h
     have hrun:(execOp (ev ρ) ⟨dd,.call ⟨.value (.func f),args,ts⟩,ty,pos,af,g⟩).run P w=.ok (.enter f (args.map (ev ρ))) w:=by
      simp only[execOp,resolve,ev_func,Deferred.ofValue,Sem.run_bind,Sem.run_pure,Result.andThen_ok,invoke,callFunc,run_program,hf,hc.1,hc.2,Bool.false_eq_true,if_false,Array.append_empty]
      simp
     unfold Acts
     rw[hrun]
     have e:(⟨args.toList.map (ev ρ)⟩:Array Value)=args.map (ev ρ):=by cases args;simp
     simp only[fv,Cs,e]at hk
     exact hk
   ·cases h
  ·cases h;cases hV
  ·cases h
 case build t parts=>
  unfold trBuild at h
  split at h
  ·split at h
   ·obtain⟨ps,hps,rfl⟩:=Option.map_eq_some_iff.1 h;exact hk.elim
   ·cases h
  ·split at h
   ·cases h;exact hk.elim
   ·cases h
  ·cases h
 case buildSlice t len parts=>
  unfold trBuildSlice at h
  split at h
  ·rename_i e b z he
   obtain⟨i,zz,h1,h2,h3,h4,h5,h6,h7⟩:=elemInfo_spec he
   simp only at h1 h2 h6 h7
   split at h
   ·rename_i hlim
    cases h
    obtain⟨cs,hf,hk⟩:=hk
    have hzl:z.length=i.size:=by rw[h7];simpa using h4
    have hcells:(rowZ z len)=((Array.range (len*i.size)).map fun j=>zz.cells[j%zz.cells.size]!).toList:=by
     rw[h7,←h4,rowZ_eq]
    have hmap:(parts.toList.map fun p=>(p.1*z.length,z.length,p.2)).map (evP ρ)=((parts.map fun(x:Nat×Operand)=>(x.1,ev ρ x.2)).toList).map fun p=>(p.1*i.size,i.size,p.2):=by
     simp only[Array.toList_map,List.map_map,hzl]
     apply List.map_congr_left
     intro p _
     rfl
    rw[hmap,hcells]at hf
    have hfill:=fill_rows _ _ _ hf
    exact acts_value (s:=Instr.buildSlice t len (parts.map fun(x:Nat×Operand)=>(x.1,ev ρ x.2))) (run_buildSlice h1 h2 h3 (by rw[←hzl];exact hlim) hfill) hk
   ·cases h
  ·cases h
 case makeSlice t l c=>
  obtain⟨e,he,rfl⟩:=Option.map_eq_some_iff.1 h
  obtain⟨i,z,h1,h2,h3,h4,h5,h6,h7⟩:=elemInfo_spec he
  obtain⟨k,k',n,m,hl,hc,hnm,hb1,hb2,hk⟩:=hk
  rw[h6]at hb2
  rw[h7]at hk
  exact acts_value (s:=Instr.makeSlice t (ev ρ l) (ev ρ c)) (by rw[hl,hc];exact run_makeSlice h1 h2 h3 h4 hnm hb1 hb2) hk
 case move=>cases h;exact hk.elim
 case assign=>cases h;exact hk.elim
 case pick=>cases h;exact hk.elim
 case nilCheck=>cases h;exact hk.elim
 case load=>
  unfold trLoad at h
  split at h
  ·split at h
   ·obtain⟨i,hi,rfl⟩:=Option.map_eq_some_iff.1 h;exact hk.elim
   ·obtain⟨i,hi,rfl⟩:=Option.map_eq_some_iff.1 h;exact hk.elim
   ·cases h;exact hk.elim
  ·cases h
 case fieldAddr=>
  unfold trFieldAddr at h
  split at h
  ·split at h
   ·split at h
    ·cases h
    ·cases h;exact hk.elim
   ·cases h
  ·cases h
 case field=>
  unfold trField at h
  split at h
  ·split at h
   ·split at h
    ·obtain⟨i,hi,rfl⟩:=Option.map_eq_some_iff.1 h;exact hk.elim
    ·obtain⟨i,hi,rfl⟩:=Option.map_eq_some_iff.1 h;exact hk.elim
    ·cases h;exact hk.elim
   ·cases h
  ·cases h
 case indexAddr=>
  unfold trIndex at h
  split at h
  ·cases h;exact hk.elim
  ·split at h
   ·obtain⟨i,hi,rfl⟩:=Option.map_eq_some_iff.1 h;exact hk.elim
   ·cases h
 case binOp=>
  unfold trBin at h
  split at h
  ·unfold eqX at h
   split at h<;>try(cases h;done)
   ·cases h;exact hk.elim
   ·cases h;exact hk.elim
   ·split at h
    ·split at h
     ·cases h;exact hk.elim
     ·cases h
    ·cases h
   ·cases h;exact hk.elim
   ·split at h
    ·cases h;exact hk.elim
    ·cases h
  ·unfold eqX at h
   split at h<;>try(cases h;done)
   ·cases h;exact hk.elim
   ·cases h;exact hk.elim
   ·split at h
    ·split at h
     ·cases h;exact hk.elim
     ·cases h
    ·cases h
   ·cases h;exact hk.elim
   ·split at h
    ·cases h;exact hk.elim
    ·cases h
  ·cases h;exact hk.elim
 case unOp=>
  unfold trUn at h
  split at h
  ·cases h;exact hk.elim
  ·cases h
 case convert=>
  unfold trConv at h
  split at h
  ·cases h;exact hk.elim
  ·cases h
 case makeFunc=>cases h;exact hk.elim
 case slice=>
  unfold trSlice at h
  split at h
  ·obtain⟨i,hi,rfl⟩:=Option.map_eq_some_iff.1 h;exact hk.elim
  ·obtain⟨i,hi,rfl⟩:=Option.map_eq_some_iff.1 h;exact hk.elim
  ·cases h
 case extract=>cases h;exact hk.elim
 all_goals cases h
theorem callv_sound {tt:Nat} {args:Array Operand} {ts:Array TypeId} {ρ:Env} (hk:CallV P (ρ tt) (args.toList.map (ev ρ)) w K) (dd:Option Nat) (ty:TypeId) (pos:String) (af:Array Edge) (g:Option (Nat×Bool)):
  ActsV P (execOp (ev ρ) ⟨dd,.call ⟨.value (.tmp tt),args,ts⟩,ty,pos,af,g⟩) w K:=by
 rcases hk with⟨g',vs,hcv,hokf,hk⟩|⟨l,hev,f',tmps,assign,body,hy,hk⟩
 rotate_left
 ·have hev':ρ tt=.func (.yield l) #[] #[]:=hev
  have e:(⟨args.toList.map (ev ρ)⟩:Array Value)=args.map (ev ρ):=by cases args;simp
  rw[e]at hy
  have hrun:(execOp (ev ρ) ⟨dd,.call ⟨.value (.tmp tt),args,ts⟩,ty,pos,af,g⟩).run P w=.ok (.round l f' tmps assign body) w:=by
   simp only[execOp,resolve,ev_tmp,hev',Deferred.ofValue,Sem.run_bind,Sem.run_pure,Result.andThen_ok,invoke,Array.empty_append]
   exact hy
  unfold ActsV
  rw[hrun]
  exact hk
 obtain⟨fn,hf,hc⟩: ∃fn,P.funcs[g']? =some fn∧(fn.name== "runtime.NumGoroutine")=false∧fn.body.isNone=false:=by
  unfold okF at hokf
  split at hokf
  ·rename_i fn hf;simp only[Bool.and_eq_true,Bool.not_eq_true']at hokf;exact⟨fn,hf,hokf⟩
  ·cases hokf
 unfold callVals at hcv
 split at hcv
 ·rename_i first caps hev
  cases hcv
  have hev':ρ tt=.func (.func g') first caps:=hev
  have hrun:(execOp (ev ρ) ⟨dd,.call ⟨.value (.tmp tt),args,ts⟩,ty,pos,af,g⟩).run P w=.ok (.enter g' (first++args.map (ev ρ)++caps)) w:=by
   simp only[execOp,resolve,ev_tmp,hev',Deferred.ofValue,Sem.run_bind,Sem.run_pure,Result.andThen_ok,invoke,callFunc,run_program,hf,hc.1,hc.2,Bool.false_eq_true,if_false]
  unfold ActsV
  rw[hrun]
  have e:(⟨first.toList++args.toList.map (ev ρ)++caps.toList⟩:Array Value)=first++args.map (ev ρ)++caps:=by
   apply Array.ext';simp
  simp only[Cs,e]at hk
  exact hk
 ·cases hcv
theorem fv_soundB {op : Op} {x : XB} (h : trB0 P op = some x) {ρ : Env} (hk : fv P x ρ w K) (dd : Option Nat) (ty : TypeId) (pos : String) (af : Array Edge) (g : Option (Nat × Bool)) :
    ActsV P (execOp (ev ρ) ⟨dd, op, ty, pos, af, g⟩) w K := by
  cases hV : x.isV with
  | false => exact (fv_sound00 h hV hk dd ty pos af g).v
  | true =>
    cases op <;> simp only [trB0] at h
    case call c =>
      obtain ⟨cl, args, ts⟩ := c
      unfold trCall at h
      simp only at h
      split at h
      · unfold trBuiltin at h
        split at h
        · obtain ⟨j, hi, rfl⟩ := Option.map_eq_some_iff.1 h; cases hV
        · cases h; cases hV
        · cases h; cases hV
        · split at h
          · obtain ⟨j, hi, rfl⟩ := Option.map_eq_some_iff.1 h; cases hV
          · cases h
        · cases h
      · split at h
        · cases h; cases hV
        · cases h
      · rename_i tt; cases h; exact callv_sound hk dd ty pos af g
      · cases h
    case move => cases h; cases hV
    case assign => cases h; cases hV
    case pick => cases h; cases hV
    case nilCheck => cases h; cases hV
    case load =>
      unfold trLoad at h
      split at h
      · split at h
        · obtain ⟨i, hi, rfl⟩ := Option.map_eq_some_iff.1 h; cases hV
        · obtain ⟨i, hi, rfl⟩ := Option.map_eq_some_iff.1 h; cases hV
        · cases h; cases hV
      · cases h
    case store =>
      unfold trStore at h
      split at h
      · split at h
        · cases h; cases hV
        · cases h; cases hV
        · split at h
          · cases h; cases hV
          · cases h
      · cases h
    case fieldAddr =>
      unfold trFieldAddr at h
      split at h
      · split at h
        · split at h
          · cases h
          · cases h; cases hV
        · cases h
      · cases h
    case field =>
      unfold trField at h
      split at h
      · split at h
        · split at h
          · obtain ⟨i, hi, rfl⟩ := Option.map_eq_some_iff.1 h; cases hV
          · obtain ⟨i, hi, rfl⟩ := Option.map_eq_some_iff.1 h; cases hV
          · cases h; cases hV
        · cases h
      · cases h
    case indexAddr =>
      unfold trIndex at h
      split at h
      · cases h; cases hV
      · split at h
        · obtain ⟨i, hi, rfl⟩ := Option.map_eq_some_iff.1 h; cases hV
        · cases h
    case binOp bop t a b _ =>
      unfold trBin at h
      split at h
      all_goals first
        | (cases h; cases hV; done)
        | (unfold eqX at h
           repeat' split at h
           all_goals (first | (cases h; cases hV; done) | (cases h; done)))
    case unOp =>
      unfold trUn at h
      split at h
      · cases h; cases hV
      · cases h
    case convert =>
      unfold trConv at h
      split at h
      · cases h; cases hV
      · cases h
    case makeFunc => cases h; cases hV
    case slice t a lo hi mx =>
      unfold trSlice at h
      split at h
      · obtain ⟨i, hi, rfl⟩ := Option.map_eq_some_iff.1 h; cases hV
      · obtain ⟨i, hi, rfl⟩ := Option.map_eq_some_iff.1 h; cases hV
      · cases h
    case extract => cases h; cases hV
    case box => cases h; cases hV
    case alloc =>
      split at h
      · obtain ⟨i, hi, rfl⟩ := Option.map_eq_some_iff.1 h; cases hV
      · cases h
    case build =>
      unfold trBuild at h
      split at h
      · split at h
        · obtain ⟨i, hi, rfl⟩ := Option.map_eq_some_iff.1 h; cases hV
        · cases h
      · split at h
        · cases h; cases hV
        · cases h
      · cases h
    case buildSlice =>
      unfold trBuildSlice at h
      split at h
      · split at h
        · cases h; cases hV
        · cases h
      · cases h
    case makeSlice => obtain ⟨i, hi, rfl⟩ := Option.map_eq_some_iff.1 h; cases hV
    all_goals cases h
theorem actV_sound {op:Op} {ρ:Env} (hk:actV P op ρ w K) (dd:Option Nat) (ty:TypeId) (pos:String) (af:Array Edge) (g:Option (Nat×Bool)):
  Acts P (execOp (ev ρ) ⟨dd,op,ty,pos,af,g⟩) w K:=by
 cases op<;>first
  |exact hk.elim
  |(obtain⟨v,w',h1,h2⟩:=hk;exact acts_value h1 h2)
  |(obtain⟨w',h1,h2⟩:=hk;exact acts_skip h1 h2)
  |skip
 case call c=>
  obtain⟨cl,args,ts⟩:=c
  cases cl with
  |builtin b=>
   rw[run_builtin]
   cases b<;>first
    |exact hk.elim
    |(obtain⟨v,w',h1,h2⟩:=hk;exact acts_value h1 h2)
  |_=>exact hk.elim
theorem fv_sound0 {op:Op} {x:XB} (h:trB P op=some x) (hV:x.isV=false) {ρ:Env} (hk:fv P x ρ w K) (dd:Option Nat) (ty:TypeId) (pos:String) (af:Array Edge) (g:Option (Nat×Bool)):
  Acts P (execOp (ev ρ) ⟨dd,op,ty,pos,af,g⟩) w K:=by
 rcases trB_spec h with h|⟨rfl,_⟩
 ·exact fv_sound00 h hV hk dd ty pos af g
 ·exact actV_sound hk dd ty pos af g
theorem fv_sound {op:Op} {x:XB} (h:trB P op=some x) {ρ:Env} (hk:fv P x ρ w K) (dd:Option Nat) (ty:TypeId) (pos:String) (af:Array Edge) (g:Option (Nat×Bool)):
  ActsV P (execOp (ev ρ) ⟨dd,op,ty,pos,af,g⟩) w K:=by
 rcases trB_spec h with h|⟨rfl,_⟩
 ·exact fv_soundB h hk dd ty pos af g
 ·exact(actV_sound hk dd ty pos af g).v
end
end Go.Proofs.YteiildhelefodaaGreat
