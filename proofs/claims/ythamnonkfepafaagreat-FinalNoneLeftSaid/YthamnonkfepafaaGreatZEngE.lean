import Derived.Test.YthamnonkfepafaaGreatZEngD
import Derived.Laws.Append
import Derived.IntWalk
set_option linter.unusedSimpArgs false
set_option linter.unusedVariables false
namespace Go.Proofs.YthamnonkfepafaaGreat
def Cs (P:Program) (f:FuncId) (args:List Value) (w:World) (R:Value→World→Prop):Prop:=
 Calls P f ⟨args⟩ w fun e w'=> ∃v,e=.returned v∧R v w'
theorem Cs.mono {P:Program} {f:FuncId} {args:List Value} {w:World} {R b:Value→World→Prop} (h:Cs P f args w R) (d: ∀v w',R v w'→b v w'):Cs P f args w b:=
 Calls.mono h fun _ _ ⟨v,j,k⟩=>⟨v,j,d _ _ k⟩
def bh (v:Value):Bool:=match v with|.agg _=>false|.tuple _=>false|_=>true
def World.setCells (w:World) (p:Addr):List Value→Nat→World
 | [],_=>w
 |v::vs,i=>World.setCells (w.setCell (p.add i) v) p vs (i+1)
def World.jm (w:World) (p:Addr):List Value→Nat→Prop
 | [],_=>True
 |v::vs,i=>bh v=true∧(w.cell? (p.add i)).isSome=true∧w.frozen? (p.add i)=false∧World.jm (w.setCell (p.add i) v) p vs (i+1)
def Sl (w:World) (sz:Nat) (v:Value) (n:Nat) (xs:List Value) (fp:List Nat):Prop:=
 xs.length=n*sz∧((v=.slice none 0 0∧n=0∧fp=[])∨
  ∃(g cap:Nat) (ys:List Value) (T:TypeId),v=.slice (some ⟨g,0,none⟩) n cap∧fp=[g]∧w.heap[g]? =some (.cells ⟨xs++ys⟩ T (0,0))∧(xs++ys).length=cap*sz∧n≤cap)
def wc (s d:Value) (n m:Nat) (fp b:List Nat):Prop:=(m=0→d=s)∧ ∀a c,s=.slice a n c→n+m≤c→d=.slice a (n+m) c∧b=fp
def ql (w:World) (sz:Nat) (v:Value) (n:Nat) (xs:List Value) (fp:List Nat):Prop:=
 xs.length=n*sz∧((v=.slice none 0 0∧n=0∧fp=[])∨
  ∃(g cap:Nat) (pre ys post:List Value) (T:TypeId),v=.slice (some ⟨g,pre.length,none⟩) n cap∧fp=[g]∧w.heap[g]? =some (.cells ⟨pre++(xs++ys)++post⟩ T (0,0))∧(xs++ys).length=cap*sz∧n≤cap)
theorem Sl.N3 {w:World} {sz:Nat} {v:Value} {n:Nat} {xs:List Value} {fp:List Nat} (h:Sl w sz v n xs fp):ql w sz v n xs fp:=
 ⟨h.1,h.2.elim .inl fun⟨g,cap,ys,T,b,d,j,k,l⟩=>.inr ⟨g,cap,[],ys,[],T,b,d,by simpa using j,k,l⟩⟩
def bn (w:World) (sz:Nat) (v:Value) (m:Nat) (us:List Value):Prop:=
 us.length=m*sz∧((∃c,v=.slice none 0 c∧m=0)∨ ∃p c,v=.slice (some p) m c∧aC w p (m*sz)=some us)
structure ae (S:List Nat) (w w':World):Prop where
 os:w'.os=w.os
 tape:w'.tape=w.tape
 output:w'.output=w.output
 size:w.heap.size≤w'.heap.size
 block: ∀k,k<w.heap.size→k∉S→w'.heap[k]? =w.heap[k]?
def me (v:Value) (args:List Value):Option (Nat×List Value):=match v with
 |.func (.func g) first caps=>some (g,first.toList++args++caps.toList)
 |_=>none
def ll (P:Program) (l:Nat) (f:FuncId) (tmps:Array Value) (assign body:Code) (w:World) (K:Value→World→Prop):Prop:=
 ∀(c:Frame) (cs:List Frame),∃v w',K v w'∧Steps P (lone (Frame.round l f tmps assign body .normal) (c::cs) w) (lone (c.finish v) cs w')
def Ys (P:Program) (l:Nat) (args:List Value) (w:World) (K:Value→World→Prop):Prop:=
 ∃f tmps assign body,(Instr.yield l ⟨args⟩).run P w=.ok (.round l f tmps assign body) w∧ll P l f tmps assign body w K
theorem ll.mono {P:Program} {l:Nat} {f:FuncId} {tmps:Array Value} {assign body:Code} {w:World} {K K':Value→World→Prop} (h:ll P l f tmps assign body w K) (b: ∀v w',K v w'→K' v w'):ll P l f tmps assign body w K':=
 fun c cs=>let ⟨v,w',d,j⟩:=h c cs;⟨v,w',b _ _ d,j⟩
theorem Ys.mono {P:Program} {l:Nat} {args:List Value} {w:World} {K K':Value→World→Prop} (h:Ys P l args w K) (b: ∀v w',K v w'→K' v w'):Ys P l args w K':=
 let ⟨f,tmps,assign,body,d,j⟩:=h;⟨f,tmps,assign,body,d,j.mono b⟩
def J5 (P:Program) (t:TypeId) (v:Value) (name:String) (g:Nat) (r:Value):Prop:= ∀w:World,(method (P.types.size+Made.depth) t v name).run P w=.ok (g,r) w
def sU (P:Program) (f:Value) (args:List Value) (w:World) (K:Value→World→Prop):Prop:=
 (∃g vs,me f args=some (g,vs)∧okF P g=true∧Cs P g vs w K)∨(∃l,f=.func (.yield l) #[] #[]∧Ys P l args w K)∨(∃t v name g r,f=.func (.method name) #[.iface t v] #[]∧J5 P t v name g r∧okF P g=true∧Cs P g (r::args) w K)
theorem sU.mono {P:Program} {f:Value} {args:List Value} {w:World} {K K':Value→World→Prop} (h:sU P f args w K) (j: ∀v w',K v w'→K' v w'):sU P f args w K':=
 h.elim (fun⟨g,vs,b,d,k⟩=>.inl ⟨g,vs,b,d,k.mono j⟩) fun h=>h.elim (fun⟨l,b,d⟩=>.inr (.inl ⟨l,b,d.mono j⟩)) fun⟨t,v,name,g,r,b,d,k,m⟩=>.inr (.inr ⟨t,v,name,g,r,b,d,k,m.mono j⟩)
def mf (P:Program) (s:Sem Value) (w:World) (K:Value→World→Prop):Prop:= ∃v w',s.run P w=.ok v w'∧K v w'
def Ch (P:Program) (s:Sem Unit) (w:World) (K:Value→World→Prop):Prop:= ∃w',s.run P w=.ok () w'∧K undef w'
def J6 (P:Program) (b:Builtin) (d:Array TypeId) (args:Array Value) (w:World) (K:Value→World→Prop):Prop:=match b with
 |.delete=>mf P (Builtin.delete_ d 0 args) w K
 |.clear=>mf P (Builtin.clear_ d 0 args) w K
 |.copy=>mf P (Builtin.copy_ d 0 args) w K
 |.len=>mf P (Builtin.len_ d 0 args) w K
 |_=>False
def Ha (P:Program) (d:Op) (ρ:Env) (w:World) (K:Value→World→Prop):Prop:=match d with
 |.makeMap t r=>mf P (Instr.makeMap t (r.map (ev ρ))) w K
 |.mapUpdate t m k x|.insert t m k x=>Ch P (Instr.mapUpdate t (ev ρ m) (ev ρ k) (ev ρ x)) w K
 |.lookup t x i j=>mf P (Instr.lookup t (ev ρ x) (ev ρ i) j) w K
 |.range t x=>mf P (Instr.range t (ev ρ x)) w K
 |.next it b=>mf P (Instr.next (ev ρ it) b 0) w K
 |.entry it=>mf P (Instr.entry (ev ρ it)) w K
 |.mapEntry t m k=>mf P (Instr.mapEntry t (ev ρ m) (ev ρ k)) w K
 |.entryStore t m s x=>Ch P (Instr.entryStore t (ev ρ m) (ev ρ s) (ev ρ x)) w K
 |.unOp o _ x=>mf P (Op.unary o (ev ρ x)) w K
 |.makeInterface t x=>mf P (Instr.makeInterface t (ev ρ x)) w K
 |.call c=>match c.callee with
  |.builtin b=>J6 P b c.argTypes (c.args.map (ev ρ)) w K
  |_=>False
 |_=>False
theorem mf.mono {P:Program} {s:Sem Value} {w:World} {K K':Value→World→Prop} (h:mf P s w K) (b: ∀v w',K v w'→K' v w'):mf P s w K':=by
 obtain⟨v,w',d,j⟩:=h;exact⟨v,w',d,b _ _ j⟩
theorem Ch.mono {P:Program} {s:Sem Unit} {w:World} {K K':Value→World→Prop} (h:Ch P s w K) (b: ∀v w',K v w'→K' v w'):Ch P s w K':=by
 obtain⟨w',d,j⟩:=h;exact⟨w',d,b _ _ j⟩
theorem Ci {P:Program} {b:Builtin} {d:Array TypeId} {args:Array Value} {w:World} {K K':Value→World→Prop} (h:J6 P b d args w K) (j: ∀v w',K v w'→K' v w'):J6 P b d args w K':=by
 cases b<;>first|exact mf.mono h j|exact h.elim
theorem Cj {P:Program} {b:Op} {ρ:Env} {w:World} {K K':Value→World→Prop} (h:Ha P b ρ w K) (d: ∀v w',K v w'→K' v w'):Ha P b ρ w K':=by
 cases b<;>first|exact mf.mono h d|exact Ch.mono h d|exact h.elim|skip
 case call c=>
  obtain⟨j,args,k⟩:=c;cases j<;>first|exact Ci h d|exact h.elim
def fv (P:Program) (x:XB) (ρ:Env) (w:World) (K:Value→World→Prop):Prop:=match x with
 |.box t x=>K (.pointer (some ⟨w.heap.size,0,none⟩)) (w.alloc (.cells (ev ρ x).cells t))
 |.alc t zero=>K (.pointer (some ⟨w.heap.size,0,none⟩)) (w.alloc (.cells ⟨zero⟩ t))
 |.st a v=> ∃p,ev ρ a=.pointer (some p)∧bh (ev ρ v)=true∧(w.cell? p).isSome=true∧w.frozen? p=false∧K undef (w.setCell p (ev ρ v))
 |.stN n a v=> ∃p cs,ev ρ a=.pointer (some p)∧ev ρ v=.agg cs∧cs.size=n∧World.jm w p cs.toList 0∧K undef (World.setCells w p cs.toList 0)
 |.call f args=>Cs P f (args.map (ev ρ)) w K
 |.callv f args=>sU P (ev ρ f) (args.map (ev ρ)) w K
 |.act j=>Ha P j ρ w K
 |.bsl e len zeros parts=> ∃cs,dQ zeros (parts.map (Bf ρ))=some cs∧K (.slice (some ⟨w.heap.size,0,none⟩) len len) (w.alloc (.cells ⟨cs⟩ e))
 |.mks e bytes zero l c=> ∃(k k':IntKind) (n m:Nat),ev ρ l=.int k n∧ev ρ c=.int k' m∧n≤m∧m≤1099511627776∧m*bytes≤1099511627776∧
   K (.slice (some ⟨w.heap.size,0,none⟩) n m) (w.alloc (.cells ⟨il zero m⟩ e))
 |.app _ bytes zero s x=> ∃n xs fp m us,ql w zero.length (ev ρ s) n xs fp∧bn w zero.length (ev ρ x) m us∧(∀u,u∈us→bh u=true)∧n+m≤1099511627776∧(n+m)*bytes≤1099511627776∧
   ∀d w' b,ql w' zero.length d (n+m) (xs++us) b→(Sl w zero.length (ev ρ s) n xs fp→Sl w' zero.length d (n+m) (xs++us) b)→(b=fp∨b=[w.heap.size])→ae fp w w'→wc (ev ρ s) d n m fp b→K d w'
 |_=>False
def rL (P:Program) (s:Sem Next) (w:World) (K:Value→World→Prop):Prop:=match s.run P w with
 |.ok (.value v) w'=>K v w'
 |.ok .skip w'=>K undef w'
 |.ok (.enter f args) w'=>Calls P f args w' (fun e b=> ∃v,e=.returned v∧K v b)
 |_=>False
def oU (P:Program) (s:Sem Next) (w:World) (K:Value→World→Prop):Prop:=match s.run P w with
 |.ok (.value v) w'=>K v w'
 |.ok .skip w'=>K undef w'
 |.ok (.enter f args) w'=>Calls P f args w' (fun e b=> ∃v,e=.returned v∧K v b)
 |.ok (.round l f tmps assign body) w'=>ll P l f tmps assign body w' K
 |_=>False
theorem rL.v {P:Program} {s:Sem Next} {w:World} {K:Value→World→Prop} (h:rL P s w K):oU P s w K:=by
 unfold rL at h;unfold oU;generalize s.run P w=r at*;cases r with
 |halt x w'=>exact h
 |ok n w'=>cases n<;>first|exact h|exact h.elim
def XB.N4:XB→Bool
 |.callv _ _=>true
 |_=>false
section
variable {P:Program} {w:World} {K:Value→World→Prop}
theorem fH {s:Sem Value} {v:Value} {w':World} (h:s.run P w=.ok v w') (b:K v w'):rL P (do pure (.value (←s))) w K:=by
 unfold rL;simp only[Sem.run_bind,h,Result.andThen_ok,Sem.run_pure];exact b
theorem mU {s:Sem Unit} {w':World} (h:s.run P w=.ok () w') (b:K undef w'):rL P (do s;pure .skip) w K:=by
 unfold rL;simp only[Sem.run_bind,h,Result.andThen_ok,Sem.run_pure];exact b
theorem oV {v:Value} (h:bh v=true):v.oneCell'=true∧v.cells=#[v]:=by cases v<;>first|exact⟨rfl,rfl⟩|cases h
theorem sV {p:Addr} {v:Value} (b:bh v=true) (d:(w.cell? p).isSome=true) (j:w.frozen? p=false):(store p v).run P w=.ok () (w.setCell p v):=by
 rw[run_store P w p v .plain (oV b).1];cases k:w.cell? p with
 |none=>simp[k]at d
 |some u=>simp[j]
theorem dJ {p:Addr}: ∀(vs:List Value) (i:Nat) (w:World),World.jm w p vs i→(storeCells p vs i).run P w=.ok () (World.setCells w p vs i)
 | [],_,_,_=>by simp[storeCells,World.setCells]
 |v::vs,i,w,h=>by
  obtain⟨b,d,j,k⟩:=h
  simp only[storeCells,Sem.run_bind,sV b d j,Result.andThen_ok,World.setCells]
  exact dJ vs (i+1) _ k
theorem bQ (b o n:Nat):(⟨b,o,none⟩:Addr).add n=⟨b,o+n,none⟩:=by
 unfold Addr.add;split
 ·rename_i h;subst h;rfl
 ·rfl
theorem ae.refl (S:List Nat) (w:World):ae S w w:=⟨rfl,rfl,rfl,Nat.le_refl _,fun _ _ _=>rfl⟩
theorem ae.setCell (w:World) (a:Addr) (v:Value):ae [a.block] w (w.setCell a v):=
 ⟨rfl,rfl,rfl,by simp,fun k _ b=>by
  simp only[List.mem_singleton]at b
  simp only[World.setCell,Array.getElem?_modify]
  rw[if_neg (by omega)]⟩
theorem ae.trans {S T:List Nat} {a b c:World} (h:ae S a b) (k:ae T b c) (l: ∀x,x∈T→x∈S∨a.heap.size≤x):ae S a c:=
 ⟨k.os.trans h.os,k.tape.trans h.tape,k.output.trans h.output,Nat.le_trans h.size k.size,fun x d j=>
  (k.block x (Nat.lt_of_lt_of_le d h.size) (fun m=>(l x m).elim j (fun o=>absurd d (Nat.not_lt.2 o)))).trans (h.block x d j)⟩
theorem heap_setCell {w:World} {g i:Nat} {cs:List Value} {T:TypeId} (h:w.heap[g]? =some (.cells ⟨cs⟩ T (0,0))) (v:Value):
  (w.setCell ⟨g,i,none⟩ v).heap[g]? =some (.cells ⟨cs.set i v⟩ T (0,0)):=by
 simp[World.setCell,Array.getElem?_modify,h]
theorem fY {g off:Nat} {T:TypeId}: ∀(us:List Value) (i:Nat) (w:World) (cs:List Value),w.heap[g]? =some (.cells ⟨cs⟩ T (0,0))→off+i+us.length≤cs.length→(∀u,u∈us→bh u=true)→
  World.jm w ⟨g,off,none⟩ us i∧(World.setCells w ⟨g,off,none⟩ us i).heap[g]? =some (.cells ⟨dU cs (off+i) us⟩ T (0,0))∧ae [g] w (World.setCells w ⟨g,off,none⟩ us i)∧
   (World.setCells w ⟨g,off,none⟩ us i).heap.size=w.heap.size
 | [],i,w,cs,h,_,_=>⟨trivial,h,ae.refl _ _,rfl⟩
 |u::us,i,w,cs,h,d,b=>by
  simp only[List.length_cons]at d
  have j:=heap_setCell (i:=off+i) h u
  obtain⟨k,l,m,o⟩:=fY (off:=off) us (i+1) (w.setCell ⟨g,off+i,none⟩ u) (cs.set (off+i) u) j (by simp;omega) (fun v q=>b v (List.mem_cons_of_mem _ q))
  simp only[World.jm,World.setCells,bQ,dU]
  refine⟨⟨b u (by simp),?_,?_,k⟩,l,(ae.setCell w ⟨g,off+i,none⟩ u).trans m (fun x r=>.inl r),?_⟩
  ·simp[World.cell?,h,show off+i<cs.length from by omega]
  ·simp[World.frozen?,h]
  ·rw[o];simp
theorem j0: ∀(us xs ys:List Value),us.length≤ys.length→dU (xs++ys) xs.length us=xs++us++ys.drop us.length
 | [],xs,ys,_=>by simp[dU]
 |u::us,xs,y::ys,h=>by
  simp only[List.length_cons,Nat.add_le_add_iff_right]at h
  simp only[dU]
  have e:(xs++y::ys).set xs.length u=(xs++[u])++ys:=by simp
  rw[e,show xs.length+1=(xs++[u]).length by simp,j0 us (xs++[u]) ys h]
  simp
 |u::us,xs,[],h=>by simp at h
theorem qn {sz m:Nat} {p:Addr} {us:List Value} (h:aC w p (m*sz)=some us):us.length=m*sz∧ ∀j v,us[j]? =some v→w.cell? (p.add j)=some v:=by
 obtain⟨k,l⟩:=lb h;refine⟨k,fun j v b=>?_⟩;have:j<us.length:=by
  rcases Nat.lt_or_ge j us.length with d|d
  ·exact d
  ·rw[List.getElem?_eq_none d]at b;cases b
 rw[l j (by omega)];exact b
theorem jo {sz m:Nat} {x:Value} {us:List Value} (h:bn w sz x m us):(Builtin.lenOf x).run P w=.ok m w∧(Builtin.firstCells sz m x).run P w=.ok ⟨us⟩ w:=by
 obtain⟨b,⟨c,rfl,rfl⟩|⟨p,c,rfl,d⟩⟩:=h
 ·have:us=[]:=List.eq_nil_of_length_eq_zero (by simpa using b);subst this;exact⟨by simp[Builtin.lenOf],by simp[Builtin.firstCells]⟩
 ·exact⟨by simp[Builtin.lenOf],by simp only[Builtin.firstCells];exact run_loadCells d⟩
theorem Hb {t e ty:TypeId} {i:TypeInfo} {z:Value} (H:P.underlying t=some (.slice e)) (L:P.info? e=some i) (hz:i.zero=some z) (Q:z.cells.size=i.size)
  {s x:Value} {n m:Nat} {xs us:List Value} {fp:List Nat} (C:Sl w i.size s n xs fp) (D:bn w i.size x m us) (y: ∀u,u∈us→bh u=true) (Ck:n+m≤1099511627776) (R:(n+m)*i.bytes≤1099511627776):
  ∃U w' B,(Builtin.append_ #[t,t] ty #[s,x]).run P w=.ok U w'∧Sl w' i.size U (n+m) (xs++us) B∧(B=fp∨B=[w.heap.size])∧ae fp w w'∧wc s U n m fp B:=by
 have l:(xs++us).length=(n+m)*i.size:=by rw[List.length_append,C.1,D.1,Nat.add_mul]
 have hnz:(match P.underlying t with|some (.int _)=>true|_=>false)=false:=by rw[H]
 have q: ∀(b:Nat),(w.drew.alloc (.cells (xs.toArray++us.toArray++Builtin.zeroCells z.cells (grownCap w (n+m) b e-(n+m))) e)).heap[w.heap.size]? =
    some (.cells ⟨(xs++us)++(Builtin.zeroCells z.cells (grownCap w (n+m) b e-(n+m))).toList⟩ e (0,0))∧
   ((xs++us)++(Builtin.zeroCells z.cells (grownCap w (n+m) b e-(n+m))).toList).length=grownCap w (n+m) b e*i.size∧n+m≤grownCap w (n+m) b e:=by
  intro b;have V:n+m≤grownCap w (n+m) b e:=by simp[grownCap,Question.cut]
  refine⟨?_,?_,V⟩
  ·show(w.drew.heap.push _)[w.heap.size]? =_;have e2:w.drew.heap=w.heap:=rfl;rw[e2];simp only[Array.getElem?_push_size,Option.some.injEq,Obj.cells.injEq,and_true];apply Array.ext';simp
  ·have W:(Builtin.zeroCells z.cells (grownCap w (n+m) b e-(n+m))).toList.length=(grownCap w (n+m) b e-(n+m))*i.size:=by
    simp[Builtin.zeroCells,Q]
   rw[List.length_append,l,W,←Nat.add_mul];congr 1;omega
 have r: ∀(S:List Nat) (o:Obj),ae S w (w.drew.alloc o):=fun S o=>⟨rfl,rfl,rfl,by simp,fun k hk _=>by
  show(w.heap.push o)[k]? =_;rw[Array.getElem?_push,if_neg (by omega)]⟩
 rcases C.2 with⟨rfl,rfl,rfl⟩|⟨g,cap,ys,T,rfl,rfl,hg,I,hnc⟩
 ·have X:xs=[]:=List.eq_nil_of_length_eq_zero (by simpa using C.1);subst X;obtain⟨E,F⟩:=jo (P:=P) D;by_cases Y:m=0
  ·subst Y;have Z:us=[]:=List.eq_nil_of_length_eq_zero (by simpa using D.1);subst Z;refine⟨.slice none 0 0,w,[],?_,C,.inl rfl,ae.refl _ _,fun _=>rfl,fun a c y _=>by cases y;exact⟨rfl,rfl⟩⟩;have G:(underlying t).run P w=.ok (.slice e) w:=bc H;simp[Builtin.append_,G,ct L,E,F]
  ·rcases D.2 with⟨c,_,h⟩|⟨p,c,rfl,hc⟩
   ·exact absurd h Y
   ·obtain⟨hl,hj⟩:=qn hc;have hr:=run_append_nil (P:=P) w t ty e i z H L hz p m c us hl hj (by omega) (by omega) (by have:=R;simp only[Nat.zero_add]at this;omega);obtain⟨J,M,N⟩:=q 0;simp only[Nat.zero_add]at J M N;have e0:(([]:List Value).toArray++us.toArray++Builtin.zeroCells z.cells (grownCap w m 0 e-m))=us.toArray++Builtin.zeroCells z.cells (grownCap w m 0 e-m):=by simp
    rw[e0]at J;refine⟨_,_,[w.heap.size],hr,⟨by simpa using l,.inr ⟨_,_,_,_,by rw[Nat.zero_add],rfl,J,M,by simpa using N⟩⟩,.inr rfl,r _ _,fun h=>absurd h Y,fun a c y O=>by cases y;omega⟩
 ·by_cases d:n+m≤cap
  ·obtain⟨E,F⟩:=jo (P:=P) D;have hys:us.length≤ys.length:=by
    have O:(n+m)*i.size≤cap*i.size:=Nat.mul_le_mul_right _ d;rw[List.length_append]at I;have:=C.1;have:=D.1;rw[Nat.add_mul]at O;omega
   obtain⟨k1,k2,k3,k4⟩:=fY (off:=n*i.size) us 0 w (xs++ys) hg (by rw[List.length_append,←C.1];omega) y;refine⟨.slice (some ⟨g,0,none⟩) (n+m) cap,World.setCells w ⟨g,n*i.size,none⟩ us 0,[g],?_,⟨l,.inr ⟨g,cap,ys.drop us.length,T,rfl,rfl,?_,?_,d⟩⟩,.inl rfl,k3,fun h=>by subst h;rfl,fun a c y _=>by cases y;exact⟨rfl,rfl⟩⟩
   ·have G:(underlying t).run P w=.ok (.slice e) w:=bc H;have N5:=dJ (P:=P) us 0 w k1;simp[Builtin.append_,G,ct L,E,F,d,bQ,N5]
   ·rw[k2,←C.1,Nat.add_zero,j0 us xs ys hys]
   ·rw[←I];simp only[List.length_append,List.length_drop];omega
  ·have K:m≠0:=by omega
   rcases D.2 with⟨c,_,h⟩|⟨p,c,rfl,hc⟩
   ·exact absurd h K
   ·obtain⟨hl,hj⟩:=qn hc;have holds: ∀j v,xs[j]? =some v→w.cell? ((⟨g,0,none⟩:Addr).add j)=some v:=fun j v hv=>by
     rw[bQ];have wg:j<xs.length:=by
      rcases Nat.lt_or_ge j xs.length with h'|h'
      ·exact h'
      ·rw[List.getElem?_eq_none h']at hv;cases hv
     simp only[World.cell?,hg];simp[List.getElem?_append_left wg,hv]
    have hr:=run_append_grow (P:=P) w t ty e i z H L hz ⟨g,0,none⟩ n cap xs C.1 holds p m c us hl hj (by omega) (by omega) (growslice_fits (by omega) (by omega));obtain⟨J,M,N⟩:=q cap;refine⟨_,_,[w.heap.size],hr,⟨l,.inr ⟨_,_,_,_,rfl,rfl,J,M,N⟩⟩,.inr rfl,r _ _,fun h=>absurd h K,fun a c y O=>by cases y;exact absurd O d⟩
theorem Cl {t e ty:TypeId} {i:TypeInfo} {z:Value} (G:P.underlying t=some (.slice e)) (Y:P.info? e=some i) (hz:i.zero=some z) (H:z.cells.size=i.size)
  {s x:Value} {n m:Nat} {xs us:List Value} {fp:List Nat} (r:ql w i.size s n xs fp) (I: ¬Sl w i.size s n xs fp) (F:bn w i.size x m us) (C: ∀u,u∈us→bh u=true) (Ck:n+m≤1099511627776) (SE:(n+m)*i.bytes≤1099511627776):
  ∃J w' q,(Builtin.append_ #[t,t] ty #[s,x]).run P w=.ok J w'∧ql w' i.size J (n+m) (xs++us) q∧(q=fp∨q=[w.heap.size])∧ae fp w w'∧wc s J n m fp q:=by
 have l:(xs++us).length=(n+m)*i.size:=by rw[List.length_append,r.1,F.1,Nat.add_mul]
 have hnz:(match P.underlying t with|some (.int _)=>true|_=>false)=false:=by rw[G]
 have y: ∀(b:Nat),(w.drew.alloc (.cells (xs.toArray++us.toArray++Builtin.zeroCells z.cells (grownCap w (n+m) b e-(n+m))) e)).heap[w.heap.size]? =
    some (.cells ⟨(xs++us)++(Builtin.zeroCells z.cells (grownCap w (n+m) b e-(n+m))).toList⟩ e (0,0))∧
   ((xs++us)++(Builtin.zeroCells z.cells (grownCap w (n+m) b e-(n+m))).toList).length=grownCap w (n+m) b e*i.size∧n+m≤grownCap w (n+m) b e:=by
  intro b;have K:n+m≤grownCap w (n+m) b e:=by simp[grownCap,Question.cut]
  refine⟨?_,?_,K⟩
  ·show(w.drew.heap.push _)[w.heap.size]? =_;have e2:w.drew.heap=w.heap:=rfl;rw[e2];simp only[Array.getElem?_push_size,Option.some.injEq,Obj.cells.injEq,and_true];apply Array.ext';simp
  ·have L:(Builtin.zeroCells z.cells (grownCap w (n+m) b e-(n+m))).toList.length=(grownCap w (n+m) b e-(n+m))*i.size:=by
    simp[Builtin.zeroCells,H]
   rw[List.length_append,l,L,←Nat.add_mul];congr 1;omega
 have B: ∀(S:List Nat) (o:Obj),ae S w (w.drew.alloc o):=fun S o=>⟨rfl,rfl,rfl,by simp,fun k hk _=>by
  show(w.heap.push o)[k]? =_;rw[Array.getElem?_push,if_neg (by omega)]⟩
 rcases r.2 with⟨rfl,rfl,rfl⟩|⟨g,cap,pre,ys,post,T,rfl,rfl,Z,D,hnc⟩
 ·exact absurd ⟨r.1,.inl ⟨rfl,rfl,rfl⟩⟩ I
 ·by_cases d:n+m≤cap
  ·obtain⟨M,N⟩:=jo (P:=P) F;have O:us.length≤ys.length:=by
    have Q:(n+m)*i.size≤cap*i.size:=Nat.mul_le_mul_right _ d;rw[List.length_append]at D;have:=r.1;have:=F.1;rw[Nat.add_mul]at Q;omega
   obtain⟨k1,k2,k3,k4⟩:=fY (off:=pre.length+n*i.size) us 0 w (pre++(xs++ys)++post) Z (by simp only[List.length_append];have:=r.1;omega) C;refine⟨.slice (some ⟨g,pre.length,none⟩) (n+m) cap,World.setCells w ⟨g,pre.length+n*i.size,none⟩ us 0,[g],?_,⟨l,.inr ⟨g,cap,pre,ys.drop us.length,post,T,rfl,rfl,?_,?_,d⟩⟩,.inl rfl,k3,fun h=>by subst h;rfl,fun a c C _=>by cases C;exact⟨rfl,rfl⟩⟩
   ·have R:(underlying t).run P w=.ok (.slice e) w:=bc G;have U:=dJ (P:=P) us 0 w k1;simp[Builtin.append_,R,ct Y,M,N,d,bQ,U]
   ·rw[k2,←r.1,Nat.add_zero,show pre++(xs++ys)++post=(pre++xs)++(ys++post) by simp,show pre.length+xs.length=(pre++xs).length by simp,j0 us (pre++xs) (ys++post) (by rw[List.length_append];omega),
     List.drop_append_of_le_length O]
    simp
   ·rw[←D];simp only[List.length_append,List.length_drop];omega
  ·have E:m≠0:=by omega
   rcases F.2 with⟨c,_,h⟩|⟨p,c,rfl,hc⟩
   ·exact absurd h E
   ·obtain⟨hl,hj⟩:=qn hc;have holds: ∀j v,xs[j]? =some v→w.cell? ((⟨g,pre.length,none⟩:Addr).add j)=some v:=fun j v V=>by
     rw[bQ];have W:j<xs.length:=by
      rcases Nat.lt_or_ge j xs.length with X|X
      ·exact X
      ·rw[List.getElem?_eq_none X]at V;cases V
     simp only[World.cell?,Z];simp[List.append_assoc,List.getElem?_append_right,List.getElem?_append_left W,V]
    have hr:=run_append_grow (P:=P) w t ty e i z G Y hz ⟨g,pre.length,none⟩ n cap xs r.1 holds p m c us hl hj (by omega) (by omega) (growslice_fits (by omega) (by omega));obtain⟨g1,g2,g3⟩:=y cap;refine⟨_,_,[w.heap.size],hr,Sl.N3 ⟨l,.inr ⟨_,_,_,_,rfl,rfl,g1,g2,g3⟩⟩,.inr rfl,B _ _,fun h=>absurd h E,fun a c C Q=>by cases C;exact absurd Q d⟩
theorem DU {t e ty:TypeId} {i:TypeInfo} {z:Value} (B:P.underlying t=some (.slice e)) (C:P.info? e=some i) (D:i.zero=some z) (j:z.cells.size=i.size)
  {s x:Value} {n m:Nat} {xs us:List Value} {fp:List Nat} (G:ql w i.size s n xs fp) (E:bn w i.size x m us) (F: ∀u,u∈us→bh u=true) (l:n+m≤1099511627776) (o:(n+m)*i.bytes≤1099511627776):
  ∃d w' b,(Builtin.append_ #[t,t] ty #[s,x]).run P w=.ok d w'∧ql w' i.size d (n+m) (xs++us) b∧(Sl w i.size s n xs fp→Sl w' i.size d (n+m) (xs++us) b)∧(b=fp∨b=[w.heap.size])∧ae fp w w'∧wc s d n m fp b:=by
 by_cases h:Sl w i.size s n xs fp
 ·obtain⟨d,w',b,r,q,y⟩:=Hb (ty:=ty) B C D j h E F l o;exact⟨d,w',b,r,q.N3,fun _=>q,y⟩
 ·obtain⟨d,w',b,r,q,y⟩:=Cl (ty:=ty) B C D j G h E F l o;exact⟨d,w',b,r,q,fun k=>absurd k h,y⟩
theorem kr {t:TypeId} {e:TypeId×Nat×List Value} (h:l' P t=some e): ∃i z,P.underlying t=some (.slice e.1)∧P.info? e.1=some i∧i.zero=some z∧z.cells.size=i.size∧0<i.size∧e.2.1=i.bytes∧e.2.2=z.cells.toList:=by
 unfold l' at h;split at h
 ·rename_i l d;split at h
  ·rename_i i j;split at h
   ·rename_i z k;split at h
    ·rename_i b;cases h;exact⟨i,z,d,j,k,b.1,b.2,rfl,rfl⟩
    ·cases h
   ·cases h
  ·cases h
 ·cases h
theorem wh (z:Array Value) (n:Nat):((Array.range (n*z.size)).map fun i=>z[i%z.size]!)=⟨il z.toList n⟩:=by
 apply Array.ext';simp only[il,Array.toList_map,Array.toList_range,Array.length_toList];apply List.map_congr_left;intro i d;have b:i<n*z.size:=by simpa using d
 have j:0<z.size:=by
  rcases Nat.eq_zero_or_pos z.size with h|h
  ·rw[h]at b;simp at b
  ·exact h
 have k:i%z.size<z.size:=Nat.mod_lt _ j;simp[k]
theorem xT (z:List Value) (n:Nat):(il z n).length=n*z.length:=by simp[il]
theorem Cm {sz:Nat}: ∀(parts:List (Nat×Value)) (cells:Array Value) (cs:List Value),dQ cells.toList (parts.map fun p=>(p.1*sz,sz,p.2))=some cs→
  Instr.fill (fun i=>some (i*sz,sz)) cells parts=some ⟨cs⟩:=fun parts cells cs h=>by
 refine lj parts _ ?_ cells cs h
 clear h
 induction parts with
 |nil=>simp
 |cons p parts b=>simp at b⊢;rw[b];rfl
theorem sX {t e:TypeId} {i:TypeInfo} {z:Value} {len:Nat} {parts:Array (Nat×Value)} {cs:List Value} (o:P.underlying t=some (.slice e)) (m:P.info? e=some i) (q:i.zero=some z)
  (k:len*i.size≤2^24) (l:Instr.fill (fun j=>some (j*i.size,i.size)) ((Array.range (len*i.size)).map fun j=>z.cells[j%z.cells.size]!) parts.toList=some ⟨cs⟩):
  (Instr.buildSlice t len parts).run P w=.ok (.slice (some ⟨w.heap.size,0,none⟩) len len) (w.alloc (.cells ⟨cs⟩ e)):=by
 have d: ¬(len*i.size>2^24):=Nat.not_lt.2 k;unfold Instr.buildSlice;rw[Sem.run_bind,bc o];simp only[Result.andThen_ok];rw[Sem.run_bind,ct m];simp only[Result.andThen_ok];rw[if_neg d];by_cases b:len*i.size=0
 ·rw[if_pos b];rw[b]at l;have r:((Array.range 0).map fun j=>z.cells[j%z.cells.size]!)=((Array.range (len*i.size)).map fun j=>(#[]:Array Value)[j%(#[]:Array Value).size]!):=by rw[b];simp
  rw[r]at l;simp only[Sem.run_bind,Sem.run_pure,Result.andThen_ok,l,newRow,run_newObj,World.alloc_eq]
 ·rw[if_neg b];simp only[Sem.run_bind,Sem.run_pure,Result.andThen_ok,zeroValue,jk m,q,l,newRow,run_newObj,World.alloc_eq]
theorem run_makeSlice {t e:TypeId} {i:TypeInfo} {z:Value} {k k':IntKind} {n m:Nat} (q:P.underlying t=some (.slice e)) (d:P.info? e=some i) (r:i.zero=some z) (o:z.cells.size=i.size) (u:n≤m) (y:m≤1099511627776) (l:m*i.bytes≤1099511627776):
  (Instr.makeSlice t (.int k n) (.int k' m)).run P w=.ok (.slice (some ⟨w.heap.size,0,none⟩) n m) (w.alloc (.cells ⟨il z.cells.toList m⟩ e)):=by
 have B:IntKind.i64.wrap (n:Int)=n:=IntWalk.i64_in _ (by omega);have C:IntKind.i64.wrap (m:Int)=m:=IntWalk.i64_in _ (by omega);have D:((i.bytes:Int)*(m:Int))≤1099511627776:=by
  have:((m*i.bytes:Nat):Int)≤((1099511627776:Nat):Int):=Int.ofNat_le.2 l;rw[Int.natCast_mul,Int.mul_comm]at this;exact this
 have E:((decide ((m:Int)<0)||decide ((i.bytes:Int)*(m:Int)>2^48))||decide ((n:Int)<0)||decide ((n:Int)>(m:Int)))=false:=by
  simp only[Bool.or_eq_false_iff,decide_eq_false_iff_not];refine⟨⟨⟨by omega,?_⟩,by omega⟩,by omega⟩;have:(2:Int)^48=281474976710656:=by decide
  rw[this];omega
 unfold Instr.makeSlice;rw[Sem.run_bind,bc q];simp only[Result.andThen_ok,asInt,asIntOf,Sem.run_bind,Sem.run_pure,jk d,B,C,E,Bool.false_eq_true,if_false,run_askRoom,Int.toNat_natCast,ct d];by_cases b:m*i.size=0
 ·rw[if_pos b];have F:((Array.range (m*i.size)).map fun j=>(#[]:Array Value)[j%(#[]:Array Value).size]!)=⟨il z.cells.toList m⟩:=by
   rw[←wh,o,b];simp
  simp only[Sem.run_pure,Result.andThen_ok,newRow,Sem.run_bind,run_newObj,World.alloc_eq,F]
 ·rw[if_neg b];have G:((Array.range (m*i.size)).map fun j=>z.cells[j%z.cells.size]!)=⟨il z.cells.toList m⟩:=by rw[←o,wh]
  simp only[zeroValue,Sem.run_bind,jk d,r,Sem.run_pure,Result.andThen_ok,newRow,run_newObj,World.alloc_eq,G]
theorem sY {Y:Op} {x:XB} (h:xM P Y=some x) (hV:x.N4=false) {ρ:Env} (o:fv P x ρ w K) (dd:Option Nat) (ty:TypeId) (N:String) (af:Array Edge) (g:Option (Nat×Bool)):
  rL P (execOp (ev ρ) ⟨dd,Y,ty,N,af,g⟩) w K:=by
 cases Y<;>simp only[xM]at h
 case box t a=>
  cases h;exact fH (s:=Instr.box t (ev ρ a)) (by simp[Instr.box,newVar,newRow]) o
 case alloc t=>
  split at h
  ·rename_i i r;obtain⟨z,Z,rfl⟩:=Option.map_eq_some_iff.1 h;refine fH (s:=Instr.alloc t true (.tuple #[])) ?_ o;simp only[Instr.alloc,zeroValue,Sem.run_bind,jk r,Result.andThen_ok,Z,Sem.run_pure,newVar,newRow,run_newObj,World.alloc_eq]
  ·cases h
 case store t a v=>
  unfold sd at h;split at h
  ·rename_i d i ht r;split at h
   ·cases h;obtain⟨p,cs,L,hv,hn,O,o⟩:=o;refine mU (s:=Instr.storeAt t (ev ρ a) (ev ρ v)) ?_ o;simp only[Instr.storeAt,L,hv,Instr.sureAddr,storeVar,Sem.run_bind,Sem.run_pure,Result.andThen_ok,ct r,Value.cells,hn,ne_eq,not_true_eq_false,if_false];exact dJ _ _ _ O
   ·cases h;obtain⟨p,cs,L,hv,hn,O,o⟩:=o;refine mU (s:=Instr.storeAt t (ev ρ a) (ev ρ v)) ?_ o;simp only[Instr.storeAt,L,hv,Instr.sureAddr,storeVar,Sem.run_bind,Sem.run_pure,Result.andThen_ok,ct r,Value.cells,hn,ne_eq,not_true_eq_false,if_false];exact dJ _ _ _ O
   ·split at h
    ·rename_i W;cases h;obtain⟨p,L,B,E,F,o⟩:=o;refine mU (s:=Instr.storeAt t (ev ρ a) (ev ρ v)) ?_ o;have e:=(oV B).2;have Z:p.add 0=p:=by simp[Addr.add]
     simp only[Instr.storeAt,L,Instr.sureAddr,storeVar,Sem.run_bind,Sem.run_pure,Result.andThen_ok,ct r,e,W,List.size_toArray,List.length_cons,List.length_nil,Nat.zero_add,ne_eq,not_true_eq_false,if_false,
      storeCells,Z,sV B E F]
    ·cases h
  ·cases h
 case call c=>
  obtain⟨cl,args,ts⟩:=c;unfold vZ at h;simp only at h;split at h
  ·unfold mT at h;split at h
   ·obtain⟨j,r,rfl⟩:=Option.map_eq_some_iff.1 h;exact o.elim
   ·cases h;exact o.elim
   ·cases h;exact o.elim
   ·split at h
    ·rename_i s x t u L ht heq;subst heq;obtain⟨e,Q,rfl⟩:=Option.map_eq_some_iff.1 h;obtain⟨i,z,B,E,F,G,h5,R,H⟩:=kr Q;obtain⟨n,xs,fp,m,us,W,hx,S,I,y,o⟩:=o;have C:e.2.2.length=i.size:=by rw[H];simpa using G
     rw[C]at W hx o;rw[R]at y;obtain⟨v',w',DV,hr,J7,hk',DW,ho,O⟩:=DU (ty:=ty) B E F G W hx S I y;have TA:args=#[s,x]:=by cases args;simp_all
     have TB:ts=#[t,t]:=by cases ts;simp_all
     subst TA;subst TB;rw[ma];simp only[List.map_toArray,List.map_cons,List.map_nil];exact fH (s:=Builtin.append_ #[t,t] ty #[ev ρ s,ev ρ x]) hr (o v' w' DV J7 hk' DW ho O)
    ·cases h
   ·cases h
  ·rename_i f;split at h
   ·rename_i q;obtain⟨fn,M,X⟩: ∃fn,P.funcs[f]? =some fn∧(fn.name== "runtime.NumGoroutine")=false∧fn.body.isNone=false:=by
     unfold okF at q;split at q
     ·rename_i fn M;simp only[Bool.and_eq_true,Bool.not_eq_true']at q;exact⟨fn,M,q⟩
     ·cases q
    ·
     cases h;have T:(execOp (ev ρ) ⟨dd,.call ⟨.value (.func f),args,ts⟩,ty,N,af,g⟩).run P w=.ok (.enter f (args.map (ev ρ))) w:=by
      simp only[execOp,resolve,Ba,Deferred.ofValue,Sem.run_bind,Sem.run_pure,Result.andThen_ok,invoke,callFunc,run_program,M,X.1,X.2,Bool.false_eq_true,if_false,Array.append_empty];simp
     unfold rL;rw[T];have e:(⟨args.toList.map (ev ρ)⟩:Array Value)=args.map (ev ρ):=by cases args;simp
     simp only[fv,Cs,e]at o;exact o
   ·cases h
  ·cases h;cases hV
  ·cases h
 case build t parts=>
  unfold r9 at h;split at h
  ·split at h
   ·obtain⟨ps,hps,rfl⟩:=Option.map_eq_some_iff.1 h;exact o.elim
   ·cases h
  ·split at h
   ·cases h;exact o.elim
   ·cases h
  ·cases h
 case buildSlice t len parts=>
  unfold iS at h;split at h
  ·rename_i e b z Q;obtain⟨i,zz,B,E,F,G,h5,R,H⟩:=kr Q;simp only at B E R H;split at h
   ·rename_i U;cases h;obtain⟨cs,M,o⟩:=o;have C:z.length=i.size:=by rw[H];simpa using G
    have D:(il z len)=((Array.range (len*i.size)).map fun j=>zz.cells[j%zz.cells.size]!).toList:=by
     rw[H,←G,wh]
    have V:(parts.toList.map fun p=>(p.1*z.length,z.length,p.2)).map (Bf ρ)=((parts.map fun(x:Nat×Operand)=>(x.1,ev ρ x.2)).toList).map fun p=>(p.1*i.size,i.size,p.2):=by
     simp only[Array.toList_map,List.map_map,C];apply List.map_congr_left;intro p _;rfl
    rw[V,D]at M;have J:=Cm _ _ _ M;exact fH (s:=Instr.buildSlice t len (parts.map fun(x:Nat×Operand)=>(x.1,ev ρ x.2))) (sX B E F (by rw[←C];exact U) J) o
   ·cases h
  ·cases h
 case makeSlice t l c=>
  obtain⟨e,Q,rfl⟩:=Option.map_eq_some_iff.1 h;obtain⟨i,z,B,E,F,G,h5,R,H⟩:=kr Q;obtain⟨k,k',n,m,hl,X,hnm,I,y,o⟩:=o;rw[R]at y;rw[H]at o;exact fH (s:=Instr.makeSlice t (ev ρ l) (ev ρ c)) (by rw[hl,X];exact run_makeSlice B E F G hnm I y) o
 case move=>cases h;exact o.elim
 case assign=>cases h;exact o.elim
 case pick=>cases h;exact o.elim
 case nilCheck=>cases h;exact o.elim
 case load=>
  unfold vX at h;split at h
  ·split at h
   ·obtain⟨i,r,rfl⟩:=Option.map_eq_some_iff.1 h;exact o.elim
   ·obtain⟨i,r,rfl⟩:=Option.map_eq_some_iff.1 h;exact o.elim
   ·cases h;exact o.elim
  ·cases h
 case fieldAddr=>
  unfold jZ at h;split at h
  ·split at h
   ·split at h
    ·cases h
    ·cases h;exact o.elim
   ·cases h
  ·cases h
 case field=>
  unfold sf at h;split at h
  ·split at h
   ·split at h
    ·obtain⟨i,r,rfl⟩:=Option.map_eq_some_iff.1 h;exact o.elim
    ·obtain⟨i,r,rfl⟩:=Option.map_eq_some_iff.1 h;exact o.elim
    ·cases h;exact o.elim
   ·cases h
  ·cases h
 case indexAddr=>
  unfold si at h;split at h
  ·cases h;exact o.elim
  ·split at h
   ·obtain⟨i,r,rfl⟩:=Option.map_eq_some_iff.1 h;exact o.elim
   ·cases h
 case binOp=>
  unfold Bg at h;split at h
  ·unfold J4 at h;split at h<;>try(cases h;done)
   ·cases h;exact o.elim
   ·cases h;exact o.elim
   ·split at h
    ·split at h
     ·cases h;exact o.elim
     ·cases h
    ·cases h
   ·cases h;exact o.elim
   ·split at h
    ·cases h;exact o.elim
    ·cases h
  ·unfold J4 at h;split at h<;>try(cases h;done)
   ·cases h;exact o.elim
   ·cases h;exact o.elim
   ·split at h
    ·split at h
     ·cases h;exact o.elim
     ·cases h
    ·cases h
   ·cases h;exact o.elim
   ·split at h
    ·cases h;exact o.elim
    ·cases h
  ·cases h;exact o.elim
 case unOp=>
  unfold G8 at h;split at h
  ·cases h;exact o.elim
  ·cases h
 case convert=>
  unfold wa at h;split at h
  ·cases h;exact o.elim
  ·cases h
 case makeFunc=>cases h;exact o.elim
 case slice=>
  unfold vY at h;split at h
  ·obtain⟨i,r,rfl⟩:=Option.map_eq_some_iff.1 h;exact o.elim
  ·obtain⟨i,r,rfl⟩:=Option.map_eq_some_iff.1 h;exact o.elim
  ·cases h
 case extract=>cases h;exact o.elim
 all_goals cases h
theorem xU {u:Nat} {args:Array Operand} {C:Array TypeId} {ρ:Env} (m:sU P (ρ u) (args.toList.map (ev ρ)) w K) (D:Option Nat) (ty:TypeId) (o:String) (E:Array Edge) (g:Option (Nat×Bool)):
  oU P (execOp (ev ρ) ⟨D,.call ⟨.value (.tmp u),args,C⟩,ty,o,E,g⟩) w K:=by
 rcases m with⟨z,vs,q,b,m⟩|⟨l,k,G,tmps,assign,body,F,m⟩|⟨t,v,name,z,r,k,H,b,m⟩;rotate_left 2
 ·obtain⟨fn,y,B⟩: ∃fn,P.funcs[z]? =some fn∧(fn.name== "runtime.NumGoroutine")=false∧fn.body.isNone=false:=by
   unfold okF at b;split at b
   ·rename_i fn y;simp only[Bool.and_eq_true,Bool.not_eq_true']at b;exact⟨fn,y,b⟩
   ·cases b
  have d:ρ u=.func (.method name) #[.iface t v] #[]:=k;have I:(#[Value.iface t v]++args.map (ev ρ)).extract 1 (#[Value.iface t v]++args.map (ev ρ)).size=args.map (ev ρ):=by
   apply Array.ext';simp only[Array.toList_extract,Array.toList_append,Array.size_append,Array.toList_map,Array.size_map,List.extract];simp;exact List.take_of_length_le (by simp)
  have J:(#[Value.iface t v]++args.map (ev ρ))[0]? =some (.iface t v):=by rw[Array.getElem?_append_left (by simp)];rfl
  have j:(execOp (ev ρ) ⟨D,.call ⟨.value (.tmp u),args,C⟩,ty,o,E,g⟩).run P w=.ok (.enter z (#[r]++args.map (ev ρ))) w:=by
   simp only[execOp,resolve,vV,d,Deferred.ofValue,Sem.run_bind,Sem.run_pure,Result.andThen_ok,invoke,J,I,callMethod,run_program,H w,callFunc,y,B.1,B.2,Bool.false_eq_true,if_false]
  unfold oU;rw[j];have e:(⟨r::args.toList.map (ev ρ)⟩:Array Value)=#[r]++args.map (ev ρ):=by
   apply Array.ext';simp
  simp only[Cs,e]at m;exact m
 rotate_left
 ·have d:ρ u=.func (.yield l) #[] #[]:=k;have e:(⟨args.toList.map (ev ρ)⟩:Array Value)=args.map (ev ρ):=by cases args;simp
  rw[e]at F;have j:(execOp (ev ρ) ⟨D,.call ⟨.value (.tmp u),args,C⟩,ty,o,E,g⟩).run P w=.ok (.round l G tmps assign body) w:=by
   simp only[execOp,resolve,vV,d,Deferred.ofValue,Sem.run_bind,Sem.run_pure,Result.andThen_ok,invoke,Array.empty_append];exact F
  unfold oU;rw[j];exact m
 obtain⟨fn,y,B⟩: ∃fn,P.funcs[z]? =some fn∧(fn.name== "runtime.NumGoroutine")=false∧fn.body.isNone=false:=by
  unfold okF at b;split at b
  ·rename_i fn y;simp only[Bool.and_eq_true,Bool.not_eq_true']at b;exact⟨fn,y,b⟩
  ·cases b
 unfold me at q;split at q
 ·rename_i first caps k
  cases q;have d:ρ u=.func (.func z) first caps:=k
  have j:(execOp (ev ρ) ⟨D,.call ⟨.value (.tmp u),args,C⟩,ty,o,E,g⟩).run P w=.ok (.enter z (first++args.map (ev ρ)++caps)) w:=by
   simp only[execOp,resolve,vV,d,Deferred.ofValue,Sem.run_bind,Sem.run_pure,Result.andThen_ok,invoke,callFunc,run_program,y,B.1,B.2,Bool.false_eq_true,if_false]
  unfold oU;rw[j];have e:(⟨first.toList++args.toList.map (ev ρ)++caps.toList⟩:Array Value)=first++args.map (ev ρ)++caps:=by
   apply Array.ext';simp
  simp only[Cs,e]at m;exact m
 ·cases q
theorem Cn {m : Op} {x : XB} (h : xM P m = some x) {ρ : Env} (r : fv P x ρ w K) (o : Option Nat) (ty : TypeId) (l : String) (q : Array Edge) (g : Option (Nat × Bool)) :
    oU P (execOp (ev ρ) ⟨o, m, ty, l, q, g⟩) w K := by
  cases d : x.N4 with
  | false => exact (sY h d r o ty l q g).v
  | true =>
    cases m <;> simp only [xM] at h
    case call c =>
      obtain ⟨y, args, z⟩ := c;unfold vZ at h;simp only at h;split at h
      · unfold mT at h;split at h
        · obtain ⟨j, k, rfl⟩ := Option.map_eq_some_iff.1 h; cases d
        · cases h; cases d
        · cases h; cases d
        · split at h
          · obtain ⟨j, k, rfl⟩ := Option.map_eq_some_iff.1 h; cases d
          · cases h
        · cases h
      · split at h
        · cases h; cases d
        · cases h
      · rename_i B; cases h; exact xU r o ty l q g
      · cases h
    case move => cases h; cases d
    case assign => cases h; cases d
    case pick => cases h; cases d
    case nilCheck => cases h; cases d
    case load =>
      unfold vX at h;split at h
      · split at h
        · obtain ⟨i, k, rfl⟩ := Option.map_eq_some_iff.1 h; cases d
        · obtain ⟨i, k, rfl⟩ := Option.map_eq_some_iff.1 h; cases d
        · cases h; cases d
      · cases h
    case store =>
      unfold sd at h;split at h
      · split at h
        · cases h; cases d
        · cases h; cases d
        · split at h
          · cases h; cases d
          · cases h
      · cases h
    case fieldAddr =>
      unfold jZ at h;split at h
      · split at h
        · split at h
          · cases h
          · cases h; cases d
        · cases h
      · cases h
    case field =>
      unfold sf at h;split at h
      · split at h
        · split at h
          · obtain ⟨i, k, rfl⟩ := Option.map_eq_some_iff.1 h; cases d
          · obtain ⟨i, k, rfl⟩ := Option.map_eq_some_iff.1 h; cases d
          · cases h; cases d
        · cases h
      · cases h
    case indexAddr =>
      unfold si at h;split at h
      · cases h; cases d
      · split at h
        · obtain ⟨i, k, rfl⟩ := Option.map_eq_some_iff.1 h; cases d
        · cases h
    case binOp u t a b _ =>
      unfold Bg at h;split at h
      all_goals first
        | (cases h; cases d; done)
        | (unfold J4 at h
           repeat' split at h
           all_goals (first | (cases h; cases d; done) | (cases h; done)))
    case unOp =>
      unfold G8 at h;split at h
      · cases h; cases d
      · cases h
    case convert =>
      unfold wa at h;split at h
      · cases h; cases d
      · cases h
    case makeFunc => cases h; cases d
    case slice t a C k mx =>
      unfold vY at h;split at h
      · obtain ⟨i, k, rfl⟩ := Option.map_eq_some_iff.1 h; cases d
      · obtain ⟨i, k, rfl⟩ := Option.map_eq_some_iff.1 h; cases d
      · cases h
    case extract => cases h; cases d
    case box => cases h; cases d
    case alloc =>
      split at h
      · obtain ⟨i, k, rfl⟩ := Option.map_eq_some_iff.1 h; cases d
      · cases h
    case build =>
      unfold r9 at h;split at h
      · split at h
        · obtain ⟨i, k, rfl⟩ := Option.map_eq_some_iff.1 h; cases d
        · cases h
      · split at h
        · cases h; cases d
        · cases h
      · cases h
    case buildSlice =>
      unfold iS at h;split at h
      · split at h
        · cases h; cases d
        · cases h
      · cases h
    case makeSlice => obtain ⟨i, k, rfl⟩ := Option.map_eq_some_iff.1 h; cases d
    all_goals cases h
theorem sZ {l:Op} {ρ:Env} (d:Ha P l ρ w K) (o:Option Nat) (ty:TypeId) (m:String) (q:Array Edge) (g:Option (Nat×Bool)):
  rL P (execOp (ev ρ) ⟨o,l,ty,m,q,g⟩) w K:=by
 cases l<;>first
  |exact d.elim
  |(obtain⟨v,w',j,k⟩:=d;exact fH j k)
  |(obtain⟨w',j,k⟩:=d;exact mU j k)
  |skip
 case call c=>
  obtain⟨r,args,t⟩:=c;cases r with
  |builtin b=>
   rw[ma];cases b<;>first
    |exact d.elim
    |(obtain⟨v,w',j,k⟩:=d;exact fH j k)
  |_=>exact d.elim
theorem Co {k:Op} {x:XB} (h:DG P k=some x) (m:x.N4=false) {ρ:Env} (l:fv P x ρ w K) (d:Option Nat) (ty:TypeId) (b:String) (j:Array Edge) (g:Option (Nat×Bool)):
  rL P (execOp (ev ρ) ⟨d,k,ty,b,j,g⟩) w K:=by
 rcases oQ h with h|⟨rfl,_⟩
 ·exact sY h m l d ty b j g
 ·exact sZ l d ty b j g
theorem DX {k:Op} {x:XB} (h:DG P k=some x) {ρ:Env} (l:fv P x ρ w K) (d:Option Nat) (ty:TypeId) (b:String) (j:Array Edge) (g:Option (Nat×Bool)):
  oU P (execOp (ev ρ) ⟨d,k,ty,b,j,g⟩) w K:=by
 rcases oQ h with h|⟨rfl,_⟩
 ·exact Cn h l d ty b j g
 ·exact(sZ l d ty b j g).v
end
end Go.Proofs.YthamnonkfepafaaGreat
