import Derived.Test.YthamnonkfepafaaGreatZEngD
import Derived.Laws.Append
import Derived.IntWalk
set_option linter.unusedSimpArgs false
set_option linter.unusedVariables false
namespace Go.Proofs.YthamnonkfepafaaGreat
def Cs (P:Program) (f:FuncId) (args:List Value) (w:World) (R:Value→World→Prop):Prop:=
 Calls P f ⟨args⟩ w fun e w'=> ∃v,e=.returned v∧R v w'
theorem Cs.mono {P:Program} {f:FuncId} {args:List Value} {w:World} {R b:Value→World→Prop} (h:Cs P f args w R) (d: ∀v w',R v w'→b v w'):Cs P f args w b:=
 Calls.mono h fun _ _ ⟨v,j,k⟩=>⟨v,j,d _ _ k⟩
def bu (v:Value):Bool:=match v with|.agg _=>false|.tuple _=>false|_=>true
def World.setCells (w:World) (p:Addr):List Value→Nat→World
 | [],_=>w
 |v::vs,i=>World.setCells (w.setCell (p.add i) v) p vs (i+1)
def World.gu (w:World) (p:Addr):List Value→Nat→Prop
 | [],_=>True
 |v::vs,i=>bu v=true∧(w.cell? (p.add i)).isSome=true∧w.frozen? (p.add i)=false∧World.gu (w.setCell (p.add i) v) p vs (i+1)
def Sl (w:World) (sz:Nat) (v:Value) (n:Nat) (xs:List Value) (fp:List Nat):Prop:=
 xs.length=n*sz∧((v=.slice none 0 0∧n=0∧fp=[])∨
  ∃(g cap:Nat) (ys:List Value) (T:TypeId),v=.slice (some ⟨g,0,none⟩) n cap∧fp=[g]∧w.heap[g]? =some (.cells ⟨xs++ys⟩ T (0,0))∧(xs++ys).length=cap*sz∧n≤cap)
def qy (s d:Value) (n m:Nat) (fp b:List Nat):Prop:=(m=0→d=s)∧ ∀a c,s=.slice a n c→n+m≤c→d=.slice a (n+m) c∧b=fp
def wT (w:World) (sz:Nat) (v:Value) (n:Nat) (xs:List Value) (fp:List Nat):Prop:=
 xs.length=n*sz∧((v=.slice none 0 0∧n=0∧fp=[])∨
  ∃(g cap:Nat) (pre ys post:List Value) (T:TypeId),v=.slice (some ⟨g,pre.length,none⟩) n cap∧fp=[g]∧w.heap[g]? =some (.cells ⟨pre++(xs++ys)++post⟩ T (0,0))∧(xs++ys).length=cap*sz∧n≤cap)
theorem Sl.GF {w:World} {sz:Nat} {v:Value} {n:Nat} {xs:List Value} {fp:List Nat} (h:Sl w sz v n xs fp):wT w sz v n xs fp:=
 ⟨h.1,h.2.elim .inl fun⟨g,cap,ys,T,b,d,j,k,l⟩=>.inr ⟨g,cap,[],ys,[],T,b,d,by simpa using j,k,l⟩⟩
def bO (w:World) (sz:Nat) (v:Value) (m:Nat) (us:List Value):Prop:=
 us.length=m*sz∧((∃c,v=.slice none 0 c∧m=0)∨ ∃p c,v=.slice (some p) m c∧aI w p (m*sz)=some us)
structure ad (S:List Nat) (w w':World):Prop where
 os:w'.os=w.os
 tape:w'.tape=w.tape
 output:w'.output=w.output
 size:w.heap.size≤w'.heap.size
 block: ∀k,k<w.heap.size→k∉S→w'.heap[k]? =w.heap[k]?
def iq (v:Value) (args:List Value):Option (Nat×List Value):=match v with
 |.func (.func g) first caps=>some (g,first.toList++args++caps.toList)
 |_=>none
def gM (P:Program) (l:Nat) (f:FuncId) (tmps:Array Value) (assign body:Code) (w:World) (K:Value→World→Prop):Prop:=
 ∀(c:Frame) (cs:List Frame),∃v w',K v w'∧Steps P (lone (Frame.round l f tmps assign body .normal) (c::cs) w) (lone (c.finish v) cs w')
def Ys (P:Program) (l:Nat) (args:List Value) (w:World) (K:Value→World→Prop):Prop:=
 ∃f tmps assign body,(Instr.yield l ⟨args⟩).run P w=.ok (.round l f tmps assign body) w∧gM P l f tmps assign body w K
theorem gM.mono {P:Program} {l:Nat} {f:FuncId} {tmps:Array Value} {assign body:Code} {w:World} {K b:Value→World→Prop} (h:gM P l f tmps assign body w K) (d: ∀v w',K v w'→b v w'):gM P l f tmps assign body w b:=
 fun c cs=>let ⟨v,w',j,k⟩:=h c cs;⟨v,w',d _ _ j,k⟩
theorem Ys.mono {P:Program} {l:Nat} {args:List Value} {w:World} {K b:Value→World→Prop} (h:Ys P l args w K) (d: ∀v w',K v w'→b v w'):Ys P l args w b:=
 let ⟨f,tmps,assign,body,j,k⟩:=h;⟨f,tmps,assign,body,j,k.mono d⟩
def Cj (P:Program) (t:TypeId) (v:Value) (name:String) (g:Nat) (r:Value):Prop:= ∀w:World,(method (P.types.size+Made.depth) t v name).run P w=.ok (g,r) w
def kN (P:Program) (f:Value) (args:List Value) (w:World) (K:Value→World→Prop):Prop:=
 (∃g vs,iq f args=some (g,vs)∧okF P g=true∧Cs P g vs w K)∨(∃l,f=.func (.yield l) #[] #[]∧Ys P l args w K)∨(∃t v name g r,f=.func (.method name) #[.iface t v] #[]∧Cj P t v name g r∧okF P g=true∧Cs P g (r::args) w K)
theorem kN.mono {P:Program} {f:Value} {args:List Value} {w:World} {K m:Value→World→Prop} (h:kN P f args w K) (j: ∀v w',K v w'→m v w'):kN P f args w m:=
 h.elim (fun⟨g,vs,b,d,k⟩=>.inl ⟨g,vs,b,d,k.mono j⟩) fun h=>h.elim (fun⟨l,b,d⟩=>.inr (.inl ⟨l,b,d.mono j⟩)) fun⟨t,v,name,g,r,b,d,k,o⟩=>.inr (.inr ⟨t,v,name,g,r,b,d,k,o.mono j⟩)
def iu (P:Program) (s:Sem Value) (w:World) (K:Value→World→Prop):Prop:= ∃v w',s.run P w=.ok v w'∧K v w'
def uu (P:Program) (s:Sem Unit) (w:World) (K:Value→World→Prop):Prop:= ∃w',s.run P w=.ok () w'∧K undef w'
def Ck (P:Program) (b:Builtin) (d:Array TypeId) (args:Array Value) (w:World) (K:Value→World→Prop):Prop:=match b with
 |.delete=>iu P (Builtin.delete_ d 0 args) w K
 |.clear=>iu P (Builtin.clear_ d 0 args) w K
 |.copy=>iu P (Builtin.copy_ d 0 args) w K
 |.len=>iu P (Builtin.len_ d 0 args) w K
 |_=>False
def zP (P:Program) (d:Op) (ρ:Env) (w:World) (K:Value→World→Prop):Prop:=match d with
 |.makeMap t r=>iu P (Instr.makeMap t (r.map (ev ρ))) w K
 |.mapUpdate t m k x|.insert t m k x=>uu P (Instr.mapUpdate t (ev ρ m) (ev ρ k) (ev ρ x)) w K
 |.lookup t x i j=>iu P (Instr.lookup t (ev ρ x) (ev ρ i) j) w K
 |.range t x=>iu P (Instr.range t (ev ρ x)) w K
 |.next it b=>iu P (Instr.next (ev ρ it) b 0) w K
 |.entry it=>iu P (Instr.entry (ev ρ it)) w K
 |.mapEntry t m k=>iu P (Instr.mapEntry t (ev ρ m) (ev ρ k)) w K
 |.entryStore t m s x=>uu P (Instr.entryStore t (ev ρ m) (ev ρ s) (ev ρ x)) w K
 |.unOp o _ x=>iu P (Op.unary o (ev ρ x)) w K
 |.makeInterface t x=>iu P (Instr.makeInterface t (ev ρ x)) w K
 |.call c=>match c.callee with
  |.builtin b=>Ck P b c.argTypes (c.args.map (ev ρ)) w K
  |_=>False
 |_=>False
theorem iu.mono {P:Program} {s:Sem Value} {w:World} {K b:Value→World→Prop} (h:iu P s w K) (d: ∀v w',K v w'→b v w'):iu P s w b:=by
 obtain⟨v,w',j,k⟩:=h;exact⟨v,w',j,d _ _ k⟩
theorem uu.mono {P:Program} {s:Sem Unit} {w:World} {K b:Value→World→Prop} (h:uu P s w K) (d: ∀v w',K v w'→b v w'):uu P s w b:=by
 obtain⟨w',j,k⟩:=h;exact⟨w',j,d _ _ k⟩
theorem uv {P:Program} {b:Builtin} {d:Array TypeId} {args:Array Value} {w:World} {K j:Value→World→Prop} (h:Ck P b d args w K) (k: ∀v w',K v w'→j v w'):Ck P b d args w j:=by
 cases b<;>first|exact iu.mono h k|exact h.elim
theorem uw {P:Program} {b:Op} {ρ:Env} {w:World} {K j:Value→World→Prop} (h:zP P b ρ w K) (d: ∀v w',K v w'→j v w'):zP P b ρ w j:=by
 cases b<;>first|exact iu.mono h d|exact uu.mono h d|exact h.elim|skip
 case call c=>
  obtain⟨k,args,l⟩:=c;cases k<;>first|exact uv h d|exact h.elim
def fv (P:Program) (x:XB) (ρ:Env) (w:World) (K:Value→World→Prop):Prop:=match x with
 |.box t x=>K (.pointer (some ⟨w.heap.size,0,none⟩)) (w.alloc (.cells (ev ρ x).cells t))
 |.alc t zero=>K (.pointer (some ⟨w.heap.size,0,none⟩)) (w.alloc (.cells ⟨zero⟩ t))
 |.st a v=> ∃p,ev ρ a=.pointer (some p)∧bu (ev ρ v)=true∧(w.cell? p).isSome=true∧w.frozen? p=false∧K undef (w.setCell p (ev ρ v))
 |.stN n a v=> ∃p cs,ev ρ a=.pointer (some p)∧ev ρ v=.agg cs∧cs.size=n∧World.gu w p cs.toList 0∧K undef (World.setCells w p cs.toList 0)
 |.call f args=>Cs P f (args.map (ev ρ)) w K
 |.callv f args=>kN P (ev ρ f) (args.map (ev ρ)) w K
 |.act j=>zP P j ρ w K
 |.bsl e len zeros parts=> ∃cs,cV zeros (parts.map (tl ρ))=some cs∧K (.slice (some ⟨w.heap.size,0,none⟩) len len) (w.alloc (.cells ⟨cs⟩ e))
 |.mks e bytes zero l c=> ∃(k k':IntKind) (n m:Nat),ev ρ l=.int k n∧ev ρ c=.int k' m∧n≤m∧m≤1099511627776∧m*bytes≤1099511627776∧
   K (.slice (some ⟨w.heap.size,0,none⟩) n m) (w.alloc (.cells ⟨eP zero m⟩ e))
 |.app _ bytes zero s x=> ∃n xs fp m us,wT w zero.length (ev ρ s) n xs fp∧bO w zero.length (ev ρ x) m us∧(∀u,u∈us→bu u=true)∧n+m≤1099511627776∧(n+m)*bytes≤1099511627776∧
   ∀d w' b,wT w' zero.length d (n+m) (xs++us) b→(Sl w zero.length (ev ρ s) n xs fp→Sl w' zero.length d (n+m) (xs++us) b)→(b=fp∨b=[w.heap.size])→ad fp w w'→qy (ev ρ s) d n m fp b→K d w'
 |_=>False
def k8 (P:Program) (s:Sem Next) (w:World) (K:Value→World→Prop):Prop:=match s.run P w with
 |.ok (.value v) w'=>K v w'
 |.ok .skip w'=>K undef w'
 |.ok (.enter f args) w'=>Calls P f args w' (fun e b=> ∃v,e=.returned v∧K v b)
 |_=>False
def jQ (P:Program) (s:Sem Next) (w:World) (K:Value→World→Prop):Prop:=match s.run P w with
 |.ok (.value v) w'=>K v w'
 |.ok .skip w'=>K undef w'
 |.ok (.enter f args) w'=>Calls P f args w' (fun e b=> ∃v,e=.returned v∧K v b)
 |.ok (.round l f tmps assign body) w'=>gM P l f tmps assign body w' K
 |_=>False
theorem k8.v {P:Program} {s:Sem Next} {w:World} {K:Value→World→Prop} (h:k8 P s w K):jQ P s w K:=by
 unfold k8 at h;unfold jQ;generalize s.run P w=r at*;cases r with
 |halt x w'=>exact h
 |ok n w'=>cases n<;>first|exact h|exact h.elim
def XB.Ft:XB→Bool
 |.callv _ _=>true
 |_=>false
section
variable {P:Program} {w:World} {K:Value→World→Prop}
theorem c9 {s:Sem Value} {v:Value} {w':World} (h:s.run P w=.ok v w') (b:K v w'):k8 P (do pure (.value (←s))) w K:=by
 unfold k8;simp only[Sem.run_bind,h,Result.andThen_ok,Sem.run_pure];exact b
theorem iT {s:Sem Unit} {w':World} (h:s.run P w=.ok () w') (b:K undef w'):k8 P (do s;pure .skip) w K:=by
 unfold k8;simp only[Sem.run_bind,h,Result.andThen_ok,Sem.run_pure];exact b
theorem jR {v:Value} (h:bu v=true):v.oneCell'=true∧v.cells=#[v]:=by cases v<;>first|exact⟨rfl,rfl⟩|cases h
theorem mD {p:Addr} {v:Value} (b:bu v=true) (d:(w.cell? p).isSome=true) (j:w.frozen? p=false):(store p v).run P w=.ok () (w.setCell p v):=by
 rw[run_store P w p v .plain (jR b).1];cases k:w.cell? p with
 |none=>simp[k]at d
 |some u=>simp[j]
theorem bW {p:Addr}: ∀(vs:List Value) (i:Nat) (w:World),World.gu w p vs i→(storeCells p vs i).run P w=.ok () (World.setCells w p vs i)
 | [],_,_,_=>by simp[storeCells,World.setCells]
 |v::vs,i,w,h=>by
  obtain⟨b,d,j,k⟩:=h
  simp only[storeCells,Sem.run_bind,mD b d j,Result.andThen_ok,World.setCells]
  exact bW vs (i+1) _ k
theorem bX (b o n:Nat):(⟨b,o,none⟩:Addr).add n=⟨b,o+n,none⟩:=by
 unfold Addr.add;split
 ·rename_i h;subst h;rfl
 ·rfl
theorem ad.refl (S:List Nat) (w:World):ad S w w:=⟨rfl,rfl,rfl,Nat.le_refl _,fun _ _ _=>rfl⟩
theorem ad.setCell (w:World) (a:Addr) (v:Value):ad [a.block] w (w.setCell a v):=
 ⟨rfl,rfl,rfl,by simp,fun k _ b=>by
  simp only[List.mem_singleton]at b
  simp only[World.setCell,Array.getElem?_modify]
  rw[if_neg (by omega)]⟩
theorem ad.trans {S T:List Nat} {a b c:World} (h:ad S a b) (k:ad T b c) (l: ∀x,x∈T→x∈S∨a.heap.size≤x):ad S a c:=
 ⟨k.os.trans h.os,k.tape.trans h.tape,k.output.trans h.output,Nat.le_trans h.size k.size,fun x d j=>
  (k.block x (Nat.lt_of_lt_of_le d h.size) (fun m=>(l x m).elim j (fun o=>absurd d (Nat.not_lt.2 o)))).trans (h.block x d j)⟩
theorem heap_setCell {w:World} {g i:Nat} {cs:List Value} {T:TypeId} (h:w.heap[g]? =some (.cells ⟨cs⟩ T (0,0))) (v:Value):
  (w.setCell ⟨g,i,none⟩ v).heap[g]? =some (.cells ⟨cs.set i v⟩ T (0,0)):=by
 simp[World.setCell,Array.getElem?_modify,h]
theorem dN {g off:Nat} {T:TypeId}: ∀(us:List Value) (i:Nat) (w:World) (cs:List Value),w.heap[g]? =some (.cells ⟨cs⟩ T (0,0))→off+i+us.length≤cs.length→(∀u,u∈us→bu u=true)→
  World.gu w ⟨g,off,none⟩ us i∧(World.setCells w ⟨g,off,none⟩ us i).heap[g]? =some (.cells ⟨fS cs (off+i) us⟩ T (0,0))∧ad [g] w (World.setCells w ⟨g,off,none⟩ us i)∧
   (World.setCells w ⟨g,off,none⟩ us i).heap.size=w.heap.size
 | [],i,w,cs,h,_,_=>⟨trivial,h,ad.refl _ _,rfl⟩
 |u::us,i,w,cs,h,d,b=>by
  simp only[List.length_cons]at d
  have j:=heap_setCell (i:=off+i) h u
  obtain⟨k,l,m,o⟩:=dN (off:=off) us (i+1) (w.setCell ⟨g,off+i,none⟩ u) (cs.set (off+i) u) j (by simp;omega) (fun v q=>b v (List.mem_cons_of_mem _ q))
  simp only[World.gu,World.setCells,bX,fS]
  refine⟨⟨b u (by simp),?_,?_,k⟩,l,(ad.setCell w ⟨g,off+i,none⟩ u).trans m (fun x r=>.inl r),?_⟩
  ·simp[World.cell?,h,show off+i<cs.length from by omega]
  ·simp[World.frozen?,h]
  ·rw[o];simp
theorem iv: ∀(us xs ys:List Value),us.length≤ys.length→fS (xs++ys) xs.length us=xs++us++ys.drop us.length
 | [],xs,ys,_=>by simp[fS]
 |u::us,xs,y::ys,h=>by
  simp only[List.length_cons,Nat.add_le_add_iff_right]at h
  simp only[fS]
  have e:(xs++y::ys).set xs.length u=(xs++[u])++ys:=by simp
  rw[e,show xs.length+1=(xs++[u]).length by simp,iv us (xs++[u]) ys h]
  simp
 |u::us,xs,[],h=>by simp at h
theorem ks {sz m:Nat} {p:Addr} {us:List Value} (h:aI w p (m*sz)=some us):us.length=m*sz∧ ∀j v,us[j]? =some v→w.cell? (p.add j)=some v:=by
 obtain⟨k,l⟩:=gJ h;refine⟨k,fun j v b=>?_⟩;have:j<us.length:=by
  rcases Nat.lt_or_ge j us.length with d|d
  ·exact d
  ·rw[List.getElem?_eq_none d]at b;cases b
 rw[l j (by omega)];exact b
theorem eS {sz m:Nat} {x:Value} {us:List Value} (h:bO w sz x m us):(Builtin.lenOf x).run P w=.ok m w∧(Builtin.firstCells sz m x).run P w=.ok ⟨us⟩ w:=by
 obtain⟨b,⟨c,rfl,rfl⟩|⟨p,c,rfl,d⟩⟩:=h
 ·have:us=[]:=List.eq_nil_of_length_eq_zero (by simpa using b);subst this;exact⟨by simp[Builtin.lenOf],by simp[Builtin.firstCells]⟩
 ·exact⟨by simp[Builtin.lenOf],by simp only[Builtin.firstCells];exact run_loadCells d⟩
theorem zQ {t e ty:TypeId} {i:TypeInfo} {z:Value} (H:P.underlying t=some (.slice e)) (L:P.info? e=some i) (hz:i.zero=some z) (Q:z.cells.size=i.size)
  {s x:Value} {n m:Nat} {xs us:List Value} {fp:List Nat} (C:Sl w i.size s n xs fp) (D:bO w i.size x m us) (y: ∀u,u∈us→bu u=true) (LV:n+m≤1099511627776) (R:(n+m)*i.bytes≤1099511627776):
  ∃U w' B,(Builtin.append_ #[t,t] ty #[s,x]).run P w=.ok U w'∧Sl w' i.size U (n+m) (xs++us) B∧(B=fp∨B=[w.heap.size])∧ad fp w w'∧qy s U n m fp B:=by
 have l:(xs++us).length=(n+m)*i.size:=by rw[List.length_append,C.1,D.1,Nat.add_mul]
 have LW:(match P.underlying t with|some (.int _)=>true|_=>false)=false:=by rw[H]
 have q: ∀(b:Nat),(w.drew.alloc (.cells (xs.toArray++us.toArray++Builtin.zeroCells z.cells (grownCap w (n+m) b e-(n+m))) e)).heap[w.heap.size]? =
    some (.cells ⟨(xs++us)++(Builtin.zeroCells z.cells (grownCap w (n+m) b e-(n+m))).toList⟩ e (0,0))∧
   ((xs++us)++(Builtin.zeroCells z.cells (grownCap w (n+m) b e-(n+m))).toList).length=grownCap w (n+m) b e*i.size∧n+m≤grownCap w (n+m) b e:=by
  intro b;have V:n+m≤grownCap w (n+m) b e:=by simp[grownCap,Question.cut]
  refine⟨?_,?_,V⟩
  ·show(w.drew.heap.push _)[w.heap.size]? =_;have e2:w.drew.heap=w.heap:=rfl;rw[e2];simp only[Array.getElem?_push_size,Option.some.injEq,Obj.cells.injEq,and_true];apply Array.ext';simp
  ·have W:(Builtin.zeroCells z.cells (grownCap w (n+m) b e-(n+m))).toList.length=(grownCap w (n+m) b e-(n+m))*i.size:=by
    simp[Builtin.zeroCells,Q]
   rw[List.length_append,l,W,←Nat.add_mul];congr 1;omega
 have r: ∀(S:List Nat) (o:Obj),ad S w (w.drew.alloc o):=fun S o=>⟨rfl,rfl,rfl,by simp,fun k hk _=>by
  show(w.heap.push o)[k]? =_;rw[Array.getElem?_push,if_neg (by omega)]⟩
 rcases C.2 with⟨rfl,rfl,rfl⟩|⟨g,cap,ys,T,rfl,rfl,hg,I,LX⟩
 ·have X:xs=[]:=List.eq_nil_of_length_eq_zero (by simpa using C.1);subst X;obtain⟨E,F⟩:=eS (P:=P) D;by_cases Y:m=0
  ·subst Y;have Z:us=[]:=List.eq_nil_of_length_eq_zero (by simpa using D.1);subst Z;refine⟨.slice none 0 0,w,[],?_,C,.inl rfl,ad.refl _ _,fun _=>rfl,fun a c y _=>by cases y;exact⟨rfl,rfl⟩⟩;have G:(underlying t).run P w=.ok (.slice e) w:=aK H;simp[Builtin.append_,G,bs L,E,F]
  ·rcases D.2 with⟨c,_,h⟩|⟨p,c,rfl,hc⟩
   ·exact absurd h Y
   ·obtain⟨hl,hj⟩:=ks hc;have hr:=run_append_nil (P:=P) w t ty e i z H L hz p m c us hl hj (by omega) (by omega) (by have:=R;simp only[Nat.zero_add]at this;omega);obtain⟨J,M,N⟩:=q 0;simp only[Nat.zero_add]at J M N;have e0:(([]:List Value).toArray++us.toArray++Builtin.zeroCells z.cells (grownCap w m 0 e-m))=us.toArray++Builtin.zeroCells z.cells (grownCap w m 0 e-m):=by simp
    rw[e0]at J;refine⟨_,_,[w.heap.size],hr,⟨by simpa using l,.inr ⟨_,_,_,_,by rw[Nat.zero_add],rfl,J,M,by simpa using N⟩⟩,.inr rfl,r _ _,fun h=>absurd h Y,fun a c y O=>by cases y;omega⟩
 ·by_cases d:n+m≤cap
  ·obtain⟨E,F⟩:=eS (P:=P) D;have LY:us.length≤ys.length:=by
    have O:(n+m)*i.size≤cap*i.size:=Nat.mul_le_mul_right _ d;rw[List.length_append]at I;have:=C.1;have:=D.1;rw[Nat.add_mul]at O;omega
   obtain⟨k1,k2,k3,k4⟩:=dN (off:=n*i.size) us 0 w (xs++ys) hg (by rw[List.length_append,←C.1];omega) y;refine⟨.slice (some ⟨g,0,none⟩) (n+m) cap,World.setCells w ⟨g,n*i.size,none⟩ us 0,[g],?_,⟨l,.inr ⟨g,cap,ys.drop us.length,T,rfl,rfl,?_,?_,d⟩⟩,.inl rfl,k3,fun h=>by subst h;rfl,fun a c y _=>by cases y;exact⟨rfl,rfl⟩⟩
   ·have G:(underlying t).run P w=.ok (.slice e) w:=aK H;have LZ:=bW (P:=P) us 0 w k1;simp[Builtin.append_,G,bs L,E,F,d,bX,LZ]
   ·rw[k2,←C.1,Nat.add_zero,iv us xs ys LY]
   ·rw[←I];simp only[List.length_append,List.length_drop];omega
  ·have K:m≠0:=by omega
   rcases D.2 with⟨c,_,h⟩|⟨p,c,rfl,hc⟩
   ·exact absurd h K
   ·obtain⟨hl,hj⟩:=ks hc;have holds: ∀j v,xs[j]? =some v→w.cell? ((⟨g,0,none⟩:Addr).add j)=some v:=fun j v hv=>by
     rw[bX];have y0:j<xs.length:=by
      rcases Nat.lt_or_ge j xs.length with h'|h'
      ·exact h'
      ·rw[List.getElem?_eq_none h']at hv;cases hv
     simp only[World.cell?,hg];simp[List.getElem?_append_left y0,hv]
    have hr:=run_append_grow (P:=P) w t ty e i z H L hz ⟨g,0,none⟩ n cap xs C.1 holds p m c us hl hj (by omega) (by omega) (growslice_fits (by omega) (by omega));obtain⟨J,M,N⟩:=q cap;refine⟨_,_,[w.heap.size],hr,⟨l,.inr ⟨_,_,_,_,rfl,rfl,J,M,N⟩⟩,.inr rfl,r _ _,fun h=>absurd h K,fun a c y O=>by cases y;exact absurd O d⟩
theorem ux {t e ty:TypeId} {i:TypeInfo} {z:Value} (G:P.underlying t=some (.slice e)) (Y:P.info? e=some i) (hz:i.zero=some z) (H:z.cells.size=i.size)
  {s x:Value} {n m:Nat} {xs us:List Value} {fp:List Nat} (r:wT w i.size s n xs fp) (I: ¬Sl w i.size s n xs fp) (F:bO w i.size x m us) (C: ∀u,u∈us→bu u=true) (LV:n+m≤1099511627776) (Ot:(n+m)*i.bytes≤1099511627776):
  ∃J w' q,(Builtin.append_ #[t,t] ty #[s,x]).run P w=.ok J w'∧wT w' i.size J (n+m) (xs++us) q∧(q=fp∨q=[w.heap.size])∧ad fp w w'∧qy s J n m fp q:=by
 have l:(xs++us).length=(n+m)*i.size:=by rw[List.length_append,r.1,F.1,Nat.add_mul]
 have LW:(match P.underlying t with|some (.int _)=>true|_=>false)=false:=by rw[G]
 have y: ∀(b:Nat),(w.drew.alloc (.cells (xs.toArray++us.toArray++Builtin.zeroCells z.cells (grownCap w (n+m) b e-(n+m))) e)).heap[w.heap.size]? =
    some (.cells ⟨(xs++us)++(Builtin.zeroCells z.cells (grownCap w (n+m) b e-(n+m))).toList⟩ e (0,0))∧
   ((xs++us)++(Builtin.zeroCells z.cells (grownCap w (n+m) b e-(n+m))).toList).length=grownCap w (n+m) b e*i.size∧n+m≤grownCap w (n+m) b e:=by
  intro b;have K:n+m≤grownCap w (n+m) b e:=by simp[grownCap,Question.cut]
  refine⟨?_,?_,K⟩
  ·show(w.drew.heap.push _)[w.heap.size]? =_;have e2:w.drew.heap=w.heap:=rfl;rw[e2];simp only[Array.getElem?_push_size,Option.some.injEq,Obj.cells.injEq,and_true];apply Array.ext';simp
  ·have L:(Builtin.zeroCells z.cells (grownCap w (n+m) b e-(n+m))).toList.length=(grownCap w (n+m) b e-(n+m))*i.size:=by
    simp[Builtin.zeroCells,H]
   rw[List.length_append,l,L,←Nat.add_mul];congr 1;omega
 have B: ∀(S:List Nat) (o:Obj),ad S w (w.drew.alloc o):=fun S o=>⟨rfl,rfl,rfl,by simp,fun k hk _=>by
  show(w.heap.push o)[k]? =_;rw[Array.getElem?_push,if_neg (by omega)]⟩
 rcases r.2 with⟨rfl,rfl,rfl⟩|⟨g,cap,pre,ys,post,T,rfl,rfl,Z,D,LX⟩
 ·exact absurd ⟨r.1,.inl ⟨rfl,rfl,rfl⟩⟩ I
 ·by_cases d:n+m≤cap
  ·obtain⟨M,N⟩:=eS (P:=P) F;have O:us.length≤ys.length:=by
    have Q:(n+m)*i.size≤cap*i.size:=Nat.mul_le_mul_right _ d;rw[List.length_append]at D;have:=r.1;have:=F.1;rw[Nat.add_mul]at Q;omega
   obtain⟨k1,k2,k3,k4⟩:=dN (off:=pre.length+n*i.size) us 0 w (pre++(xs++ys)++post) Z (by simp only[List.length_append];have:=r.1;omega) C;refine⟨.slice (some ⟨g,pre.length,none⟩) (n+m) cap,World.setCells w ⟨g,pre.length+n*i.size,none⟩ us 0,[g],?_,⟨l,.inr ⟨g,cap,pre,ys.drop us.length,post,T,rfl,rfl,?_,?_,d⟩⟩,.inl rfl,k3,fun h=>by subst h;rfl,fun a c C _=>by cases C;exact⟨rfl,rfl⟩⟩
   ·have R:(underlying t).run P w=.ok (.slice e) w:=aK G;have U:=bW (P:=P) us 0 w k1;simp[Builtin.append_,R,bs Y,M,N,d,bX,U]
   ·rw[k2,←r.1,Nat.add_zero,show pre++(xs++ys)++post=(pre++xs)++(ys++post) by simp,show pre.length+xs.length=(pre++xs).length by simp,iv us (pre++xs) (ys++post) (by rw[List.length_append];omega),
     List.drop_append_of_le_length O]
    simp
   ·rw[←D];simp only[List.length_append,List.length_drop];omega
  ·have E:m≠0:=by omega
   rcases F.2 with⟨c,_,h⟩|⟨p,c,rfl,hc⟩
   ·exact absurd h E
   ·obtain⟨hl,hj⟩:=ks hc;have holds: ∀j v,xs[j]? =some v→w.cell? ((⟨g,pre.length,none⟩:Addr).add j)=some v:=fun j v V=>by
     rw[bX];have W:j<xs.length:=by
      rcases Nat.lt_or_ge j xs.length with X|X
      ·exact X
      ·rw[List.getElem?_eq_none X]at V;cases V
     simp only[World.cell?,Z];simp[List.append_assoc,List.getElem?_append_right,List.getElem?_append_left W,V]
    have hr:=run_append_grow (P:=P) w t ty e i z G Y hz ⟨g,pre.length,none⟩ n cap xs r.1 holds p m c us hl hj (by omega) (by omega) (growslice_fits (by omega) (by omega));obtain⟨g1,g2,g3⟩:=y cap;refine⟨_,_,[w.heap.size],hr,Sl.GF ⟨l,.inr ⟨_,_,_,_,rfl,rfl,g1,g2,g3⟩⟩,.inr rfl,B _ _,fun h=>absurd h E,fun a c C Q=>by cases C;exact absurd Q d⟩
theorem wU {t e ty:TypeId} {i:TypeInfo} {z:Value} (B:P.underlying t=some (.slice e)) (C:P.info? e=some i) (D:i.zero=some z) (j:z.cells.size=i.size)
  {s x:Value} {n m:Nat} {xs us:List Value} {fp:List Nat} (G:wT w i.size s n xs fp) (E:bO w i.size x m us) (F: ∀u,u∈us→bu u=true) (l:n+m≤1099511627776) (o:(n+m)*i.bytes≤1099511627776):
  ∃d w' b,(Builtin.append_ #[t,t] ty #[s,x]).run P w=.ok d w'∧wT w' i.size d (n+m) (xs++us) b∧(Sl w i.size s n xs fp→Sl w' i.size d (n+m) (xs++us) b)∧(b=fp∨b=[w.heap.size])∧ad fp w w'∧qy s d n m fp b:=by
 by_cases h:Sl w i.size s n xs fp
 ·obtain⟨d,w',b,r,q,y⟩:=zQ (ty:=ty) B C D j h E F l o;exact⟨d,w',b,r,q.GF,fun _=>q,y⟩
 ·obtain⟨d,w',b,r,q,y⟩:=ux (ty:=ty) B C D j G h E F l o;exact⟨d,w',b,r,q,fun k=>absurd k h,y⟩
theorem fU {t:TypeId} {e:TypeId×Nat×List Value} (h:ig P t=some e): ∃i z,P.underlying t=some (.slice e.1)∧P.info? e.1=some i∧i.zero=some z∧z.cells.size=i.size∧0<i.size∧e.2.1=i.bytes∧e.2.2=z.cells.toList:=by
 unfold ig at h;split at h
 ·rename_i l d;split at h
  ·rename_i i j;split at h
   ·rename_i z k;split at h
    ·rename_i b;cases h;exact⟨i,z,d,j,k,b.1,b.2,rfl,rfl⟩
    ·cases h
   ·cases h
  ·cases h
 ·cases h
theorem pB (z:Array Value) (n:Nat):((Array.range (n*z.size)).map fun i=>z[i%z.size]!)=⟨eP z.toList n⟩:=by
 apply Array.ext';simp only[eP,Array.toList_map,Array.toList_range,Array.length_toList];apply List.map_congr_left;intro i d;have b:i<n*z.size:=by simpa using d
 have j:0<z.size:=by
  rcases Nat.eq_zero_or_pos z.size with h|h
  ·rw[h]at b;simp at b
  ·exact h
 have k:i%z.size<z.size:=Nat.mod_lt _ j;simp[k]
theorem qz (z:List Value) (n:Nat):(eP z n).length=n*z.length:=by simp[eP]
theorem uy {sz:Nat}: ∀(parts:List (Nat×Value)) (cells:Array Value) (cs:List Value),cV cells.toList (parts.map fun p=>(p.1*sz,sz,p.2))=some cs→
  Instr.fill (fun i=>some (i*sz,sz)) cells parts=some ⟨cs⟩:=fun parts cells cs h=>by
 refine gK parts _ ?_ cells cs h
 clear h
 induction parts with
 |nil=>simp
 |cons p parts b=>simp at b⊢;rw[b];rfl
theorem mE {t e:TypeId} {i:TypeInfo} {z:Value} {len:Nat} {parts:Array (Nat×Value)} {cs:List Value} (o:P.underlying t=some (.slice e)) (m:P.info? e=some i) (q:i.zero=some z)
  (k:len*i.size≤2^24) (l:Instr.fill (fun j=>some (j*i.size,i.size)) ((Array.range (len*i.size)).map fun j=>z.cells[j%z.cells.size]!) parts.toList=some ⟨cs⟩):
  (Instr.buildSlice t len parts).run P w=.ok (.slice (some ⟨w.heap.size,0,none⟩) len len) (w.alloc (.cells ⟨cs⟩ e)):=by
 have d: ¬(len*i.size>2^24):=Nat.not_lt.2 k;unfold Instr.buildSlice;rw[Sem.run_bind,aK o];simp only[Result.andThen_ok];rw[Sem.run_bind,bs m];simp only[Result.andThen_ok];rw[if_neg d];by_cases b:len*i.size=0
 ·rw[if_pos b];rw[b]at l;have r:((Array.range 0).map fun j=>z.cells[j%z.cells.size]!)=((Array.range (len*i.size)).map fun j=>(#[]:Array Value)[j%(#[]:Array Value).size]!):=by rw[b];simp
  rw[r]at l;simp only[Sem.run_bind,Sem.run_pure,Result.andThen_ok,l,newRow,run_newObj,World.alloc_eq]
 ·rw[if_neg b];simp only[Sem.run_bind,Sem.run_pure,Result.andThen_ok,zeroValue,eQ m,q,l,newRow,run_newObj,World.alloc_eq]
theorem run_makeSlice {t e:TypeId} {i:TypeInfo} {z:Value} {k k':IntKind} {n m:Nat} (q:P.underlying t=some (.slice e)) (d:P.info? e=some i) (r:i.zero=some z) (o:z.cells.size=i.size) (u:n≤m) (y:m≤1099511627776) (l:m*i.bytes≤1099511627776):
  (Instr.makeSlice t (.int k n) (.int k' m)).run P w=.ok (.slice (some ⟨w.heap.size,0,none⟩) n m) (w.alloc (.cells ⟨eP z.cells.toList m⟩ e)):=by
 have B:IntKind.i64.wrap (n:Int)=n:=IntWalk.i64_in _ (by omega);have C:IntKind.i64.wrap (m:Int)=m:=IntWalk.i64_in _ (by omega);have D:((i.bytes:Int)*(m:Int))≤1099511627776:=by
  have:((m*i.bytes:Nat):Int)≤((1099511627776:Nat):Int):=Int.ofNat_le.2 l;rw[Int.natCast_mul,Int.mul_comm]at this;exact this
 have E:((decide ((m:Int)<0)||decide ((i.bytes:Int)*(m:Int)>2^48))||decide ((n:Int)<0)||decide ((n:Int)>(m:Int)))=false:=by
  simp only[Bool.or_eq_false_iff,decide_eq_false_iff_not];refine⟨⟨⟨by omega,?_⟩,by omega⟩,by omega⟩;have:(2:Int)^48=281474976710656:=by decide
  rw[this];omega
 unfold Instr.makeSlice;rw[Sem.run_bind,aK q];simp only[Result.andThen_ok,asInt,asIntOf,Sem.run_bind,Sem.run_pure,eQ d,B,C,E,Bool.false_eq_true,if_false,run_askRoom,Int.toNat_natCast,bs d];by_cases b:m*i.size=0
 ·rw[if_pos b];have F:((Array.range (m*i.size)).map fun j=>(#[]:Array Value)[j%(#[]:Array Value).size]!)=⟨eP z.cells.toList m⟩:=by
   rw[←pB,o,b];simp
  simp only[Sem.run_pure,Result.andThen_ok,newRow,Sem.run_bind,run_newObj,World.alloc_eq,F]
 ·rw[if_neg b];have G:((Array.range (m*i.size)).map fun j=>z.cells[j%z.cells.size]!)=⟨eP z.cells.toList m⟩:=by rw[←o,pB]
  simp only[zeroValue,Sem.run_bind,eQ d,r,Sem.run_pure,Result.andThen_ok,newRow,run_newObj,World.alloc_eq,G]
theorem mF {Y:Op} {x:XB} (h:qq P Y=some x) (hV:x.Ft=false) {ρ:Env} (o:fv P x ρ w K) (dd:Option Nat) (ty:TypeId) (N:String) (af:Array Edge) (g:Option (Nat×Bool)):
  k8 P (execOp (ev ρ) ⟨dd,Y,ty,N,af,g⟩) w K:=by
 cases Y<;>simp only[qq]at h
 case box t a=>
  cases h;exact c9 (s:=Instr.box t (ev ρ a)) (by simp[Instr.box,newVar,newRow]) o
 case alloc t=>
  split at h
  ·rename_i i r;obtain⟨z,Z,rfl⟩:=Option.map_eq_some_iff.1 h;refine c9 (s:=Instr.alloc t true (.tuple #[])) ?_ o;simp only[Instr.alloc,zeroValue,Sem.run_bind,eQ r,Result.andThen_ok,Z,Sem.run_pure,newVar,newRow,run_newObj,World.alloc_eq]
  ·cases h
 case store t a v=>
  unfold lz at h;split at h
  ·rename_i d i ht r;split at h
   ·cases h;obtain⟨p,cs,L,hv,hn,O,o⟩:=o;refine iT (s:=Instr.storeAt t (ev ρ a) (ev ρ v)) ?_ o;simp only[Instr.storeAt,L,hv,Instr.sureAddr,storeVar,Sem.run_bind,Sem.run_pure,Result.andThen_ok,bs r,Value.cells,hn,ne_eq,not_true_eq_false,if_false];exact bW _ _ _ O
   ·cases h;obtain⟨p,cs,L,hv,hn,O,o⟩:=o;refine iT (s:=Instr.storeAt t (ev ρ a) (ev ρ v)) ?_ o;simp only[Instr.storeAt,L,hv,Instr.sureAddr,storeVar,Sem.run_bind,Sem.run_pure,Result.andThen_ok,bs r,Value.cells,hn,ne_eq,not_true_eq_false,if_false];exact bW _ _ _ O
   ·split at h
    ·rename_i W;cases h;obtain⟨p,L,B,E,F,o⟩:=o;refine iT (s:=Instr.storeAt t (ev ρ a) (ev ρ v)) ?_ o;have e:=(jR B).2;have Z:p.add 0=p:=by simp[Addr.add]
     simp only[Instr.storeAt,L,Instr.sureAddr,storeVar,Sem.run_bind,Sem.run_pure,Result.andThen_ok,bs r,e,W,List.size_toArray,List.length_cons,List.length_nil,Nat.zero_add,ne_eq,not_true_eq_false,if_false,
      storeCells,Z,mD B E F]
    ·cases h
  ·cases h
 case call c=>
  obtain⟨cl,args,ts⟩:=c;unfold pw at h;simp only at h;split at h
  ·unfold iS at h;split at h
   ·obtain⟨j,r,rfl⟩:=Option.map_eq_some_iff.1 h;exact o.elim
   ·cases h;exact o.elim
   ·cases h;exact o.elim
   ·split at h
    ·rename_i s x t u L ht heq;subst heq;obtain⟨e,Q,rfl⟩:=Option.map_eq_some_iff.1 h;obtain⟨i,z,B,E,F,G,h5,R,H⟩:=fU Q;obtain⟨n,xs,fp,m,us,W,hx,S,I,y,o⟩:=o;have C:e.2.2.length=i.size:=by rw[H];simpa using G
     rw[C]at W hx o;rw[R]at y;obtain⟨v',w',tY,hr,EK,L0,zj,ho,O⟩:=wU (ty:=ty) B E F G W hx S I y;have L1:args=#[s,x]:=by cases args;simp_all
     have H':ts=#[t,t]:=by cases ts;simp_all
     subst L1;subst H';rw[ij];simp only[List.map_toArray,List.map_cons,List.map_nil];exact c9 (s:=Builtin.append_ #[t,t] ty #[ev ρ s,ev ρ x]) hr (o v' w' tY EK L0 zj ho O)
    ·cases h
   ·cases h
  ·rename_i f;split at h
   ·rename_i q;obtain⟨fn,M,X⟩: ∃fn,P.funcs[f]? =some fn∧(fn.name== "runtime.NumGoroutine")=false∧fn.body.isNone=false:=by
     unfold okF at q;split at q
     ·rename_i fn M;simp only[Bool.and_eq_true,Bool.not_eq_true']at q;exact⟨fn,M,q⟩
     ·cases q
    ·
     cases h;have T:(execOp (ev ρ) ⟨dd,.call ⟨.value (.func f),args,ts⟩,ty,N,af,g⟩).run P w=.ok (.enter f (args.map (ev ρ))) w:=by
      simp only[execOp,resolve,tf,Deferred.ofValue,Sem.run_bind,Sem.run_pure,Result.andThen_ok,invoke,callFunc,run_program,M,X.1,X.2,Bool.false_eq_true,if_false,Array.append_empty];simp
     unfold k8;rw[T];have e:(⟨args.toList.map (ev ρ)⟩:Array Value)=args.map (ev ρ):=by cases args;simp
     simp only[fv,Cs,e]at o;exact o
   ·cases h
  ·cases h;cases hV
  ·cases h
 case build t parts=>
  unfold ly at h;split at h
  ·split at h
   ·obtain⟨ps,Ou,rfl⟩:=Option.map_eq_some_iff.1 h;exact o.elim
   ·cases h
  ·split at h
   ·cases h;exact o.elim
   ·cases h
  ·cases h
 case buildSlice t len parts=>
  unfold dZ at h;split at h
  ·rename_i e b z Q;obtain⟨i,zz,B,E,F,G,h5,R,H⟩:=fU Q;simp only at B E R H;split at h
   ·rename_i U;cases h;obtain⟨cs,M,o⟩:=o;have C:z.length=i.size:=by rw[H];simpa using G
    have D:(eP z len)=((Array.range (len*i.size)).map fun j=>zz.cells[j%zz.cells.size]!).toList:=by
     rw[H,←G,pB]
    have V:(parts.toList.map fun p=>(p.1*z.length,z.length,p.2)).map (tl ρ)=((parts.map fun(x:Nat×Operand)=>(x.1,ev ρ x.2)).toList).map fun p=>(p.1*i.size,i.size,p.2):=by
     simp only[Array.toList_map,List.map_map,C];apply List.map_congr_left;intro p _;rfl
    rw[V,D]at M;have J:=uy _ _ _ M;exact c9 (s:=Instr.buildSlice t len (parts.map fun(x:Nat×Operand)=>(x.1,ev ρ x.2))) (mE B E F (by rw[←C];exact U) J) o
   ·cases h
  ·cases h
 case makeSlice t l c=>
  obtain⟨e,Q,rfl⟩:=Option.map_eq_some_iff.1 h;obtain⟨i,z,B,E,F,G,h5,R,H⟩:=fU Q;obtain⟨k,k',n,m,hl,X,L2,I,y,o⟩:=o;rw[R]at y;rw[H]at o;exact c9 (s:=Instr.makeSlice t (ev ρ l) (ev ρ c)) (by rw[hl,X];exact run_makeSlice B E F G L2 I y) o
 case move=>cases h;exact o.elim
 case assign=>cases h;exact o.elim
 case pick=>cases h;exact o.elim
 case nilCheck=>cases h;exact o.elim
 case load=>
  unfold pr at h;split at h
  ·split at h
   ·obtain⟨i,r,rfl⟩:=Option.map_eq_some_iff.1 h;exact o.elim
   ·obtain⟨i,r,rfl⟩:=Option.map_eq_some_iff.1 h;exact o.elim
   ·cases h;exact o.elim
  ·cases h
 case fieldAddr=>
  unfold fD at h;split at h
  ·split at h
   ·split at h
    ·cases h
    ·cases h;exact o.elim
   ·cases h
  ·cases h
 case field=>
  unfold lB at h;split at h
  ·split at h
   ·split at h
    ·obtain⟨i,r,rfl⟩:=Option.map_eq_some_iff.1 h;exact o.elim
    ·obtain⟨i,r,rfl⟩:=Option.map_eq_some_iff.1 h;exact o.elim
    ·cases h;exact o.elim
   ·cases h
  ·cases h
 case indexAddr=>
  unfold lC at h;split at h
  ·cases h;exact o.elim
  ·split at h
   ·obtain⟨i,r,rfl⟩:=Option.map_eq_some_iff.1 h;exact o.elim
   ·cases h
 case binOp=>
  unfold tm at h;split at h
  ·unfold Ci at h;split at h<;>try(cases h;done)
   ·cases h;exact o.elim
   ·cases h;exact o.elim
   ·split at h
    ·split at h
     ·cases h;exact o.elim
     ·cases h
    ·cases h
   ·cases h;exact o.elim
   ·split at h
    ·cases h;exact o.elim
    ·cases h
  ·unfold Ci at h;split at h<;>try(cases h;done)
   ·cases h;exact o.elim
   ·cases h;exact o.elim
   ·split at h
    ·split at h
     ·cases h;exact o.elim
     ·cases h
    ·cases h
   ·cases h;exact o.elim
   ·split at h
    ·cases h;exact o.elim
    ·cases h
  ·cases h;exact o.elim
 case unOp=>
  unfold zO at h;split at h
  ·cases h;exact o.elim
  ·cases h
 case convert=>
  unfold px at h;split at h
  ·cases h;exact o.elim
  ·cases h
 case makeFunc=>cases h;exact o.elim
 case slice=>
  unfold pt at h;split at h
  ·obtain⟨i,r,rfl⟩:=Option.map_eq_some_iff.1 h;exact o.elim
  ·obtain⟨i,r,rfl⟩:=Option.map_eq_some_iff.1 h;exact o.elim
  ·cases h
 case extract=>cases h;exact o.elim
 all_goals cases h
theorem qA {u:Nat} {args:Array Operand} {C:Array TypeId} {ρ:Env} (m:kN P (ρ u) (args.toList.map (ev ρ)) w K) (D:Option Nat) (ty:TypeId) (o:String) (E:Array Edge) (g:Option (Nat×Bool)):
  jQ P (execOp (ev ρ) ⟨D,.call ⟨.value (.tmp u),args,C⟩,ty,o,E,g⟩) w K:=by
 rcases m with⟨z,vs,q,b,m⟩|⟨l,k,G,tmps,assign,body,F,m⟩|⟨t,v,name,z,r,k,H,b,m⟩;rotate_left 2
 ·obtain⟨fn,y,B⟩: ∃fn,P.funcs[z]? =some fn∧(fn.name== "runtime.NumGoroutine")=false∧fn.body.isNone=false:=by
   unfold okF at b;split at b
   ·rename_i fn y;simp only[Bool.and_eq_true,Bool.not_eq_true']at b;exact⟨fn,y,b⟩
   ·cases b
  have d:ρ u=.func (.method name) #[.iface t v] #[]:=k;have ex:(#[Value.iface t v]++args.map (ev ρ)).extract 1 (#[Value.iface t v]++args.map (ev ρ)).size=args.map (ev ρ):=by
   apply Array.ext';simp only[Array.toList_extract,Array.toList_append,Array.size_append,Array.toList_map,Array.size_map,List.extract];simp;exact List.take_of_length_le (by simp)
  have I:(#[Value.iface t v]++args.map (ev ρ))[0]? =some (.iface t v):=by rw[Array.getElem?_append_left (by simp)];rfl
  have j:(execOp (ev ρ) ⟨D,.call ⟨.value (.tmp u),args,C⟩,ty,o,E,g⟩).run P w=.ok (.enter z (#[r]++args.map (ev ρ))) w:=by
   simp only[execOp,resolve,pk,d,Deferred.ofValue,Sem.run_bind,Sem.run_pure,Result.andThen_ok,invoke,I,ex,callMethod,run_program,H w,callFunc,y,B.1,B.2,Bool.false_eq_true,if_false]
  unfold jQ;rw[j];have e:(⟨r::args.toList.map (ev ρ)⟩:Array Value)=#[r]++args.map (ev ρ):=by
   apply Array.ext';simp
  simp only[Cs,e]at m;exact m
 rotate_left
 ·have d:ρ u=.func (.yield l) #[] #[]:=k;have e:(⟨args.toList.map (ev ρ)⟩:Array Value)=args.map (ev ρ):=by cases args;simp
  rw[e]at F;have j:(execOp (ev ρ) ⟨D,.call ⟨.value (.tmp u),args,C⟩,ty,o,E,g⟩).run P w=.ok (.round l G tmps assign body) w:=by
   simp only[execOp,resolve,pk,d,Deferred.ofValue,Sem.run_bind,Sem.run_pure,Result.andThen_ok,invoke,Array.empty_append];exact F
  unfold jQ;rw[j];exact m
 obtain⟨fn,y,B⟩: ∃fn,P.funcs[z]? =some fn∧(fn.name== "runtime.NumGoroutine")=false∧fn.body.isNone=false:=by
  unfold okF at b;split at b
  ·rename_i fn y;simp only[Bool.and_eq_true,Bool.not_eq_true']at b;exact⟨fn,y,b⟩
  ·cases b
 unfold iq at q;split at q
 ·rename_i first caps k
  cases q;have d:ρ u=.func (.func z) first caps:=k
  have j:(execOp (ev ρ) ⟨D,.call ⟨.value (.tmp u),args,C⟩,ty,o,E,g⟩).run P w=.ok (.enter z (first++args.map (ev ρ)++caps)) w:=by
   simp only[execOp,resolve,pk,d,Deferred.ofValue,Sem.run_bind,Sem.run_pure,Result.andThen_ok,invoke,callFunc,run_program,y,B.1,B.2,Bool.false_eq_true,if_false]
  unfold jQ;rw[j];have e:(⟨first.toList++args.toList.map (ev ρ)++caps.toList⟩:Array Value)=first++args.map (ev ρ)++caps:=by
   apply Array.ext';simp
  simp only[Cs,e]at m;exact m
 ·cases q
theorem uz {m : Op} {x : XB} (h : qq P m = some x) {ρ : Env} (r : fv P x ρ w K) (o : Option Nat) (ty : TypeId) (l : String) (q : Array Edge) (g : Option (Nat × Bool)) :
    jQ P (execOp (ev ρ) ⟨o, m, ty, l, q, g⟩) w K := by
  cases d : x.Ft with
  | false => exact (mF h d r o ty l q g).v
  | true =>
    cases m <;> simp only [qq] at h
    case call c =>
      obtain ⟨y, args, z⟩ := c;unfold pw at h;simp only at h;split at h
      · unfold iS at h;split at h
        · obtain ⟨j, k, rfl⟩ := Option.map_eq_some_iff.1 h; cases d
        · cases h; cases d
        · cases h; cases d
        · split at h
          · obtain ⟨j, k, rfl⟩ := Option.map_eq_some_iff.1 h; cases d
          · cases h
        · cases h
      · split at h
        · cases h; cases d
        · cases h
      · rename_i B; cases h; exact qA r o ty l q g
      · cases h
    case move => cases h; cases d
    case assign => cases h; cases d
    case pick => cases h; cases d
    case nilCheck => cases h; cases d
    case load =>
      unfold pr at h;split at h
      · split at h
        · obtain ⟨i, k, rfl⟩ := Option.map_eq_some_iff.1 h; cases d
        · obtain ⟨i, k, rfl⟩ := Option.map_eq_some_iff.1 h; cases d
        · cases h; cases d
      · cases h
    case store =>
      unfold lz at h;split at h
      · split at h
        · cases h; cases d
        · cases h; cases d
        · split at h
          · cases h; cases d
          · cases h
      · cases h
    case fieldAddr =>
      unfold fD at h;split at h
      · split at h
        · split at h
          · cases h
          · cases h; cases d
        · cases h
      · cases h
    case field =>
      unfold lB at h;split at h
      · split at h
        · split at h
          · obtain ⟨i, k, rfl⟩ := Option.map_eq_some_iff.1 h; cases d
          · obtain ⟨i, k, rfl⟩ := Option.map_eq_some_iff.1 h; cases d
          · cases h; cases d
        · cases h
      · cases h
    case indexAddr =>
      unfold lC at h;split at h
      · cases h; cases d
      · split at h
        · obtain ⟨i, k, rfl⟩ := Option.map_eq_some_iff.1 h; cases d
        · cases h
    case binOp u t a b _ =>
      unfold tm at h;split at h
      all_goals first
        | (cases h; cases d; done)
        | (unfold Ci at h
           repeat' split at h
           all_goals (first | (cases h; cases d; done) | (cases h; done)))
    case unOp =>
      unfold zO at h;split at h
      · cases h; cases d
      · cases h
    case convert =>
      unfold px at h;split at h
      · cases h; cases d
      · cases h
    case makeFunc => cases h; cases d
    case slice t a C k mx =>
      unfold pt at h;split at h
      · obtain ⟨i, k, rfl⟩ := Option.map_eq_some_iff.1 h; cases d
      · obtain ⟨i, k, rfl⟩ := Option.map_eq_some_iff.1 h; cases d
      · cases h
    case extract => cases h; cases d
    case box => cases h; cases d
    case alloc =>
      split at h
      · obtain ⟨i, k, rfl⟩ := Option.map_eq_some_iff.1 h; cases d
      · cases h
    case build =>
      unfold ly at h;split at h
      · split at h
        · obtain ⟨i, k, rfl⟩ := Option.map_eq_some_iff.1 h; cases d
        · cases h
      · split at h
        · cases h; cases d
        · cases h
      · cases h
    case buildSlice =>
      unfold dZ at h;split at h
      · split at h
        · cases h; cases d
        · cases h
      · cases h
    case makeSlice => obtain ⟨i, k, rfl⟩ := Option.map_eq_some_iff.1 h; cases d
    all_goals cases h
theorem mG {l:Op} {ρ:Env} (d:zP P l ρ w K) (o:Option Nat) (ty:TypeId) (m:String) (q:Array Edge) (g:Option (Nat×Bool)):
  k8 P (execOp (ev ρ) ⟨o,l,ty,m,q,g⟩) w K:=by
 cases l<;>first
  |exact d.elim
  |(obtain⟨v,w',j,k⟩:=d;exact c9 j k)
  |(obtain⟨w',j,k⟩:=d;exact iT j k)
  |skip
 case call c=>
  obtain⟨r,args,t⟩:=c;cases r with
  |builtin b=>
   rw[ij];cases b<;>first
    |exact d.elim
    |(obtain⟨v,w',j,k⟩:=d;exact c9 j k)
  |_=>exact d.elim
theorem uA {k:Op} {x:XB} (h:wG P k=some x) (m:x.Ft=false) {ρ:Env} (l:fv P x ρ w K) (d:Option Nat) (ty:TypeId) (b:String) (j:Array Edge) (g:Option (Nat×Bool)):
  k8 P (execOp (ev ρ) ⟨d,k,ty,b,j,g⟩) w K:=by
 rcases jM h with h|⟨rfl,_⟩
 ·exact mF h m l d ty b j g
 ·exact mG l d ty b j g
theorem wV {k:Op} {x:XB} (h:wG P k=some x) {ρ:Env} (l:fv P x ρ w K) (d:Option Nat) (ty:TypeId) (b:String) (j:Array Edge) (g:Option (Nat×Bool)):
  jQ P (execOp (ev ρ) ⟨d,k,ty,b,j,g⟩) w K:=by
 rcases jM h with h|⟨rfl,_⟩
 ·exact uz h l d ty b j g
 ·exact(mG l d ty b j g).v
end
end Go.Proofs.YthamnonkfepafaaGreat
