import Derived.Test.YthamnonkfepafaaGreatZEngA
set_option linter.unusedSimpArgs false
set_option linter.unusedVariables false
namespace Go.Proofs.YthamnonkfepafaaGreat
section
variable {P:Program} {w:World}
theorem aK {t:TypeId} {d:TypeDesc} (h:P.underlying t=some d):(underlying t).run P w=.ok d w:=by
 simp[underlying,h]
theorem eQ {t:TypeId} {i:TypeInfo} (h:P.info? t=some i):(typeInfo t).run P w=.ok i w:=by
 simp[typeInfo,h]
theorem bs {t:TypeId} {i:TypeInfo} (h:P.info? t=some i):(sizeOf t).run P w=.ok i.size w:=by
 simp[sizeOf,eQ h]
def mu:TypeDesc→Bool
 |.struct _|.array _ _=>true
 |_=>false
theorem dc {t:TypeId} {d:TypeDesc} (h:P.underlying t=some d):(isAgg t).run P w=.ok (mu d) w:=by
 unfold isAgg mu;simp only[Sem.run_bind,aK h,Result.andThen_ok];cases d<;>rfl
theorem fT {a:Addr} {v:Value} (h:w.cell? a=some v):(load a).run P w=.ok v w:=by simp[h]
theorem run_loadCellsFrom {p:Addr}: ∀(n i:Nat) (b:Array Value) (xs:List Value),xs.length=n→(∀j,j<n→w.cell? (p.add (i+j))=xs[j]?)→
  (loadCellsFrom p i n b).run P w=.ok (b++⟨xs⟩) w:=by
 intro n
 induction n with
 |zero=>intro i b xs d _;simp[loadCellsFrom,List.length_eq_zero_iff.1 d]
 |succ n l=>
  intro i b xs d h
  match xs,d with
  |x::xs,d=>
   have k:=h 0 (by omega);simp at k;simp only[loadCellsFrom,Sem.run_bind,fT k,Result.andThen_ok];rw[l (i+1) (b.push x) xs (by simpa using d) (fun j m=>by have:=h (j+1) (by omega);simpa[Nat.add_assoc,Nat.add_comm 1 j]using this)];simp
theorem k7 {k:Type} {f:Nat→Option k}: ∀ {n:Nat} {xs:List k},(List.range n).mapM f=some xs→xs.length=n∧ ∀j,j<n→f j=xs[j]? :=by
 intro n
 induction n with
 |zero=>intro xs h;simp at h;subst h;exact⟨rfl,fun j b=>absurd b (Nat.not_lt_zero _)⟩
 |succ n m=>
  intro xs h;rw[List.range_succ,List.mapM_append]at h;simp only[Option.bind_eq_bind,Option.bind_eq_some_iff,Option.pure_def,Option.some.injEq,List.mapM_cons,List.mapM_nil]at h;obtain⟨ys,o,w,⟨z,q,us,r,t⟩,rfl⟩:=h;subst r;subst t;obtain⟨l,b⟩:=m o;refine⟨by simp[l],fun j u=>?_⟩;by_cases d:j<n
  ·rw[b j d,List.getElem?_append_left (by omega)]
  ·have:j=n:=by omega
   subst this;rw[q,List.getElem?_append_right (by omega),l];simp
theorem gJ {p:Addr} {n:Nat} {xs:List Value} (h:aI w p n=some xs):xs.length=n∧ ∀j,j<n→w.cell? (p.add j)=xs[j]? :=
 k7 h
theorem run_loadCells {p:Addr} {n:Nat} {xs:List Value} (h:aI w p n=some xs):(loadCells p n).run P w=.ok ⟨xs⟩ w:=by
 obtain⟨d,k⟩:=gJ h;rw[loadCells,run_loadCellsFrom n 0 #[] xs d (fun j b=>by simpa using k j b)];simp
end
def bZ (P:Program) (s:Sem Next) (w:World) (K:Value→Prop):Prop:= ∃v,s.run P w=.ok (.value v) w∧K v
section
variable {P:Program} {w:World} {K:Value→Prop}
theorem bC {s:Sem Value} {v:Value} (h:s.run P w=.ok v w) (b:K v):bZ P (do pure (.value (←s))) w K:=
 ⟨v,by simp[h],b⟩
theorem oq {j:BinOp} {t:TypeId} {x y:Operand} {a b:Value} (d:wF K j a b):
  bZ P (do pure (.value (←(do eqGuard j t x y a b;binOp j t a b)))) w K:=by
 unfold wF at d;split at d
 case h_1=>rename_i k a _ b;exact⟨_,by simp[eqGuard,binOp,Op.shift,show¬(b<0)from by have h:=d.1;omega],d.2⟩
 case h_2=>rename_i k a _ b;exact⟨_,by simp[eqGuard,binOp,Op.shift,show¬(b<0)from by have h:=d.1;omega],d.2⟩
 case h_3=>obtain⟨rfl,d⟩:=d;exact⟨_,by simp[eqGuard,binOp,Op.intArith],d⟩
 case h_4=>obtain⟨rfl,d⟩:=d;exact⟨_,by simp[eqGuard,binOp,Op.intArith],d⟩
 case h_5=>obtain⟨rfl,d⟩:=d;exact⟨_,by simp[eqGuard,binOp,Op.intArith],d⟩
 case h_6=>obtain⟨rfl,l,d⟩:=d;exact⟨_,by simp[eqGuard,binOp,Op.intDiv,l],d⟩
 case h_7=>obtain⟨rfl,l,d⟩:=d;exact⟨_,by simp[eqGuard,binOp,Op.intDiv,l],d⟩
 case h_8=>obtain⟨rfl,d⟩:=d;exact⟨_,by simp[eqGuard,binOp,Op.intBits,dz],d⟩
 case h_9=>obtain⟨rfl,d⟩:=d;exact⟨_,by simp[eqGuard,binOp,Op.intBits,dz],d⟩
 case h_10=>obtain⟨rfl,d⟩:=d;exact⟨_,by simp[eqGuard,binOp,Op.intBits,dz],d⟩
 case h_11=>obtain⟨rfl,d⟩:=d;exact⟨_,by simp[eqGuard,binOp,Op.intBits,dz],d⟩
 case h_12=>obtain⟨rfl,d⟩:=d;exact⟨_,by simp[eqGuard,binOp,Op.intCmp],d⟩
 case h_13=>obtain⟨rfl,d⟩:=d;exact⟨_,by simp[eqGuard,binOp,Op.intCmp],d⟩
 case h_14=>obtain⟨rfl,d⟩:=d;exact⟨_,by simp[eqGuard,binOp,Op.intCmp],d⟩
 case h_15=>obtain⟨rfl,d⟩:=d;exact⟨_,by simp[eqGuard,binOp,Op.intCmp],d⟩
 case h_16=>obtain⟨rfl,d⟩:=d;exact⟨_,by simp[eqGuard,binOp,Op.intCmp],d⟩
 case h_17=>obtain⟨rfl,d⟩:=d;exact⟨_,by simp[eqGuard,binOp,Op.intCmp],d⟩
 case h_18=>exact d.elim
theorem wH {t:TypeId} (j:P.underlying t=some .bool) (a b:Bool) (d:Nat):(Op.equalIn (d+1) t (.bool a) (.bool b)).run P w=.ok (a==b) w:=by
 rw[Op.equalIn];simp only[Sem.run_bind,aK j,Result.andThen_ok];rfl
theorem rX {t e:TypeId} (b:P.underlying t=some (.pointer e)) (d:Nat):(Op.equalIn (d+1) t (.pointer none) (.pointer none)).run P w=.ok true w:=by
 rw[Op.equalIn];simp only[Sem.run_bind,aK b,Result.andThen_ok];rfl
theorem rY {t e:TypeId} (b:P.underlying t=some (.pointer e)) (p:Addr) (d:Nat):(Op.equalIn (d+1) t (.pointer none) (.pointer (some p))).run P w=.ok false w:=by
 rw[Op.equalIn];simp only[Sem.run_bind,aK b,Result.andThen_ok];rfl
theorem rZ {t e:TypeId} (b:P.underlying t=some (.pointer e)) (p:Addr) (d:Nat):(Op.equalIn (d+1) t (.pointer (some p)) (.pointer none)).run P w=.ok false w:=by
 rw[Op.equalIn];simp only[Sem.run_bind,aK b,Result.andThen_ok];rfl
theorem r9 {t e:TypeId} {i:TypeInfo} (b:P.underlying t=some (.pointer e)) (j:P.info? e=some i) (k:i.size≠0) (p q:Addr) (l:p.block=q.block) (d:Nat):
  (Op.equalIn (d+1) t (.pointer (some p)) (.pointer (some q))).run P w=.ok (p==q) w:=by
 rw[Op.equalIn];simp only[Sem.run_bind,aK b,Result.andThen_ok,bs j,if_pos k,sameAddr,l,beq_self_eq_true,if_true];rfl
theorem wI {t e:TypeId} (b:P.underlying t=some (.slice e)) (l c j c':Nat) (q:Option Addr) (d:Nat):(Op.equalIn (d+1) t (.slice none l c) (.slice q j c')).run P w=.ok q.isNone w:=by
 rw[Op.equalIn];simp only[Sem.run_bind,aK b,Result.andThen_ok];rfl
theorem wJ {t e:TypeId} (b:P.underlying t=some (.slice e)) (l c j c':Nat) (p:Addr) (d:Nat):(Op.equalIn (d+1) t (.slice (some p) l c) (.slice none j c')).run P w=.ok false w:=by
 rw[Op.equalIn];simp only[Sem.run_bind,aK b,Result.andThen_ok];rfl
def nH (neg:Bool):BinOp:=match neg with|true=>.neq|false=>.eql
theorem dM {neg:Bool} {t:TypeId} {x y:Operand} {a b:Value} {r:Bool}
  (k: ∀m,(eqGuard m t x y a b).run P w=.ok () w)
  (o:binOp .eql t a b=(do pure (.bool (←Op.equal t a b)))) (q:binOp .neq t a b=(do pure (.bool (!(←Op.equal t a b)))))
  (u: ∀d,(Op.equalIn (d+2) t a b).run P w=.ok r w) (l:K (.bool (r !=neg))):
  bZ P (do pure (.value (←(do eqGuard (nH neg) t x y a b;binOp (nH neg) t a b)))) w K:=by
 have j:(Op.equal t a b).run P w=.ok r w:=u 9998;cases neg
 ·have e:(do eqGuard .eql t x y a b;binOp .eql t a b:Sem Value).run P w=.ok (.bool r) w:=by rw[Sem.run_bind,k,o];simp[j]
  exact bC e (by simpa using l)
 ·have e:(do eqGuard .neq t x y a b;binOp .neq t a b:Sem Value).run P w=.ok (.bool !r) w:=by rw[Sem.run_bind,k,q];simp[j]
  exact bC e (by simpa using l)
theorem ue {neg:Bool} {t:TypeId} (k:P.underlying t=some .bool) {x y:Operand} {a b:Value} (j:zI K neg a b):
  bZ P (do pure (.value (←(do eqGuard (nH neg) t x y a b;binOp (nH neg) t a b)))) w K:=by
 unfold zI at j;split at j
 ·rename_i p q;exact dM (r:=p==q) (fun l=>by cases l<;>rfl) rfl rfl (fun d=>wH k p q (d+1)) j
 ·exact j.elim
theorem uf {neg:Bool} {t e:TypeId} {i:TypeInfo} (l:P.underlying t=some (.pointer e)) (m:P.info? e=some i) (o:i.size≠0) {x y:Operand} {a b:Value} (j:zJ K neg a b):
  bZ P (do pure (.value (←(do eqGuard (nH neg) t x y a b;binOp (nH neg) t a b)))) w K:=by
 unfold zJ at j;split at j
 ·exact dM (r:=true) (fun k=>by cases k<;>rfl) rfl rfl (fun d=>rX l (d+1)) j
 ·exact dM (r:=false) (fun k=>by cases k<;>rfl) rfl rfl (fun d=>rY l _ (d+1)) j
 ·exact dM (r:=false) (fun k=>by cases k<;>rfl) rfl rfl (fun d=>rZ l _ (d+1)) j
 ·rename_i p q;exact dM (r:=p==q) (fun k=>by cases k<;>rfl) rfl rfl (fun d=>r9 l m o p q j.1 (d+1)) j.2
 ·exact j.elim
theorem ug {neg:Bool} {t e:TypeId} (l:P.underlying t=some (.slice e)) {x y:Operand} {a b:Value} (j:zK K neg a b):
  bZ P (do pure (.value (←(do eqGuard (nH neg) t x y a b;binOp (nH neg) t a b)))) w K:=by
 unfold zK at j;split at j
 ·exact dM (fun k=>by cases k<;>rfl) rfl rfl (fun d=>wI l _ _ _ _ _ (d+1)) j
 ·exact dM (r:=false) (fun k=>by cases k<;>rfl) rfl rfl (fun d=>wJ l _ _ _ _ _ (d+1)) j
 ·exact j.elim
end
end Go.Proofs.YthamnonkfepafaaGreat
