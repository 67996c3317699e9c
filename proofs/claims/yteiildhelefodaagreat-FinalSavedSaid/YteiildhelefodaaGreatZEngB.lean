/- The engine: symbolic execution. -/
import Derived.Test.YteiildhelefodaaGreatZEngA
set_option linter.unusedSimpArgs false
set_option linter.unusedVariables false
namespace Go.Proofs.YteiildhelefodaaGreat
section
variable {P:Program} {w:World}
theorem run_under {t:TypeId} {d:TypeDesc} (h:P.underlying t=some d):(underlying t).run P w=.ok d w:=by
 simp[underlying,h]
theorem run_info {t:TypeId} {i:TypeInfo} (h:P.info? t=some i):(typeInfo t).run P w=.ok i w:=by
 simp[typeInfo,h]
theorem run_size {t:TypeId} {i:TypeInfo} (h:P.info? t=some i):(sizeOf t).run P w=.ok i.size w:=by
 simp[sizeOf,run_info h]
def aggD:TypeDesc→Bool
 |.struct _|.array _ _=>true
 |_=>false
theorem run_isAgg {t:TypeId} {d:TypeDesc} (h:P.underlying t=some d):(isAgg t).run P w=.ok (aggD d) w:=by
 unfold isAgg aggD
 simp only[Sem.run_bind,run_under h,Result.andThen_ok]
 cases d<;>rfl
theorem run_load_some {a:Addr} {v:Value} (h:w.cell? a=some v):(load a).run P w=.ok v w:=by simp[h]
theorem run_loadCellsFrom {p:Addr}: ∀(n i:Nat) (acc:Array Value) (xs:List Value),xs.length=n→(∀j,j<n→w.cell? (p.add (i+j))=xs[j]?)→
  (loadCellsFrom p i n acc).run P w=.ok (acc++⟨xs⟩) w:=by
 intro n
 induction n with
 |zero=>intro i acc xs hl _;simp[loadCellsFrom,List.length_eq_zero_iff.1 hl]
 |succ n ih=>
  intro i acc xs hl h
  match xs,hl with
  |x::xs,hl=>
   have h0:=h 0 (by omega)
   simp at h0
   simp only[loadCellsFrom,Sem.run_bind,run_load_some h0,Result.andThen_ok]
   rw[ih (i+1) (acc.push x) xs (by simpa using hl) (fun j hj=>by have:=h (j+1) (by omega);simpa[Nat.add_assoc,Nat.add_comm 1 j]using this)]
   simp
theorem mapM_range_some {α:Type} {f:Nat→Option α}: ∀ {n:Nat} {xs:List α},(List.range n).mapM f=some xs→xs.length=n∧ ∀j,j<n→f j=xs[j]? :=by
 intro n
 induction n with
 |zero=>intro xs h;simp at h;subst h;exact⟨rfl,fun j hj=>absurd hj (Nat.not_lt_zero _)⟩
 |succ n ih=>
  intro xs h
  rw[List.range_succ,List.mapM_append]at h
  simp only[Option.bind_eq_bind,Option.bind_eq_some_iff,Option.pure_def,Option.some.injEq,List.mapM_cons,List.mapM_nil]at h
  obtain⟨ys,hy,zs,⟨z,hz,us,hu,h2⟩,rfl⟩:=h
  subst hu;subst h2
  obtain⟨hl,hj⟩:=ih hy
  refine⟨by simp[hl],fun j hjn=>?_⟩
  by_cases hlt:j<n
  ·rw[hj j hlt,List.getElem?_append_left (by omega)]
  ·have:j=n:=by omega
   subst this
   rw[hz,List.getElem?_append_right (by omega),hl];simp
theorem cellsAt_spec {p:Addr} {n:Nat} {xs:List Value} (h:cellsAt w p n=some xs):xs.length=n∧ ∀j,j<n→w.cell? (p.add j)=xs[j]? :=
 mapM_range_some h
theorem run_loadCells {p:Addr} {n:Nat} {xs:List Value} (h:cellsAt w p n=some xs):(loadCells p n).run P w=.ok ⟨xs⟩ w:=by
 obtain⟨hl,hj⟩:=cellsAt_spec h
 rw[loadCells,run_loadCellsFrom n 0 #[] xs hl (fun j hjn=>by simpa using hj j hjn)]
 simp
end
def Gives (P:Program) (s:Sem Next) (w:World) (K:Value→Prop):Prop:= ∃v,s.run P w=.ok (.value v) w∧K v
section
variable {P:Program} {w:World} {K:Value→Prop}
theorem gives_of {s:Sem Value} {v:Value} (h:s.run P w=.ok v w) (hk:K v):Gives P (do pure (.value (←s))) w K:=
 ⟨v,by simp[h],hk⟩
theorem gives_bin {op:BinOp} {t:TypeId} {x y:Operand} {a b:Value} (hk:binV K op a b):
  Gives P (do pure (.value (←(do eqGuard op t x y a b;binOp op t a b)))) w K:=by
 unfold binV at hk
 split at hk
 case h_1=>rename_i k a _ b;exact⟨_,by simp[eqGuard,binOp,Op.shift,show¬(b<0)from by have h:=hk.1;omega],hk.2⟩
 case h_2=>rename_i k a _ b;exact⟨_,by simp[eqGuard,binOp,Op.shift,show¬(b<0)from by have h:=hk.1;omega],hk.2⟩
 case h_3=>obtain⟨rfl,hk⟩:=hk;exact⟨_,by simp[eqGuard,binOp,Op.intArith],hk⟩
 case h_4=>obtain⟨rfl,hk⟩:=hk;exact⟨_,by simp[eqGuard,binOp,Op.intArith],hk⟩
 case h_5=>obtain⟨rfl,hk⟩:=hk;exact⟨_,by simp[eqGuard,binOp,Op.intArith],hk⟩
 case h_6=>obtain⟨rfl,h0,hk⟩:=hk;exact⟨_,by simp[eqGuard,binOp,Op.intDiv,h0],hk⟩
 case h_7=>obtain⟨rfl,h0,hk⟩:=hk;exact⟨_,by simp[eqGuard,binOp,Op.intDiv,h0],hk⟩
 case h_8=>obtain⟨rfl,hk⟩:=hk;exact⟨_,by simp[eqGuard,binOp,Op.intBits,bitI],hk⟩
 case h_9=>obtain⟨rfl,hk⟩:=hk;exact⟨_,by simp[eqGuard,binOp,Op.intBits,bitI],hk⟩
 case h_10=>obtain⟨rfl,hk⟩:=hk;exact⟨_,by simp[eqGuard,binOp,Op.intBits,bitI],hk⟩
 case h_11=>obtain⟨rfl,hk⟩:=hk;exact⟨_,by simp[eqGuard,binOp,Op.intBits,bitI],hk⟩
 case h_12=>obtain⟨rfl,hk⟩:=hk;exact⟨_,by simp[eqGuard,binOp,Op.intCmp],hk⟩
 case h_13=>obtain⟨rfl,hk⟩:=hk;exact⟨_,by simp[eqGuard,binOp,Op.intCmp],hk⟩
 case h_14=>obtain⟨rfl,hk⟩:=hk;exact⟨_,by simp[eqGuard,binOp,Op.intCmp],hk⟩
 case h_15=>obtain⟨rfl,hk⟩:=hk;exact⟨_,by simp[eqGuard,binOp,Op.intCmp],hk⟩
 case h_16=>obtain⟨rfl,hk⟩:=hk;exact⟨_,by simp[eqGuard,binOp,Op.intCmp],hk⟩
 case h_17=>obtain⟨rfl,hk⟩:=hk;exact⟨_,by simp[eqGuard,binOp,Op.intCmp],hk⟩
 case h_18=>exact hk.elim
theorem eql_bool {t:TypeId} (ht:P.underlying t=some .bool) (a b:Bool) (d:Nat):(Op.equalIn (d+1) t (.bool a) (.bool b)).run P w=.ok (a==b) w:=by
 rw[Op.equalIn];simp only[Sem.run_bind,run_under ht,Result.andThen_ok];rfl
theorem eql_ptr_nn {t e:TypeId} (ht:P.underlying t=some (.pointer e)) (d:Nat):(Op.equalIn (d+1) t (.pointer none) (.pointer none)).run P w=.ok true w:=by
 rw[Op.equalIn];simp only[Sem.run_bind,run_under ht,Result.andThen_ok];rfl
theorem eql_ptr_ns {t e:TypeId} (ht:P.underlying t=some (.pointer e)) (p:Addr) (d:Nat):(Op.equalIn (d+1) t (.pointer none) (.pointer (some p))).run P w=.ok false w:=by
 rw[Op.equalIn];simp only[Sem.run_bind,run_under ht,Result.andThen_ok];rfl
theorem eql_ptr_sn {t e:TypeId} (ht:P.underlying t=some (.pointer e)) (p:Addr) (d:Nat):(Op.equalIn (d+1) t (.pointer (some p)) (.pointer none)).run P w=.ok false w:=by
 rw[Op.equalIn];simp only[Sem.run_bind,run_under ht,Result.andThen_ok];rfl
theorem eql_ptr_ss {t e:TypeId} {i:TypeInfo} (ht:P.underlying t=some (.pointer e)) (he:P.info? e=some i) (h0:i.size≠0) (p q:Addr) (hb:p.block=q.block) (d:Nat):
  (Op.equalIn (d+1) t (.pointer (some p)) (.pointer (some q))).run P w=.ok (p==q) w:=by
 rw[Op.equalIn];simp only[Sem.run_bind,run_under ht,Result.andThen_ok,run_size he,if_pos h0,sameAddr,hb,beq_self_eq_true,if_true];rfl
theorem eql_sl_n {t e:TypeId} (ht:P.underlying t=some (.slice e)) (l c l' c':Nat) (q:Option Addr) (d:Nat):(Op.equalIn (d+1) t (.slice none l c) (.slice q l' c')).run P w=.ok q.isNone w:=by
 rw[Op.equalIn];simp only[Sem.run_bind,run_under ht,Result.andThen_ok];rfl
theorem eql_sl_s {t e:TypeId} (ht:P.underlying t=some (.slice e)) (l c l' c':Nat) (p:Addr) (d:Nat):(Op.equalIn (d+1) t (.slice (some p) l c) (.slice none l' c')).run P w=.ok false w:=by
 rw[Op.equalIn];simp only[Sem.run_bind,run_under ht,Result.andThen_ok];rfl
def eqOp (neg:Bool):BinOp:=match neg with|true=>.neq|false=>.eql
theorem gives_eq {neg:Bool} {t:TypeId} {x y:Operand} {a b:Value} {r:Bool}
  (h1: ∀op,(eqGuard op t x y a b).run P w=.ok () w)
  (h2:binOp .eql t a b=(do pure (.bool (←Op.equal t a b)))) (h3:binOp .neq t a b=(do pure (.bool (!(←Op.equal t a b)))))
  (hb: ∀d,(Op.equalIn (d+2) t a b).run P w=.ok r w) (hk:K (.bool (r !=neg))):
  Gives P (do pure (.value (←(do eqGuard (eqOp neg) t x y a b;binOp (eqOp neg) t a b)))) w K:=by
 have hb':(Op.equal t a b).run P w=.ok r w:=hb 9998
 cases neg
 ·have e:(do eqGuard .eql t x y a b;binOp .eql t a b:Sem Value).run P w=.ok (.bool r) w:=by rw[Sem.run_bind,h1,h2];simp[hb']
  exact gives_of e (by simpa using hk)
 ·have e:(do eqGuard .neq t x y a b;binOp .neq t a b:Sem Value).run P w=.ok (.bool !r) w:=by rw[Sem.run_bind,h1,h3];simp[hb']
  exact gives_of e (by simpa using hk)
theorem gives_eqB {neg:Bool} {t:TypeId} (ht:P.underlying t=some .bool) {x y:Operand} {a b:Value} (hk:eqBV K neg a b):
  Gives P (do pure (.value (←(do eqGuard (eqOp neg) t x y a b;binOp (eqOp neg) t a b)))) w K:=by
 unfold eqBV at hk
 split at hk
 ·rename_i p q
  exact gives_eq (r:=p==q) (fun op=>by cases op<;>rfl) rfl rfl (fun d=>eql_bool ht p q (d+1)) hk
 ·exact hk.elim
theorem gives_eqP {neg:Bool} {t e:TypeId} {i:TypeInfo} (ht:P.underlying t=some (.pointer e)) (he:P.info? e=some i) (h0:i.size≠0) {x y:Operand} {a b:Value} (hk:eqPV K neg a b):
  Gives P (do pure (.value (←(do eqGuard (eqOp neg) t x y a b;binOp (eqOp neg) t a b)))) w K:=by
 unfold eqPV at hk
 split at hk
 ·exact gives_eq (r:=true) (fun op=>by cases op<;>rfl) rfl rfl (fun d=>eql_ptr_nn ht (d+1)) hk
 ·exact gives_eq (r:=false) (fun op=>by cases op<;>rfl) rfl rfl (fun d=>eql_ptr_ns ht _ (d+1)) hk
 ·exact gives_eq (r:=false) (fun op=>by cases op<;>rfl) rfl rfl (fun d=>eql_ptr_sn ht _ (d+1)) hk
 ·rename_i p q
  exact gives_eq (r:=p==q) (fun op=>by cases op<;>rfl) rfl rfl (fun d=>eql_ptr_ss ht he h0 p q hk.1 (d+1)) hk.2
 ·exact hk.elim
theorem gives_eqS {neg:Bool} {t e:TypeId} (ht:P.underlying t=some (.slice e)) {x y:Operand} {a b:Value} (hk:eqSV K neg a b):
  Gives P (do pure (.value (←(do eqGuard (eqOp neg) t x y a b;binOp (eqOp neg) t a b)))) w K:=by
 unfold eqSV at hk
 split at hk
 ·exact gives_eq (fun op=>by cases op<;>rfl) rfl rfl (fun d=>eql_sl_n ht _ _ _ _ _ (d+1)) hk
 ·exact gives_eq (r:=false) (fun op=>by cases op<;>rfl) rfl rfl (fun d=>eql_sl_s ht _ _ _ _ _ (d+1)) hk
 ·exact hk.elim
end
end Go.Proofs.YteiildhelefodaaGreat
