import Derived.Test.YthamnonkfepafaaGreatZEngB
set_option linter.unusedSimpArgs false
set_option linter.unusedVariables false
namespace Go.Proofs.YthamnonkfepafaaGreat
section
variable {P:Program} {w:World} {K:Value→Prop}
theorem wK {t:TypeId} {d:TypeDesc} (j:P.underlying t=some d) (k:mu d=false) {v:Value} (b:GA w K v):bZ P (do pure (.value (←Instr.loadAt t v))) w K:=by
 unfold GA at b;split at b
 ·obtain⟨x,l,b⟩:=b;refine bC (v:=x) ?_ b;simp only[Instr.loadAt,Instr.sureAddr,loadVar,Sem.run_bind,Sem.run_pure,Result.andThen_ok,dc j,k,Bool.false_eq_true,if_false,fT l]
 ·exact b.elim
theorem ou {t:TypeId} {d:TypeDesc} {i:TypeInfo} (j:P.underlying t=some d) (k:mu d=true) (l:P.info? t=some i) {v:Value} (b:zF w K i.size v):
  bZ P (do pure (.value (←Instr.loadAt t v))) w K:=by
 unfold zF at b;split at b
 ·obtain⟨xs,m,b⟩:=b;refine bC (v:=.agg ⟨xs⟩) ?_ b;simp only[Instr.loadAt,Instr.sureAddr,loadVar,Sem.run_bind,Sem.run_pure,Result.andThen_ok,dc j,k,if_true,bs l,run_loadCells m]
 ·exact b.elim
theorem wL {s:TypeId} {d:Array Field} {f:Nat} {fl:Field} {i:TypeInfo} (j:P.underlying s=some (.struct d)) (k:d[f]? =some fl) (l:P.info? fl.type=some i) (m:i.size≠0)
  {v:Value} (b:GB K fl.offset v):bZ P (do pure (.value (←Instr.fieldAt s v f))) w K:=by
 unfold GB at b;split at b
 ·refine bC ?_ b;simp only[Instr.fieldAt,Instr.sureAddr,fieldPlace,Sem.run_bind,aK j,Result.andThen_ok,k,Sem.run_pure,bs l,if_neg m]
 ·exact b.elim
theorem uh {s:TypeId} {j:Array Field} {f:Nat} {fl:Field} {d:TypeDesc} (k:P.underlying s=some (.struct j)) (l:j[f]? =some fl) (m:P.underlying fl.type=some d) (o:mu d=false)
  {v:Value} (b:zG K fl.offset v):bZ P (do pure (.value (←Instr.field s v f))) w K:=by
 unfold zG at b;split at b
 ·obtain⟨x,q,b⟩:=b;refine bC (v:=x) ?_ b;simp only[Instr.field,asAgg,part,Sem.run_bind,aK k,Result.andThen_ok,l,Sem.run_pure,dc m,o,Bool.false_eq_true,if_false,q]
 ·exact b.elim
theorem mw {s:TypeId} {j:Array Field} {f:Nat} {fl:Field} {d:TypeDesc} {i:TypeInfo} (k:P.underlying s=some (.struct j)) (l:j[f]? =some fl) (m:P.underlying fl.type=some d) (o:mu d=true)
  (q:P.info? fl.type=some i) {v:Value} (b:th K fl.offset i.size v):bZ P (do pure (.value (←Instr.field s v f))) w K:=by
 unfold th at b;split at b
 ·refine bC ?_ b;simp only[Instr.field,asAgg,part,Sem.run_bind,aK k,Result.andThen_ok,l,Sem.run_pure,dc m,o,if_true,bs q]
 ·exact b.elim
theorem wM {t e:TypeId} {i:TypeInfo} (d:P.underlying t=some (.slice e)) (k:P.info? e=some i) {s j:Value} (b:GC K i.size s j):bZ P (do pure (.value (←Instr.indexAt t s j))) w K:=by
 unfold GC at b;split at b
 ·obtain⟨l,b⟩:=b;refine bC ?_ b;simp only[Instr.indexAt,asIntOf,Sem.run_bind,Sem.run_pure,Result.andThen_ok,aK d,if_pos l,bs k]
 ·exact b.elim
theorem ui {t e:TypeId} {n:Nat} {i:TypeInfo} (d:P.underlying t=some (.array n e)) (k:P.info? e=some i) {s j:Value} (b:zH K n i.size s j):bZ P (do pure (.value (←Instr.indexAt t s j))) w K:=by
 unfold zH at b;split at b
 ·obtain⟨l,b⟩:=b;refine bC ?_ b;simp only[Instr.indexAt,asIntOf,Instr.sureAddr,Sem.run_bind,Sem.run_pure,Result.andThen_ok,aK d,if_pos l,bs k]
 ·exact b.elim
theorem wN {x:Value} (b:GD K x):bZ P (do pure (.value (←Op.unary .not x))) w K:=by
 unfold GD at b;split at b
 ·exact bC (by simp[Op.unary]) b
 ·exact b.elim
theorem sd {b l:TypeId} {k:IntKind} (o:P.underlying l=some (.int k)) {d:TypeDesc} (q:P.underlying b=some d) {x:Value} (m:ti K k x):
  bZ P (do pure (.value (←convert b l x))) w K:=by
 unfold ti at m;split at m
 ·rename_i j n;refine bC ?_ m;simp only[convert,Sem.run_bind,aK q,aK o,Result.andThen_ok];cases d<;>rfl
 ·exact m.elim
theorem uj {x:Value} {i:Nat} (b:zL K x i):bZ P (do pure (.value (←Instr.extract x i))) w K:=by
 unfold zL at b;split at b
 ·obtain⟨v,d,b⟩:=b;exact bC (v:=v) (by simp[Instr.extract,d]) b
 ·exact b.elim
theorem qt {x:Operand} {ρ:Env} {k:Option Nat} {ty:TypeId} {j:String} {l:Array Edge} {g:Option (Nat×Bool)} (d:pq K (ev ρ x)):bZ P (execOp (ev ρ) ⟨k,.nilCheck x,ty,j,l,g⟩) w K:=by
 unfold pq at d;split at d
 ·rename_i p h;exact⟨_,by simp[execOp,h],d⟩
 ·rename_i f a b h;exact⟨_,by simp[execOp,h],d⟩
 ·rename_i t v h;exact⟨_,by simp[execOp,h],d⟩
 ·exact d.elim
theorem uk {t e:TypeId} {i:TypeInfo} (u:P.underlying t=some (.slice e)) (y:P.info? e=some i) {s:Value} {q d:Option Value} (k:zN K i.size s q d):
  bZ P (do pure (.value (←Instr.sliceAt t s q d none))) w K:=by
 unfold zN at k;split at k
 ·rename_i a len cap;obtain⟨l,h,o,b,m,k⟩:=k;refine bC ?_ k;have z:(Instr.sliceBounds true len cap q d none).run P w=.ok (l,h,cap) w:=by
   split at o
   ·subst o;split at b
    ·subst b;simp[Instr.sliceBounds]
    ·rename_i j;obtain⟨rfl,b⟩:=b;simp[Instr.sliceBounds,Instr.sliceBound,asIntOf,m]
    ·exact b.elim
   ·rename_i j;obtain⟨rfl,r⟩:=o;split at b
    ·subst b;simp[Instr.sliceBounds,Instr.sliceBound,asIntOf,r]
    ·rename_i j;obtain⟨rfl,b⟩:=b;simp[Instr.sliceBounds,Instr.sliceBound,asIntOf,m,r]
    ·exact b.elim
   ·exact o.elim
  simp only[Instr.sliceAt,Instr.slice,Sem.run_bind,aK u,Result.andThen_ok,z,bs y,Sem.run_pure]
 ·exact k.elim
theorem se {t e:TypeId} {i:TypeInfo} (k:P.underlying t=some (.slice e)) (o:P.info? e=some i) {s j d mx:Value} (b:tk K i.size s j d mx):
  bZ P (do pure (.value (←Instr.sliceAt t s (some j) (some d) (some mx)))) w K:=by
 unfold tk at b;split at b
 ·rename_i a len cap _ _ _ _ _ _;obtain⟨l,h,m,rfl,rfl,rfl,q,r,u,b⟩:=b;refine bC ?_ b;simp[Instr.sliceAt,Instr.slice,aK k,Instr.sliceBounds,Instr.sliceBound,asIntOf,q,r,u,bs o]
 ·exact b.elim
theorem um {t e:TypeId} (d:P.underlying t=some (.slice e)) {x:Value} {ty:TypeId} {cs:Array Bool} (b:zM K x):bZ P (builtin .len #[t] ty cs #[x]) w K:=by
 unfold zM at b;split at b
 ·exact⟨_,by simp[builtin,Builtin.len_,aK d];rfl,b⟩
 ·exact b.elim
def wO:Bool→Builtin
 |true=>.max
 |false=>.min
theorem my {mx:Bool} {a b:Value} {j:Array TypeId} {ty:TypeId} {cs:Array Bool} (d:tj K mx a b):bZ P (builtin (wO mx) j ty cs #[a,b]) w K:=by
 unfold tj at d;split at d
 ·rename_i k x k' y;obtain⟨rfl,d⟩:=d;cases mx
  ·refine⟨_,by simp[wO,builtin,Builtin.min_,Builtin.min2];rfl,?_⟩;simp only[Bool.false_eq_true,if_false]at d;by_cases h:y<x
   ·rw[if_pos h];rwa[Int.min_eq_right (by omega)]at d
   ·rw[if_neg h];rwa[Int.min_eq_left (by omega)]at d
  ·refine⟨_,by simp[wO,builtin,Builtin.max_,Builtin.max2];rfl,?_⟩;simp only[if_true]at d;by_cases h:y>x
   ·rw[if_pos h];rwa[Int.max_eq_right (by omega)]at d
   ·rw[if_neg h];rwa[Int.max_eq_left (by omega)]at d
 ·exact d.elim
theorem qu {d j:Type} {g:d→Sem j} {h:d→Option j}: ∀ {l:List d} {ys:List j},l.mapM h=some ys→(∀x y,x∈l→h x=some y→(g x).run P w=.ok y w)→(l.mapM g).run P w=.ok ys w
 | [],ys,b,_=>by simp at b;subst b;simp
 |x::l,ys,b,k=>by
  simp only[List.mapM_cons,Option.bind_eq_bind,Option.bind_eq_some_iff,Option.pure_def,Option.some.injEq]at b
  obtain⟨y,m,r,o,rfl⟩:=b
  rw[List.mapM_cons,Sem.run_bind,k x y (by simp) m]
  simp only[Result.andThen_ok,Sem.run_bind]
  rw[qu o (fun x y q=>k x y (List.mem_cons_of_mem _ q))]
  rfl
theorem ov: ∀(l:List Value) (k off:Nat) (cells:Array Value),
  ((l.zipIdx k).foldl (fun cs (c,j)=>cs.setIfInBounds (off+j) c) cells).toList=fS cells.toList (off+k) l
 | [],k,off,cells=>by simp[fS]
 |c::l,k,off,cells=>by
  have b:=ov l (k+1) off (cells.setIfInBounds (off+k) c)
  simp only[fS]
  rw[show off+k+1=off+(k+1) by omega]
  have e:(cells.setIfInBounds (off+k) c).toList=cells.toList.set (off+k) c:=by simp
  rw[←e,←b]
  rfl
theorem sf (v:Array Value) (off:Nat) (cells:Array Value):
  (v.zipIdx.foldl (fun cs (c,j)=>cs.setIfInBounds (off+j) c) cells).toList=fS cells.toList off v.toList:=by
 have:=ov v.toList 0 off cells;rw[←Array.foldl_toList,Array.toList_zipIdx];exact this
theorem gK {place:Nat→Option (Nat×Nat)}: ∀(parts:List (Nat×Value)) (d:List (Nat×Nat×Value)),parts.mapM (fun p=>(place p.1).map fun q=>(q.1,q.2,p.2))=some d→ ∀(cells:Array Value) (cs:List Value),
  cV cells.toList d=some cs→Instr.fill place cells parts=some ⟨cs⟩
 | [],d,h,cells,cs,b=>by
  simp at h;subst h
  simp only[cV,Option.some.injEq]at b
  subst b
  simp[Instr.fill]
 |(i,v)::parts,d,h,cells,cs,b=>by
  simp only[List.mapM_cons,Option.bind_eq_bind,Option.bind_eq_some_iff,Option.pure_def,Option.some.injEq]at h
  obtain⟨q,m,o,j,rfl⟩:=h
  obtain⟨⟨off,size⟩,k,rfl⟩:=Option.map_eq_some_iff.1 m
  simp only[cV]at b
  split at b
  ·rename_i l
   simp only[Instr.fill,k]
   have r: ¬(v.cells.size≠size||off+v.cells.size>cells.size)=true:=by
    simp only[Array.length_toList]at l;simp only[Bool.or_eq_true,decide_eq_true_eq,not_or];exact⟨by simpa using l.1,by omega⟩
   rw[if_neg r];refine gK parts o j _ cs ?_;rw[sf];exact b
  ·cases b
theorem qv {t:TypeId} {i:TypeInfo} {k:Array Field} {z:Value} {pl:List (Nat×Nat)} {parts:List (Nat×Operand)} {l:List (Nat×Nat×Operand)} {ρ:Env} (D:P.info? t=some i) (E:P.underlying t=some (.struct k))
  (F:i.zero=some z) (m:placesOf P k.toList=some pl) (b:partsOf pl parts=some l) {cs:List Value} (u:cV z.cells.toList (l.map (tl ρ))=some cs) (B:K (.agg ⟨cs⟩)):
  bZ P (do pure (.value (←Instr.build t (parts.toArray.map fun(i,x)=>(i,ev ρ x))))) w K:=by
 refine bC ?_ B;have C:(k.mapM fun f=>(do pure (f.offset,←sizeOf f.type):Sem (Nat×Nat))).run P w=.ok pl.toArray w:=by
  rw[Array.mapM_eq_mapM_toList,Sem.run_map];have d:k.toList.mapM (fun(f:Field)=>(P.info? f.type).map fun i=>(f.offset,i.size))=some pl:=m;have e:=qu (P:=P) (w:=w) (g:=fun(f:Field)=>(do pure (f.offset,←sizeOf f.type):Sem (Nat×Nat))) d (fun f y _ G=>by
   obtain⟨j,H,rfl⟩:=Option.map_eq_some_iff.1 G;simp[bs H])
  rw[e];rfl
 have I:Instr.fill (pl.toArray[·]?) z.cells (parts.toArray.map fun(i,x)=>(i,ev ρ x)).toList=some ⟨cs⟩:=by
  refine gK _ (l.map (tl ρ)) ?_ _ _ u;clear u B C;simp only[List.map_toArray]
  induction parts generalizing l with
  |nil=>simp[partsOf]at b;subst b;simp
  |cons p parts J=>
   simp only[partsOf,List.mapM_cons,Option.bind_eq_bind,Option.bind_eq_some_iff,Option.pure_def,Option.some.injEq]at b;obtain⟨q,L,N,o,rfl⟩:=b;obtain⟨r,M,rfl⟩:=Option.map_eq_some_iff.1 L;have:=J o;simp only[List.map_cons,List.mapM_cons,this,Option.bind_eq_bind,Option.pure_def];simp[M,tl]
 simp only[Instr.build,zeroValue,Sem.run_bind,eQ D,Result.andThen_ok,F,Sem.run_pure,aK E];rw[C];simp only[Result.andThen_ok,I,Sem.run_pure]
theorem py {t e:TypeId} {n:Nat} {i j:TypeInfo} {z:Value} {parts:List (Nat×Operand)} {ρ:Env} (l:P.info? t=some i) (m:P.underlying t=some (.array n e)) (o:P.info? e=some j)
  (q:i.zero=some z) {cs:List Value} (b:cV z.cells.toList ((parts.map fun p=>(p.1*j.size,j.size,p.2)).map (tl ρ))=some cs) (d:K (.agg ⟨cs⟩)):
  bZ P (do pure (.value (←Instr.build t (parts.toArray.map fun(i,x)=>(i,ev ρ x))))) w K:=by
 refine bC ?_ d;have r:Instr.fill (fun k=>some (k*j.size,j.size)) z.cells (parts.toArray.map fun(i,x)=>(i,ev ρ x)).toList=some ⟨cs⟩:=by
  refine gK _ ((parts.map fun p=>(p.1*j.size,j.size,p.2)).map (tl ρ)) ?_ _ _ b;clear b d;simp only[List.map_toArray]
  induction parts with
  |nil=>rfl
  |cons p parts u=>simp only[List.map_cons,List.mapM_cons,u,Option.bind_eq_bind,Option.pure_def];rfl
 simp only[Instr.build,zeroValue,Sem.run_bind,eQ l,Result.andThen_ok,q,Sem.run_pure,aK m,bs o,r]
theorem jN {d:Nat}: ∀(t:List Field) (i:Nat) (xs ys:List Value) (X Y:Array Value) (r:Bool),eN P t i=true→xs.length=t.length→ys.length=t.length→
  (∀j,j<t.length→X[i+j]? =xs[j]?)→(∀j,j<t.length→Y[i+j]? =ys[j]?)→bS xs ys=some r→
  (forIn (m:=Sem) t ((none,()):Option Bool×Unit) fun f _=>(do
   if f.name≠ "_" then
    if !(←Op.equalIn (d+1) f.type (←part f.type X f.offset) (←part f.type Y f.offset))then pure (.done (some false,()))
    else pure (.yield (none,()))
   else pure (.yield (none,())):Sem (ForInStep (Option Bool×Unit)))).run P w=.ok (if r then(none,())else(some false,())) w
 | [],i,xs,ys,X,Y,r,B,C,D,I,J,o=>by
  have:xs=[]:=List.eq_nil_of_length_eq_zero C
  subst this
  have:ys=[]:=List.eq_nil_of_length_eq_zero D
  subst this
  simp only[bS,Option.some.injEq]at o
  subst o
  simp
 |f::t,i,xs,ys,X,Y,r,B,C,D,I,J,o=>by
  match xs,ys,C,D with
  |x::xs,y::ys,C,D=>
  simp only[eN,Bool.and_eq_true,bne_iff_ne,ne_eq,beq_iff_eq]at B
  obtain⟨⟨⟨T,S⟩,K⟩,B⟩:=B
  have E:=I 0 (by simp)
  have F:=J 0 (by simp)
  simp only[Nat.add_zero,List.getElem?_cons_zero]at E F
  have L: ∀j,j<t.length→X[i+1+j]? =xs[j]? :=fun j U=>by have:=I (j+1) (by simp;omega);simpa[Nat.add_assoc,Nat.add_comm 1 j]using this
  have M: ∀j,j<t.length→Y[i+1+j]? =ys[j]? :=fun j U=>by have:=J (j+1) (by simp;omega);simpa[Nat.add_assoc,Nat.add_comm 1 j]using this
  have V:=fun r o=>jN (d:=d) t (i+1) xs ys X Y r B (by simpa using C) (by simpa using D) L M o
  have N: ∀l,P.underlying f.type=some l→mu l=false→(part f.type X f.offset).run P w=.ok x w:=fun l G O=>by
   simp only[part,Sem.run_bind,dc G,O,Result.andThen_ok,Bool.false_eq_true,if_false,S,E,Sem.run_pure]
  have Q: ∀l,P.underlying f.type=some l→mu l=false→(part f.type Y f.offset).run P w=.ok y w:=fun l G O=>by
   simp only[part,Sem.run_bind,dc G,O,Result.andThen_ok,Bool.false_eq_true,if_false,S,F,Sem.run_pure]
  have step: ∀b,(Op.equalIn (d+1) f.type x y).run P w=.ok b w→(∀l,P.underlying f.type=some l→mu l=false)→(b=true→bS xs ys=some r)→(b=false→r=false)→
    (forIn (m:=Sem) (f::t) ((none,()):Option Bool×Unit) fun f _=>(do
     if f.name≠ "_" then
      if !(←Op.equalIn (d+1) f.type (←part f.type X f.offset) (←part f.type Y f.offset))then pure (.done (some false,()))
      else pure (.yield (none,()))
     else pure (.yield (none,())):Sem (ForInStep (Option Bool×Unit)))).run P w=.ok (if r then(none,())else(some false,())) w:=by
   intro b W q G Z;have H: ∃l,P.underlying f.type=some l:=by
    cases hd:P.underlying f.type with
    |none=>simp[hd]at K
    |some l=>exact⟨l,rfl⟩
   obtain⟨l,u⟩:=H;rw[List.forIn_cons,Sem.run_bind];simp only[ne_eq,T,not_false_eq_true,if_true,Sem.run_bind,N l u (q l u),Q l u (q l u),Result.andThen_ok,W];cases b with
   |true=>simp only[Bool.not_true,Bool.false_eq_true,if_false,Sem.run_pure,Result.andThen_ok];exact V r (G rfl)
   |false=>simp only[Bool.not_false,if_true,Sem.run_pure,Result.andThen_ok,Z rfl,Bool.false_eq_true,if_false]
  split at K
  ·rename_i k H;have q: ∀l,P.underlying f.type=some l→mu l=false:=fun l h=>by rw[H]at h;cases h;rfl
   cases x<;>try(simp[bS]at o;done)
   rename_i k1 a;cases y<;>try(simp[bS]at o;done)
   rename_i k2 b;simp only[bS]at o;split at o
   ·rename_i R;subst R;refine step (a==b) ?_ q ?_ ?_
    ·rw[Op.equalIn];simp only[Sem.run_bind,aK H,Result.andThen_ok,if_true];rfl
    ·intro z;rw[z,if_pos rfl]at o;exact o
    ·intro z;rw[z]at o;simpa using o.symm
   ·cases o
  ·cases K
theorem si {t:TypeId} {b:Array Field} (k:P.underlying t=some (.struct b)) (l:P.stoodInHeld t=false) (m:eN P b.toList 0=true) {xs ys:List Value} {r:Bool}
  (o:xs.length=b.size) (q:ys.length=b.size) (u:bS xs ys=some r) (d:Nat):(Op.equalIn (d+2) t (.agg ⟨xs⟩) (.agg ⟨ys⟩)).run P w=.ok r w:=by
 have key:=jN (P:=P) (w:=w) (d:=d) b.toList 0 xs ys ⟨xs⟩ ⟨ys⟩ r m (by simpa using o) (by simpa using q) (fun j _=>by simp) (fun j _=>by simp) u;rw[Op.equalIn];simp only[Sem.run_bind,aK k,Result.andThen_ok,run_program,l,Bool.false_eq_true,if_false];rw[Array.forIn_toList]at key;rw[key];cases r<;>rfl
theorem ow {neg:Bool} {t:TypeId} {x y:Operand} {l:XB} (h:Ci P neg t x y=some l) {ρ:Env} (b:pv l ρ w K):
  bZ P (do pure (.value (←(do eqGuard (nH neg) t x y (ev ρ x) (ev ρ y);binOp (nH neg) t (ev ρ x) (ev ρ y))))) w K:=by
 unfold Ci at h;split at h
 ·cases h;cases neg<;>exact oq b
 ·rename_i j;cases h;exact ue j b
 ·rename_i e j;split at h
  ·rename_i i m;split at h
   ·rename_i o;cases h;exact uf j m o b
   ·cases h
  ·cases h
 ·rename_i e j;cases h;exact ug j b
 ·rename_i E j;split at h
  ·rename_i k;cases h;simp only[Bool.and_eq_true,Bool.not_eq_true']at k;obtain⟨xs,ys,r,q,u,z,B,C,b⟩:=b;rw[q,u];exact dM (fun D=>by cases D<;>simp[eqGuard,k.2]) rfl rfl (fun d=>si j k.1.2 k.1.1 z B C d) b
  ·cases h
 ·cases h
theorem ij {b:Builtin} {args:Array Operand} {j:Array TypeId} {ρ:Env} {k:Option Nat} {ty:TypeId} {d:String} {l:Array Edge} {g:Option (Nat×Bool)}:
  execOp (ev ρ) ⟨k,.call ⟨.builtin b,args,j⟩,ty,d,l,g⟩=builtin b j ty (args.map fun|.const _=>true|_=>false) (args.map (ev ρ)):=rfl
theorem jO {s:TypeId} {f:Nat} {fl:Field} (h:lA P s f=some fl): ∃b,P.underlying s=some (.struct b)∧b[f]? =some fl:=by
 unfold lA at h;split at h
 ·exact⟨_,by assumption,h⟩
 ·cases h
theorem dm {t:TypeId} {i:TypeInfo} (h:eu P t=some i): ∃e,P.underlying t=some (.slice e)∧P.info? e=some i:=by
 unfold eu at h;split at h
 ·exact⟨_,by assumption,h⟩
 ·cases h
theorem uo {C:Op} {x:XB} (h:qq P C=some x) (u:x.ie =true) {ρ:Env} (k:pv x ρ w K) (M:Option Nat) (ty:TypeId) (D:String) (N:Array Edge) (g:Option (Nat×Bool)):
  bZ P (execOp (ev ρ) ⟨M,C,ty,D,N,g⟩) w K:=by
 cases C<;>simp only[qq]at h
 case move=>cases h;exact⟨_,rfl,k⟩
 case assign=>cases h;exact⟨_,rfl,k⟩
 case pick=>
  cases h;simp only[pv,wE]at k;split at k
  ·rename_i t e;exact⟨_,by simp[execOp,e,asBool],k⟩
  ·exact k.elim
 case nilCheck=>cases h;exact qt k
 case load=>
  unfold pr at h;split at h
  ·rename_i d q;split at h
   ·obtain⟨i,l,rfl⟩:=Option.map_eq_some_iff.1 h;exact ou q rfl l k
   ·obtain⟨i,l,rfl⟩:=Option.map_eq_some_iff.1 h;exact ou q rfl l k
   ·rename_i m o;cases h;exact wK q (by cases d<;>first|rfl|(exfalso;exact m _ rfl)|(exfalso;exact o _ _ rfl)) k
  ·cases h
 case store=>
  unfold lz at h;split at h
  ·split at h
   ·cases h;cases u
   ·cases h;cases u
   ·split at h
    ·cases h;cases u
    ·cases h
  ·cases h
 case fieldAddr=>
  unfold fD at h;split at h
  ·rename_i fl y;obtain⟨H,m,o⟩:=jO y;split at h
   ·rename_i i l;split at h
    ·cases h
    ·rename_i O;cases h;exact wL m o l O k
   ·cases h
  ·cases h
 case field=>
  unfold lB at h;split at h
  ·rename_i fl y;obtain⟨H,m,o⟩:=jO y;split at h
   ·rename_i d q;split at h
    ·obtain⟨i,l,rfl⟩:=Option.map_eq_some_iff.1 h;exact mw m o q rfl l k
    ·obtain⟨i,l,rfl⟩:=Option.map_eq_some_iff.1 h;exact mw m o q rfl l k
    ·rename_i Q R;cases h;exact uh m o q (by cases d<;>first|rfl|(exfalso;exact Q _ rfl)|(exfalso;exact R _ _ rfl)) k
   ·cases h
  ·cases h
 case indexAddr t a i=>
  unfold lC at h;split at h
  ·rename_i j l;cases h;obtain⟨e,m,o⟩:=dm l;exact wM m o k
  ·split at h
   ·rename_i n e q;obtain⟨j,l,rfl⟩:=Option.map_eq_some_iff.1 h;exact ui q l k
   ·cases h
 case binOp S t a b _=>
  unfold tm at h;split at h
  ·exact ow (neg:=false) h k
  ·exact ow (neg:=true) h k
  ·cases h;exact oq k
 case unOp T _ a=>
  unfold zO at h;split at h
  ·cases h;exact wN k
  ·cases h
 case convert=>
  unfold px at h;split at h
  ·rename_i m o;cases h;exact sd o m k
  ·cases h
 case makeFunc=>cases h;exact⟨_,rfl,k⟩
 case slice t a I l mx=>
  cases mx with
  |none=>obtain⟨j,l,rfl⟩:=Option.map_eq_some_iff.1 h;obtain⟨e,m,o⟩:=dm l;exact uk m o k
  |some mx=>
   cases I with
   |none=>cases h
   |some I=>
    cases l with
    |none=>cases h
    |some l=>obtain⟨j,l,rfl⟩:=Option.map_eq_some_iff.1 h;obtain⟨e,m,o⟩:=dm l;exact se m o k
 case extract=>cases h;exact uj k
 case box=>cases h;cases u
 case alloc t=>
  split at h
  ·obtain⟨z,B,rfl⟩:=Option.map_eq_some_iff.1 h;cases u
  ·cases h
 case call c=>
  obtain⟨W,args,J⟩:=c;unfold pw at h;simp only at h;split at h
  ·rename_i b;rw[ij];unfold iS at h;split at h
   ·rename_i a t L q;obtain⟨j,l,rfl⟩:=Option.map_eq_some_iff.1 h;obtain⟨e,m,o⟩:=dm l;have r:args=#[a]:=by cases args;simp_all
    have E:J=#[t]:=by cases J;simp_all
    subst r;subst E
    (simp only[List.map_toArray,List.map_cons,List.map_nil];exact um m k)
   ·rename_i a b L;cases h;have r:args=#[a,b]:=by cases args;simp_all
    subst r
    (simp only[List.map_toArray,List.map_cons,List.map_nil];exact my (mx:=true) k)
   ·rename_i a b L;cases h;have r:args=#[a,b]:=by cases args;simp_all
    subst r
    (simp only[List.map_toArray,List.map_cons,List.map_nil];exact my (mx:=false) k)
   ·split at h
    ·obtain⟨e,U,rfl⟩:=Option.map_eq_some_iff.1 h;cases u
    ·cases h
   ·cases h
  ·split at h
   ·cases h;cases u
   ·cases h
  ·cases h;cases u
  ·cases h
 case build t parts=>
  unfold ly at h;split at h
  ·rename_i i H l q;split at h
   ·rename_i z pl B F;obtain⟨X,G,rfl⟩:=Option.map_eq_some_iff.1 h;obtain⟨cs,y,k⟩:=k;have:=qv (w:=w) (ρ:=ρ) l q B F G y k;have e:parts.toList.toArray=parts:=by simp
    rw[e]at this;exact this
   ·cases h
  ·rename_i i n e l q;split at h
   ·rename_i z j B V;cases h;obtain⟨cs,y,k⟩:=k;have:=py (w:=w) (ρ:=ρ) (parts:=parts.toList) l q V B y k;have e:parts.toList.toArray=parts:=by simp
    rw[e]at this;exact this
   ·cases h
  ·cases h
 case buildSlice t len parts=>
  unfold dZ at h;split at h
  ·split at h
   ·cases h;cases u
   ·cases h
  ·cases h
 case makeSlice=>obtain⟨e,U,rfl⟩:=Option.map_eq_some_iff.1 h;cases u
 all_goals cases h
theorem wP {d:Op} {x:XB} (h:wG P d=some x) (j:x.ie =true) {ρ:Env} (m:pv x ρ w K) (k:Option Nat) (ty:TypeId) (b:String) (l:Array Edge) (g:Option (Nat×Bool)):
  bZ P (execOp (ev ρ) ⟨k,d,ty,b,l,g⟩) w K:=by
 rcases jM h with h|⟨rfl,_⟩
 ·exact uo h j m k ty b l g
 ·cases j
end
end Go.Proofs.YthamnonkfepafaaGreat
