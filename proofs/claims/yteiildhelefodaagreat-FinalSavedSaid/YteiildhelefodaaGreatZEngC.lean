/- The engine: symbolic execution. -/
import Derived.Test.YteiildhelefodaaGreatZEngB
set_option linter.unusedSimpArgs false
set_option linter.unusedVariables false
namespace Go.Proofs.YteiildhelefodaaGreat
section
variable {P:Program} {w:World} {K:Value→Prop}
theorem gives_ld {t:TypeId} {d:TypeDesc} (ht:P.underlying t=some d) (hd:aggD d=false) {v:Value} (hk:ldV w K v):Gives P (do pure (.value (←Instr.loadAt t v))) w K:=by
 unfold ldV at hk
 split at hk
 ·obtain⟨x,hc,hk⟩:=hk
  refine gives_of (v:=x) ?_ hk
  simp only[Instr.loadAt,Instr.sureAddr,loadVar,Sem.run_bind,Sem.run_pure,Result.andThen_ok,run_isAgg ht,hd,Bool.false_eq_true,if_false,run_load_some hc]
 ·exact hk.elim
theorem gives_ldN {t:TypeId} {d:TypeDesc} {i:TypeInfo} (ht:P.underlying t=some d) (hd:aggD d=true) (hi:P.info? t=some i) {v:Value} (hk:ldNV w K i.size v):
  Gives P (do pure (.value (←Instr.loadAt t v))) w K:=by
 unfold ldNV at hk
 split at hk
 ·obtain⟨xs,hc,hk⟩:=hk
  refine gives_of (v:=.agg ⟨xs⟩) ?_ hk
  simp only[Instr.loadAt,Instr.sureAddr,loadVar,Sem.run_bind,Sem.run_pure,Result.andThen_ok,run_isAgg ht,hd,if_true,run_size hi,run_loadCells hc]
 ·exact hk.elim
theorem gives_fa {s:TypeId} {fs:Array Field} {f:Nat} {fl:Field} {i:TypeInfo} (hs:P.underlying s=some (.struct fs)) (hf:fs[f]? =some fl) (hi:P.info? fl.type=some i) (h0:i.size≠0)
  {v:Value} (hk:faV K fl.offset v):Gives P (do pure (.value (←Instr.fieldAt s v f))) w K:=by
 unfold faV at hk
 split at hk
 ·refine gives_of ?_ hk
  simp only[Instr.fieldAt,Instr.sureAddr,fieldPlace,Sem.run_bind,run_under hs,Result.andThen_ok,hf,Sem.run_pure,run_size hi,if_neg h0]
 ·exact hk.elim
theorem gives_fld {s:TypeId} {fs:Array Field} {f:Nat} {fl:Field} {d:TypeDesc} (hs:P.underlying s=some (.struct fs)) (hf:fs[f]? =some fl) (hd:P.underlying fl.type=some d) (ha:aggD d=false)
  {v:Value} (hk:fldV K fl.offset v):Gives P (do pure (.value (←Instr.field s v f))) w K:=by
 unfold fldV at hk
 split at hk
 ·obtain⟨x,hx,hk⟩:=hk
  refine gives_of (v:=x) ?_ hk
  simp only[Instr.field,asAgg,part,Sem.run_bind,run_under hs,Result.andThen_ok,hf,Sem.run_pure,run_isAgg hd,ha,Bool.false_eq_true,if_false,hx]
 ·exact hk.elim
theorem gives_fldN {s:TypeId} {fs:Array Field} {f:Nat} {fl:Field} {d:TypeDesc} {i:TypeInfo} (hs:P.underlying s=some (.struct fs)) (hf:fs[f]? =some fl) (hd:P.underlying fl.type=some d) (ha:aggD d=true)
  (hi:P.info? fl.type=some i) {v:Value} (hk:fldNV K fl.offset i.size v):Gives P (do pure (.value (←Instr.field s v f))) w K:=by
 unfold fldNV at hk
 split at hk
 ·refine gives_of ?_ hk
  simp only[Instr.field,asAgg,part,Sem.run_bind,run_under hs,Result.andThen_ok,hf,Sem.run_pure,run_isAgg hd,ha,if_true,run_size hi]
 ·exact hk.elim
theorem gives_ia {t e:TypeId} {i:TypeInfo} (ht:P.underlying t=some (.slice e)) (hi:P.info? e=some i) {s j:Value} (hk:iaV K i.size s j):Gives P (do pure (.value (←Instr.indexAt t s j))) w K:=by
 unfold iaV at hk
 split at hk
 ·obtain⟨h0,hk⟩:=hk
  refine gives_of ?_ hk
  simp only[Instr.indexAt,asIntOf,Sem.run_bind,Sem.run_pure,Result.andThen_ok,run_under ht,if_pos h0,run_size hi]
 ·exact hk.elim
theorem gives_iaA {t e:TypeId} {n:Nat} {i:TypeInfo} (ht:P.underlying t=some (.array n e)) (hi:P.info? e=some i) {s j:Value} (hk:iaAV K n i.size s j):Gives P (do pure (.value (←Instr.indexAt t s j))) w K:=by
 unfold iaAV at hk
 split at hk
 ·obtain⟨h0,hk⟩:=hk
  refine gives_of ?_ hk
  simp only[Instr.indexAt,asIntOf,Instr.sureAddr,Sem.run_bind,Sem.run_pure,Result.andThen_ok,run_under ht,if_pos h0,run_size hi]
 ·exact hk.elim
theorem gives_no {x:Value} (hk:noV K x):Gives P (do pure (.value (←Op.unary .not x))) w K:=by
 unfold noV at hk
 split at hk
 ·exact gives_of (by simp[Op.unary]) hk
 ·exact hk.elim
theorem gives_conv {src dst:TypeId} {k:IntKind} (hd:P.underlying dst=some (.int k)) {d:TypeDesc} (hs:P.underlying src=some d) {x:Value} (hk:convV K k x):
  Gives P (do pure (.value (←convert src dst x))) w K:=by
 unfold convV at hk
 split at hk
 ·rename_i j n
  refine gives_of ?_ hk
  simp only[convert,Sem.run_bind,run_under hs,run_under hd,Result.andThen_ok]
  cases d<;>rfl
 ·exact hk.elim
theorem gives_ext {x:Value} {i:Nat} (hk:extV K x i):Gives P (do pure (.value (←Instr.extract x i))) w K:=by
 unfold extV at hk
 split at hk
 ·obtain⟨v,hv,hk⟩:=hk
  exact gives_of (v:=v) (by simp[Instr.extract,hv]) hk
 ·exact hk.elim
theorem gives_nilck {x:Operand} {ρ:Env} {dd:Option Nat} {ty:TypeId} {pos:String} {af:Array Edge} {g:Option (Nat×Bool)} (hk:nilckV K (ev ρ x)):Gives P (execOp (ev ρ) ⟨dd,.nilCheck x,ty,pos,af,g⟩) w K:=by
 unfold nilckV at hk
 split at hk
 ·rename_i p h;exact⟨_,by simp[execOp,h],hk⟩
 ·rename_i f a b h;exact⟨_,by simp[execOp,h],hk⟩
 ·exact hk.elim
theorem gives_slc {t e:TypeId} {i:TypeInfo} (ht:P.underlying t=some (.slice e)) (hi:P.info? e=some i) {s:Value} {lo hi':Option Value} (hk:slcV K i.size s lo hi'):
  Gives P (do pure (.value (←Instr.sliceAt t s lo hi' none))) w K:=by
 unfold slcV at hk
 split at hk
 ·rename_i a len cap
  obtain⟨l,h,hh,hl,hlh,hk⟩:=hk
  refine gives_of ?_ hk
  have e1:(Instr.sliceBounds true len cap lo hi' none).run P w=.ok (l,h,cap) w:=by
   split at hh
   ·subst hh
    split at hl
    ·subst hl;simp[Instr.sliceBounds]
    ·rename_i j;obtain⟨rfl,hl⟩:=hl;simp[Instr.sliceBounds,Instr.sliceBound,asIntOf,hlh]
    ·exact hl.elim
   ·rename_i j
    obtain⟨rfl,hc⟩:=hh
    split at hl
    ·subst hl;simp[Instr.sliceBounds,Instr.sliceBound,asIntOf,hc]
    ·rename_i j;obtain⟨rfl,hl⟩:=hl
     simp[Instr.sliceBounds,Instr.sliceBound,asIntOf,hlh,hc]
    ·exact hl.elim
   ·exact hh.elim
  simp only[Instr.sliceAt,Instr.slice,Sem.run_bind,run_under ht,Result.andThen_ok,e1,run_size hi,Sem.run_pure]
 ·exact hk.elim
theorem gives_slc3 {t e:TypeId} {i:TypeInfo} (ht:P.underlying t=some (.slice e)) (hi:P.info? e=some i) {s lo hi' mx:Value} (hk:slc3V K i.size s lo hi' mx):
  Gives P (do pure (.value (←Instr.sliceAt t s (some lo) (some hi') (some mx)))) w K:=by
 unfold slc3V at hk
 split at hk
 ·rename_i a len cap _ _ _ _ _ _
  obtain⟨l,h,m,rfl,rfl,rfl,h1,h2,h3,hk⟩:=hk
  refine gives_of ?_ hk
  simp[Instr.sliceAt,Instr.slice,run_under ht,Instr.sliceBounds,Instr.sliceBound,asIntOf,h1,h2,h3,run_size hi]
 ·exact hk.elim
theorem gives_len {t e:TypeId} (ht:P.underlying t=some (.slice e)) {x:Value} {ty:TypeId} {cs:Array Bool} (hk:lenV K x):Gives P (builtin .len #[t] ty cs #[x]) w K:=by
 unfold lenV at hk
 split at hk
 ·exact⟨_,by simp[builtin,Builtin.len_,run_under ht];rfl,hk⟩
 ·exact hk.elim
def mnmxB:Bool→Builtin
 |true=>.max
 |false=>.min
theorem gives_mnmx {mx:Bool} {a b:Value} {ts:Array TypeId} {ty:TypeId} {cs:Array Bool} (hk:mnmxV K mx a b):Gives P (builtin (mnmxB mx) ts ty cs #[a,b]) w K:=by
 unfold mnmxV at hk
 split at hk
 ·rename_i k x k' y
  obtain⟨rfl,hk⟩:=hk
  cases mx
  ·refine⟨_,by simp[mnmxB,builtin,Builtin.min_,Builtin.min2];rfl,?_⟩
   simp only[Bool.false_eq_true,if_false]at hk
   by_cases h:y<x
   ·rw[if_pos h];rwa[Int.min_eq_right (by omega)]at hk
   ·rw[if_neg h];rwa[Int.min_eq_left (by omega)]at hk
  ·refine⟨_,by simp[mnmxB,builtin,Builtin.max_,Builtin.max2];rfl,?_⟩
   simp only[if_true]at hk
   by_cases h:y>x
   ·rw[if_pos h];rwa[Int.max_eq_right (by omega)]at hk
   ·rw[if_neg h];rwa[Int.max_eq_left (by omega)]at hk
 ·exact hk.elim
theorem mapM_run {α β:Type} {g:α→Sem β} {h:α→Option β}: ∀ {l:List α} {ys:List β},l.mapM h=some ys→(∀x y,x∈l→h x=some y→(g x).run P w=.ok y w)→(l.mapM g).run P w=.ok ys w
 | [],ys,hl,_=>by simp at hl;subst hl;simp
 |x::l,ys,hl,hg=>by
  simp only[List.mapM_cons,Option.bind_eq_bind,Option.bind_eq_some_iff,Option.pure_def,Option.some.injEq]at hl
  obtain⟨y,hy,zs,hz,rfl⟩:=hl
  rw[List.mapM_cons,Sem.run_bind,hg x y (by simp) hy]
  simp only[Result.andThen_ok,Sem.run_bind]
  rw[mapM_run hz (fun x y hx=>hg x y (List.mem_cons_of_mem _ hx))]
  rfl
theorem setL_fold: ∀(l:List Value) (k off:Nat) (cells:Array Value),
  ((l.zipIdx k).foldl (fun cs (c,j)=>cs.setIfInBounds (off+j) c) cells).toList=setL cells.toList (off+k) l
 | [],k,off,cells=>by simp[setL]
 |c::l,k,off,cells=>by
  have ih:=setL_fold l (k+1) off (cells.setIfInBounds (off+k) c)
  simp only[setL]
  rw[show off+k+1=off+(k+1) by omega]
  have e:(cells.setIfInBounds (off+k) c).toList=cells.toList.set (off+k) c:=by simp
  rw[←e,←ih]
  rfl
theorem setL_foldA (v:Array Value) (off:Nat) (cells:Array Value):
  (v.zipIdx.foldl (fun cs (c,j)=>cs.setIfInBounds (off+j) c) cells).toList=setL cells.toList off v.toList:=by
 have:=setL_fold v.toList 0 off cells
 rw[←Array.foldl_toList,Array.toList_zipIdx]
 exact this
theorem fill_fillL {place:Nat→Option (Nat×Nat)}: ∀(parts:List (Nat×Value)) (ps:List (Nat×Nat×Value)),parts.mapM (fun p=>(place p.1).map fun q=>(q.1,q.2,p.2))=some ps→ ∀(cells:Array Value) (cs:List Value),
  fillL cells.toList ps=some cs→Instr.fill place cells parts=some ⟨cs⟩
 | [],ps,h,cells,cs,hf=>by
  simp at h;subst h
  simp only[fillL,Option.some.injEq]at hf
  subst hf
  simp[Instr.fill]
 |(i,v)::parts,ps,h,cells,cs,hf=>by
  simp only[List.mapM_cons,Option.bind_eq_bind,Option.bind_eq_some_iff,Option.pure_def,Option.some.injEq]at h
  obtain⟨q,hq,qs,hqs,rfl⟩:=h
  obtain⟨⟨off,size⟩,hpl,rfl⟩:=Option.map_eq_some_iff.1 hq
  simp only[fillL]at hf
  split at hf
  ·rename_i hc
   simp only[Instr.fill,hpl]
   have h1: ¬(v.cells.size≠size||off+v.cells.size>cells.size)=true:=by
    simp only[Array.length_toList]at hc
    simp only[Bool.or_eq_true,decide_eq_true_eq,not_or]
    exact⟨by simpa using hc.1,by omega⟩
   rw[if_neg h1]
   refine fill_fillL parts qs hqs _ cs ?_
   rw[setL_foldA]
   exact hf
  ·cases hf
theorem gives_build {t:TypeId} {i:TypeInfo} {fs:Array Field} {z:Value} {pl:List (Nat×Nat)} {parts:List (Nat×Operand)} {ps:List (Nat×Nat×Operand)} {ρ:Env} (hi:P.info? t=some i) (ht:P.underlying t=some (.struct fs))
  (hz:i.zero=some z) (hpl:placesOf P fs.toList=some pl) (hps:partsOf pl parts=some ps) {cs:List Value} (hf:fillL z.cells.toList (ps.map (evP ρ))=some cs) (hk:K (.agg ⟨cs⟩)):
  Gives P (do pure (.value (←Instr.build t (parts.toArray.map fun(i,x)=>(i,ev ρ x))))) w K:=by
 refine gives_of ?_ hk
 have h1:(fs.mapM fun f=>(do pure (f.offset,←sizeOf f.type):Sem (Nat×Nat))).run P w=.ok pl.toArray w:=by
  rw[Array.mapM_eq_mapM_toList,Sem.run_map]
  have hpl':fs.toList.mapM (fun(f:Field)=>(P.info? f.type).map fun i=>(f.offset,i.size))=some pl:=hpl
  have e:=mapM_run (P:=P) (w:=w) (g:=fun(f:Field)=>(do pure (f.offset,←sizeOf f.type):Sem (Nat×Nat))) hpl' (fun f y _ hy=>by
   obtain⟨j,hj,rfl⟩:=Option.map_eq_some_iff.1 hy
   simp[run_size hj])
  rw[e]
  rfl
 have h2:Instr.fill (pl.toArray[·]?) z.cells (parts.toArray.map fun(i,x)=>(i,ev ρ x)).toList=some ⟨cs⟩:=by
  refine fill_fillL _ (ps.map (evP ρ)) ?_ _ _ hf
  clear hf hk h1
  simp only[List.map_toArray]
  induction parts generalizing ps with
  |nil=>simp[partsOf]at hps;subst hps;simp
  |cons p parts ih=>
   simp only[partsOf,List.mapM_cons,Option.bind_eq_bind,Option.bind_eq_some_iff,Option.pure_def,Option.some.injEq]at hps
   obtain⟨q,hq,qs,hqs,rfl⟩:=hps
   obtain⟨r,hr,rfl⟩:=Option.map_eq_some_iff.1 hq
   have:=ih hqs
   simp only[List.map_cons,List.mapM_cons,this,Option.bind_eq_bind,Option.pure_def]
   simp[hr,evP]
 simp only[Instr.build,zeroValue,Sem.run_bind,run_info hi,Result.andThen_ok,hz,Sem.run_pure,run_under ht]
 rw[h1]
 simp only[Result.andThen_ok,h2,Sem.run_pure]
theorem gives_buildA {t e:TypeId} {n:Nat} {i j:TypeInfo} {z:Value} {parts:List (Nat×Operand)} {ρ:Env} (hi:P.info? t=some i) (ht:P.underlying t=some (.array n e)) (hj:P.info? e=some j)
  (hz:i.zero=some z) {cs:List Value} (hf:fillL z.cells.toList ((parts.map fun p=>(p.1*j.size,j.size,p.2)).map (evP ρ))=some cs) (hk:K (.agg ⟨cs⟩)):
  Gives P (do pure (.value (←Instr.build t (parts.toArray.map fun(i,x)=>(i,ev ρ x))))) w K:=by
 refine gives_of ?_ hk
 have h2:Instr.fill (fun k=>some (k*j.size,j.size)) z.cells (parts.toArray.map fun(i,x)=>(i,ev ρ x)).toList=some ⟨cs⟩:=by
  refine fill_fillL _ ((parts.map fun p=>(p.1*j.size,j.size,p.2)).map (evP ρ)) ?_ _ _ hf
  clear hf hk
  simp only[List.map_toArray]
  induction parts with
  |nil=>rfl
  |cons p parts ih=>simp only[List.map_cons,List.mapM_cons,ih,Option.bind_eq_bind,Option.pure_def];rfl
 simp only[Instr.build,zeroValue,Sem.run_bind,run_info hi,Result.andThen_ok,hz,Sem.run_pure,run_under ht,run_size hj,h2]
theorem run_eqFields {d:Nat}: ∀(fs:List Field) (i:Nat) (xs ys:List Value) (X Y:Array Value) (r:Bool),flatFields P fs i=true→xs.length=fs.length→ys.length=fs.length→
  (∀j,j<fs.length→X[i+j]? =xs[j]?)→(∀j,j<fs.length→Y[i+j]? =ys[j]?)→eqCells xs ys=some r→
  (forIn (m:=Sem) fs ((none,()):Option Bool×Unit) fun f _=>(do
   if f.name≠ "_" then
    if !(←Op.equalIn (d+1) f.type (←part f.type X f.offset) (←part f.type Y f.offset))then pure (.done (some false,()))
    else pure (.yield (none,()))
   else pure (.yield (none,())):Sem (ForInStep (Option Bool×Unit)))).run P w=.ok (if r then(none,())else(some false,())) w
 | [],i,xs,ys,X,Y,r,hf,hx,hy,hX,hY,he=>by
  have:xs=[]:=List.eq_nil_of_length_eq_zero hx
  subst this
  have:ys=[]:=List.eq_nil_of_length_eq_zero hy
  subst this
  simp only[eqCells,Option.some.injEq]at he
  subst he
  simp
 |f::fs,i,xs,ys,X,Y,r,hf,hx,hy,hX,hY,he=>by
  match xs,ys,hx,hy with
  |x::xs,y::ys,hx,hy=>
  simp only[flatFields,Bool.and_eq_true,bne_iff_ne,ne_eq,beq_iff_eq]at hf
  obtain⟨⟨⟨hn,ho⟩,ht⟩,hf⟩:=hf
  have hX0:=hX 0 (by simp)
  have hY0:=hY 0 (by simp)
  simp only[Nat.add_zero,List.getElem?_cons_zero]at hX0 hY0
  have hX': ∀j,j<fs.length→X[i+1+j]? =xs[j]? :=fun j hj=>by have:=hX (j+1) (by simp;omega);simpa[Nat.add_assoc,Nat.add_comm 1 j]using this
  have hY': ∀j,j<fs.length→Y[i+1+j]? =ys[j]? :=fun j hj=>by have:=hY (j+1) (by simp;omega);simpa[Nat.add_assoc,Nat.add_comm 1 j]using this
  have ih:=fun r he=>run_eqFields (d:=d) fs (i+1) xs ys X Y r hf (by simpa using hx) (by simpa using hy) hX' hY' he
  have hpx: ∀dd,P.underlying f.type=some dd→aggD dd=false→(part f.type X f.offset).run P w=.ok x w:=fun dd h1 h2=>by
   simp only[part,Sem.run_bind,run_isAgg h1,h2,Result.andThen_ok,Bool.false_eq_true,if_false,ho,hX0,Sem.run_pure]
  have hpy: ∀dd,P.underlying f.type=some dd→aggD dd=false→(part f.type Y f.offset).run P w=.ok y w:=fun dd h1 h2=>by
   simp only[part,Sem.run_bind,run_isAgg h1,h2,Result.andThen_ok,Bool.false_eq_true,if_false,ho,hY0,Sem.run_pure]
  have step: ∀b,(Op.equalIn (d+1) f.type x y).run P w=.ok b w→(∀dd,P.underlying f.type=some dd→aggD dd=false)→(b=true→eqCells xs ys=some r)→(b=false→r=false)→
    (forIn (m:=Sem) (f::fs) ((none,()):Option Bool×Unit) fun f _=>(do
     if f.name≠ "_" then
      if !(←Op.equalIn (d+1) f.type (←part f.type X f.offset) (←part f.type Y f.offset))then pure (.done (some false,()))
      else pure (.yield (none,()))
     else pure (.yield (none,())):Sem (ForInStep (Option Bool×Unit)))).run P w=.ok (if r then(none,())else(some false,())) w:=by
   intro b hb hagg h1 h0
   have hu: ∃dd,P.underlying f.type=some dd:=by
    cases hd:P.underlying f.type with
    |none=>simp[hd]at ht
    |some dd=>exact⟨dd,rfl⟩
   obtain⟨dd,hdd⟩:=hu
   rw[List.forIn_cons,Sem.run_bind]
   simp only[ne_eq,hn,not_false_eq_true,if_true,Sem.run_bind,hpx dd hdd (hagg dd hdd),hpy dd hdd (hagg dd hdd),Result.andThen_ok,hb]
   cases b with
   |true=>simp only[Bool.not_true,Bool.false_eq_true,if_false,Sem.run_pure,Result.andThen_ok];exact ih r (h1 rfl)
   |false=>simp only[Bool.not_false,if_true,Sem.run_pure,Result.andThen_ok,h0 rfl,Bool.false_eq_true,if_false]
  split at ht
  ·rename_i k hu
   have hagg: ∀dd,P.underlying f.type=some dd→aggD dd=false:=fun dd h=>by rw[hu]at h;cases h;rfl
   cases x<;>try(simp[eqCells]at he;done)
   rename_i k1 a
   cases y<;>try(simp[eqCells]at he;done)
   rename_i k2 b
   simp only[eqCells]at he
   split at he
   ·rename_i hkk
    subst hkk
    refine step (a==b) ?_ hagg ?_ ?_
    ·rw[Op.equalIn];simp only[Sem.run_bind,run_under hu,Result.andThen_ok,if_true];rfl
    ·intro hab;rw[hab,if_pos rfl]at he;exact he
    ·intro hab;rw[hab]at he;simpa using he.symm
   ·cases he
  ·cases ht
theorem eql_struct {t:TypeId} {fs:Array Field} (ht:P.underlying t=some (.struct fs)) (hs:P.stoodInHeld t=false) (hf:flatFields P fs.toList 0=true) {xs ys:List Value} {r:Bool}
  (hx:xs.length=fs.size) (hy:ys.length=fs.size) (he:eqCells xs ys=some r) (d:Nat):(Op.equalIn (d+2) t (.agg ⟨xs⟩) (.agg ⟨ys⟩)).run P w=.ok r w:=by
 have key:=run_eqFields (P:=P) (w:=w) (d:=d) fs.toList 0 xs ys ⟨xs⟩ ⟨ys⟩ r hf (by simpa using hx) (by simpa using hy) (fun j _=>by simp) (fun j _=>by simp) he
 rw[Op.equalIn]
 simp only[Sem.run_bind,run_under ht,Result.andThen_ok,run_program,hs,Bool.false_eq_true,if_false]
 rw[Array.forIn_toList]at key
 rw[key]
 cases r<;>rfl
theorem eqX_sound {neg:Bool} {t:TypeId} {x y:Operand} {xb:XB} (h:eqX P neg t x y=some xb) {ρ:Env} (hk:pv xb ρ w K):
  Gives P (do pure (.value (←(do eqGuard (eqOp neg) t x y (ev ρ x) (ev ρ y);binOp (eqOp neg) t (ev ρ x) (ev ρ y))))) w K:=by
 unfold eqX at h
 split at h
 ·cases h;cases neg<;>exact gives_bin hk
 ·rename_i ht;cases h;exact gives_eqB ht hk
 ·rename_i e ht
  split at h
  ·rename_i i hi
   split at h
   ·rename_i h0;cases h;exact gives_eqP ht hi h0 hk
   ·cases h
  ·cases h
 ·rename_i e ht;cases h;exact gives_eqS ht hk
 ·rename_i fs ht
  split at h
  ·rename_i hc
   cases h
   simp only[Bool.and_eq_true,Bool.not_eq_true']at hc
   obtain⟨xs,ys,r,hx,hy,h1,h2,he,hk⟩:=hk
   rw[hx,hy]
   exact gives_eq (fun op=>by cases op<;>simp[eqGuard,hc.2]) rfl rfl (fun d=>eql_struct ht hc.1.2 hc.1.1 h1 h2 he d) hk
  ·cases h
 ·cases h
theorem run_builtin {b:Builtin} {args:Array Operand} {ts:Array TypeId} {ρ:Env} {dd:Option Nat} {ty:TypeId} {pos:String} {af:Array Edge} {g:Option (Nat×Bool)}:
  execOp (ev ρ) ⟨dd,.call ⟨.builtin b,args,ts⟩,ty,pos,af,g⟩=builtin b ts ty (args.map fun|.const _=>true|_=>false) (args.map (ev ρ)):=rfl
theorem fieldIn_spec {s:TypeId} {f:Nat} {fl:Field} (h:fieldIn P s f=some fl): ∃fs,P.underlying s=some (.struct fs)∧fs[f]? =some fl:=by
 unfold fieldIn at h
 split at h
 ·exact⟨_,by assumption,h⟩
 ·cases h
theorem sliceElem_spec {t:TypeId} {i:TypeInfo} (h:sliceElem P t=some i): ∃e,P.underlying t=some (.slice e)∧P.info? e=some i:=by
 unfold sliceElem at h
 split at h
 ·exact⟨_,by assumption,h⟩
 ·cases h
theorem pv_sound0 {op:Op} {x:XB} (h:trB0 P op=some x) (hp:x.pure? =true) {ρ:Env} (hk:pv x ρ w K) (dd:Option Nat) (ty:TypeId) (pos:String) (af:Array Edge) (g:Option (Nat×Bool)):
  Gives P (execOp (ev ρ) ⟨dd,op,ty,pos,af,g⟩) w K:=by
 cases op<;>simp only[trB0]at h
 case move=>cases h;exact⟨_,rfl,hk⟩
 case assign=>cases h;exact⟨_,rfl,hk⟩
 case pick=>
  cases h
  simp only[pv,pickV]at hk
  split at hk
  ·rename_i t e;exact⟨_,by simp[execOp,e,asBool],hk⟩
  ·exact hk.elim
 case nilCheck=>cases h;exact gives_nilck hk
 case load=>
  unfold trLoad at h
  split at h
  ·rename_i d ht
   split at h
   ·obtain⟨i,hi,rfl⟩:=Option.map_eq_some_iff.1 h;exact gives_ldN ht rfl hi hk
   ·obtain⟨i,hi,rfl⟩:=Option.map_eq_some_iff.1 h;exact gives_ldN ht rfl hi hk
   ·rename_i h1 h2
    cases h
    exact gives_ld ht (by cases d<;>first|rfl|(exfalso;exact h1 _ rfl)|(exfalso;exact h2 _ _ rfl)) hk
  ·cases h
 case store=>
  unfold trStore at h
  split at h
  ·split at h
   ·cases h;cases hp
   ·cases h;cases hp
   ·split at h
    ·cases h;cases hp
    ·cases h
  ·cases h
 case fieldAddr=>
  unfold trFieldAddr at h
  split at h
  ·rename_i fl hf
   obtain⟨fs,h1,h2⟩:=fieldIn_spec hf
   split at h
   ·rename_i i hi
    split at h
    ·cases h
    ·rename_i h0;cases h;exact gives_fa h1 h2 hi h0 hk
   ·cases h
  ·cases h
 case field=>
  unfold trField at h
  split at h
  ·rename_i fl hf
   obtain⟨fs,h1,h2⟩:=fieldIn_spec hf
   split at h
   ·rename_i d ht
    split at h
    ·obtain⟨i,hi,rfl⟩:=Option.map_eq_some_iff.1 h;exact gives_fldN h1 h2 ht rfl hi hk
    ·obtain⟨i,hi,rfl⟩:=Option.map_eq_some_iff.1 h;exact gives_fldN h1 h2 ht rfl hi hk
    ·rename_i g1 g2
     cases h
     exact gives_fld h1 h2 ht (by cases d<;>first|rfl|(exfalso;exact g1 _ rfl)|(exfalso;exact g2 _ _ rfl)) hk
   ·cases h
  ·cases h
 case indexAddr t a i=>
  unfold trIndex at h
  split at h
  ·rename_i j hi;cases h;obtain⟨e,h1,h2⟩:=sliceElem_spec hi;exact gives_ia h1 h2 hk
  ·split at h
   ·rename_i n e ht
    obtain⟨j,hi,rfl⟩:=Option.map_eq_some_iff.1 h
    exact gives_iaA ht hi hk
   ·cases h
 case binOp bop t a b _=>
  unfold trBin at h
  split at h
  ·exact eqX_sound (neg:=false) h hk
  ·exact eqX_sound (neg:=true) h hk
  ·cases h;exact gives_bin hk
 case unOp uop _ a=>
  unfold trUn at h
  split at h
  ·cases h;exact gives_no hk
  ·cases h
 case convert=>
  unfold trConv at h
  split at h
  ·rename_i h1 h2;cases h;exact gives_conv h2 h1 hk
  ·cases h
 case makeFunc=>cases h;exact⟨_,rfl,hk⟩
 case slice t a lo hi mx=>
  cases mx with
  |none=>obtain⟨j,hi,rfl⟩:=Option.map_eq_some_iff.1 h;obtain⟨e,h1,h2⟩:=sliceElem_spec hi;exact gives_slc h1 h2 hk
  |some mx=>
   cases lo with
   |none=>cases h
   |some lo=>
    cases hi with
    |none=>cases h
    |some hi=>obtain⟨j,hi,rfl⟩:=Option.map_eq_some_iff.1 h;obtain⟨e,h1,h2⟩:=sliceElem_spec hi;exact gives_slc3 h1 h2 hk
 case extract=>cases h;exact gives_ext hk
 case box=>cases h;cases hp
 case alloc t=>
  split at h
  ·obtain⟨z,hz,rfl⟩:=Option.map_eq_some_iff.1 h;cases hp
  ·cases h
 case call c=>
  obtain⟨cl,args,ts⟩:=c
  unfold trCall at h
  simp only at h
  split at h
  ·rename_i b
   rw[run_builtin]
   unfold trBuiltin at h
   split at h
   ·rename_i a t ha ht
    obtain⟨j,hi,rfl⟩:=Option.map_eq_some_iff.1 h
    obtain⟨e,h1,h2⟩:=sliceElem_spec hi
    have ha':args=#[a]:=by cases args;simp_all
    have ht':ts=#[t]:=by cases ts;simp_all
    subst ha';subst ht'
    (simp only[List.map_toArray,List.map_cons,List.map_nil];exact gives_len h1 hk)
   ·rename_i a b ha
    cases h
    have ha':args=#[a,b]:=by cases args;simp_all
    subst ha'
    (simp only[List.map_toArray,List.map_cons,List.map_nil];exact gives_mnmx (mx:=true) hk)
   ·rename_i a b ha
    cases h
    have ha':args=#[a,b]:=by cases args;simp_all
    subst ha'
    (simp only[List.map_toArray,List.map_cons,List.map_nil];exact gives_mnmx (mx:=false) hk)
   ·split at h
    ·obtain⟨e,he,rfl⟩:=Option.map_eq_some_iff.1 h;cases hp
    ·cases h
   ·cases h
  ·split at h
   ·cases h;cases hp
   ·cases h
  ·cases h;cases hp
  ·cases h
 case build t parts=>
  unfold trBuild at h
  split at h
  ·rename_i i fs hi ht
   split at h
   ·rename_i z pl hz hpl
    obtain⟨ps,hps,rfl⟩:=Option.map_eq_some_iff.1 h
    obtain⟨cs,hf,hk⟩:=hk
    have:=gives_build (w:=w) (ρ:=ρ) hi ht hz hpl hps hf hk
    have e:parts.toList.toArray=parts:=by simp
    rw[e]at this
    exact this
   ·cases h
  ·rename_i i n e hi ht
   split at h
   ·rename_i z j hz hj
    cases h
    obtain⟨cs,hf,hk⟩:=hk
    have:=gives_buildA (w:=w) (ρ:=ρ) (parts:=parts.toList) hi ht hj hz hf hk
    have e:parts.toList.toArray=parts:=by simp
    rw[e]at this
    exact this
   ·cases h
  ·cases h
 case buildSlice t len parts=>
  unfold trBuildSlice at h
  split at h
  ·split at h
   ·cases h;cases hp
   ·cases h
  ·cases h
 case makeSlice=>obtain⟨e,he,rfl⟩:=Option.map_eq_some_iff.1 h;cases hp
 all_goals cases h
theorem pv_sound {op:Op} {x:XB} (h:trB P op=some x) (hp:x.pure? =true) {ρ:Env} (hk:pv x ρ w K) (dd:Option Nat) (ty:TypeId) (pos:String) (af:Array Edge) (g:Option (Nat×Bool)):
  Gives P (execOp (ev ρ) ⟨dd,op,ty,pos,af,g⟩) w K:=by
 rcases trB_spec h with h|⟨rfl,_⟩
 ·exact pv_sound0 h hp hk dd ty pos af g
 ·cases hp
end
end Go.Proofs.YteiildhelefodaaGreat
