/- What the walks need, joined: BrB, FxG, FxH, FxI, FxJ, FxK, FxL, EqM, EqN, EqP, EqQ, BrC, ScE, HpY, ScA -/
import Derived.Test.YtgcofabdialaaaaGreatZPk2
set_option linter.unusedSimpArgs false
set_option linter.unusedVariables false
section
namespace Go.Proofs.YtgcofabdialaaaaGreat
set_option maxRecDepth 8000
theorem bImg1 (w:World) (m:LM) (q:Nat) (x:Int) (hq:At w q [.int .i64 x]) (h1:oneC m.v=true):Cs Tryz.prog 144 [.agg ⟨m.V⟩,.pointer (some ⟨q,0,none⟩)] w fun v w'=>v=.bool (m.o==x)∧Only [] w w':=by
 refine enter_barrier_Barrier_image_1 rfl ?_
 unfold x_barrier_Barrier_image_1
 (repeat(first|with_reducible(first|refine nx ?_|refine r_6 rfl ?_)|simp only[go_sem]))
 refine boxT fun u w1 hu hs1 hat ho1=>?_
 have hat':At w1 u [.int .i64 m.o,m.v]:=hat
 (repeat(first|with_reducible(first|refine nx ?_|refine r_6 rfl ?_)|simp only[go_sem,hat'.cell,(hq.keep0 ho1).cell]))
 exact ho1
theorem bIdxI {w:World} {vl:Value} {M:List LM} {fl:List Nat} {q:Nat} {x:Int} (hl:Sl w 2 vl M.length (lgV M) fl) (h1: ∀m,m∈M→oneC m.v=true) (hlen:M.length≤100000) (hq:At w q [.int .i64 x]):
  Cs Tryz.prog 139 [vl,.func (.func 144) #[] #[.pointer (some ⟨q,0,none⟩)]] w fun v w'=>v=.int .i64 (match imgO (M.map LM.im) x with|some i=>(i:Int)|none=> -1)∧Only [] w w':=by
 obtain⟨al,cl,rfl⟩:=hl.val
 refine enter_slices_IndexFunc___api_Image_api_Image_ rfl ?_
 unfold x_slices_IndexFunc___api_Image_api_Image_
 (repeat(first|with_reducible(first|refine nx ?_|refine r_6 rfl ?_)|simp only[go_sem]))
 refine run_loop (5::8::9::10::11::12::13::14::15::16::17::18::[]) (fun g w'=> ∃i:Nat,g 8=.int .i64 i∧i≤M.length∧(∀j,j<i→((M.map LM.im).getD j default).1≠x)∧Only [] w w') (fun g _=>upTo M.length 8 g) ⟨0,by simp only[go_sem];rfl,by omega,fun j hj=>absurd hj (by omega),Only.refl _ _⟩ fun g8 w' hI hnext=>?_
 obtain⟨i,h8,hi,hno,ho⟩:=hI
 have hget:i<M.length→((M.map LM.im).getD i default).1=(M.getD i default).o:=fun h=>by simp[h,LM.im]
 by_cases hlt:i<M.length
 rotate_left
 ·obtain rfl:i=M.length:=by omega
  (repeat(first|with_reducible(first|refine nx ?_|refine r_6 rfl ?_)|simp only[go_sem,h8,decide_eq_false (show¬((M.length:Nat):Int)<(M.length:Int) by omega)]))
  rw[imgO_none fun j hj=>hno j (by simpa using hj)]
  exact⟨rfl,ho⟩
 obtain⟨gl,cap,ys,e1,hat,_,_⟩:=(hl.keep0 ho).posN (by omega)
 cases e1
 have c1:(0:Int)≤(i:Int)∧(i:Int)<(M.length:Int):=⟨by omega,by omega⟩
 have hc:cellsAt w' ⟨gl,i*2,none⟩ 2=some (M.getD i default).V:=by rw[cellsAt_at hat (i*2) 2 (by rw[List.length_append,lgV_len];omega),lgV_at ys hlt]
 have hmem:M.getD i default∈M:=by simp[hlt]
 (repeat(first|with_reducible(first|refine nx ?_|refine r_6 rfl ?_)|simp only[go_sem,h8,decide_eq_true (show(i:Int)<(M.length:Int) by omega),if_pos c1,Int.toNat_natCast,hc]))
 refine callVT (callVals_f _ #[] _ #[_]) (by kernel_rfl) (bImg1 w' (M.getD i default) q x (hq.keep0 ho) (h1 _ hmem)) ?_
 rintro v w2 ⟨rfl,ho2⟩
 by_cases hx:(M.getD i default).o=x
 ·(repeat(first|with_reducible(first|refine nx ?_|refine r_6 rfl ?_)|simp only[go_sem,beq_int_true hx]))
  rw[imgO_some (i:=i) (by simpa using hlt) (by rw[hget hlt];exact hx) hno]
  exact⟨rfl,ho.nil ho2⟩
 ·(repeat(first|with_reducible(first|refine nx ?_|refine r_6 rfl ?_)|simp only[go_sem,beq_int_false hx,h8,i64_succ i (by omega)]))
  refine hnext _ w2 ?_ ⟨i+1,?_,by omega,fun j hj=>?_,ho.nil ho2⟩ ?_
  ·(repeat(first|with_reducible exact k_1|with_reducible exact Keeps.ovr _ _ _|refine Keeps.put ?_ rfl _|exact k_1|exact Keeps.ovr _ _ _|refine Keeps.ovr2 ?_ rfl _))
  ·simp only[go_sem]
  ·by_cases e:j=i
   ·subst e;rw[hget hlt];exact hx
   ·exact hno j (by omega)
  ·rw[upTo_int h8,upTo_int (k:=.i64) (i:=i+1) (by simp only[go_sem])];omega
theorem BMs.image {w:World} {b:Nat} {hp:Addr} {t:BS} {bd bo:Nat} {vs vl:Value} {fs fl:List Nat} {M:List LM} (hm:BMs w b hp t bd bo vs vl fs fl M) (hl:t.L.length≤100000) (x:Int):
  Cs Tryz.prog 85 [.pointer (some ⟨b,0,none⟩),.int .i64 x] w fun v w'=>v=.int .i64 (match imgO t.L x with|some i=>(i:Int)|none=> -1)∧Only [] w w':=by
 refine enter_barrier_Barrier_image rfl ?_
 unfold x_barrier_Barrier_image
 (repeat(first|with_reducible(first|refine nx ?_|refine r_6 rfl ?_)|simp only[go_sem]))
 refine boxT fun q w1 hq hs1 hat1 ho1=>?_
 have hm1:=hm.keep0 ho1
 (repeat(first|with_reducible(first|refine nx ?_|refine r_6 rfl ?_)|simp only[go_sem,hm1.hb.cell]))
 refine callT (bIdxI hm1.hl (fun m hm'=>Sl.oneC' (hm1.om m hm')) (by rw[hm.len];exact hl) hat1) ?_
 rintro v w2 ⟨rfl,ho2⟩
 rw[hm.eq]
 (repeat(first|with_reducible(first|refine nx ?_|refine r_6 rfl ?_)|simp only[go_sem]))
 exact ho1.nil ho2
def isB (k kind:Int):Bool:=bitI .and .i64 k kind !=0
def unitV:Value:=.agg ⟨[]⟩
def BS.note1 (t:BS) (x:Int) (refs:List Int):BS:=if isB t.kinds 32&&(imgO t.L x).isNone then {t with L:=t.L++[(x,refs)]}else t
def BS.note2 (t:BS) (r:Int):BS:=if isB t.kinds 8 then t.shade r else t
def BS.note3 (t:BS) (l:Int):BS:=if isB t.kinds 1 then {t with D:=putM t.D l unitV}else t
def BS.note4 (m:HO) (t:BS) (x now:Int):BS:=if isB t.kinds 2&&(!youngO m t.young x&&youngO m t.young now)then {t with O:=putM t.O x unitV}else t
def BS.note5 (t:BS) (now:Int):BS:=if isB t.kinds 4 then t.shade now else t
def BS.note (m:HO) (t:BS) (x i:Nat) (refs:List Int) (now:Int):BS:=
 (BS.note4 m (((t.note1 x refs).note2 (refs.getD i 0)).note3 (((x+2+i)/8:Nat):Int)) x now).note5 now
theorem BS.note1_k (t:BS) (x:Int) (refs:List Int):(t.note1 x refs).kinds=t.kinds∧(t.note1 x refs).young=t.young∧(t.note1 x refs).S=t.S∧(t.note1 x refs).D=t.D∧(t.note1 x refs).O=t.O:=by
 unfold BS.note1;split<;>exact⟨rfl,rfl,rfl,rfl,rfl⟩
theorem shadeL_len (S:List Int) (x:Int):(shadeL S x).length≤S.length+1:=by
 unfold shadeL;split
 ·simp
 ·omega
theorem BS.note2_k (t:BS) (r:Int):(t.note2 r).kinds=t.kinds∧(t.note2 r).young=t.young∧(t.note2 r).S.length≤t.S.length+1∧(t.note2 r).D=t.D∧(t.note2 r).O=t.O∧(t.note2 r).L=t.L:=by
 unfold BS.note2;split
 ·exact⟨rfl,rfl,shadeL_len _ _,rfl,rfl,rfl⟩
 ·exact⟨rfl,rfl,by omega,rfl,rfl,rfl⟩
theorem BS.note3_k (t:BS) (l:Int):(t.note3 l).kinds=t.kinds∧(t.note3 l).young=t.young∧(t.note3 l).S=t.S∧(t.note3 l).O=t.O∧(t.note3 l).L=t.L:=by
 unfold BS.note3;split<;>exact⟨rfl,rfl,rfl,rfl,rfl⟩
theorem BS.note4_k (m:HO) (t:BS) (x now:Int):(t.note4 m x now).kinds=t.kinds∧(t.note4 m x now).young=t.young∧(t.note4 m x now).S=t.S∧(t.note4 m x now).D=t.D∧(t.note4 m x now).L=t.L:=by
 unfold BS.note4;split<;>exact⟨rfl,rfl,rfl,rfl,rfl⟩
theorem BS.note4_no {m:HO} {t:BS} {x now:Int} (e:(isB t.kinds 2&&(!youngO m t.young x&&youngO m t.young now))=false):t.note4 m x now=t:=by
 unfold BS.note4
 exact if_neg (by rw[e];exact Bool.false_ne_true)
theorem BS.note4_yes {m:HO} {t:BS} {x now:Int} (e:(isB t.kinds 2&&(!youngO m t.young x&&youngO m t.young now))=true):t.note4 m x now= {t with O:=putM t.O x unitV}:=by
 unfold BS.note4
 exact if_pos e
theorem BMs.isT {w:World} {b:Nat} {hp:Addr} {t:BS} {bd bo:Nat} {vs vl:Value} {fs fl:List Nat} {M:List LM} (hm:BMs w b hp t bd bo vs vl fs fl M) (kind:Int):Cs Tryz.prog 72 [.pointer (some ⟨b,0,none⟩),.int .i64 kind] w fun v w'=>v=.bool (isB t.kinds kind)∧w'=w:=bIs hm.hb
theorem BM.isT {w:World} {b:Nat} {hp:Addr} {t:BS} {fp:List Nat} (h:BM w b hp t fp) (kind:Int):Cs Tryz.prog 72 [.pointer (some ⟨b,0,none⟩),.int .i64 kind] w fun v w'=>v=.bool (isB t.kinds kind)∧w'=w:=by
 obtain⟨bd,bo,vs,vl,fs,fl,M,_,hm⟩:=h
 exact hm.isT kind
theorem BM.youngT {w:World} {b:Nat} {hp:Addr} {t:BS} {fp fh:List Nat} {m:HO} (h:BM w b hp t fp) (hh:HR w (some hp) fh m) (x:Int) (h0:0≤x) (hx:x≤4611686018427387904):Cs Tryz.prog 137 [.pointer (some ⟨b,0,none⟩),.int .i64 x] w fun v w'=>v=.bool (youngO m t.young x)∧Only [] w w':=by
 obtain⟨bd,bo,vs,vl,fs,fl,M,_,hm⟩:=h
 exact bYoung hh hm.hb x h0 hx
theorem BM.putD {w:World} {b:Nat} {hp:Addr} {t:BS} {fp:List Nat} (h:BM w b hp t fp): ∃bd,w.cell? ⟨b,3,none⟩=some (.map (some bd))∧ ∀l:Int,Cs Tryz.prog 73 [.map (some bd),.int .i64 l] w fun v w'=>v=.tuple #[]∧Only fp w w'∧BM w' b hp {t with D:=putM t.D l unitV} fp:=by
 obtain⟨bd,bo,vs,vl,fs,fl,M,hfp,hm⟩:=h
 have nd:=BNd.of hm.nd
 refine⟨bd,by rw[hm.hb.cell];rfl,fun l=>(hPut hm.hd l).mono ?_⟩
 rintro v w' ⟨rfl,hd,ho⟩
 have off: ∀y,y≠bd→y∉ [bd]:=fun y h=>off1 h
 refine⟨rfl,ho.weakT fun y hy=>by simp only[List.mem_singleton]at hy;subst hy;rw[hfp];simp,bd,bo,vs,vl,fs,fl,M,hfp,hm.hb.keep ho (off b nd.b1),hd,hm.ho.keep ho (off bo nd.d1.symm),hm.hs.keep ho fun y hy=>off y (nd.b3 y (.inl hy)).2.1,hm.hl.keep ho fun y hy=>off y (nd.b3 y (.inr (.inl hy))).2.1,hm.eq,fun m hm'=>Sl.keep (hm.om m hm') ho fun y hy=>off y (nd.b3 y (.inr (.inr (mem_lgF hm' hy)))).2.1,hm.nd⟩
theorem BM.putO {w:World} {b:Nat} {hp:Addr} {t:BS} {fp:List Nat} (h:BM w b hp t fp): ∃bo,w.cell? ⟨b,4,none⟩=some (.map (some bo))∧ ∀l:Int,Cs Tryz.prog 73 [.map (some bo),.int .i64 l] w fun v w'=>v=.tuple #[]∧Only fp w w'∧BM w' b hp {t with O:=putM t.O l unitV} fp:=by
 obtain⟨bd,bo,vs,vl,fs,fl,M,hfp,hm⟩:=h
 have nd:=BNd.of hm.nd
 refine⟨bo,by rw[hm.hb.cell];rfl,fun l=>(hPut hm.ho l).mono ?_⟩
 rintro v w' ⟨rfl,hd,ho⟩
 have off: ∀y,y≠bo→y∉ [bo]:=fun y h=>off1 h
 refine⟨rfl,ho.weakT fun y hy=>by simp only[List.mem_singleton]at hy;subst hy;rw[hfp];simp,bd,bo,vs,vl,fs,fl,M,hfp,hm.hb.keep ho (off b nd.b2),hm.hd.keep ho (off bd nd.d1),hd,hm.hs.keep ho fun y hy=>off y (nd.b3 y (.inl hy)).2.2,hm.hl.keep ho fun y hy=>off y (nd.b3 y (.inr (.inl hy))).2.2,hm.eq,fun m hm'=>Sl.keep (hm.om m hm') ho fun y hy=>off y (nd.b3 y (.inr (.inr (mem_lgF hm' hy)))).2.2,hm.nd⟩
theorem noteT_no {w w3 w':World} {b:Nat} {hp:Addr} {t3:BS} {fp3 F:List Nat} {m:HO} {x now:Int} (e:(isB t3.kinds 2&&(!youngO m t3.young x&&youngO m t3.young now))=false) (h3:BM w3 b hp t3 fp3) (ho3:Only F w w3) (hs3: ∀y,y∈fp3→y∈F∨w.heap.size≤y) (o:Only [] w3 w'):
  Only F w w'∧ ∃fp',BM w' b hp (BS.note4 m t3 x now) fp'∧ ∀y,y∈fp'→y∈F∨w.heap.size≤y:=
 ⟨ho3.nil o,fp3,by rw[BS.note4_no e];exact h3.keep0 o,hs3⟩
def sq1:XCode→XCode|.seq a _=>a|c=>c
def sq2:XCode→XCode|.seq _ a=>a|c=>c
theorem note_s1 {w:World} {b:Nat} {hp:Addr} {t:BS} {fp fr:List Nat} {vr:Value} {n:Nat} {refs:List Int} {x:Nat} {ρ:Env} {kk:List XI} {R:Value→World→Prop} (e0:ρ 0=.pointer (some ⟨b,0,none⟩)) (e1:ρ 1=.int .i64 (x:Int)) (e3:ρ 3=vr)
  (h:BM w b hp t fp) (hr:Sl w 1 vr n (ints refs) fr) (hrd: ∀y,y∈fr→y∉fp) (hn:n≤1000) (hS:t.S.length≤90000) (hL:t.L.length≤90000)
  (hkk: ∀ρ' w',Keeps (10::11::12::13::14::15::16::17::18::19::20::21::22::23::24::25::26::27::28::29::[]) ρ ρ'→(Only fp w w'∧ ∃fp',BM w' b hp (t.note1 x refs) fp'∧ ∀y,y∈fp'→y∈fp++fr∨w.heap.size≤y)→Run Tryz.prog fx_barrier_Barrier_note kk ρ' w' R):
  Run Tryz.prog fx_barrier_Barrier_note (.code (sq1 x_barrier_Barrier_note)::kk) ρ w R:=by
 have hrl:refs.length=n:=by have:=hr.1;rw[ints_length]at this;omega
 have h0:=h
 have hlt0:=h.lt
 have hltr:=hr.lt
 unfold x_barrier_Barrier_note
 simp only[sq1]
 obtain⟨bd,bo,vs,vl,fs,fl,M,hfp,hm⟩:=h
 have nd:=BNd.of hm.nd
 have keepT:(isB t.kinds 32&&(imgO t.L x).isNone)=false→ ∀ {w':World},Only [] w w'→Only fp w w'∧ ∃fp',BM w' b hp (t.note1 x refs) fp'∧ ∀y,y∈fp'→y∈fp++fr∨w.heap.size≤y:=fun e w' o=>⟨o.of_nil,fp,by unfold BS.note1;rw[if_neg (by rw[e];exact Bool.false_ne_true)];exact h0.keep0 o,fun y hy=>.inl (by simp[hy])⟩
 (repeat(first|with_reducible(first|refine nx ?_|refine r_6 rfl ?_)|simp only[go_sem,e0,e1,e3]))
 refine callT0 (hm.isT 32) ?_
 cases hk:isB t.kinds 32 with
 |false=>
  (repeat(first|with_reducible(first|refine nx ?_|refine r_6 rfl ?_)|simp only[go_sem,e0,e1,e3]))
  refine hkk _ w ?_ (keepT (by rw[hk];rfl) (Only.refl _ _))
  (repeat(first|with_reducible exact k_1|with_reducible exact Keeps.ovr _ _ _|refine Keeps.put ?_ rfl _|exact k_1|exact Keeps.ovr _ _ _|refine Keeps.ovr2 ?_ rfl _))
 |true=>
 (repeat(first|with_reducible(first|refine nx ?_|refine r_6 rfl ?_)|simp only[go_sem,e0,e1,e3]))
 refine callT1 (hm.image (by omega) (x:Int)) fun w1 ho1=>?_
 cases himg:imgO t.L (x:Int)with
 |some k=>
  (repeat(first|with_reducible(first|refine nx ?_|refine r_6 rfl ?_)|simp only[go_sem,e0,e1,e3,decide_eq_false (show¬(k:Int)<0 by omega)]))
  refine hkk _ w1 ?_ (keepT (by rw[hk,himg];rfl) ho1)
  (repeat(first|with_reducible exact k_1|with_reducible exact Keeps.ovr _ _ _|refine Keeps.put ?_ rfl _|exact k_1|exact Keeps.ovr _ _ _|refine Keeps.ovr2 ?_ rfl _))
 |none=>
 have hb1:=hm.hb.keep0 ho1
 obtain⟨ar,cr,rfl⟩:=hr.val
 (repeat(first|with_reducible(first|refine nx ?_|refine r_6 rfl ?_)|simp only[go_sem,e0,e1,e3,decide_eq_true (show(-1:Int)<0 by omega),hb1.cell]))
 rw[fillL_one rfl rfl,fillL_one rfl rfl]
 (repeat(first|with_reducible(first|refine nx ?_|refine r_6 rfl ?_)|simp only[go_sem,e0,e1,e3]))
 rw[fillL_ag (n:=2) rfl rfl]
 (repeat(first|with_reducible(first|refine nx ?_|refine r_6 rfl ?_)|simp only[go_sem,e0,e1,e3]))
 refine bslT fun q2 w2 hq2 hs2 hat2 ho2=>?_
 (repeat(first|with_reducible(first|refine nx ?_|refine r_6 rfl ?_)|simp only[go_sem,e0,e1,e3]))
 have hat2':At w2 q2 (LM.V ⟨(x:Int),refs,.slice ar n cr,fr⟩):=hat2
 have hML:=hm.len
 refine appT (sz:=2) (m:=1) (us:=LM.V ⟨(x:Int),refs,.slice ar n cr,fr⟩) ((hm.hl.keep0 ho1).keep0 ho2) (SrcIs.at hat2' rfl) (by simp[LM.V,oneC]) (by omega) (by omega) ?_
 intro v3 w3 f3 hs3 hf3 ho3 _
 have hz1:=ho1.size
 have hz2:=ho2.size
 have hlt:=hm.lt
 have o3:Only fl w w3:=((ho1.nil ho2).of_nil (T:=fl)).same ho3
 have hb3:=(hb1.keep0 ho2).keep ho3 fun e=>(nd.b3 b (.inr (.inl e))).1 rfl
 have hf3': ∀y,y∈f3→y∈fl∨w.heap.size≤y:=fun y hy=>by
  rcases hf3 with rfl|rfl
  ·exact .inl hy
  ·simp only[List.mem_singleton]at hy;exact .inr (by omega)
 (repeat(first|with_reducible(first|refine nx ?_|refine r_6 rfl ?_)|simp only[go_sem,e0,e1,e3]))
 refine stT hb3 (by simp) hs3.oneC' fun w4 hs4 hb4 ho4=>?_
 simp only[List.set_cons_zero,List.set_cons_succ]at hb4
 (repeat(first|with_reducible(first|refine nx ?_|refine r_6 rfl ?_)|simp only[go_sem,e0,e1,e3]))
 have ofs:Only (b::fl) w w4:=(o3.weakT fun y hy=>by simp[hy]).same (ho4.weakT fun y hy=>by simp only[List.mem_singleton]at hy;simp[hy])
 have off: ∀y,y≠b→y∉fl→y∉b::fl:=fun y h1 h2 h3=>by simp only[List.mem_cons]at h3;exact h3.elim h1 h2
 have hrd': ∀y,y∈fr→y≠b∧y≠bd∧y≠bo∧y∉fs∧y∉fl∧y∉lgF M:=fun y hy=>by
  have:=hrd y hy
  rw[hfp]at this
  simpa[not_or]using this
 have nb: ∀y,y∈f3→y≠b∧y≠bd∧y≠bo∧y∉fs∧y∉lgF M∧y∉fr:=fun y hy=>by
  rcases hf3' y hy with h|h
  ·have:=nd.b3 y (.inr (.inl h));exact⟨this.1,this.2.1,this.2.2,fun h'=>(nd.s y h').1 h,nd.l y h,fun h'=>(hrd' y h').2.2.2.2.1 h⟩
  ·have g: ∀z,z∈b::bd::bo::(fs++(fl++lgF M))→y≠z:=fun z hz=>by have:=hlt z hz;omega
   exact⟨g b (by simp),g bd (by simp),g bo (by simp),fun h=>g y (by simp[h]) rfl,fun h=>g y (by simp[h]) rfl,fun h'=>by have:=hltr y h';omega⟩
 have eF:lgF (M++[⟨(x:Int),refs,.slice ar n cr,fr⟩])=lgF M++fr:=by rw[lgF_append];simp[lgF]
 have eV:lgV (M++[⟨(x:Int),refs,.slice ar n cr,fr⟩])=lgV M++LM.V ⟨(x:Int),refs,.slice ar n cr,fr⟩:=by rw[lgV_append];simp[lgV]
 refine hkk _ w4 ?_ ⟨ofs.weakT fun y hy=>by rw[hfp];simp only[List.mem_cons]at hy;rcases hy with rfl|hy<;>simp[*],b::bd::bo::(fs++(f3++lgF (M++[⟨(x:Int),refs,.slice ar n cr,fr⟩]))),⟨bd,bo,vs,v3,fs,f3,M++[⟨(x:Int),refs,.slice ar n cr,fr⟩],rfl,?_⟩,fun y hy=>?_⟩
 ·(repeat(first|with_reducible exact k_1|with_reducible exact Keeps.ovr _ _ _|refine Keeps.put ?_ rfl _|exact k_1|exact Keeps.ovr _ _ _|refine Keeps.ovr2 ?_ rfl _))
 ·have e1:t.note1 x refs= {t with L:=t.L++[((x:Int),refs)]}:=by unfold BS.note1;rw[hk,himg];rfl
  rw[e1]
  refine⟨hb4,hm.hd.keep ofs (off bd nd.b1.symm fun h=>(nd.b3 bd (.inr (.inl h))).2.1 rfl),hm.ho.keep ofs (off bo nd.b2.symm fun h=>(nd.b3 bo (.inr (.inl h))).2.2 rfl),hm.hs.keep ofs fun y hy=>off y (nd.b3 y (.inl hy)).1 (nd.s y hy).1,?_,?_,fun m' hm'=>?_,BNd.mk' ⟨nd.b1,nd.b2,nd.d1,?_,fun y hy=>⟨fun h=>(nb y h).2.2.2.1 hy,?_⟩,fun y hy=>?_,nd.n1,hs3.nodup,?_⟩⟩
  ·rw[eV]
   have:=hs3.keep ho4 fun y hy=>off1 (nb y hy).1
   simpa using this
  ·rw[hm.eq];simp[LM.im]
  ·rcases List.mem_append.1 hm' with h|h
   ·exact Sl.keep (hm.om m' h) ofs fun y hy=>off y (nd.b3 y (.inr (.inr (mem_lgF h hy)))).1 fun h'=>nd.l y h' (mem_lgF h hy)
   ·simp only[List.mem_singleton]at h
    subst h
    unfold LM.ok
    rw[hrl]
    exact hr.keep ofs fun y hy=>off y (hrd' y hy).1 (hrd' y hy).2.2.2.2.1
  ·rintro y (hy|hy|hy)
   ·exact nd.b3 y (.inl hy)
   ·exact⟨(nb y hy).1,(nb y hy).2.1,(nb y hy).2.2.1⟩
   ·rw[eF]at hy
    rcases List.mem_append.1 hy with h|h
    ·exact nd.b3 y (.inr (.inr h))
    ·exact⟨(hrd' y h).1,(hrd' y h).2.1,(hrd' y h).2.2.1⟩
  ·rw[eF]
   intro h
   rcases List.mem_append.1 h with h|h
   ·exact(nd.s y hy).2 h
   ·exact(hrd' y h).2.2.2.1 hy
  ·rw[eF]
   intro h
   rcases List.mem_append.1 h with h|h
   ·exact(nb y hy).2.2.2.2.1 h
   ·exact(nb y hy).2.2.2.2.2 h
  ·rw[eF,List.nodup_append]
   exact⟨nd.n3,hr.nodup,fun y h1 z h2 e=>by subst e;exact(hrd' y h2).2.2.2.2.2 h1⟩
 ·rw[eF]at hy
  rw[hfp]
  simp only[List.mem_cons,List.mem_append]at hy⊢
  rcases hy with hy|hy|hy|hy|hy|hy|hy
  ·simp[hy]
  ·simp[hy]
  ·simp[hy]
  ·simp[hy]
  ·rcases hf3' y hy with h|h
   ·simp[h]
   ·exact .inr h
  ·simp[hy]
  ·simp[hy]
theorem note_s4 {w w3:World} {b:Nat} {hp:Addr} {t3:BS} {fp3 F fh:List Nat} {m:HO} {x:Nat} {now:Int} {ρ:Env} {kk:List XI} {R:Value→World→Prop} (e0:ρ 0=.pointer (some ⟨b,0,none⟩)) (e1:ρ 1=.int .i64 (x:Int)) (e4:ρ 4=.int .i64 now)
  (h3:BM w3 b hp t3 fp3) (hh3:HR w3 (some hp) fh m) (hx:x≤100000) (hn0:0≤now) (hn1:now≤4611686018427387904) (ho3:Only F w w3) (hs3: ∀y,y∈fp3→y∈F∨w.heap.size≤y)
  (hkk: ∀ρ' w',Keeps (50::51::52::53::54::55::56::57::58::59::60::61::62::63::64::65::66::67::68::[]) ρ ρ'→(Only F w w'∧ ∃fp',BM w' b hp (BS.note4 m t3 x now) fp'∧ ∀y,y∈fp'→y∈F∨w.heap.size≤y)→Run Tryz.prog fx_barrier_Barrier_note kk ρ' w' R):
  Run Tryz.prog fx_barrier_Barrier_note (.code (sq1 (sq2 (sq2 (sq2 x_barrier_Barrier_note))))::kk) ρ w3 R:=by
 unfold x_barrier_Barrier_note
 simp only[sq1,sq2]
 have no:(isB t3.kinds 2&&(!youngO m t3.young x&&youngO m t3.young now))=false→ ∀ {w':World},Only [] w3 w'→Only (F) w w'∧ ∃fp',BM w' b hp (BS.note4 m t3 x now) fp'∧ ∀y,y∈fp'→y∈F∨w.heap.size≤y:=fun e w' o=>noteT_no e h3 ho3 hs3 o
 (repeat(first|with_reducible(first|refine nx ?_|refine r_6 rfl ?_)|simp only[go_sem,e0,e1,e4]))
 refine callT0 (h3.isT 2) ?_
 cases hk:isB t3.kinds 2 with
 |false=>
  (repeat(first|with_reducible(first|refine nx ?_|refine r_6 rfl ?_)|simp only[go_sem,e0,e1,e4]))
  refine hkk _ w3 ?_ (no (by rw[hk];rfl) (Only.refl _ _))
  (repeat(first|with_reducible exact k_1|with_reducible exact Keeps.ovr _ _ _|refine Keeps.put ?_ rfl _|exact k_1|exact Keeps.ovr _ _ _|refine Keeps.ovr2 ?_ rfl _))
 |true=>
 (repeat(first|with_reducible(first|refine nx ?_|refine r_6 rfl ?_)|simp only[go_sem,e0,e1,e4]))
 refine callT1 (h3.youngT hh3 (x:Int) (by omega) (by omega)) fun w4 ho4=>?_
 cases y1:youngO m t3.young (x:Int)with
 |true=>
  (repeat(first|with_reducible(first|refine nx ?_|refine r_6 rfl ?_)|simp only[go_sem,e0,e1,e4]))
  refine hkk _ w4 ?_ (no (by rw[hk,y1];rfl) ho4)
  (repeat(first|with_reducible exact k_1|with_reducible exact Keeps.ovr _ _ _|refine Keeps.put ?_ rfl _|exact k_1|exact Keeps.ovr _ _ _|refine Keeps.ovr2 ?_ rfl _))
 |false=>
 (repeat(first|with_reducible(first|refine nx ?_|refine r_6 rfl ?_)|simp only[go_sem,e0,e1,e4]))
 refine callT1 ((h3.keep0 ho4).youngT (hh3.keep0 ho4) now hn0 hn1) fun w5 ho5=>?_
 cases y2:youngO m t3.young now with
 |false=>
  (repeat(first|with_reducible(first|refine nx ?_|refine r_6 rfl ?_)|simp only[go_sem,e0,e1,e4]))
  refine hkk _ w5 ?_ (no (by rw[hk,y1,y2];rfl) (ho4.nil ho5))
  (repeat(first|with_reducible exact k_1|with_reducible exact Keeps.ovr _ _ _|refine Keeps.put ?_ rfl _|exact k_1|exact Keeps.ovr _ _ _|refine Keeps.ovr2 ?_ rfl _))
 |true=>
  obtain⟨bo,hc,hput⟩:=(h3.keep0 (ho4.nil ho5)).putO
  (repeat(first|with_reducible(first|refine nx ?_|refine r_6 rfl ?_)|simp only[go_sem,e0,e1,e4,hc]))
  refine callT (hput (x:Int)) ?_
  rintro v w6 ⟨rfl,ho6,h6⟩
  (repeat(first|with_reducible(first|refine nx ?_|refine r_6 rfl ?_)|simp only[go_sem,e0,e1,e4]))
  refine hkk _ w6 ?_ ⟨(ho3.nil (ho4.nil ho5)).trans ho6 hs3,fp3,by rw[BS.note4_yes (by rw[hk,y1,y2];rfl)];exact h6,hs3⟩
  (repeat(first|with_reducible exact k_1|with_reducible exact Keeps.ovr _ _ _|refine Keeps.put ?_ rfl _|exact k_1|exact Keeps.ovr _ _ _|refine Keeps.ovr2 ?_ rfl _))
theorem note_s2 {w w1:World} {b:Nat} {hp:Addr} {t1:BS} {fp1 F fr:List Nat} {vr:Value} {n i:Nat} {refs:List Int} {ρ:Env} {kk:List XI} {R:Value→World→Prop} (e0:ρ 0=.pointer (some ⟨b,0,none⟩)) (e2:ρ 2=.int .i64 (i:Int)) (e3:ρ 3=vr)
  (h1:BM w1 b hp t1 fp1) (hr1:Sl w1 1 vr n (ints refs) fr) (hi:i<n) (o1:Only F w w1) (hs1: ∀y,y∈fp1→y∈F∨w.heap.size≤y) (hS:t1.S.length≤90000)
  (hkk: ∀ρ' w',Keeps (30::31::32::33::34::35::36::37::[]) ρ ρ'→(Only F w w'∧ ∃fp',BM w' b hp (t1.note2 (refs.getD i 0)) fp'∧ ∀y,y∈fp'→y∈F∨w.heap.size≤y)→Run Tryz.prog fx_barrier_Barrier_note kk ρ' w' R):
  Run Tryz.prog fx_barrier_Barrier_note (.code (sq1 (sq2 x_barrier_Barrier_note))::kk) ρ w1 R:=by
 have hrl:refs.length=n:=by have:=hr1.1;rw[ints_length]at this;omega
 have hz1:=o1.size
 obtain⟨gr,cr,yr,rfl,hatr,rfl,_⟩:=hr1.pos (by omega)
 have hrc:w1.cell? ⟨gr,i,none⟩=some (.int .i64 (refs.getD i 0)):=by rw[hatr.cell];exact ints_append_get yr (by omega)
 unfold x_barrier_Barrier_note
 simp only[sq1,sq2]
 (repeat(first|with_reducible(first|refine nx ?_|refine r_6 rfl ?_)|simp only[go_sem,e0]))
 refine callT0 (h1.isT 8) ?_
 cases hk:isB t1.kinds 8 with
 |false=>
  (repeat(first|with_reducible(first|refine nx ?_|refine r_6 rfl ?_)|simp only[go_sem]))
  refine hkk _ w1 ?_ ⟨o1,fp1,by unfold BS.note2;rw[hk];exact h1,hs1⟩
  (repeat(first|with_reducible exact k_1|with_reducible exact Keeps.ovr _ _ _|refine Keeps.put ?_ rfl _|exact k_1|exact Keeps.ovr _ _ _|refine Keeps.ovr2 ?_ rfl _))
 |true=>
  (repeat(first|with_reducible(first|refine nx ?_|refine r_6 rfl ?_)|simp only[go_sem,e0,e2,e3,if_pos (show(0:Int)≤(i:Int)∧(i:Int)<(n:Int) by omega),Int.toNat_natCast,Nat.mul_one,hrc]))
  refine callT (h1.shade (by omega) (refs.getD i 0)) ?_
  rintro v w2 ⟨rfl,ho2,fp2,h2,hs2⟩
  (repeat(first|with_reducible(first|refine nx ?_|refine r_6 rfl ?_)|simp only[go_sem]))
  refine hkk _ w2 ?_ ⟨o1.trans ho2 hs1,fp2,by unfold BS.note2;rw[hk];exact h2,fun y hy=>?_⟩
  ·(repeat(first|with_reducible exact k_1|with_reducible exact Keeps.ovr _ _ _|refine Keeps.put ?_ rfl _|exact k_1|exact Keeps.ovr _ _ _|refine Keeps.ovr2 ?_ rfl _))
  ·rcases hs2 y hy with h|h
   ·exact hs1 y h
   ·exact .inr (by omega)
theorem note_s3 {w w2:World} {b:Nat} {hp:Addr} {t2:BS} {fp2 F:List Nat} {x i:Nat} {ρ:Env} {kk:List XI} {R:Value→World→Prop} (e0:ρ 0=.pointer (some ⟨b,0,none⟩)) (e1:ρ 1=.int .i64 (x:Int)) (e2:ρ 2=.int .i64 (i:Int))
  (h2:BM w2 b hp t2 fp2) (hx:x≤100000) (hi:i≤100000) (ho2:Only F w w2) (hs2: ∀y,y∈fp2→y∈F∨w.heap.size≤y)
  (hkk: ∀ρ' w',Keeps (38::39::40::41::42::43::44::45::46::47::48::49::[]) ρ ρ'→(Only F w w'∧ ∃fp',BM w' b hp (t2.note3 (((x+2+i)/8:Nat):Int)) fp'∧ ∀y,y∈fp'→y∈F∨w.heap.size≤y)→Run Tryz.prog fx_barrier_Barrier_note kk ρ' w' R):
  Run Tryz.prog fx_barrier_Barrier_note (.code (sq1 (sq2 (sq2 x_barrier_Barrier_note)))::kk) ρ w2 R:=by
 have g1:IntKind.i64.wrap ((x:Int)+2)=((x+2:Nat):Int):=by rw[IntWalk.i64_in _ (by omega)];omega
 have g2:IntKind.i64.wrap (((x+2:Nat):Int)+(i:Int))=((x+2+i:Nat):Int):=by rw[IntWalk.i64_in _ (by omega)];omega
 have g3:IntKind.i64.wrap (((x+2+i:Nat):Int).tdiv 8)=(((x+2+i)/8:Nat):Int):=by rw[Int.tdiv_eq_ediv_of_nonneg (by omega),IntWalk.i64_in _ (by omega)];omega
 obtain⟨bd,hc,hput⟩:=h2.putD
 unfold x_barrier_Barrier_note
 simp only[sq1,sq2]
 (repeat(first|with_reducible(first|refine nx ?_|refine r_6 rfl ?_)|simp only[go_sem,e0]))
 refine callT0 (h2.isT 1) ?_
 cases hk:isB t2.kinds 1 with
 |false=>
  (repeat(first|with_reducible(first|refine nx ?_|refine r_6 rfl ?_)|simp only[go_sem]))
  refine hkk _ w2 ?_ ⟨ho2,fp2,by unfold BS.note3;rw[hk];exact h2,hs2⟩
  (repeat(first|with_reducible exact k_1|with_reducible exact Keeps.ovr _ _ _|refine Keeps.put ?_ rfl _|exact k_1|exact Keeps.ovr _ _ _|refine Keeps.ovr2 ?_ rfl _))
 |true=>
  (repeat(first|with_reducible(first|refine nx ?_|refine r_6 rfl ?_)|simp only[go_sem,e0,e1,e2,hc,g1,g2,g3]))
  refine callT (hput (((x+2+i)/8:Nat):Int)) ?_
  rintro v w3 ⟨rfl,ho3,h3⟩
  (repeat(first|with_reducible(first|refine nx ?_|refine r_6 rfl ?_)|simp only[go_sem]))
  refine hkk _ w3 ?_ ⟨ho2.trans ho3 hs2,fp2,by unfold BS.note3;rw[hk];exact h3,hs2⟩
  (repeat(first|with_reducible exact k_1|with_reducible exact Keeps.ovr _ _ _|refine Keeps.put ?_ rfl _|exact k_1|exact Keeps.ovr _ _ _|refine Keeps.ovr2 ?_ rfl _))
theorem note_s5 {w w4:World} {b:Nat} {hp:Addr} {t4:BS} {fp4 F:List Nat} {now:Int} {ρ:Env} (e0:ρ 0=.pointer (some ⟨b,0,none⟩)) (e4:ρ 4=.int .i64 now)
  (h4:BM w4 b hp t4 fp4) (ho4:Only F w w4) (hs4: ∀y,y∈fp4→y∈F∨w.heap.size≤y) (hS:t4.S.length≤100000):
  Run Tryz.prog fx_barrier_Barrier_note [.code (sq2 (sq2 (sq2 (sq2 x_barrier_Barrier_note))))] ρ w4 (fun v w'=>v=.tuple #[]∧Only F w w'∧ ∃fp',BM w' b hp (t4.note5 now) fp'∧ ∀y,y∈fp'→y∈F∨w.heap.size≤y):=by
 have hz4:=ho4.size
 unfold x_barrier_Barrier_note
 simp only[sq1,sq2]
 (repeat(first|with_reducible(first|refine nx ?_|refine r_6 rfl ?_)|simp only[go_sem,e0]))
 refine callT0 (h4.isT 4) ?_
 cases hk:isB t4.kinds 4 with
 |false=>
  (repeat(first|with_reducible(first|refine nx ?_|refine r_6 rfl ?_)|simp only[go_sem]))
  exact⟨ho4,fp4,by unfold BS.note5;rw[hk];exact h4,hs4⟩
 |true=>
  (repeat(first|with_reducible(first|refine nx ?_|refine r_6 rfl ?_)|simp only[go_sem,e0,e4]))
  refine callT (h4.shade hS now) ?_
  rintro v w5 ⟨rfl,ho5,fp5,h5,hs5⟩
  (repeat(first|with_reducible(first|refine nx ?_|refine r_6 rfl ?_)|simp only[go_sem]))
  refine⟨ho4.trans ho5 hs4,fp5,by unfold BS.note5;rw[hk];exact h5,fun y hy=>?_⟩
  rcases hs5 y hy with h|h
  ·exact hs4 y h
  ·exact .inr (by omega)
theorem BM.noteT {w:World} {b:Nat} {hp:Addr} {t:BS} {fp fh fr:List Nat} {m:HO} {vr:Value} {n:Nat} {refs:List Int} (h:BM w b hp t fp) (hh:HR w (some hp) fh m) (hd: ∀y,y∈fh→y∉fp++fr) (hr:Sl w 1 vr n (ints refs) fr) (hrd: ∀y,y∈fr→y∉fp) (x i:Nat) (hx:x≤100000) (hi:i<n) (hn:n≤1000) (now:Int) (hn0:0≤now) (hn1:now≤4611686018427387904) (hS:t.S.length≤90000) (hL:t.L.length≤90000):
  Cs Tryz.prog 71 [.pointer (some ⟨b,0,none⟩),.int .i64 (x:Int),.int .i64 (i:Int),vr,.int .i64 now] w fun v w'=>v=.tuple #[]∧Only (fp++fr) w w'∧ ∃fp',BM w' b hp (t.note m x i refs now) fp'∧ ∀y,y∈fp'→y∈fp++fr∨w.heap.size≤y:=by
 have hrl:refs.length=n:=by have:=hr.1;rw[ints_length]at this;omega
 have hlt0:=h.lt
 have hltr:=hr.lt
 have hlth:=hh.lt
 have h0:=h
 have hz:w.heap.size≤w.heap.size:=Nat.le_refl _
 refine enter_barrier_Barrier_note rfl ?_
 unfold x_barrier_Barrier_note
 simp only[go_sem]
 refine run_seq ?_
 refine run_cut (10::11::12::13::14::15::16::17::18::19::20::21::22::23::24::25::26::27::28::29::[]) (fun _ w'=>Only fp w w'∧ ∃fp',BM w' b hp (t.note1 x refs) fp'∧ ∀y,y∈fp'→y∈fp++fr∨w.heap.size≤y) (fun kk hkk=>note_s1 (by simp only[go_sem]) (by simp only[go_sem]) (by simp only[go_sem]) h hr hrd hn hS hL hkk) (fun g1 w1 hJ=>?_)
 obtain⟨ho1,fp1,h1,hs1⟩:=hJ
 have k1c:=(BS.note1_k t x refs).2.2.1
 refine run_seq ?_
 refine run_cut (30::31::32::33::34::35::36::37::[]) (fun _ w'=>Only (fp++fr) w w'∧ ∃fp',BM w' b hp ((t.note1 x refs).note2 (refs.getD i 0)) fp'∧ ∀y,y∈fp'→y∈fp++fr∨w.heap.size≤y) (fun kk hkk=>note_s2 (by simp only[go_sem]) (by simp only[go_sem]) (by simp only[go_sem]) h1 (hr.keep ho1 hrd) hi (ho1.weakT fun y hy=>by simp[hy]) hs1 (by rw[k1c];exact hS) hkk) (fun g2 w2 hJ=>?_)
 obtain⟨ho2,fp2,h2,hs2⟩:=hJ
 have k2c:=(BS.note2_k (t.note1 x refs) (refs.getD i 0)).2.2.1
 refine run_seq ?_
 refine run_cut (38::39::40::41::42::43::44::45::46::47::48::49::[]) (fun _ w'=>Only (fp++fr) w w'∧ ∃fp',BM w' b hp (((t.note1 x refs).note2 (refs.getD i 0)).note3 (((x+2+i)/8:Nat):Int)) fp'∧ ∀y,y∈fp'→y∈fp++fr∨w.heap.size≤y) (fun kk hkk=>note_s3 (by simp only[go_sem]) (by simp only[go_sem]) (by simp only[go_sem]) h2 hx (by omega) ho2 hs2 hkk) (fun g3 w3 hJ=>?_)
 obtain⟨ho3,fp3,h3,hs3⟩:=hJ
 have k3c:=(BS.note3_k ((t.note1 x refs).note2 (refs.getD i 0)) (((x+2+i)/8:Nat):Int)).2.2.1
 refine run_seq ?_
 refine run_cut (50::51::52::53::54::55::56::57::58::59::60::61::62::63::64::65::66::67::68::[]) (fun _ w'=>Only (fp++fr) w w'∧ ∃fp',BM w' b hp (BS.note4 m (((t.note1 x refs).note2 (refs.getD i 0)).note3 (((x+2+i)/8:Nat):Int)) x now) fp'∧ ∀y,y∈fp'→y∈fp++fr∨w.heap.size≤y) (fun kk hkk=>note_s4 (by simp only[go_sem]) (by simp only[go_sem]) (by simp only[go_sem]) h3 (hh.keep ho3 hd) hx hn0 hn1 ho3 hs3 hkk) (fun g4 w4 hJ=>?_)
 obtain⟨ho4,fp4,h4,hs4⟩:=hJ
 have k4c:=(BS.note4_k m (((t.note1 x refs).note2 (refs.getD i 0)).note3 (((x+2+i)/8:Nat):Int)) x now).2.2.1
 exact note_s5 (by simp only[go_sem]) (by simp only[go_sem]) h4 ho4 hs4 (by rw[k4c,k3c];rw[k1c]at k2c;omega)
end Go.Proofs.YtgcofabdialaaaaGreat
end
section
namespace Go.Proofs.YtgcofabdialaaaaGreat
set_option maxRecDepth 8000
def posO:List Ob→Int→Nat
 | [],_=>0
 |o::O,a=>if o.a<a then posO O a+1 else 0
theorem posO_le: ∀(O:List Ob) (a:Int),posO O a≤O.length
 | [],_=>Nat.le_refl _
 |o::O,a=>by
  unfold posO
  split
  ·have:=posO_le O a;simp only[List.length_cons];omega
  ·omega
theorem posO_at: ∀ {O:List Ob} {a:Int} {k:Nat},k≤O.length→(∀j,j<k→(O.getD j default).a<a)→(k<O.length→ ¬(O.getD k default).a<a)→posO O a=k
 | [],a,k,h,_,_=>by simp at h;subst h;rfl
 |o::O,a,0,_,_,h=>by
  have:=h (by simp)
  simp only[List.getD_cons_zero]at this
  unfold posO;rw[if_neg this]
 |o::O,a,k+1,hl,h1,h2=>by
  have:=h1 0 (by omega)
  simp only[List.getD_cons_zero]at this
  unfold posO
  rw[if_pos this,posO_at (k:=k) (by simpa using hl) (fun j hj=>by have:=h1 (j+1) (by omega);simpa using this) fun hk=>by have:=h2 (by simpa using hk);simpa using this]
def RL.putM (s:RL) (o:Ob):RL:= {s with O:=s.O.take (posO s.O o.a)++[o]++s.O.drop (posO s.O o.a)}
theorem RL.Ok.put {s:RL} (h:s.Ok) {o:Ob} (ho:o.Ok s.B.length) (hl:s.O.length<2048):(s.putM o).Ok:=by
 have:=posO_le s.O o.a
 refine⟨h.b2,h.b64,by simp only[RL.putM,List.length_append,List.length_take,List.length_drop,List.length_singleton];omega,fun p hp=>?_⟩
 simp only[RL.putM,List.mem_append,List.mem_singleton]at hp
 rcases hp with(hp|rfl)|hp
 ·exact h.ob p (List.mem_of_mem_take hp)
 ·exact ho
 ·exact h.ob p (List.mem_of_mem_drop hp)
theorem omF_ins {L:List OM} {m:OM} {k:Nat} (h1:(omF L).Nodup) (h2:(m.fr++m.fd).Nodup) (h3: ∀x,x∈m.fr++m.fd→x∉omF L):(omF (L.take k++[m]++L.drop k)).Nodup:=by
 have hp:(omF (L.take k++[m]++L.drop k)).Perm ((m.fr++m.fd)++omF L):=by
  rw[omF_append,omF_append]
  have e:omF L=omF (L.take k)++omF (L.drop k):=by rw[←omF_append,List.take_append_drop]
  have e1:omF [m]=m.fr++m.fd:=by simp[omF]
  rw[e,e1]
  have:=(List.perm_append_comm (l₁:=omF (L.take k)) (l₂:=m.fr++m.fd)).append_right (omF (L.drop k))
  simpa[List.append_assoc]using this
 refine(hp.nodup_iff).2 ?_
 rw[List.nodup_append]
 exact⟨h2,h1,fun x hx y hy e=>by subst e;exact h3 x hx hy⟩
theorem fPut {w:World} {b:Nat} {s:RL} {vB vO vF:Value} {fB fO fF:List Nat} {L:List OM} (hm:FMs w b s vB vO vF fB fO fF L) (m:OM) (hmo:m.o.Ok s.B.length) (hl:s.O.length<2048) (hok:m.ok w) (hown:(m.fr++m.fd).Nodup) (hnew: ∀x,x∈m.fr++m.fd→x∉b::(fB++(fO++(fF++omF L)))):
  Cs Tryz.prog 210 [.pointer (some ⟨b,0,none⟩),.agg ⟨m.V⟩] w fun v w'=>v=.tuple #[]∧Only [b] w w'∧ ∃fp',FM w' b (s.putM m.o) fp'∧ ∀y,y∈fp'→y∈b::(fB++(fO++(fF++omF L)))∨y∈m.fr++m.fd∨w.heap.size≤y:=by
 have hlen:=hm.len
 obtain⟨n1,n2,n3,n4,n5,n6,n7,n8⟩:=nd4 hm.nd
 have hlt:=hm.lt
 obtain⟨ao,co,hvO⟩:=hm.valO
 refine enter_ref02_Heap_put rfl ?_
 unfold x_ref02_Heap_put
 (repeat(first|with_reducible(first|refine nx ?_|refine r_6 rfl ?_)|simp only[go_sem]))
 refine boxT fun q w1 hq hs1 hat1 ho1=>?_
 have hat1':At w1 q m.V:=hat1
 have c0: ∀w2,Only [] w1 w2→w2.cell? ⟨q,0,none⟩=some (.int .i64 m.o.a):=fun w2 k=>by rw[(hat1'.keep0 k).cell];rfl
 (repeat(first|with_reducible(first|refine nx ?_|refine r_6 rfl ?_)|simp only[go_sem]))
 refine run_loop (4::6::7::8::9::10::11::12::13::14::15::16::17::18::19::20::21::22::23::24::25::26::27::[]) (fun g w'=> ∃i:Nat,g 4=.int .i64 (i:Int)∧i≤L.length∧(∀j,j<i→(s.O.getD j default).a<m.o.a)∧Only [] w1 w') (fun g _=>upTo L.length 4 g)
  ⟨0,by simp only[go_sem];rfl,by omega,fun j hj=>absurd hj (by omega),Only.refl _ _⟩ fun g w2 hI hnext=>?_
 obtain⟨i,h4,hi,hno,ho2⟩:=hI
 have o2:=ho1.nil ho2
 have h2:=(hm.keep0 o2).keep0 (Only.drew [] w2)
 have od:=ho2.nil (Only.drew [] w2)
 have stop:(i<L.length→ ¬(s.O.getD i default).a<m.o.a)→posO s.O m.o.a=i:=fun h=>posO_at (by omega) hno fun h'=>h (by omega)
 refine run_seq (run_seq ?_)
 refine run_cut (6::7::8::9::10::11::12::13::14::15::16::17::18::19::20::21::22::23::24::25::[]) (fun ρ' w'=>ρ' 25=.bool (decide (i<L.length)&&decide ((s.O.getD i default).a<m.o.a))∧w'=w2.drew) (fun kk hkk=>?_) (fun g' w3 hJ=>?_)
 ·by_cases hlt':i<L.length
  ·obtain⟨g8,cap,ys,e1,hat,_,_⟩:=h2.row (by omega)
   have e2:(0:Int)≤(i:Int)∧(i:Int)<(L.length:Int):=⟨by omega,by omega⟩
   have hc:w2.drew.cell? ⟨g8,i*8,none⟩=some (.int .i64 (s.O.getD i default).a):=by
    have:=omV_cell (j:=0) ys hlt' (by omega)
    rw[hat.cell,←Nat.add_zero (i*8),this,h2.getO hlt'];rfl
   (repeat(first|with_reducible(first|refine nx ?_|refine r_6 rfl ?_)|simp only[go_sem,h4,h2.hb.cell,hvO,decide_eq_true (show(i:Int)<(L.length:Int)from e2.2)]))
   have e1':=e1
   rw[hvO]at e1'
   cases e1'
   (repeat(first|with_reducible(first|refine nx ?_|refine r_6 rfl ?_)|simp only[go_sem,if_pos e2,Int.toNat_natCast,hc,c0 _ od]))
   refine hkk _ _ ?_ ⟨?_,rfl⟩
   ·(repeat(first|with_reducible exact k_1|with_reducible exact Keeps.ovr _ _ _|refine Keeps.put ?_ rfl _|exact k_1|exact Keeps.ovr _ _ _|refine Keeps.ovr2 ?_ rfl _))
   ·simp only[go_sem]
    simp[hlt']
  ·(repeat(first|with_reducible(first|refine nx ?_|refine r_6 rfl ?_)|simp only[go_sem,h4,h2.hb.cell,hvO,decide_eq_false (show¬(i:Int)<(L.length:Int) by omega)]))
   refine hkk _ _ ?_ ⟨?_,rfl⟩
   ·(repeat(first|with_reducible exact k_1|with_reducible exact Keeps.ovr _ _ _|refine Keeps.put ?_ rfl _|exact k_1|exact Keeps.ovr _ _ _|refine Keeps.ovr2 ?_ rfl _))
   ·simp only[go_sem]
    simp[hlt']
 obtain⟨h25,rfl⟩:=hJ
 refine run_condT ?_
 simp only[go_sem,h25]
 refine condT (fun ht=>?_) (fun hf=>?_)
 ·simp only[Bool.and_eq_true,decide_eq_true_eq]at ht
  (repeat(first|with_reducible(first|refine nx ?_|refine r_6 rfl ?_)|simp only[go_sem,h4,i64_succ i (by omega)]))
  refine hnext _ w2.drew ?_ ⟨i+1,?_,by omega,fun j hj=>?_,od⟩ ?_
  ·(repeat(first|with_reducible exact k_1|with_reducible exact Keeps.ovr _ _ _|refine Keeps.put ?_ rfl _|exact k_1|exact Keeps.ovr _ _ _|refine Keeps.ovr2 ?_ rfl _))
  ·simp only[go_sem]
  ·by_cases e:j=i
   ·subst e;exact ht.2
   ·exact hno j (by omega)
  ·rw[upTo_int h4,upTo_int (k:=.i64) (i:=i+1) (by simp only[go_sem])];omega
 have hpos:posO s.O m.o.a=i:=stop fun h h'=>by
  rw[decide_eq_true h,decide_eq_true h']at hf;cases hf
 have hone: ∀M:List OM,(∀m,m∈M→m∈L)→ ∀u,u∈omV M→oneC u=true:=fun M hM=>omV_one fun m hm'=>(hm.om m (hM m hm')).one
 have o3:Only [] w w2.drew:=o2.nil (Only.drew [] w2)
 have hm8: ∀w',Only [] w w'→cellsAt w' ⟨q,0,none⟩ 8=some m.V→True:=fun _ _ _=>trivial
 clear hm8
 -- the three parts
 obtain⟨v1,e1,s1⟩: ∃v1,slcO 8 vO none (some (.int .i64 (i:Int)))=some v1∧SrcIs w2.drew 8 v1 i (omV (L.take i)):=by
  by_cases h0:0<L.length
  ·obtain⟨g8,cap,ys,e1,hat,_,hcap⟩:=h2.row h0
   subst e1
   obtain⟨v1,e1,s1⟩:=slc_head (k:=.i64) hat (omV_len L) hi hcap
   rw[omV_take]at s1
   exact⟨v1,e1,s1⟩
  ·have:L=[]:=List.eq_nil_of_length_eq_zero (by omega)
   subst this
   have:i=0:=by simpa using hi
   subst this
   rcases hm.hO.2 with⟨rfl,_,_⟩|⟨g8,cap,ys,T,rfl,_,h3,h5,_⟩
   ·exact⟨.slice none 0 0,rfl,rfl,.inl ⟨0,rfl,rfl⟩⟩
   ·obtain⟨v1,e1,s1⟩:=slc_head (k:=.i64) (n:=0) (h:=0) (sz:=8) (xs:=[]) (ys:=ys) (At.keep0 ⟨T,h3⟩ o3) rfl (Nat.le_refl _) (Nat.zero_le cap)
    exact⟨v1,e1,by simpa[omV]using s1⟩
 (repeat(first|with_reducible(first|refine nx ?_|refine r_6 rfl ?_)|simp only[go_sem,h2.hb.cell,h4,e1]))
 refine appT (sz:=8) (Sl.nil8 _) s1 (hone _ fun m hm'=>List.mem_of_mem_take hm') (by omega) (by omega) ?_
 intro v4 w4 f4 hs4 hf4 ho4 _
 have o4:=o3.nil ho4
 have hf4': ∀y,y∈f4→w1.heap.size≤y:=fun y hy=>by
  have:=od.size
  rcases hf4 with rfl|rfl
  ·cases hy
  ·simp only[List.mem_singleton]at hy;omega
 have hc8:cellsAt w4 ⟨q,0,none⟩ 8=some m.V:=cellsAt_at (hat1'.keep0 (od.nil ho4)) 0 8 (by rw[OM.V_len];omega)
 (repeat(first|with_reducible(first|refine nx ?_|refine r_6 rfl ?_)|simp only[go_sem,hc8]))
 rw[fillL_ag (n:=8) rfl rfl]
 (repeat(first|with_reducible(first|refine nx ?_|refine r_6 rfl ?_)|simp only[go_sem]))
 refine bslT fun q5 w5 hq5 hs5 hat5 ho5=>?_
 (repeat(first|with_reducible(first|refine nx ?_|refine r_6 rfl ?_)|simp only[go_sem]))
 rw[setL_8]at hat5
 refine appT (sz:=8) (hs4.keep0 ho5) (SrcIs.at (m:=1) hat5 rfl) (V_one hok) (by omega) (by omega) ?_
 intro v6 w6 f6 hs6 hf6 ho6 _
 have hf6': ∀y,y∈f6→w1.heap.size≤y:=fun y hy=>by
  have:=od.size
  have:=ho4.size
  have:=ho5.size
  rcases hf6 with rfl|rfl
  ·exact hf4' y hy
  ·simp only[List.mem_singleton]at hy;omega
 have hw1:=ho1.size
 have o6:Only [] w w6:=(o4.nil ho5).trans ho6 fun y hy=>.inr (by have:=hf4' y hy;omega)
 obtain⟨v7,e7,s7⟩: ∃v7,slcO 8 vO (some (.int .i64 (i:Int))) none=some v7∧SrcIs w6 8 v7 (L.length-i) (omV (L.drop i)):=by
  by_cases h0:0<L.length
  ·obtain⟨g8,cap,ys,e1,hat,_,hcap⟩:=(hm.keep0 o6).row h0
   subst e1
   obtain⟨v1,e1,s1⟩:=slc_tail (k:=.i64) hat (omV_len L) hi hcap
   rw[omV_drop]at s1
   exact⟨v1,e1,s1⟩
  ·have:L=[]:=List.eq_nil_of_length_eq_zero (by omega)
   subst this
   have:i=0:=by simpa using hi
   subst this
   rcases hm.hO.2 with⟨rfl,_,_⟩|⟨g8,cap,ys,T,rfl,_,h3,h5,_⟩
   ·exact⟨.slice none 0 0,rfl,rfl,.inl ⟨0,rfl,rfl⟩⟩
   ·obtain⟨v1,e1,s1⟩:=slc_tail (k:=.i64) (n:=0) (l:=0) (sz:=8) (xs:=[]) (ys:=ys) (At.keep0 ⟨T,h3⟩ o6) rfl (Nat.le_refl _) (Nat.zero_le cap)
    exact⟨v1,e1,by simpa[omV]using s1⟩
 (repeat(first|with_reducible(first|refine nx ?_|refine r_6 rfl ?_)|simp only[go_sem,(hm.keep0 o6).hb.cell,h4,e7]))
 refine appT (sz:=8) hs6 s7 (hone _ fun m hm'=>List.mem_of_mem_drop hm') (by omega) (by omega) ?_
 intro v8 w8 f8 hs8 hf8 ho8 _
 have hf8': ∀y,y∈f8→w1.heap.size≤y:=fun y hy=>by
  have:=od.size
  have:=ho4.size
  have:=ho5.size
  have:=ho6.size
  rcases hf8 with rfl|rfl
  ·exact hf6' y hy
  ·simp only[List.mem_singleton]at hy;omega
 have o8:Only [] w w8:=o6.trans ho8 fun y hy=>.inr (by have:=hf6' y hy;omega)
 (repeat(first|with_reducible(first|refine nx ?_|refine r_6 rfl ?_)|simp only[go_sem]))
 refine stT (hm.hb.keep0 o8) (by simp) hs8.oneC' fun w9 hs9 hb9 ho9=>?_
 simp only[List.set_cons_zero,List.set_cons_succ]at hb9
 (repeat(first|with_reducible(first|refine nx ?_|refine r_6 rfl ?_)|simp only[go_sem]))
 have hlen':(L.take i++[m]++L.drop i).length=0+i+1+(L.length-i):=by simp only[List.length_append,List.length_take,List.length_drop,List.length_singleton];omega
 have hO:Sl w8 8 v8 (L.take i++[m]++L.drop i).length (omV (L.take i++[m]++L.drop i)) f8:=by
  have e1:omV [m]=m.V:=by simp[omV]
  rw[hlen',omV_append,omV_append,e1]
  simpa[List.append_assoc]using hs8
 have hlto: ∀y,y∈m.fr++m.fd→y<w.heap.size:=fun y hy=>by
  rcases List.mem_append.1 hy with h|h
  ·exact hok.r.lt y h
  ·exact hok.d.lt y h
 have ha: ∀y,y∈m.fr++m.fd→y≠b∧y∉fB∧y∉fO∧y∉fF∧y∉omF L:=fun y hy=>by
  have:=hnew y hy
  simpa[not_or]using this
 have hput:s.putM m.o= {s with O:=s.O.take i++[m.o]++s.O.drop i}:=by unfold RL.putM;rw[hpos]
 have hmo':(s.putM m.o).Ok:=hm.ok.put hmo hl
 have hn':=omF_ins (k:=i) n5 hown fun x hx=>(ha x hx).2.2.2.2
 obtain⟨f1,f2,f3,f5⟩:True∧True∧True∧True:=⟨trivial,trivial,trivial,trivial⟩
 have hx: ∀y,y∈omF (L.take i++[m]++L.drop i)→y∈omF L∨y∈m.fr++m.fd:=fun y hy=>by
  rw[omF_append,omF_append,List.mem_append,List.mem_append]at hy
  have e1:omF [m]=m.fr++m.fd:=by simp[omF]
  rw[e1]at hy
  have e:omF L=omF (L.take i)++omF (L.drop i):=by rw[←omF_append,List.take_append_drop]
  rcases hy with(hy|hy)|hy
  ·left;rw[e];exact List.mem_append.2 (.inl hy)
  ·exact .inr hy
  ·left;rw[e];exact List.mem_append.2 (.inr hy)
 have hx': ∀y,y∈omF (L.take i++[m]++L.drop i)→y<w.heap.size∧y≠b∧y∉fB∧y∉fF:=fun y hy=>by
  rcases hx y hy with h|h
  ·exact⟨hlt y (by simp[h]),n1 y (.inr (.inr (.inr h))),fun h'=>(n2 y h').2.2 h,fun h'=>n4 y h' h⟩
  ·exact⟨hlto y h,(ha y h).1,(ha y h).2.1,(ha y h).2.2.2.1⟩
 have hltb:b<w.heap.size:=hlt b (by simp)
 have hltB: ∀y,y∈fB→y<w.heap.size:=fun y hy=>hlt y (by simp[hy])
 have hltF: ∀y,y∈fF→y<w.heap.size:=fun y hy=>hlt y (by simp[hy])
 refine⟨o8.of_nil.same ho9,b::(fB++(f8++(fF++omF (L.take i++[m]++L.drop i)))),⟨vB,v8,vF,fB,f8,fF,L.take i++[m]++L.drop i,rfl,?_⟩,?_⟩
 ·refine⟨hmo',?_,(hm.hB.keep0 o8).keep ho9 fun y hy=>off1 (n1 y (.inl hy)),hO.keep ho9 fun y hy=>off1 (by have:=hf8' y hy;omega),(hm.hF.keep0 o8).keep ho9 fun y hy=>off1 (n1 y (.inr (.inr (.inl hy)))),?_,fun m' hm'=>?_,nd4_mk ?_ ?_ ?_ ?_ hn' hO.nodup n7 n8⟩
  ·rw[hput];exact hb9
  ·rw[hput];simp only[hm.eq,List.map_append,List.map_take,List.map_drop,List.map_cons,List.map_nil]
  ·have hne: ∀y,y∈m'.fr∨y∈m'.fd→y≠b:=fun y hy=>(hx' y (mem_omF hm' hy)).2.1
   have:m'.ok w:=by
    simp only[List.mem_append,List.mem_singleton]at hm'
    rcases hm' with(h|rfl)|h
    ·exact hm.om _ (List.mem_of_mem_take h)
    ·exact hok
    ·exact hm.om _ (List.mem_of_mem_drop h)
   exact(this.keep0 o8).keep ho9 fun y hy=>off1 (hne y hy)
  ·rintro y (hy|hy|hy|hy)
   ·exact n1 y (.inl hy)
   ·have:=hf8' y hy;omega
   ·exact n1 y (.inr (.inr (.inl hy)))
   ·exact(hx' y hy).2.1
  ·exact fun y hy=>⟨fun h=>by have:=hf8' y h;have:=hltB y hy;omega,(n2 y hy).2.1,fun h=>(hx' y h).2.2.1 hy⟩
  ·exact fun y hy=>⟨fun h=>by have:=hf8' y hy;have:=hltF y h;omega,fun h=>by have:=hf8' y hy;have:=(hx' y h).1;omega⟩
  ·exact fun y hy h=>(hx' y h).2.2.2 hy
 ·intro y hy
  simp only[List.mem_cons,List.mem_append]at hy⊢
  rcases hy with rfl|hy|hy|hy|hy
  ·exact .inl (.inl rfl)
  ·exact .inl (.inr (.inl hy))
  ·exact .inr (.inr (by have:=hf8' y hy;omega))
  ·exact .inl (.inr (.inr (.inr (.inl hy))))
  ·rcases hx y hy with h|h
   ·exact .inl (.inr (.inr (.inr (.inr h))))
   ·exact .inr (.inl (List.mem_append.1 h))
end Go.Proofs.YtgcofabdialaaaaGreat
end
section
namespace Go.Proofs.YtgcofabdialaaaaGreat
set_option maxRecDepth 8000
def RL.hl (s:RL):HL:=⟨s.B,[],[],[],[],[],0⟩
def overB (a words but:Int) (o:Ob):Bool:=(o.id !=but&&decide (o.a<a+words))&&decide (a<o.a+wordsS o.sh)
def RL.fitsR (s:RL) (a:Int) (sh:Sh) (but:Int):Int:=if a<0∨a%2≠0∨((64*s.B.length:Nat):Int)≤a then 1 else if wrongB s.hl a (wordsS sh)=true then 5 else if s.O.any (overB a (wordsS sh) but)=true then 8 else 0
theorem fWhole {w:World} {b:Nat} {s:RL} {fp:List Nat} (h:FM w b s fp) (k:Nat) (hk:k<s.B.length) (h2:(s.B.getD k (0,0)).1=2):
  Cs Tryz.prog 236 [.pointer (some ⟨b,0,none⟩),.int .i64 (k:Int)] w fun v w'=>v=.int .i64 (s.hl.span k:Nat)∧w'=w:=by
 obtain⟨vB,vO,vF,fB,fO,fF,L,hfp,h⟩:=h
 have hB:=h.ok.b64
 obtain⟨g,cap,ys,rfl,hat,_,_⟩:=h.blk
 have hsp:s.hl.span k=tails s.B k s.B.length 1:=by unfold HL.span;rw[if_pos (show(s.hl.B.getD k (0,0)).1=2 from h2)];rfl
 have e1:(0:Int)≤(k:Int)∧(k:Int)<(s.B.length:Int):=⟨by omega,by omega⟩
 refine enter_ref02_Heap_Whole rfl ?_
 unfold x_ref02_Heap_Whole
 (repeat(first|with_reducible(first|refine nx ?_|refine r_6 rfl ?_)|simp only[go_sem,h.hb.cell,hat.cell,if_pos e1,Int.toNat_natCast,(blk_at ys hk).1,beq_int_false (show¬(s.B.getD k (0,0)).1=1 by omega),bne_int_false h2]))
 refine run_loop (5::24::25::26::27::28::29::30::31::32::33::34::35::36::37::38::39::40::41::42::43::44::45::46::47::[]) (fun g w'=> ∃n:Nat,g 5=.int .i64 (n:Int)∧1≤n∧k+n≤s.B.length∧tails s.B k (s.B.length+1-n) n=tails s.B k s.B.length 1∧w'=w) (fun g _=>upTo (s.B.length+1) 5 g)
  ⟨1,by simp only[go_sem];rfl,by omega,by omega,by rw[Nat.add_sub_cancel],rfl⟩ fun g' w1 hI hnext=>?_
 obtain⟨n,h5,hn1,hn2,ht,rfl⟩:=hI
 have e2:IntKind.i64.wrap ((k:Int)+(n:Int))=((k+n:Nat):Int):=by rw[IntWalk.i64_in _ (by omega)];omega
 obtain⟨f,hf⟩: ∃f,s.B.length+1-n=f+1:=⟨s.B.length-n,by omega⟩
 rw[hf,tails]at ht
 by_cases c2:k+n<s.B.length
 rotate_left
 ·rw[if_neg (fun h=>c2 h.1)]at ht
  (repeat(first|with_reducible(first|refine nx ?_|refine r_6 rfl ?_)|simp only[go_sem,h.hb.cell,h5,e2,decide_eq_false (show¬((k+n:Nat):Int)<(s.B.length:Int) by omega)]))
  rw[hsp,ht]
 have e3:(0:Int)≤((k+n:Nat):Int)∧((k+n:Nat):Int)<(s.B.length:Int):=⟨by omega,by omega⟩
 by_cases c3:(s.B.getD (k+n) (0,0)).1=3
 rotate_left
 ·rw[if_neg (fun h=>c3 h.2)]at ht
  (repeat(first|with_reducible(first|refine nx ?_|refine r_6 rfl ?_)|simp only[go_sem,h.hb.cell,hat.cell,if_pos e3,Int.toNat_natCast,(blk_at ys c2).1,h5,e2,decide_eq_true e3.2,beq_int_false c3]))
  rw[hsp,ht]
 rw[if_pos ⟨c2,c3⟩]at ht
 (repeat(first|with_reducible(first|refine nx ?_|refine r_6 rfl ?_)|simp only[go_sem,h.hb.cell,hat.cell,if_pos e3,Int.toNat_natCast,(blk_at ys c2).1,h5,e2,decide_eq_true e3.2,beq_int_true c3,i64_succ n (by omega)]))
 refine hnext _ w1 ?_ ⟨n+1,?_,by omega,by omega,?_,rfl⟩ ?_
 ·(repeat(first|with_reducible exact k_1|with_reducible exact Keeps.ovr _ _ _|refine Keeps.put ?_ rfl _|exact k_1|exact Keeps.ovr _ _ _|refine Keeps.ovr2 ?_ rfl _))
 ·simp only[go_sem]
 ·rw[show s.B.length+1-(n+1)=f by omega];exact ht
 ·rw[upTo_int h5,upTo_int (k:=.i64) (i:=n+1) (by simp only[go_sem])];omega
theorem fFits {w:World} {b:Nat} {s:RL} {fp:List Nat} (h:FM w b s fp) (x:Int) (sh:Sh) (but:Int) (hx:x≤4611686018427387904) (hv:validS sh=true):Cs Tryz.prog 209 [.pointer (some ⟨b,0,none⟩),.int .i64 x,.agg ⟨shV sh⟩,.int .i64 but] w fun v w'=>v=.int .i64 (s.fitsR x sh but)∧Only [] w w':=by
 have h00:=h
 obtain⟨vB,vO,vF,fB,fO,fF,L,hfp,hm⟩:=h
 have hlen:=hm.len
 have hol:=hm.ok.ol
 have hB:=hm.ok.b64
 have hw:=words_le hv
 obtain⟨ao,co,hvO⟩:=hm.valO
 obtain⟨gB,capB,ysB,rfl,hatB,_,_⟩:=hm.blk
 refine enter_ref02_Heap_fits rfl ?_
 unfold x_ref02_Heap_fits
 (repeat(first|with_reducible(first|refine nx ?_|refine r_6 rfl ?_)|simp only[go_sem]))
 refine boxT fun q w1 hq hs1 hat1 ho1=>?_
 have hb1:=hm.hb.keep0 ho1
 by_cases c1:x<0
 ·(repeat(first|with_reducible(first|refine nx ?_|refine r_6 rfl ?_)|simp only[go_sem,decide_eq_true c1]))
  exact⟨by simp[RL.fitsR,c1],ho1⟩
 obtain⟨k,rfl⟩: ∃k:Nat,x=k:=⟨x.toNat,by omega⟩
 by_cases c2:k%2=0
 rotate_left
 ·(repeat(first|with_reducible(first|refine nx ?_|refine r_6 rfl ?_)|simp only[go_sem,decide_eq_false c1,tmod2 k,bne_int_true (show¬((k%2:Nat):Int)=0 by omega)]))
  refine⟨?_,ho1⟩
  unfold RL.fitsR
  rw[if_pos (.inr (.inl (by omega)))]
 have e64:IntKind.i64.wrap ((s.B.length:Int)*64)=((64*s.B.length:Nat):Int):=by rw[IntWalk.i64_in _ (by omega)];omega
 by_cases c3:64*s.B.length≤k
 ·(repeat(first|with_reducible(first|refine nx ?_|refine r_6 rfl ?_)|simp only[go_sem,decide_eq_false c1,tmod2 k,bne_int_false (show((k%2:Nat):Int)=0 by omega),hb1.cell,e64,decide_eq_true (show((64*s.B.length:Nat):Int)≤(k:Int) by omega)]))
  refine⟨?_,ho1⟩
  unfold RL.fitsR
  rw[if_pos (.inr (.inr (by omega)))]
 have hE:s.fitsR (k:Int) sh but=if wrongB s.hl (k:Int) (wordsS sh)=true then 5 else if s.O.any (overB (k:Int) (wordsS sh) but)=true then 8 else 0:=by
  unfold RL.fitsR
  rw[if_neg (by omega)]
 have hkB:k/64<s.B.length:=by omega
 have e1:(0:Int)≤((k/64:Nat):Int)∧((k/64:Nat):Int)<(s.B.length:Int):=⟨by omega,by omega⟩
 have hb:s.hl.b ((k:Int)/64)=s.B.getD (k/64) (0,0):=by unfold HL.b;congr 1
 have k64:((k:Int)/64).toNat=k/64:=by omega
 obtain⟨wn,hwn⟩: ∃n:Nat,wordsS sh=n:=⟨(wordsS sh).toNat,by omega⟩
 have e4:IntKind.i64.wrap (IntKind.i64.wrap ((k:Int)+(wn:Int))-1)=((k+wn-1:Nat):Int):=by rw[IntWalk.i64_in ((k:Int)+(wn:Int)) (by omega),IntWalk.i64_in _ (by omega)];omega
 have hcq: ∀w2,Only [] w1 w2→cellsAt w2 ⟨q,0,none⟩ 3=some (shV sh):=fun w2 k=>cellsAt_at (hat1.keep0 k) 0 3 (by simp[shV])
 (repeat(first|with_reducible(first|refine r_1 ?_|refine r_2 ?_|refine r_3 ?_|refine r_4 ?_|refine r_5 ?_|refine r_6 rfl ?_)|simp only[go_sem,decide_eq_false c1,tmod2 k,bne_int_false (show((k%2:Nat):Int)=0 by omega),hb1.cell,e64,decide_eq_false (show¬((64*s.B.length:Nat):Int)≤(k:Int) by omega)]))
 refine run_condT ?_
 simp only[go_sem]
 refine run_skip (run_seq (run_reg ?_))
 simp only[go_sem,tdiv64 k (by omega)]
 refine run_seq ?_
 refine run_cut (31::32::33::34::35::36::37::38::39::40::41::42::43::44::45::46::47::48::49::50::51::52::53::54::55::56::57::58::59::60::61::62::63::64::65::66::67::68::69::70::71::72::73::[]) (fun _ w'=>Only [] w1 w'∧wrongB s.hl (k:Int) (wordsS sh)=false) (fun kk hkk=>?_) (fun g w2 hJ=>?_)
 ·(repeat(first|with_reducible(first|refine nx ?_|refine r_6 rfl ?_)|simp only[go_sem,hcq w1 (Only.refl _ _)]))
  refine callT1 (fLarge w1 sh) fun w2 ho2=>?_
  have hm2:=(hm.keep0 ho1).keep0 ho2
  have hat2:=(hatB.keep0 ho1).keep0 ho2
  rw[hwn]
  by_cases c32:(32:Int)<(wn:Int)
  ·have bad:wrongB s.hl (k:Int) (wn:Int)=(decide ((s.B.getD (k/64) (0,0)).1≠2)||decide ((k:Int)%64≠0)||decide (((s.hl.span (k/64):Nat):Int)≠((wn:Int)+63)/64)):=by
    unfold wrongB;rw[if_neg (by omega),hb,k64]
   (repeat(first|with_reducible(first|refine nx ?_|refine r_6 rfl ?_)|simp only[go_sem,decide_eq_true c32]))
   refine run_drt [b,gB,q] ?_
   by_cases c5:k%64=0
   rotate_left
   ·(repeat(first|with_reducible(first|refine nx ?_|refine r_6 rfl ?_)|simp only[go_sem,tmod64 k,bne_int_true (show¬((k%64:Nat):Int)=0 by omega)]))
    refine⟨?_,(ho1.nil ho2).nil (Only.drew [] w2)⟩
    rw[hE,hwn,bad,decide_eq_true (show(k:Int)%64≠0 by omega)];simp
   by_cases c4:(s.B.getD (k/64) (0,0)).1=2
   rotate_left
   ·(repeat(first|with_reducible(first|refine nx ?_|refine r_6 rfl ?_)|simp only[go_sem,tmod64 k,bne_int_false (show((k%64:Nat):Int)=0 by omega),hm2.hb.drew.cell,hat2.drew.cell,if_pos e1,Int.toNat_natCast,(blk_at ysB hkB).1,bne_int_true c4]))
    refine⟨?_,(ho1.nil ho2).nil (Only.drew [] w2)⟩
    rw[hE,hwn,bad,decide_eq_true (show(s.B.getD (k/64) (0,0)).1≠2 from c4)];simp
   (repeat(first|with_reducible(first|refine nx ?_|refine r_6 rfl ?_)|simp only[go_sem,tmod64 k,bne_int_false (show((k%64:Nat):Int)=0 by omega),hm2.hb.drew.cell,hat2.drew.cell,if_pos e1,Int.toNat_natCast,(blk_at ysB hkB).1,bne_int_false c4,hcq w2.drew (ho2.nil (Only.drew [] w2))]))
   refine callS0 (fWhole (((h00.keep0 ho1).keep0 ho2).keep0 (Only.drew [] w2)) (k/64) hkB c4) (.inr (SB.refl _ _)) ?_
   (repeat(first|with_reducible(first|refine nx ?_|refine r_6 rfl ?_)|simp only[go_sem]))
   refine callS1 (fNeed w2.drew sh) (.inl rfl) fun w3 ho3=>?_
   rw[hwn]
   have e5:((wn:Int)+63)/64=(((wn+63)/64:Nat):Int):=by omega
   rw[e5]
   by_cases c6:s.hl.span (k/64)=(wn+63)/64
   rotate_left
   ·(repeat(first|with_reducible(first|refine nx ?_|refine r_6 rfl ?_)|simp only[go_sem,bne_int_true (show¬((s.hl.span (k/64):Nat):Int)=(((wn+63)/64:Nat):Int) by omega)]))
    refine⟨?_,((ho1.nil ho2).nil (Only.drew [] w2)).nil ho3⟩
    rw[hE,hwn,bad,decide_eq_true (show((s.hl.span (k/64):Nat):Int)≠((wn:Int)+63)/64 by omega)];simp
   (repeat(first|with_reducible(first|refine nx ?_|refine r_6 rfl ?_)|simp only[go_sem,bne_int_false (show((s.hl.span (k/64):Nat):Int)=(((wn+63)/64:Nat):Int) by omega)]))
   refine hkk _ _ ?_ ⟨(ho2.nil (Only.drew [] w2)).nil ho3,?_⟩
   ·(repeat(first|with_reducible exact k_1|with_reducible exact Keeps.ovr _ _ _|refine Keeps.put ?_ rfl _|exact k_1|exact Keeps.ovr _ _ _|refine Keeps.ovr2 ?_ rfl _))
   ·rw[hwn,bad,decide_eq_false (show¬(s.B.getD (k/64) (0,0)).1≠2 from fun h=>h c4),decide_eq_false (show¬(k:Int)%64≠0 by omega),decide_eq_false (show¬((s.hl.span (k/64):Nat):Int)≠((wn:Int)+63)/64 by omega)];rfl
  ·have bad:wrongB s.hl (k:Int) (wn:Int)=(decide ((s.B.getD (k/64) (0,0)).1≠1)||decide (((k:Int)+(wn:Int)-1)/64≠(k:Int)/64)):=by
    unfold wrongB;rw[if_pos (by omega),hb]
   by_cases c4:(s.B.getD (k/64) (0,0)).1=1
   rotate_left
   ·(repeat(first|with_reducible(first|refine nx ?_|refine r_6 rfl ?_)|simp only[go_sem,decide_eq_false c32,hm2.hb.cell,hat2.cell,if_pos e1,Int.toNat_natCast,(blk_at ysB hkB).1,bne_int_true c4]))
    refine⟨?_,ho1.nil ho2⟩
    rw[hE,hwn,bad,decide_eq_true (show(s.B.getD (k/64) (0,0)).1≠1 from c4)];simp
   (repeat(first|with_reducible(first|refine nx ?_|refine r_6 rfl ?_)|simp only[go_sem,decide_eq_false c32,hm2.hb.cell,hat2.cell,if_pos e1,Int.toNat_natCast,(blk_at ysB hkB).1,bne_int_false c4,hcq w2 ho2]))
   refine callT1 (fWords w2 sh) fun w3 ho3=>?_
   rw[hwn]
   by_cases c5:(k+wn-1)/64=k/64
   rotate_left
   ·(repeat(first|with_reducible(first|refine nx ?_|refine r_6 rfl ?_)|simp only[go_sem,e4,tdiv64 (k+wn-1) (by omega),bne_int_true (show¬(((k+wn-1)/64:Nat):Int)=((k/64:Nat):Int) by omega)]))
    refine⟨?_,(ho1.nil ho2).nil ho3⟩
    rw[hE,hwn,bad,decide_eq_true (show((k:Int)+(wn:Int)-1)/64≠(k:Int)/64 by omega)];simp
   (repeat(first|with_reducible(first|refine nx ?_|refine r_6 rfl ?_)|simp only[go_sem,e4,tdiv64 (k+wn-1) (by omega),bne_int_false (show(((k+wn-1)/64:Nat):Int)=((k/64:Nat):Int) by omega)]))
   refine hkk _ _ ?_ ⟨ho2.nil ho3,?_⟩
   ·(repeat(first|with_reducible exact k_1|with_reducible exact Keeps.ovr _ _ _|refine Keeps.put ?_ rfl _|exact k_1|exact Keeps.ovr _ _ _|refine Keeps.ovr2 ?_ rfl _))
   ·rw[hwn,bad,decide_eq_false (show¬(s.B.getD (k/64) (0,0)).1≠1 from fun h=>h c4),decide_eq_false (show¬((k:Int)+(wn:Int)-1)/64≠(k:Int)/64 by omega)];rfl
 obtain⟨ho2,hW⟩:=hJ
 rw[hE,hW,if_neg (by simp)]
 have o2:=ho1.nil ho2
 (repeat(first|with_reducible(first|refine nx ?_|refine r_6 rfl ?_)|simp only[go_sem]))
 refine run_loop (10::11::74::75::76::77::78::79::80::81::82::83::84::85::86::87::88::89::90::91::92::93::94::95::96::97::98::99::100::101::102::103::104::105::106::107::108::109::110::111::112::[]) (fun g w'=> ∃j:Nat,g 10=.int .i64 (j:Int)∧j≤L.length∧(∀i,i<j→overB (k:Int) (wordsS sh) but (s.O.getD i default)=false)∧Only [] w2 w') (fun g _=>upTo L.length 10 g)
  ⟨0,by simp only[go_sem];rfl,by omega,by omega,Only.refl _ _⟩ fun g w3 hI hnext=>?_
 obtain⟨j,h10,hj,hno,ho3⟩:=hI
 have o3:=o2.nil ho3
 have hm3:=hm.keep0 o3
 (repeat(first|with_reducible(first|refine nx ?_|refine r_6 rfl ?_)|simp only[go_sem,h10,hm3.hb.cell,hvO]))
 refine condT (fun hlt=>?_) (fun hge=>?_)
 ·have hlt:j<L.length:=by simpa using hlt
  obtain⟨g8,cap,ys,e8,hat,_,_⟩:=hm3.row (by omega)
  have e2:(0:Int)≤(j:Int)∧(j:Int)<(L.length:Int):=⟨by omega,by omega⟩
  obtain⟨hc8,_⟩:=hm3.all (cap:=0) hat hlt
  have hok:=hm3.om (L.getD j default) (by simp[hlt])
  have hoo:=hm3.getO hlt
  have hbo:=hm3.ok.ob (s.O.getD j default) (by rw[hoo,hm3.eq];exact List.mem_map.2 ⟨_,by simp[hlt],rfl⟩)
  rw[hoo]at hbo
  have hgo:overB (k:Int) (wordsS sh) but (L.getD j default).o=false→ ∀i,i<j+1→overB (k:Int) (wordsS sh) but (s.O.getD i default)=false:=fun h i hi=>by
   by_cases e:i=j
   ·subst e;rw[hoo];exact h
   ·exact hno i (by omega)
  have hyes:overB (k:Int) (wordsS sh) but (L.getD j default).o=true→s.O.any (overB (k:Int) (wordsS sh) but)=true:=fun h=>by
   rw[←hoo]at h
   exact List.any_eq_true.2 ⟨_,by rw[hoo,hm3.eq];exact List.mem_map.2 ⟨_,by simp[hlt],rfl⟩,h⟩
  generalize L.getD j default=m at hc8 hok hbo hgo hyes
  obtain⟨o,vr,vd,fr,fd⟩:=m
  (repeat(first|with_reducible(first|refine nx ?_|refine r_6 rfl ?_)|simp only[go_sem,h10,hm3.hb.cell,e8,if_pos e2,Int.toNat_natCast,hc8]))
  refine boxT fun p w4 hp hs4 hat4 ho4=>?_
  (repeat(first|with_reducible(first|refine nx ?_|refine r_6 rfl ?_)|simp only[go_sem]))
  refine stNT hat4 rfl (by simp[OM.V,obV]) (V_one hok) fun w5 hs5 hat5 ho5=>?_
  have hat5':At w5 p (obV o vr vd):=hat5
  have o45:Only [] w3 w5:=ho4.trans ho5 fun y hy=>by simp only[List.mem_singleton]at hy;subst hy;exact .inr (by rw[hp];exact Nat.le_refl _)
  have o5:=o3.nil o45
  have od5:=o45.nil (Only.drew [] w5)
  have hlt5:=hat5'.lt
  have hltq:q<w5.heap.size:=((hat1.keep0 (ho2.nil ho3)).keep0 o45).lt
  have hcp:cellsAt w5.drew ⟨p,2,none⟩ 3=some (shV o.sh):=by rw[cellsAt_at hat5'.drew 2 3 (by simp[obV])];rfl
  have hsb: ∀w6,Only [] w5.drew w6→SB [p,q] w5.drew w6:=fun w6 ho=>(SB.refl _ _).only ho fun z hz=>⟨by simp only[List.mem_cons,List.not_mem_nil,or_false]at hz;show z<w5.heap.size;rcases hz with rfl|rfl;exact hlt5;exact hltq,by simp⟩
  have p1:w5.drew.cell? ⟨p,1,none⟩=some (.int .i64 o.id):=by rw[hat5'.drew.cell];rfl
  have p0:w5.drew.cell? ⟨p,0,none⟩=some (.int .i64 o.a):=by rw[hat5'.drew.cell];rfl
  have ha0:=hbo.a0
  have ha1:=hbo.a1
  have hwo:=words_le hbo.v
  simp only at ha0 ha1 hwo hgo hyes
  have f1:IntKind.i64.wrap ((k:Int)+wordsS sh)=(k:Int)+wordsS sh:=IntWalk.i64_in _ (by omega)
  have f2:IntKind.i64.wrap (o.a+wordsS o.sh)=o.a+wordsS o.sh:=IntWalk.i64_in _ (by omega)
  (repeat(first|with_reducible(first|refine nx ?_|refine r_6 rfl ?_)|simp only[go_sem]))
  refine run_drt [p,q] ?_
  by_cases d1:o.id=but
  ·(repeat(first|with_reducible(first|refine nx ?_|refine r_6 rfl ?_)|simp only[go_sem,p1,bne_int_false d1,h10,i64_succ j (by omega)]))
   refine hnext _ _ ?_ ⟨j+1,?_,by omega,hgo (by simp[overB,d1]),ho3.nil od5⟩ ?_
   ·(repeat(first|with_reducible exact k_1|with_reducible exact Keeps.ovr _ _ _|refine Keeps.put ?_ rfl _|exact k_1|exact Keeps.ovr _ _ _|refine Keeps.ovr2 ?_ rfl _))
   ·simp only[go_sem]
   ·rw[upTo_int h10,upTo_int (k:=.i64) (i:=j+1) (by simp only[go_sem])];omega
  (repeat(first|with_reducible(first|refine nx ?_|refine r_6 rfl ?_)|simp only[go_sem,p1,p0,bne_int_true d1,hcq w5.drew ((ho2.nil ho3).nil od5)]))
  refine callS1 (fWords w5.drew sh) (.inr ⟨SB.refl _ _,fun z hz=>⟨by simp only[List.mem_cons,List.not_mem_nil,or_false]at hz;show z<w5.heap.size;rcases hz with rfl|rfl;exact hlt5;exact hltq,by simp⟩⟩) fun w6 ho6=>?_
  by_cases d2:o.a<(k:Int)+wordsS sh
  rotate_left
  ·(repeat(first|with_reducible(first|refine nx ?_|refine r_6 rfl ?_)|simp only[go_sem,f1,decide_eq_false d2,h10,i64_succ j (by omega)]))
   refine hnext _ _ ?_ ⟨j+1,?_,by omega,hgo (by simp[overB];omega),(ho3.nil od5).nil ho6⟩ ?_
   ·(repeat(first|with_reducible exact k_1|with_reducible exact Keeps.ovr _ _ _|refine Keeps.put ?_ rfl _|exact k_1|exact Keeps.ovr _ _ _|refine Keeps.ovr2 ?_ rfl _))
   ·simp only[go_sem]
   ·rw[upTo_int h10,upTo_int (k:=.i64) (i:=j+1) (by simp only[go_sem])];omega
  (repeat(first|with_reducible(first|refine nx ?_|refine r_6 rfl ?_)|simp only[go_sem,f1,decide_eq_true d2,p0,hcp]))
  have hz6: ∀z,z∈[p,q]→z<w6.heap.size∧z∉([]:List Nat):=fun z hz=>by
   have h6:w5.heap.size≤w6.heap.size:=ho6.size
   simp only[List.mem_cons,List.not_mem_nil,or_false]at hz
   refine⟨?_,by simp⟩
   rcases hz with rfl|rfl<;>omega
  refine callS1 (fWords w6 o.sh) (.inr ⟨hsb w6 ho6,hz6⟩) fun w7 ho7=>?_
  by_cases d3:(k:Int)<o.a+wordsS o.sh
  rotate_left
  ·(repeat(first|with_reducible(first|refine nx ?_|refine r_6 rfl ?_)|simp only[go_sem,f2,decide_eq_false d3,h10,i64_succ j (by omega)]))
   refine hnext _ _ ?_ ⟨j+1,?_,by omega,hgo (by simp[overB];omega),((ho3.nil od5).nil ho6).nil ho7⟩ ?_
   ·(repeat(first|with_reducible exact k_1|with_reducible exact Keeps.ovr _ _ _|refine Keeps.put ?_ rfl _|exact k_1|exact Keeps.ovr _ _ _|refine Keeps.ovr2 ?_ rfl _))
   ·simp only[go_sem]
   ·rw[upTo_int h10,upTo_int (k:=.i64) (i:=j+1) (by simp only[go_sem])];omega
  (repeat(first|with_reducible(first|refine nx ?_|refine r_6 rfl ?_)|simp only[go_sem,f2,decide_eq_true d3]))
  refine⟨?_,(((o3.nil od5).nil ho6).nil ho7)⟩
  rw[if_pos (hyes (by simp[overB,d1,d2,d3]))]
 ·have hge: ¬j<L.length:=by simpa using hge
  (repeat(first|with_reducible(first|refine nx ?_|refine r_6 rfl ?_)|simp only[go_sem]))
  refine⟨?_,o3⟩
  rw[if_neg]
  intro hany
  obtain⟨o,ho,h2⟩:=List.any_eq_true.1 hany
  obtain⟨i,hi,rfl⟩:=List.mem_iff_getElem.1 ho
  have:=hno i (by omega)
  have e:s.O.getD i default=s.O[i]:=by simp[hi]
  rw[e,h2]at this
  cases this
end Go.Proofs.YtgcofabdialaaaaGreat
end
section
namespace Go.Proofs.YtgcofabdialaaaaGreat
set_option maxRecDepth 8000
def RL.placeR (s:RL) (a:Int) (sh:Sh):Int×Int:=if validS sh=false then(0,2)else if s.fitsR a sh 0≠0 then(0,s.fitsR a sh 0)else(((s.born+1:Nat):Int),0)
def RL.newOb (s:RL) (a:Int) (sh:Sh):Ob:=⟨a,((s.born+1:Nat):Int),sh,List.replicate sh.1.toNat 0,List.replicate sh.2.1.toNat 0,false⟩
def RL.placeM (s:RL) (a:Int) (sh:Sh):RL:=if(s.placeR a sh).2=0 then {s with born:=s.born+1}.putM (s.newOb a sh)else s
theorem fitsR_in {s:RL} {a:Int} {sh:Sh} {but:Int} (hB:s.B.length≤64) (hv:validS sh=true) (h:s.fitsR a sh but=0):0≤a∧a+wordsS sh≤((64*s.B.length:Nat):Int)∧a%2=0:=by
 have hw:=words_le hv
 unfold RL.fitsR at h
 by_cases c1:a<0∨a%2≠0∨((64*s.B.length:Nat):Int)≤a
 ·rw[if_pos c1]at h;cases h
 rw[if_neg c1]at h
 by_cases c2:wrongB s.hl a (wordsS sh)=true
 ·rw[if_pos c2]at h;cases h
 refine⟨by omega,?_,by omega⟩
 rw[Bool.not_eq_true]at c2
 unfold wrongB at c2
 by_cases c3:wordsS sh≤32
 ·rw[if_pos c3]at c2
  simp only[Bool.or_eq_false_iff,decide_eq_false_iff_not,Decidable.not_not]at c2
  omega
 ·rw[if_neg c3]at c2
  simp only[Bool.or_eq_false_iff,decide_eq_false_iff_not,Decidable.not_not]at c2
  have:(a/64).toNat+s.hl.span (a/64).toNat≤s.B.length:=(span_le (s:=s.hl) (show(a/64).toNat<s.B.length by omega)).1
  omega
theorem newOb_ok {s:RL} {a:Int} {sh:Sh} {but:Int} (hB:s.B.length≤64) (hv:validS sh=true) (h:s.fitsR a sh but=0):(s.newOb a sh).Ok s.B.length:=by
 have hv':=hv
 simp only[validS,Bool.and_eq_true,decide_eq_true_eq]at hv'
 obtain⟨h1,h2,h3⟩:=fitsR_in hB hv h
 refine⟨hv,?_,?_,h1,h2⟩
 ·simp only[RL.newOb,List.length_replicate];omega
 ·simp only[RL.newOb,List.length_replicate];omega
theorem Sl.zeros {w:World} {g n:Nat} (h:At w g (rowZ [Value.int .i64 0] n)):Sl w 1 (.slice (some ⟨g,0,none⟩) n n) n (ints (List.replicate n 0)) [g]:=by
 rw[rowZ_one,ints_rep]at h
 exact Sl.mk1 (ys:=[]) (by simpa using h) (by simp[ints]) (by simp[ints])
theorem fPlace {w:World} {b:Nat} {s:RL} {fp:List Nat} (h:FM w b s fp) (x:Int) (sh:Sh) (hx:x≤4611686018427387904) (hborn:s.born≤4611686018427387900) (hl:s.O.length<2048):
  Cs Tryz.prog 150 [.pointer (some ⟨b,0,none⟩),.int .i64 x,.agg ⟨shV sh⟩] w fun v w'=>v=.tuple #[.int .i64 (s.placeR x sh).1,.int .i64 (s.placeR x sh).2]∧Only fp w w'∧ ∃fp',FM w' b (s.placeM x sh) fp'∧ ∀y,y∈fp'→y∈fp∨w.heap.size≤y:=by
 have h00:=h
 obtain⟨vB,vO,vF,fB,fO,fF,L,hfp,hm⟩:=h
 have hbl:=hm.hb.lt
 have bad: ∀e:Int,s.placeR x sh=(0,e)→e≠0→s.placeM x sh=s:=fun e h1 h2=>by unfold RL.placeM;rw[h1,if_neg h2]
 refine enter_ref02_Heap_Place rfl ?_
 unfold x_ref02_Heap_Place
 (repeat(first|with_reducible(first|refine nx ?_|refine r_6 rfl ?_)|simp only[go_sem]))
 refine boxT fun q w1 hq hs1 hat1 ho1=>?_
 (repeat(first|with_reducible(first|refine nx ?_|refine r_6 rfl ?_)|simp only[go_sem]))
 refine callT0 (fMade (h00.keep0 ho1)) ?_
 have hcq: ∀w2,Only [] w1 w2→cellsAt w2 ⟨q,0,none⟩ 3=some (shV sh):=fun w2 k=>cellsAt_at (hat1.keep0 k) 0 3 (by simp[shV])
 (repeat(first|with_reducible(first|refine nx ?_|refine r_6 rfl ?_)|simp only[go_sem,hcq w1 (Only.refl _ _)]))
 refine callT1 (fValid w1 sh) fun w2 ho2=>?_
 cases hv:validS sh with
 |false=>
  have hR:s.placeR x sh=(0,2):=by unfold RL.placeR;rw[if_pos hv]
  (repeat(first|with_reducible(first|refine nx ?_|refine r_6 rfl ?_)|simp only[go_sem]))
  rw[hR,bad 2 hR (by omega)]
  exact⟨rfl,(ho1.nil ho2).of_nil,fp,h00.keep0 (ho1.nil ho2),fun y hy=>.inl hy⟩
 |true=>
  (repeat(first|with_reducible(first|refine nx ?_|refine r_6 rfl ?_)|simp only[go_sem,hcq w2 ho2]))
  refine callT1 (fFits (h00.keep0 (ho1.nil ho2)) x sh 0 hx hv) fun w3 ho3=>?_
  have o3:=(ho1.nil ho2).nil ho3
  by_cases he:s.fitsR x sh 0=0
  rotate_left
  ·have hR:s.placeR x sh=(0,s.fitsR x sh 0):=by unfold RL.placeR;rw[if_neg (by simp[hv]),if_pos he]
   (repeat(first|with_reducible(first|refine nx ?_|refine r_6 rfl ?_)|simp only[go_sem,bne_int_true he]))
   rw[hR,bad _ hR he]
   exact⟨rfl,o3.of_nil,fp,h00.keep0 o3,fun y hy=>.inl hy⟩
  have hR:s.placeR x sh=(((s.born+1:Nat):Int),0):=by unfold RL.placeR;rw[if_neg (by simp[hv]),if_neg (by simp[he])]
  have hM:s.placeM x sh= {s with born:=s.born+1}.putM (s.newOb x sh):=by unfold RL.placeM;rw[hR,if_pos rfl]
  have hv':=hv
  simp only[validS,Bool.and_eq_true,decide_eq_true_eq]at hv'
  have hm3:=hm.keep0 o3
  obtain⟨n1,n2,n3,n4,n5,n6,n7,n8⟩:=nd4 hm.nd
  have e1:IntKind.i64.wrap ((s.born:Int)+1)=((s.born+1:Nat):Int):=i64_succ _ (by omega)
  (repeat(first|with_reducible(first|refine nx ?_|refine r_6 rfl ?_)|simp only[go_sem,bne_int_false he,hm3.hb.cell,e1]))
  refine stT hm3.hb (by simp) rfl fun w4 hs4 hb4 ho4=>?_
  simp only[List.set_cons_zero,List.set_cons_succ]at hb4
  have hm4:FMs w4 b {s with born:=s.born+1} vB vO vF fB fO fF L:=
   ⟨⟨hm.ok.b2,hm.ok.b64,hm.ok.ol,hm.ok.ob⟩,hb4,hm3.hB.keep ho4 fun y hy=>off1 (n1 y (.inl hy)),hm3.hO.keep ho4 fun y hy=>off1 (n1 y (.inr (.inl hy))),hm3.hF.keep ho4 fun y hy=>off1 (n1 y (.inr (.inr (.inl hy)))),hm.eq,
    fun m hm'=>(hm3.om m hm').keep ho4 fun y hy=>off1 (n1 y (.inr (.inr (.inr (mem_omF hm' hy))))),hm.nd⟩
  have hqb:q≠b:=by omega
  have hat4:At w4 q (shV sh):=(hat1.keep0 (ho2.nil ho3)).keep ho4 (off1 hqb)
  have hat4':At w4.drew q [.int .i64 sh.1,.int .i64 sh.2.1,.int .i64 sh.2.2]:=hat4.drew
  have hc4:cellsAt w4.drew ⟨q,0,none⟩ 3=some (shV sh):=cellsAt_at hat4.drew 0 3 (by simp[shV])
  have hb4l:=hb4.lt
  have hq4l:=hat4.lt
  have o4:Only [b] w w4:=o3.of_nil.same ho4
  have hsb: ∀z,z∈[b,q]→z<w4.drew.heap.size∧z∉([]:List Nat):=fun z hz=>⟨by show z<w4.heap.size;simp only[List.mem_cons,List.not_mem_nil,or_false]at hz;rcases hz with rfl|rfl;exact hb4l;exact hq4l,by simp⟩
  obtain⟨r,hr⟩: ∃r:Nat,sh.1=r:=⟨sh.1.toNat,by omega⟩
  obtain⟨d,hd⟩: ∃d:Nat,sh.2.1=d:=⟨sh.2.1.toNat,by omega⟩
  have hnew:s.newOb x sh=⟨x,((s.born+1:Nat):Int),sh,List.replicate r 0,List.replicate d 0,false⟩:=by unfold RL.newOb;rw[hr,hd];rfl
  -- what follows when both slices are there
  have fin: ∀(w7:World) (gr gd:Nat),Only [] w4 w7→w4.heap.size≤gr→w4.heap.size≤gd→gr≠gd→At w7 gr (rowZ [Value.int .i64 0] r)→At w7 gd (rowZ [Value.int .i64 0] d)→
    Cs Tryz.prog 210 [.pointer (some ⟨b,0,none⟩),.agg ⟨obV (s.newOb x sh) (.slice (some ⟨gr,0,none⟩) r r) (.slice (some ⟨gd,0,none⟩) d d)⟩] w7 fun v w'=>v=.tuple #[]∧Only fp w w'∧ ∃fp',FM w' b (s.placeM x sh) fp'∧ ∀y,y∈fp'→y∈fp∨w.heap.size≤y:=by
   intro w7 gr gd ho7 h1 h2 hne hgr hgd
   have hm7:=hm4.keep0 ho7
   have hlt7:=hm4.lt
   have hw0:=o4.size
   refine Cs.mono (fPut hm7 ⟨s.newOb x sh,.slice (some ⟨gr,0,none⟩) r r,.slice (some ⟨gd,0,none⟩) d d,[gr],[gd]⟩ (newOb_ok (s:=s) hm.ok.b64 hv he) hl ⟨?_,?_⟩ (by simpa using hne) ?_) ?_
   ·rw[hnew];simpa using Sl.zeros hgr
   ·rw[hnew];simpa using Sl.zeros hgd
   ·intro y hy
    have:w4.heap.size≤y:=by simp only[List.cons_append,List.nil_append,List.mem_cons,List.not_mem_nil,or_false]at hy;omega
    intro h
    have:=hlt7 y h
    omega
   ·rintro v w8 ⟨rfl,ho8,fp',hF,hsub⟩
    have o8:Only [b] w w8:=(o4.nil ho7).same ho8
    refine⟨rfl,o8.mono fun y hy=>.inl (by rw[hfp];simp only[List.mem_singleton]at hy;simp[hy]),fp',by rw[hM];exact hF,fun y hy=>?_⟩
    rcases hsub y hy with h|h|h
    ·left;rw[hfp];exact h
    ·right;simp only[List.cons_append,List.nil_append,List.mem_cons,List.not_mem_nil,or_false]at h;omega
    ·right;have:=ho7.size;omega
  have hbld: ∀gr gd:Nat,aggO (fillL [Value.int .i64 0,.int .i64 0,.int .i64 0,.int .i64 0,.int .i64 0,.slice none 0 0,.slice none 0 0,.bool false] [(0,1,.int .i64 x),(1,1,.int .i64 ((s.born+1:Nat):Int)),(2,3,.agg ⟨shV sh⟩),(5,1,.slice (some ⟨gr,0,none⟩) r r),(6,1,.slice (some ⟨gd,0,none⟩) d d)])=some (.agg ⟨obV (s.newOb x sh) (.slice (some ⟨gr,0,none⟩) r r) (.slice (some ⟨gd,0,none⟩) d d)⟩):=fun gr gd=>by
   rw[fillL_one rfl rfl,fillL_one rfl rfl,fillL_ag (n:=3) rfl rfl,fillL_one rfl rfl,fillL_one rfl rfl]
   rfl
  (repeat(first|with_reducible(first|refine nx ?_|refine r_6 rfl ?_)|simp only[go_sem]))
  refine run_cut (29::30::31::32::33::34::35::36::37::38::39::40::41::42::43::[]) (fun _ w'=>Only fp w w'∧ ∃fp',FM w' b (s.placeM x sh) fp'∧ ∀y,y∈fp'→y∈fp∨w.heap.size≤y) (fun kk hkk=>?_) (fun g w8 hJ=>?_)
  ·have h40:(Value.int .i64 ((0:Nat):Int))=.int .i64 0:=rfl
   refine run_drt [b,q] ?_
   (repeat(first|with_reducible(first|refine nx ?_|refine r_6 rfl ?_)|simp only[go_sem,hb4.drew.cell,hc4,hat4'.cell,hr,hd]))
   refine⟨?_,?_⟩
   ·refine mksS (Nat.le_refl _) (by omega) (by omega) fun gr w5 hgr hs5 h5 ho5=>⟨.inr ((SB.refl _ _).only ho5 hsb),?_⟩
    (repeat(first|with_reducible(first|refine nx ?_|refine r_6 rfl ?_)|simp only[go_sem]))
    refine mksS (Nat.le_refl _) (by omega) (by omega) fun gd w6 hgd hs6 h6 ho6=>⟨.inr (((SB.refl _ _).only ho5 hsb).only ho6 fun z hz=>⟨by have:=(hsb z hz).1;omega,by simp⟩),?_⟩
    (repeat(first|with_reducible(first|refine nx ?_|refine r_6 rfl ?_)|simp only[go_sem,hbld]))
    refine callS (fin w6 gr gd (((Only.drew [] w4).nil ho5).nil ho6) (by rw[hgr];exact Nat.le_refl _) (by rw[hgd,hs5];exact Nat.le_succ _) (by omega) (h5.keep0 ho6) h6) fun v w7 hR7=>⟨.inl rfl,?_⟩
    (repeat(first|with_reducible(first|refine nx ?_|refine r_6 rfl ?_)|simp only[go_sem]))
    refine hkk _ w7 ?_ hR7.2
    (repeat(first|with_reducible exact k_1|with_reducible exact Keeps.ovr _ _ _|refine Keeps.put ?_ rfl _|exact k_1|exact Keeps.ovr _ _ _|refine Keeps.ovr2 ?_ rfl _))
   ·refine mksS (Nat.le_refl _) (by omega) (by omega) fun gd w5 hgd hs5 h5 ho5=>⟨.inr ((SB.refl _ _).only ho5 hsb),?_⟩
    (repeat(first|with_reducible(first|refine nx ?_|refine r_6 rfl ?_)|simp only[go_sem]))
    refine mksS (Nat.le_refl _) (by omega) (by omega) fun gr w6 hgr hs6 h6 ho6=>⟨.inr (((SB.refl _ _).only ho5 hsb).only ho6 fun z hz=>⟨by have:=(hsb z hz).1;omega,by simp⟩),?_⟩
    (repeat(first|with_reducible(first|refine nx ?_|refine r_6 rfl ?_)|simp only[go_sem,hbld]))
    refine callS (fin w6 gr gd (((Only.drew [] w4).nil ho5).nil ho6) (by rw[hgr,hs5];exact Nat.le_succ _) (by rw[hgd];exact Nat.le_refl _) (by omega) h6 (h5.keep0 ho6)) fun v w7 hR7=>⟨.inl rfl,?_⟩
    (repeat(first|with_reducible(first|refine nx ?_|refine r_6 rfl ?_)|simp only[go_sem]))
    refine hkk _ w7 ?_ hR7.2
    (repeat(first|with_reducible exact k_1|with_reducible exact Keeps.ovr _ _ _|refine Keeps.put ?_ rfl _|exact k_1|exact Keeps.ovr _ _ _|refine Keeps.ovr2 ?_ rfl _))
  obtain⟨ho8,fp',hF,hsub⟩:=hJ
  have hcb:w8.cell? ⟨b,3,none⟩=some (.int .i64 ((s.born+1:Nat):Int)):=by
   rw[hM]at hF
   obtain⟨_,_,_,_,_,_,_,_,hF'⟩:=hF
   rw[hF'.hb.cell];rfl
  (repeat(first|with_reducible(first|refine nx ?_|refine r_6 rfl ?_)|simp only[go_sem,hcb]))
  rw[hR]
  exact⟨rfl,ho8,fp',hF,hsub⟩
theorem fNew (w:World) (n:Int) (h1:2≤n) (h2:n≤64):Cs Tryz.prog 88 [.int .i64 n] w fun v w'=>Only [] w w'∧ ∃b fp,v=.tuple #[.pointer (some ⟨b,0,none⟩),.int .i64 0]∧FM w' b ⟨List.replicate n.toNat (0,0),[],[],0⟩ fp∧ ∀y,y∈fp→w.heap.size≤y:=by
 obtain⟨k,rfl⟩: ∃k:Nat,n=k:=⟨n.toNat,by omega⟩
 refine enter_ref02_New rfl ?_
 unfold x_ref02_New
 (repeat(first|with_reducible(first|refine nx ?_|refine r_6 rfl ?_)|simp only[go_sem,decide_eq_false (show¬(k:Int)<2 by omega),decide_eq_false (show¬(64:Int)<(k:Int) by omega)]))
 refine mksT (Nat.le_refl _) (by omega) (by omega) fun g w1 hg hs1 hat1 ho1=>?_
 rw[rowZ_blk]at hat1
 (repeat(first|with_reducible(first|refine nx ?_|refine r_6 rfl ?_)|simp only[go_sem]))
 rw[fillL_one rfl rfl]
 (repeat(first|with_reducible(first|refine nx ?_|refine r_6 rfl ?_)|simp only[go_sem]))
 refine boxT fun b w2 hb hs2 hat2 ho2=>?_
 (repeat(first|with_reducible(first|refine nx ?_|refine r_6 rfl ?_)|simp only[go_sem]))
 have hat2':At w2 b [.slice (some ⟨g,0,none⟩) k k,.slice none 0 0,.slice none 0 0,.int .i64 ((0:Nat):Int)]:=hat2
 obtain⟨T,hT⟩:=hat1.keep0 ho2
 refine⟨ho1.nil ho2,b,_,rfl,⟨.slice (some ⟨g,0,none⟩) k k,.slice none 0 0,.slice none 0 0,[g],[],[],[],rfl,⟨⟨by simp;omega,by simp;omega,by simp,by simp⟩,hat2',?_,Sl.nil8 _,⟨rfl,.inl ⟨rfl,rfl,rfl⟩⟩,rfl,by simp,?_⟩⟩,?_⟩
 ·refine⟨by rw[blkV_len];simp;omega,.inr ⟨g,k,[],T,by simp,rfl,by simpa using hT,?_,by simp⟩⟩
  rw[List.append_nil,blkV_len];simp;omega
 ·simp[omF];omega
 ·intro y hy;simp[omF]at hy;omega
end Go.Proofs.YtgcofabdialaaaaGreat
end
section
namespace Go.Proofs.YtgcofabdialaaaaGreat
set_option maxRecDepth 8000
def RL.claimE (s:RL) (b sp:Int):Int:=if¬(1≤b∧b<s.B.length)∨spaceB sp=false then 1 else if(s.B.getD b.toNat (0,0)).1≠0 then 8 else 0
def RL.claimM (s:RL) (b sp:Int):RL:=if s.claimE b sp=0 then {s with B:=s.B.set b.toNat (1,sp)}else s
def RL.claimLE (s:RL) (b n sp:Int):Int:=if¬(1≤b∧b<s.B.length)∨n<1∨(s.B.length:Int)-b<n∨spaceB sp=false then 1 else if(List.range n.toNat).any (fun j=>(s.B.getD (b.toNat+j) (0,0)).1 !=0)then 8 else 0
def RL.claimLM (s:RL) (b n sp:Int):RL:=if s.claimLE b n sp=0 then {s with B:=(fillB s.B b.toNat (3,sp) n.toNat).set b.toNat (2,sp)}else s
theorem FMs.setB {w w':World} {b:Nat} {s:RL} {vO vF:Value} {fO fF:List Nat} {L:List OM} {g cap:Nat} {ys:List Value} (h:FMs w b s (.slice (some ⟨g,0,none⟩) s.B.length cap) vO vF [g] fO fF L) (hc:s.B.length≤cap) (hcap:(blkV s.B++ys).length=cap*2) {B':List (Int×Int)} (hl:B'.length=s.B.length) (hat:At w' g (blkV B'++ys)) (ho:Only [g] w w'):
  FMs w' b {s with B:=B'} (.slice (some ⟨g,0,none⟩) s.B.length cap) vO vF [g] fO fF L:=by
 obtain⟨n1,n2,n3,n4,n5,n6,n7,n8⟩:=nd4 h.nd
 obtain⟨m1,m2,m3⟩:=n2 g (by simp)
 obtain⟨T,hT⟩:=hat
 refine⟨⟨by rw[hl];exact h.ok.b2,by rw[hl];exact h.ok.b64,h.ok.ol,fun o ho=>by simp only[hl];exact h.ok.ob o ho⟩,h.hb.keep ho (off1 (n1 g (by simp)).symm),?_,h.hO.keep ho fun y hy=>off1 (fun e=>m1 (e▸hy)),h.hF.keep ho fun y hy=>off1 (fun e=>m2 (e▸hy)),h.eq,fun m hm=>(h.om m hm).keep ho fun y hy=>off1 (fun e=>m3 (e▸mem_omF hm hy)),h.nd⟩
 refine⟨by rw[blkV_len];simp only;omega,.inr ⟨g,cap,ys,T,by simp only[hl],rfl,hT,?_,by simp only;omega⟩⟩
 rw[←hcap,List.length_append,List.length_append,blkV_len,blkV_len,hl]
theorem FMs.blkC {w:World} {b:Nat} {s:RL} {vB vO vF:Value} {fB fO fF:List Nat} {L:List OM} (h:FMs w b s vB vO vF fB fO fF L): ∃g cap ys,vB=.slice (some ⟨g,0,none⟩) s.B.length cap∧At w g (blkV s.B++ys)∧fB=[g]∧s.B.length≤cap∧(blkV s.B++ys).length=cap*2:=by
 rcases h.hB.2 with⟨_,h0,_⟩|⟨g,cap,ys,T,h1,h2,h3,h4,h5⟩
 ·have:=h.ok.b2;omega
 ·exact⟨g,cap,ys,h1,⟨T,h3⟩,h2,h5,h4⟩
theorem fClaim {w:World} {b:Nat} {s:RL} {fp:List Nat} (h:FM w b s fp) (k sp:Int):Cs Tryz.prog 206 [.pointer (some ⟨b,0,none⟩),.int .i64 k,.int .i64 sp] w fun v w'=>v=.int .i64 (s.claimE k sp)∧FM w' b (s.claimM k sp) fp∧Only fp w w':=by
 have bad: ∀e:Int,e≠0→s.claimE k sp=e→(Value.int .i64 e=.int .i64 (s.claimE k sp)∧FM w b (s.claimM k sp) fp∧Only fp w w):=fun e he h1=>by
  refine⟨by rw[h1],?_,Only.refl _ _⟩
  unfold RL.claimM
  rw[if_neg (by rw[h1];exact he)];exact h
 obtain⟨vB,vO,vF,fB,fO,fF,L,hfp,hm⟩:=id h
 obtain⟨g,cap,ys,rfl,hat,rfl,hc,hcap⟩:=hm.blkC
 refine enter_ref02_Heap_Claim rfl ?_
 unfold x_ref02_Heap_Claim
 (repeat(first|with_reducible(first|refine nx ?_|refine r_6 rfl ?_)|simp only[go_sem]))
 refine callT0 (fMade h) ?_
 (repeat(first|with_reducible(first|refine nx ?_|refine r_6 rfl ?_)|simp only[go_sem]))
 refine callT0 (fBlock h k) ?_
 by_cases c1:1≤k∧k<s.B.length
 rotate_left
 ·have e:(decide (1≤k)&&decide (k<(s.B.length:Int)))=false:=by simp only[Bool.and_eq_false_iff,decide_eq_false_iff_not];omega
  (repeat(first|with_reducible(first|refine nx ?_|refine r_6 rfl ?_)|simp only[go_sem,e]))
  have h1:s.claimE k sp=1:=by unfold RL.claimE;rw[if_pos (.inl c1)]
  have:=bad 1 (by omega) h1
  simpa using this
 have e:(decide (1≤k)&&decide (k<(s.B.length:Int)))=true:=by simp only[Bool.and_eq_true,decide_eq_true_eq];exact c1
 (repeat(first|with_reducible(first|refine nx ?_|refine r_6 rfl ?_)|simp only[go_sem,e]))
 refine callT0 (fSpaceB w sp) ?_
 cases hs:spaceB sp with
 |false=>
  (repeat(first|with_reducible(first|refine nx ?_|refine r_6 rfl ?_)|simp only[go_sem]))
  have h1:s.claimE k sp=1:=by unfold RL.claimE;rw[if_pos (.inr hs)]
  have:=bad 1 (by omega) h1
  simpa using this
 |true=>
  obtain⟨i,rfl⟩: ∃i:Nat,k=i:=⟨k.toNat,by omega⟩
  have hi:i<s.B.length:=by omega
  have e1:(0:Int)≤(i:Int)∧(i:Int)<(s.B.length:Int):=⟨by omega,by omega⟩
  have hE:s.claimE (i:Int) sp=if(s.B.getD i (0,0)).1≠0 then 8 else 0:=by
   unfold RL.claimE
   rw[if_neg (by simp[hs];omega)];rfl
  by_cases c2:(s.B.getD i (0,0)).1=0
  rotate_left
  ·(repeat(first|with_reducible(first|refine nx ?_|refine r_6 rfl ?_)|simp only[go_sem,hm.hb.cell,hat.cell,if_pos e1,Int.toNat_natCast,(blk_at ys hi).1,bne_int_true c2]))
   have:=bad 8 (by omega) (by rw[hE,if_pos c2])
   simpa using this
  rw[if_neg (fun h=>h c2)]at hE
  (repeat(first|with_reducible(first|refine nx ?_|refine r_6 rfl ?_)|simp only[go_sem,hm.hb.cell,hat.cell,if_pos e1,Int.toNat_natCast,(blk_at ys hi).1,bne_int_false c2]))
  rw[fillL_one rfl rfl,fillL_one rfl rfl]
  (repeat(first|with_reducible(first|refine nx ?_|refine r_6 rfl ?_)|simp only[go_sem,if_pos e1,Int.toNat_natCast]))
  refine stNT (cs:=bV (1,sp)) hat rfl (by rw[List.length_append,blkV_len];omega) (bV_one _) fun w2 hs2 hat2 ho2=>?_
  rw[blkV_set ys hi]at hat2
  (repeat(first|with_reducible(first|refine nx ?_|refine r_6 rfl ?_)|simp only[go_sem]))
  rw[hE]
  refine⟨rfl,?_,ho2.mono fun y hy=>.inl (by rw[hfp];simp only[List.mem_singleton]at hy;simp[hy])⟩
  unfold RL.claimM
  rw[if_pos hE]
  exact⟨_,_,_,_,_,_,_,hfp,hm.setB hc hcap (by simp) hat2 ho2⟩
theorem fClaimLarge {w:World} {b:Nat} {s:RL} {fp:List Nat} (h:FM w b s fp) (k n sp:Int) (hk:k≤4611686018427387904) (hn:n≤4611686018427387904):Cs Tryz.prog 204 [.pointer (some ⟨b,0,none⟩),.int .i64 k,.int .i64 n,.int .i64 sp] w fun v w'=>v=.int .i64 (s.claimLE k n sp)∧FM w' b (s.claimLM k n sp) fp∧Only fp w w':=by
 have bad: ∀e:Int,e≠0→s.claimLE k n sp=e→(Value.int .i64 e=.int .i64 (s.claimLE k n sp)∧FM w b (s.claimLM k n sp) fp∧Only fp w w):=fun e he h1=>by
  refine⟨by rw[h1],?_,Only.refl _ _⟩
  unfold RL.claimLM
  rw[if_neg (by rw[h1];exact he)];exact h
 obtain⟨vB,vO,vF,fB,fO,fF,L,hfp,hm⟩:=id h
 obtain⟨g,cap,ys,rfl,hat,rfl,hc,hcap⟩:=hm.blkC
 have hB:=hm.ok.b64
 refine enter_ref02_Heap_ClaimLarge rfl ?_
 unfold x_ref02_Heap_ClaimLarge
 (repeat(first|with_reducible(first|refine nx ?_|refine r_6 rfl ?_)|simp only[go_sem]))
 refine callT0 (fMade h) ?_
 (repeat(first|with_reducible(first|refine nx ?_|refine r_6 rfl ?_)|simp only[go_sem]))
 refine callT0 (fBlock h k) ?_
 by_cases c1:1≤k∧k<s.B.length
 rotate_left
 ·have e:(decide (1≤k)&&decide (k<(s.B.length:Int)))=false:=by simp only[Bool.and_eq_false_iff,decide_eq_false_iff_not];omega
  (repeat(first|with_reducible(first|refine nx ?_|refine r_6 rfl ?_)|simp only[go_sem,e]))
  have:=bad 1 (by omega) (by unfold RL.claimLE;rw[if_pos (.inl c1)])
  simpa using this
 have e:(decide (1≤k)&&decide (k<(s.B.length:Int)))=true:=by simp only[Bool.and_eq_true,decide_eq_true_eq];exact c1
 by_cases c2:n<1
 ·(repeat(first|with_reducible(first|refine nx ?_|refine r_6 rfl ?_)|simp only[go_sem,e,decide_eq_true c2]))
  have:=bad 1 (by omega) (by unfold RL.claimLE;rw[if_pos (.inr (.inl c2))])
  simpa using this
 have e2:IntKind.i64.wrap ((s.B.length:Int)-k)=(s.B.length:Int)-k:=IntWalk.i64_in _ (by omega)
 by_cases c3:(s.B.length:Int)-k<n
 ·(repeat(first|with_reducible(first|refine nx ?_|refine r_6 rfl ?_)|simp only[go_sem,e,decide_eq_false c2,hm.hb.cell,e2,decide_eq_true c3]))
  have:=bad 1 (by omega) (by unfold RL.claimLE;rw[if_pos (.inr (.inr (.inl c3)))])
  simpa using this
 (repeat(first|with_reducible(first|refine nx ?_|refine r_6 rfl ?_)|simp only[go_sem,e,decide_eq_false c2,hm.hb.cell,e2,decide_eq_false c3]))
 refine callT0 (fSpaceB w sp) ?_
 cases hs:spaceB sp with
 |false=>
  (repeat(first|with_reducible(first|refine nx ?_|refine r_6 rfl ?_)|simp only[go_sem]))
  have:=bad 1 (by omega) (by unfold RL.claimLE;rw[if_pos (.inr (.inr (.inr hs)))])
  simpa using this
 |true=>
  obtain⟨i,rfl⟩: ∃i:Nat,k=i:=⟨k.toNat,by omega⟩
  obtain⟨m,rfl⟩: ∃m:Nat,n=m:=⟨n.toNat,by omega⟩
  have hE:s.claimLE (i:Int) (m:Int) sp=if(List.range m).any (fun j=>(s.B.getD (i+j) (0,0)).1 !=0)then 8 else 0:=by
   unfold RL.claimLE
   rw[if_neg (by simp[hs];omega)];rfl
  have e3:IntKind.i64.wrap ((i:Int)+(m:Int))=((i+m:Nat):Int):=by rw[IntWalk.i64_in _ (by omega)];omega
  (repeat(first|with_reducible(first|refine nx ?_|refine r_6 rfl ?_)|simp only[go_sem]))
  refine run_loop (9::39::40::41::42::43::44::45::46::47::48::49::50::51::52::53::54::[]) (fun g' w'=> ∃j:Nat,g' 9=.int .i64 ((i+j:Nat):Int)∧j≤m∧(∀t,t<j→(s.B.getD (i+t) (0,0)).1=0)∧w'=w) (fun g' _=>upTo (i+m) 9 g')
   ⟨0,by simp only[go_sem],by omega,fun j hj=>absurd hj (by omega),rfl⟩ fun g' w1 hI hnext=>?_
  obtain⟨j,h9,hj,hno,rfl⟩:=hI
  (repeat(first|with_reducible(first|refine nx ?_|refine r_6 rfl ?_)|simp only[go_sem,h9,e3]))
  refine condT (fun hlt=>?_) (fun hge=>?_)
  ·have hlt:j<m:=by
    have:((i+j:Nat):Int)<((i+m:Nat):Int):=by simpa using hlt
    omega
   have hij:i+j<s.B.length:=by omega
   have e4:(0:Int)≤((i+j:Nat):Int)∧((i+j:Nat):Int)<(s.B.length:Int):=⟨by omega,by omega⟩
   by_cases c4:(s.B.getD (i+j) (0,0)).1=0
   rotate_left
   ·(repeat(first|with_reducible(first|refine nx ?_|refine r_6 rfl ?_)|simp only[go_sem,h9,hm.hb.cell,hat.cell,if_pos e4,Int.toNat_natCast,(blk_at ys hij).1,bne_int_true c4]))
    have:=bad 8 (by omega) (by rw[hE,if_pos];exact List.any_eq_true.2 ⟨j,List.mem_range.2 hlt,by simpa using c4⟩)
    simpa using this
   (repeat(first|with_reducible(first|refine nx ?_|refine r_6 rfl ?_)|simp only[go_sem,h9,hm.hb.cell,hat.cell,if_pos e4,Int.toNat_natCast,(blk_at ys hij).1,bne_int_false c4,i64_succ (i+j) (by omega)]))
   refine hnext _ w1 ?_ ⟨j+1,?_,by omega,fun t ht=>?_,rfl⟩ ?_
   ·(repeat(first|with_reducible exact k_1|with_reducible exact Keeps.ovr _ _ _|refine Keeps.put ?_ rfl _|exact k_1|exact Keeps.ovr _ _ _|refine Keeps.ovr2 ?_ rfl _))
   ·simp only[go_sem];rfl
   ·by_cases e:t=j
    ·subst e;exact c4
    ·exact hno t (by omega)
   ·rw[upTo_int h9,upTo_int (k:=.i64) (i:=i+(j+1)) (by simp only[go_sem];rfl)];omega
  have hge: ¬j<m:=by
   have: ¬((i+j:Nat):Int)<((i+m:Nat):Int):=by simpa using hge
   omega
  have hE0:s.claimLE (i:Int) (m:Int) sp=0:=by
   rw[hE,if_neg]
   intro hany
   obtain⟨t,ht,h2⟩:=List.any_eq_true.1 hany
   have:=hno t (by have:=List.mem_range.1 ht;omega)
   rw[this]at h2;cases h2
  clear hnext
  (repeat(first|with_reducible(first|refine nx ?_|refine r_6 rfl ?_)|simp only[go_sem]))
  refine run_loop (10::56::57::58::59::60::61::62::63::64::65::66::67::68::69::70::[]) (fun g' w'=> ∃t:Nat,g' 10=.int .i64 ((i+t:Nat):Int)∧t≤m∧At w' g (blkV (fillB s.B i (3,sp) t)++ys)∧Only [g] w1 w') (fun g' _=>upTo (i+m) 10 g')
   ⟨0,by simp only[go_sem],by omega,hat,Only.refl _ _⟩ fun g' w2 hI hnext=>?_
  obtain⟨t,h10,ht,hat2,ho2⟩:=hI
  obtain⟨n1,_⟩:=nd4 hm.nd
  have hb2:=hm.hb.keep ho2 (off1 (n1 g (by simp)).symm)
  have hfl:(fillB s.B i (3,sp) t).length=s.B.length:=fillB_len _ _ _ _
  (repeat(first|with_reducible(first|refine nx ?_|refine r_6 rfl ?_)|simp only[go_sem,h10,e3]))
  refine condT (fun hlt=>?_) (fun hge2=>?_)
  ·have hlt:t<m:=by
    have:((i+t:Nat):Int)<((i+m:Nat):Int):=by simpa using hlt
    omega
   have e4:(0:Int)≤((i+t:Nat):Int)∧((i+t:Nat):Int)<(s.B.length:Int):=⟨by omega,by omega⟩
   (repeat(first|with_reducible(first|refine nx ?_|refine r_6 rfl ?_)|simp only[go_sem,h10,hb2.cell,if_pos e4,Int.toNat_natCast]))
   rw[fillL_one rfl rfl,fillL_one rfl rfl]
   (repeat(first|with_reducible(first|refine nx ?_|refine r_6 rfl ?_)|simp only[go_sem,if_pos e4,Int.toNat_natCast]))
   refine stNT (cs:=bV (3,sp)) hat2 rfl (by rw[List.length_append,blkV_len,hfl];omega) (bV_one _) fun w3 hs3 hat3 ho3=>?_
   rw[blkV_set ys (by rw[hfl];omega)]at hat3
   (repeat(first|with_reducible(first|refine nx ?_|refine r_6 rfl ?_)|simp only[go_sem,h10,i64_succ (i+t) (by omega)]))
   refine hnext _ w3 ?_ ⟨t+1,?_,by omega,hat3,ho2.same ho3⟩ ?_
   ·(repeat(first|with_reducible exact k_1|with_reducible exact Keeps.ovr _ _ _|refine Keeps.put ?_ rfl _|exact k_1|exact Keeps.ovr _ _ _|refine Keeps.ovr2 ?_ rfl _))
   ·simp only[go_sem];rfl
   ·rw[upTo_int h10,upTo_int (k:=.i64) (i:=i+(t+1)) (by simp only[go_sem];rfl)];omega
  have hge2: ¬t<m:=by
   have: ¬((i+t:Nat):Int)<((i+m:Nat):Int):=by simpa using hge2
   omega
  have:t=m:=by omega
  subst this
  have e4:(0:Int)≤(i:Int)∧(i:Int)<(s.B.length:Int):=⟨by omega,by omega⟩
  have hsnd:((fillB s.B i (3,sp) t).getD i (0,0)).2=sp:=by
   have: ∀t,0<t→(fillB s.B i (3,sp) t).getD i (0,0)=(3,sp):=by
    intro t
    induction t with
    |zero=>intro h;omega
    |succ t ih=>
     intro _
     unfold fillB
     cases t with
     |zero=>rw[Nat.add_zero,getD_set_eq (by rw[fillB_len];omega)]
     |succ t=>rw[getD_set_ne' (by omega)];exact ih (by omega)
   rw[this t (by omega)]
  (repeat(first|with_reducible(first|refine nx ?_|refine r_6 rfl ?_)|simp only[go_sem,hb2.cell,if_pos e4,Int.toNat_natCast]))
  refine stT hat2 (by rw[List.length_append,blkV_len,hfl];omega) rfl fun w3 hs3 hat3 ho3=>?_
  have hset:(blkV (fillB s.B i (3,sp) t)++ys).set (i*2) (.int .i64 2)=blkV ((fillB s.B i (3,sp) t).set i (2,sp))++ys:=by
   rw[←blkV_set ys (show i<(fillB s.B i (3,sp) t).length by rw[hfl];omega)]
   have h2:=(blk_at ys (show i<(fillB s.B i (3,sp) t).length by rw[hfl];omega)).2
   rw[hsnd]at h2
   simp only[bV,setL]
   refine(List.ext_getElem? fun j=>?_).symm
   rw[List.getElem?_set]
   by_cases e:i*2+1=j
   ·subst e
    have hlt:i*2+1<(blkV (fillB s.B i (3,sp) t)++ys).length:=by rw[List.length_append,blkV_len,hfl];omega
    rw[if_pos rfl,if_pos (by rw[List.length_set];exact hlt),List.getElem?_set_ne (by omega),h2]
   ·rw[if_neg e]
  rw[hset]at hat3
  (repeat(first|with_reducible(first|refine nx ?_|refine r_6 rfl ?_)|simp only[go_sem]))
  rw[hE0]
  have o3:=ho2.same ho3
  refine⟨rfl,?_,o3.mono fun y hy=>.inl (by rw[hfp];simp only[List.mem_singleton]at hy;simp[hy])⟩
  unfold RL.claimLM
  rw[if_pos hE0]
  exact⟨_,_,_,_,_,_,_,hfp,hm.setB hc hcap (by simp[fillB_len]) hat3 o3⟩
end Go.Proofs.YtgcofabdialaaaaGreat
end
section
namespace Go.Proofs.YtgcofabdialaaaaGreat
set_option maxRecDepth 8000
def inBlk (k:Int) (o:Ob):Bool:=decide (o.a/64=k)
def RL.objsR (s:RL) (k:Int):List Int:=(s.O.filter (inBlk k)).map Ob.a
theorem filter_take_succ {O:List Ob} {p:Ob→Bool} {j:Nat} (hj:j<O.length):((O.take (j+1)).filter p)=(O.take j).filter p++(if p (O.getD j default)then [O.getD j default]else []):=by
 rw[List.take_add_one,List.filter_append]
 congr 1
 have:O[j]? =some (O.getD j default):=by simp[hj]
 rw[this]
 simp only[Option.toList_some]
 by_cases h:p (O.getD j default)=true
 ·rw[if_pos h,List.filter_cons_of_pos h,List.filter_nil]
 ·rw[if_neg h,List.filter_cons_of_neg h,List.filter_nil]
theorem fObjects {w:World} {b:Nat} {s:RL} {fp:List Nat} (h:FM w b s fp) (k:Int):Cs Tryz.prog 249 [.pointer (some ⟨b,0,none⟩),.int .i64 k] w fun v w'=>Only [] w w'∧ ∃fq,Sl w' 1 v (s.objsR k).length (ints (s.objsR k)) fq∧ ∀y,y∈fq→w.heap.size≤y:=by
 have h00:=h
 obtain⟨vB,vO,vF,fB,fO,fF,L,hfp,hm⟩:=h
 have hlen:=hm.len
 have hol:=hm.ok.ol
 have hB:=hm.ok.b64
 obtain⟨ao,co,hvO⟩:=hm.valO
 refine enter_ref02_Heap_Objects rfl ?_
 unfold x_ref02_Heap_Objects
 (repeat(first|with_reducible(first|refine nx ?_|refine r_6 rfl ?_)|simp only[go_sem]))
 refine run_loop (5::6::7::8::9::10::11::12::13::14::15::16::17::18::19::20::21::22::23::24::25::26::27::28::29::30::31::32::33::34::35::36::37::38::39::40::41::[]) (fun g w'=> ∃(j:Nat) (fq:List Nat),g 6=.int .i64 (j:Int)∧j≤L.length∧Sl w' 1 (g 5) (((s.O.take j).filter (inBlk k)).map Ob.a).length (ints (((s.O.take j).filter (inBlk k)).map Ob.a)) fq∧(∀y,y∈fq→w.heap.size≤y)∧Only [] w w') (fun g _=>upTo L.length 6 g)
  ⟨0,[],by simp only[go_sem];rfl,by omega,by simp only[go_sem];exact Sl.nil1 _,by simp,Only.refl _ _⟩ fun g w2 hI hnext=>?_
 obtain⟨j,fq,h6,hj,h5,hfq,ho2⟩:=hI
 have hm2:=hm.keep0 ho2
 (repeat(first|with_reducible(first|refine nx ?_|refine r_6 rfl ?_)|simp only[go_sem]))
 refine callT0 (fMade (h00.keep0 ho2)) ?_
 by_cases hlt:j<L.length
 ·obtain⟨g8,cap,ys,e8,hat,_,_⟩:=hm2.row (by omega)
  have e2:(0:Int)≤(j:Int)∧(j:Int)<(L.length:Int):=⟨by omega,by omega⟩
  have hoo:=hm2.getO hlt
  have hbo:=hm2.ok.ob (s.O.getD j default) (by rw[hoo,hm2.eq];exact List.mem_map.2 ⟨_,by simp[hlt],rfl⟩)
  have ha0:=hbo.a0
  have ha1:=hbo.a1
  have hwo:=words_le hbo.v
  obtain⟨na,hna⟩: ∃n:Nat,(s.O.getD j default).a=n:=⟨(s.O.getD j default).a.toNat,by omega⟩
  have hc:w2.cell? ⟨g8,j*8,none⟩=some (.int .i64 (na:Int)):=by
   have:=omV_cell (j:=0) ys hlt (by omega)
   rw[hat.cell,←Nat.add_zero (j*8),this,←hna,hoo];rfl
  have hsucc:=filter_take_succ (p:=inBlk k) (show j<s.O.length by omega)
  by_cases c1:((na/64:Nat):Int)=k
  ·have hp:inBlk k (s.O.getD j default)=true:=by unfold inBlk;rw[hna,decide_eq_true];omega
   rw[if_pos hp]at hsucc
   have hl:(((s.O.take j).filter (inBlk k)).map Ob.a).length≤2048:=by
    rw[List.length_map]
    have:=List.length_filter_le (inBlk k) (s.O.take j)
    rw[List.length_take]at this;omega
   (repeat(first|with_reducible(first|refine nx ?_|refine r_6 rfl ?_)|simp only[go_sem,h6,hm2.hb.cell,e8,decide_eq_true e2.2,if_pos e2,Int.toNat_natCast,hc,tdiv64 na (by omega),beq_int_true c1]))
   rw[fillL_one rfl rfl]
   (repeat(first|with_reducible(first|refine nx ?_|refine r_6 rfl ?_)|simp only[go_sem]))
   refine bslT fun q w3 hq hs3 hat3 ho3=>?_
   (repeat(first|with_reducible(first|refine nx ?_|refine r_6 rfl ?_)|simp only[go_sem]))
   refine appT (h5.keep0 ho3) (SrcIs.at hat3 rfl) (by simp[oneC]) (by omega) (by omega) ?_
   intro v4 w4 f4 hs4 hf4 ho4 _
   have o4:Only [] w w4:=(ho2.nil ho3).trans ho4 fun y hy=>.inr (hfq y hy)
   (repeat(first|with_reducible(first|refine nx ?_|refine r_6 rfl ?_)|simp only[go_sem,h6,i64_succ j (by omega)]))
   refine hnext _ w4 ?_ ⟨j+1,f4,?_,by omega,?_,?_,o4⟩ ?_
   ·(repeat(first|with_reducible exact k_1|with_reducible exact Keeps.ovr _ _ _|refine Keeps.put ?_ rfl _|exact k_1|exact Keeps.ovr _ _ _|refine Keeps.ovr2 ?_ rfl _))
   ·simp only[go_sem]
   ·simp only[go_sem]
    rw[hsucc,List.map_append,List.map_cons,List.map_nil,hna,List.length_append,ints_append]
    exact hs4
   ·intro y hy
    have:=ho2.size
    have:=ho3.size
    rcases hf4 with rfl|rfl
    ·exact hfq y hy
    ·simp only[List.mem_singleton]at hy;omega
   ·rw[upTo_int h6,upTo_int (k:=.i64) (i:=j+1) (by simp only[go_sem])];omega
  ·have hp:inBlk k (s.O.getD j default)=false:=by unfold inBlk;rw[hna,decide_eq_false];omega
   rw[if_neg (by rw[hp];simp),List.append_nil]at hsucc
   (repeat(first|with_reducible(first|refine nx ?_|refine r_6 rfl ?_)|simp only[go_sem,h6,hm2.hb.cell,e8,decide_eq_true e2.2,if_pos e2,Int.toNat_natCast,hc,tdiv64 na (by omega),beq_int_false c1,i64_succ j (by omega)]))
   refine hnext _ w2 ?_ ⟨j+1,fq,?_,by omega,?_,hfq,ho2⟩ ?_
   ·(repeat(first|with_reducible exact k_1|with_reducible exact Keeps.ovr _ _ _|refine Keeps.put ?_ rfl _|exact k_1|exact Keeps.ovr _ _ _|refine Keeps.ovr2 ?_ rfl _))
   ·simp only[go_sem]
   ·simp only[go_sem]
    rw[hsucc]
    exact h5
   ·rw[upTo_int h6,upTo_int (k:=.i64) (i:=j+1) (by simp only[go_sem])];omega
 ·(repeat(first|with_reducible(first|refine nx ?_|refine r_6 rfl ?_)|simp only[go_sem,h6,hm2.hb.cell,hvO,decide_eq_false (show¬(j:Int)<(L.length:Int) by omega)]))
  refine⟨ho2,fq,?_,hfq⟩
  rw[show j=s.O.length by omega,List.take_length]at h5
  exact h5
def GRuns (k:Nat) (R:List (Int×Int)):Prop:= ∀r,r∈R→((64*k:Nat):Int)≤r.1∧r.1<((64*(k+1):Nat):Int)
def RL.stepG (s:RL) (x:Int) (st:List (Int×Int)×Int):List (Int×Int)×Int:=(if st.2<x then st.1++[(st.2,x-st.2)]else st.1,x+wordsS (s.shapeR x).1)
def RL.goG (s:RL):List Int→List (Int×Int)×Int→List (Int×Int)×Int
 | [],st=>st
 |x::l,st=>s.goG l (s.stepG x st)
theorem goG_snoc (s:RL): ∀(l:List Int) (x:Int) (st:List (Int×Int)×Int),s.goG (l++[x]) st=s.stepG x (s.goG l st)
 | [],_,_=>rfl
 |_::l,x,st=>goG_snoc s l x _
theorem goG_succ (s:RL) {l:List Int} {j:Nat} (hj:j<l.length) (st:List (Int×Int)×Int):s.goG (l.take (j+1)) st=s.stepG (l.getD j 0) (s.goG (l.take j) st):=by
 rw[List.take_succ_eq_append_getElem hj,goG_snoc];simp[hj]
def RL.gapsR (s:RL) (k:Nat):List (Int×Int):=
 if s.stateR (k:Int)=1 then
  (if(s.goG (s.objsR (k:Int)) ([],((64*k:Nat):Int))).2<((64*(k+1):Nat):Int)then(s.goG (s.objsR (k:Int)) ([],((64*k:Nat):Int))).1++[((s.goG (s.objsR (k:Int)) ([],((64*k:Nat):Int))).2,((64*(k+1):Nat):Int)-(s.goG (s.objsR (k:Int)) ([],((64*k:Nat):Int))).2)]else(s.goG (s.objsR (k:Int)) ([],((64*k:Nat):Int))).1)
 else []
theorem Sl.nil2 (w:World):Sl w 2 (.slice none 0 0) 0 [] []:=⟨rfl,.inl ⟨rfl,rfl,rfl⟩⟩
theorem blkV_append (B C:List (Int×Int)):blkV (B++C)=blkV B++blkV C:=by simp[blkV]
theorem fGaps {w:World} {b:Nat} {s:RL} {fp:List Nat} (h:FM w b s fp) (k:Nat) (hk:k≤64):Cs Tryz.prog 235 [.pointer (some ⟨b,0,none⟩),.int .i64 (k:Int)] w fun v w'=>Only [] w w'∧ ∃R fq,Sl w' 2 v R.length (blkV R) fq∧GRuns k R∧R.length≤3000∧(∀y,y∈fq→w.heap.size≤y)∧R=s.gapsR k:=by
 have hol:=h.ok.ol
 refine enter_ref02_Heap_Gaps rfl ?_
 unfold x_ref02_Heap_Gaps
 (repeat(first|with_reducible(first|refine nx ?_|refine r_6 rfl ?_)|simp only[go_sem]))
 refine callT0 (fState h (k:Int)) ?_
 by_cases c1:s.stateR (k:Int)=1
 rotate_left
 ·(repeat(first|with_reducible(first|refine nx ?_|refine r_6 rfl ?_)|simp only[go_sem,bne_int_true c1]))
  exact⟨Only.refl _ _,[],[],Sl.nil2 _,fun r hr=>absurd hr (by simp),by simp,by simp,by unfold RL.gapsR;rw[if_neg c1]⟩
 have e1:IntKind.i64.wrap ((k:Int)*64)=((64*k:Nat):Int):=by rw[IntWalk.i64_in _ (by omega)];omega
 (repeat(first|with_reducible(first|refine nx ?_|refine r_6 rfl ?_)|simp only[go_sem,bne_int_false c1,e1]))
 refine callT (fObjects h (k:Int)) ?_
 rintro vl w1 ⟨ho1,fl,hsl,hfl⟩
 have hmem: ∀i,i<(s.objsR (k:Int)).length→ ∃na:Nat,(s.objsR (k:Int)).getD i 0=na∧na/64=k∧ ∃j,ixO s.O (na:Int)=some j:=by
  intro i hi
  have h1:(s.objsR (k:Int)).getD i 0∈s.objsR (k:Int):=by simp[hi]
  simp only[RL.objsR,List.mem_map,List.mem_filter]at h1
  obtain⟨o,⟨ho,hp⟩,he⟩:=h1
  simp only[inBlk,decide_eq_true_eq]at hp
  have hbo:=h.ok.ob o ho
  have ha0:=hbo.a0
  refine⟨o.a.toNat,?_,by omega,?_⟩
  ·show(s.objsR (k:Int)).getD i 0=_
   rw[show(s.objsR (k:Int)).getD i 0=o.a from he.symm];omega
  ·rw[show((o.a.toNat:Nat):Int)=o.a by omega]
   cases e:ixO s.O o.a with
   |some j=>exact⟨j,rfl⟩
   |none=>
    exfalso
    obtain⟨t,ht,rfl⟩:=List.mem_iff_getElem.1 ho
    have key: ∀(O:List Ob) (a:Int),ixO O a=none→ ∀t (ht:t<O.length),(O[t]).a≠a:=by
     intro O a
     induction O with
     |nil=>intro _ t ht;simp at ht
     |cons p O ih=>
      intro hn t ht
      unfold ixO at hn
      split at hn
      ·cases hn
      ·rename_i hne
       have hn':ixO O a=none:=by simpa using hn
       cases t with
       |zero=>exact hne
       |succ t=>exact ih hn' t (by simpa using ht)
    exact key _ _ e t ht rfl
 have hll:(s.objsR (k:Int)).length≤2048:=by
  unfold RL.objsR
  rw[List.length_map]
  have:=List.length_filter_le (inBlk (k:Int)) s.O
  omega
 obtain⟨al,cl,hvl⟩:=hsl.val
 subst hvl
 (repeat(first|with_reducible(first|refine nx ?_|refine r_6 rfl ?_)|simp only[go_sem]))
 refine run_loop (5::6::8::20::21::22::23::24::25::26::27::28::29::30::31::32::33::34::35::36::37::38::39::40::41::42::43::44::45::46::47::48::49::50::51::52::53::54::55::56::57::58::59::60::61::[]) (fun g w'=> ∃(j:Nat) (na:Nat) (R:List (Int×Int)) (fq:List Nat),g 8=.int .i64 (j:Int)∧j≤(s.objsR (k:Int)).length∧g 6=.int .i64 (na:Int)∧64*k≤na∧na≤64*k+300∧Sl w' 2 (g 5) R.length (blkV R) fq∧GRuns k R∧R.length≤j∧(∀y,y∈fq→w1.heap.size≤y)∧Only [] w1 w'∧s.goG ((s.objsR (k:Int)).take j) ([],((64*k:Nat):Int))=(R,(na:Int))) (fun g _=>upTo (s.objsR (k:Int)).length 8 g)
  ⟨0,64*k,[],[],by simp only[go_sem];rfl,by omega,by simp only[go_sem],by omega,by omega,by simp only[go_sem];exact Sl.nil2 _,fun r hr=>absurd hr (by simp),by simp,by simp,Only.refl _ _,rfl⟩ fun g w2 hI hnext=>?_
 obtain⟨j,na,R,fq,h8,hj,h6,hn1,hn2,h5,hR,hRl,hfq,ho2,hgo⟩:=hI
 have o2:=ho1.nil ho2
 have hsl2:=hsl.keep0 ho2
 (repeat(first|with_reducible(first|refine nx ?_|refine r_6 rfl ?_)|simp only[go_sem,h8]))
 refine condT (fun hlt=>?_) (fun hge=>?_)
 ·have hlt:j<(s.objsR (k:Int)).length:=by simpa using hlt
  have e2:(0:Int)≤(j:Int)∧(j:Int)<((s.objsR (k:Int)).length:Int):=⟨by omega,by omega⟩
  obtain⟨x,hx,hxk,t,ht⟩:=hmem j hlt
  obtain⟨gl,cl',ysl,hvl',hatl,_,_⟩:=hsl.pos (by omega)
  cases hvl'
  have hpcw: ∀w',Only [] w1 w'→w'.cell? ⟨gl,j,none⟩=some (.int .i64 (x:Int)):=fun w' ho=>by rw[(hatl.keep0 ho).cell,ints_append_get ysl hlt,hx]
  have hpc:=hpcw w2 ho2
  have hplt:=hatl.lt
  obtain⟨t1,t2,t3⟩:=ixO_spec ht
  refine run_skip (run_seq (run_block (run_seq ?_)))
  refine run_cut (5::26::27::28::29::30::31::32::33::34::35::36::37::38::39::40::41::42::[]) (fun ρ' w'=> ∃R' fq',Sl w' 2 (ρ' 5) R'.length (blkV R') fq'∧GRuns k R'∧R'.length≤j+1∧(∀y,y∈fq'→w1.heap.size≤y)∧Only [] w1 w'∧R'=(if(na:Int)<(x:Int)then R++[((na:Int),(x:Int)-(na:Int))]else R)) (fun kk hkk=>?_) (fun g' w3 hJ=>?_)
  ·by_cases c2:(na:Int)<(x:Int)
   ·have e3:IntKind.i64.wrap ((x:Int)-(na:Int))=(x:Int)-(na:Int):=IntWalk.i64_in _ (by omega)
    (repeat(first|with_reducible(first|refine nx ?_|refine r_6 rfl ?_)|simp only[go_sem,h8,h6,if_pos e2,Int.toNat_natCast,Nat.mul_one,hpc,decide_eq_true c2,e3]))
    rw[fillL_one rfl rfl,fillL_one rfl rfl]
    (repeat(first|with_reducible(first|refine nx ?_|refine r_6 rfl ?_)|simp only[go_sem]))
    rw[fillL_ag (n:=2) rfl rfl]
    (repeat(first|with_reducible(first|refine nx ?_|refine r_6 rfl ?_)|simp only[go_sem]))
    refine bslT fun q w3 hq hs3 hat3 ho3=>?_
    (repeat(first|with_reducible(first|refine nx ?_|refine r_6 rfl ?_)|simp only[go_sem]))
    refine appT (sz:=2) (us:=bV ((na:Int),(x:Int)-(na:Int))) (h5.keep0 ho3) (SrcIs.at hat3 rfl) (bV_one _) (by omega) (by omega) ?_
    intro v4 w4 f4 hs4 hf4 ho4 _
    (repeat(first|with_reducible(first|refine nx ?_|refine r_6 rfl ?_)|simp only[go_sem]))
    refine hkk _ w4 ?_ ⟨R++[((na:Int),(x:Int)-(na:Int))],f4,?_,?_,by simp;omega,?_,(ho2.nil ho3).trans ho4 fun y hy=>.inr (hfq y hy),by rw[if_pos c2]⟩
    ·(repeat(first|with_reducible exact k_1|with_reducible exact Keeps.ovr _ _ _|refine Keeps.put ?_ rfl _|exact k_1|exact Keeps.ovr _ _ _|refine Keeps.ovr2 ?_ rfl _))
    ·simp only[go_sem]
     rw[blkV_append,List.length_append]
     simpa[blkV,bV]using hs4
    ·intro r hr
     simp only[List.mem_append,List.mem_singleton]at hr
     rcases hr with hr|rfl
     ·exact hR r hr
     ·simp only;omega
    ·intro y hy
     have:=ho2.size
     have:=ho3.size
     rcases hf4 with rfl|rfl
     ·exact hfq y hy
     ·simp only[List.mem_singleton]at hy;omega
   ·(repeat(first|with_reducible(first|refine nx ?_|refine r_6 rfl ?_)|simp only[go_sem,h8,h6,if_pos e2,Int.toNat_natCast,Nat.mul_one,hpc,decide_eq_false c2]))
    refine hkk _ w2 ?_ ⟨R,fq,?_,hR,by omega,hfq,ho2,by rw[if_neg c2]⟩
    ·(repeat(first|with_reducible exact k_1|with_reducible exact Keeps.ovr _ _ _|refine Keeps.put ?_ rfl _|exact k_1|exact Keeps.ovr _ _ _|refine Keeps.ovr2 ?_ rfl _))
    ·simp only[go_sem];exact h5
  obtain⟨R',fq',h5',hR',hRl',hfq',ho3,hR'e⟩:=hJ
  have o3d:=ho3.nil (Only.drew [] w3)
  have hd:=(h.keep0 ho1).keep0 o3d
  have hpc3:=hpcw w3.drew o3d
  obtain⟨vB,vO,vF,fB,fO,fF,L,hfp,hm⟩:=hd
  have hlen:=hm.len
  have hB:=hm.ok.b64
  obtain⟨g8,cap,ys,rfl,hat,hfO,_⟩:=hm.row (by omega)
  obtain⟨_,hc3⟩:=hm.all (cap:=0) hat (show t<L.length by omega)
  have e4:(0:Int)≤(t:Int)∧(t:Int)<(L.length:Int):=⟨by omega,by omega⟩
  have hbo:=hm.ok.ob (s.O.getD t default) (by simp[t1])
  rw[hm.getO (by omega)]at hbo
  have hwo:=words_le hbo.v
  have hltb:=hm.hb.lt
  have hltg:=hat.lt
  have h3s:=o3d.size
  have hsb: ∀z,z∈[gl,b,g8]→z<w3.drew.heap.size∧z∉([]:List Nat):=fun z hz=>⟨by simp only[List.mem_cons,List.not_mem_nil,or_false]at hz;rcases hz with rfl|rfl|rfl;exact Nat.lt_of_lt_of_le hplt h3s;exact hltb;exact hltg,by simp⟩
  refine run_drt [gl,b,g8] ?_
  (repeat(first|with_reducible(first|refine nx ?_|refine r_6 rfl ?_)|simp only[go_sem,h8,if_pos e2,Int.toNat_natCast,Nat.mul_one,hpc3,hm.hb.cell]))
  refine callS0 (fIndex ((h.keep0 ho1).keep0 o3d) (x:Int)) (.inr (SB.refl _ _)) ?_
  rw[ht]
  (repeat(first|with_reducible(first|refine nx ?_|refine r_6 rfl ?_)|simp only[go_sem,show ixI (some t)=(t:Int)from rfl,if_pos e4,Int.toNat_natCast,hc3]))
  refine callS1 (fWords w3.drew (L.getD t default).o.sh) (.inr ⟨SB.refl _ _,hsb⟩) fun w4 ho4=>?_
  have e5:IntKind.i64.wrap ((x:Int)+wordsS (L.getD t default).o.sh)=((x+(wordsS (L.getD t default).o.sh).toNat:Nat):Int):=by rw[IntWalk.i64_in _ (by omega)];omega
  (repeat(first|with_reducible(first|refine nx ?_|refine r_6 rfl ?_)|simp only[go_sem,e5,h8,i64_succ j (by omega)]))
  refine hnext _ w4 ?_ ⟨j+1,x+(wordsS (L.getD t default).o.sh).toNat,R',fq',?_,by omega,?_,by omega,by omega,?_,hR',by omega,hfq',o3d.nil ho4,?_⟩ ?_
  ·(repeat(first|with_reducible exact k_1|with_reducible exact Keeps.ovr _ _ _|refine Keeps.put ?_ rfl _|exact k_1|exact Keeps.ovr _ _ _|refine Keeps.ovr2 ?_ rfl _))
  ·simp only[go_sem]
  ·simp only[go_sem]
  ·simp only[go_sem]
   exact(h5'.keep0 (Only.drew [] w3)).keep0 ho4
  ·have hsx:(s.shapeR (x:Int)).1=(L.getD t default).o.sh:=by unfold RL.shapeR RL.ob;rw[ht,Option.map_some,hm.getO (by omega)]
   rw[goG_succ s hlt,hgo,hx]
   unfold RL.stepG
   rw[hsx,hR'e]
   simp only[Prod.mk.injEq,true_and]
   omega
  ·rw[upTo_int h8,upTo_int (k:=.i64) (i:=j+1) (by simp only[go_sem])];omega
 ·have hge: ¬j<(s.objsR (k:Int)).length:=by simpa using hge
  clear hnext
  rw[List.take_of_length_le (by omega)]at hgo
  have e6:IntKind.i64.wrap (IntKind.i64.wrap ((k:Int)+1)*64)=((64*(k+1):Nat):Int):=by rw[IntWalk.i64_in ((k:Int)+1) (by omega),IntWalk.i64_in _ (by omega)];omega
  by_cases c2:(na:Int)<((64*(k+1):Nat):Int)
  ·have e3:IntKind.i64.wrap (((64*(k+1):Nat):Int)-(na:Int))=((64*(k+1):Nat):Int)-(na:Int):=IntWalk.i64_in _ (by omega)
   (repeat(first|with_reducible(first|refine nx ?_|refine r_6 rfl ?_)|simp only[go_sem,e6,h6,decide_eq_true c2,e3]))
   rw[fillL_one rfl rfl,fillL_one rfl rfl]
   (repeat(first|with_reducible(first|refine nx ?_|refine r_6 rfl ?_)|simp only[go_sem]))
   rw[fillL_ag (n:=2) rfl rfl]
   (repeat(first|with_reducible(first|refine nx ?_|refine r_6 rfl ?_)|simp only[go_sem]))
   refine bslT fun q w3 hq hs3 hat3 ho3=>?_
   (repeat(first|with_reducible(first|refine nx ?_|refine r_6 rfl ?_)|simp only[go_sem]))
   refine appT (sz:=2) (us:=bV ((na:Int),((64*(k+1):Nat):Int)-(na:Int))) (h5.keep0 ho3) (SrcIs.at hat3 rfl) (bV_one _) (by omega) (by omega) ?_
   intro v4 w4 f4 hs4 hf4 ho4 _
   (repeat(first|with_reducible(first|refine nx ?_|refine r_6 rfl ?_)|simp only[go_sem]))
   refine⟨(o2.nil ho3).trans ho4 fun y hy=>.inr (by have:=hfq y hy;have:=ho1.size;omega),R++[((na:Int),((64*(k+1):Nat):Int)-(na:Int))],f4,?_,?_,by simp;omega,?_,by unfold RL.gapsR;rw[if_pos c1,hgo,if_pos c2]⟩
   ·rw[blkV_append,List.length_append]
    simpa[blkV,bV]using hs4
   ·intro r hr
    simp only[List.mem_append,List.mem_singleton]at hr
    rcases hr with hr|rfl
    ·exact hR r hr
    ·simp only;omega
   ·intro y hy
    have:=o2.size
    have:=ho3.size
    have:=ho1.size
    rcases hf4 with rfl|rfl
    ·have:=hfq y hy;omega
    ·simp only[List.mem_singleton]at hy;omega
  ·(repeat(first|with_reducible(first|refine nx ?_|refine r_6 rfl ?_)|simp only[go_sem,e6,h6,decide_eq_false c2]))
   exact⟨o2,R,fq,h5,hR,by omega,fun y hy=>by have:=hfq y hy;have:=ho1.size;omega,by unfold RL.gapsR;rw[if_pos c1,hgo,if_neg c2]⟩
end Go.Proofs.YtgcofabdialaaaaGreat
end
section
namespace Go.Proofs.YtgcofabdialaaaaGreat
set_option maxRecDepth 8000
def RL.FreeAt (s:RL) (n i:Nat):Prop:=1≤i∧i+n≤s.B.length∧ ∀j,j<n→s.stateR ((i+j:Nat):Int)=0
def RL.FreeIs (s:RL) (n k:Nat):Prop:=(k=0∧ ∀i,¬s.FreeAt n i)∨(s.FreeAt n k∧ ∀i,i<k→ ¬s.FreeAt n i)
theorem RL.FreeIs.uniq {s:RL} {n k l:Nat} (h:s.FreeIs n k) (h':s.FreeIs n l):k=l:=by
 rcases h with⟨h1,h2⟩|⟨h1,h2⟩<;>rcases h' with⟨h3,h4⟩|⟨h3,h4⟩
 ·omega
 ·exact absurd h3 (h2 l)
 ·exact absurd h1 (h4 k)
 ·rcases Nat.lt_trichotomy k l with h|h|h
  ·exact absurd h1 (h4 k h)
  ·exact h
  ·exact absurd h3 (h2 l h)
theorem fFree {w:World} {b:Nat} {s:RL} {fp:List Nat} (h:FM w b s fp) (n:Nat) (hn:n≤100):Cs Tryz.prog 203 [.pointer (some ⟨b,0,none⟩),.int .i64 (n:Int)] w fun v w'=>(∃k:Nat,v=.int .i64 (k:Int)∧k≤64∧s.FreeIs n k)∧w'=w:=by
 have hB:=h.ok.b64
 refine enter_ref05_Free rfl ?_
 unfold x_ref05_Free
 (repeat(first|with_reducible(first|refine nx ?_|refine r_6 rfl ?_)|simp only[go_sem]))
 refine run_loop (4::5::6::7::8::9::10::11::12::13::14::15::16::17::18::19::20::21::22::23::24::25::26::27::28::29::30::31::[]) (fun g w'=> ∃i:Nat,g 5=.int .i64 (i:Int)∧1≤i∧i≤s.B.length+1∧(∀i',i'<i→ ¬s.FreeAt n i')∧w'=w) (fun g _=>upTo 100 5 g)
  ⟨1,by simp only[go_sem];rfl,by omega,by omega,fun i' hi' h=>by have:=h.1;omega,rfl⟩ fun g w1 hI hnext=>?_
 obtain⟨i,h5,hi1,hi,hno,rfl⟩:=hI
 have e1:IntKind.i64.wrap ((i:Int)+(n:Int))=((i+n:Nat):Int):=by rw[IntWalk.i64_in _ (by omega)];omega
 (repeat(first|with_reducible(first|refine nx ?_|refine r_6 rfl ?_)|simp only[go_sem,h5,e1]))
 refine callT0 (fBlocks h) ?_
 (repeat(first|with_reducible(first|refine nx ?_|refine r_6 rfl ?_)|simp only[go_sem]))
 refine condT (fun hlt=>?_) (fun hge=>?_)
 ·have hlt:i+n≤s.B.length:=by
   have:((i+n:Nat):Int)≤(s.B.length:Int):=by simpa using hlt
   omega
  (repeat(first|with_reducible(first|refine nx ?_|refine r_6 rfl ?_)|simp only[go_sem]))
  refine run_loop (6::15::16::17::18::19::20::21::22::23::24::25::26::27::[]) (fun g' w'=> ∃j:Nat,g' 6=.int .i64 (j:Int)∧j≤n∧(∀j',j'<j→s.stateR ((i+j':Nat):Int)=0)∧w'=w1) (fun g' _=>upTo n 6 g')
   ⟨0,by simp only[go_sem];rfl,by omega,fun j' hj'=>absurd hj' (by omega),rfl⟩ fun g' w2 hI' hnext'=>?_
  obtain⟨j,h6,hj,hz,rfl⟩:=hI'
  have out: ∀ρ':Env,True:=fun _=>trivial
  clear out
  by_cases c1:j<n
  ·have e2:IntKind.i64.wrap ((i:Int)+(j:Int))=((i+j:Nat):Int):=by rw[IntWalk.i64_in _ (by omega)];omega
   (repeat(first|with_reducible(first|refine nx ?_|refine r_6 rfl ?_)|simp only[go_sem,h6,decide_eq_true (show(j:Int)<(n:Int) by omega),h5,e2]))
   refine callT0 (fState h ((i+j:Nat):Int)) ?_
   by_cases c2:s.stateR ((i+j:Nat):Int)=0
   ·(repeat(first|with_reducible(first|refine nx ?_|refine r_6 rfl ?_)|simp only[go_sem,beq_int_true c2,h6,i64_succ j (by omega)]))
    refine hnext' _ w2 ?_ ⟨j+1,?_,by omega,fun j' hj'=>?_,rfl⟩ ?_
    ·(repeat(first|with_reducible exact k_1|with_reducible exact Keeps.ovr _ _ _|refine Keeps.put ?_ rfl _|exact k_1|exact Keeps.ovr _ _ _|refine Keeps.ovr2 ?_ rfl _))
    ·simp only[go_sem]
    ·by_cases e:j'=j
     ·rw[e];exact c2
     ·exact hz j' (by omega)
    ·rw[upTo_int h6,upTo_int (k:=.i64) (i:=j+1) (by simp only[go_sem])];omega
   ·(repeat(first|with_reducible(first|refine nx ?_|refine r_6 rfl ?_)|simp only[go_sem,beq_int_false c2,h6,beq_int_false (show¬(j:Int)=(n:Int) by omega),h5,i64_succ i (by omega)]))
    refine hnext _ w2 ?_ ⟨i+1,?_,by omega,by omega,fun i' hi'=>?_,rfl⟩ ?_
    ·(repeat(first|with_reducible exact k_1|with_reducible exact Keeps.ovr _ _ _|refine Keeps.put ?_ rfl _|exact k_1|exact Keeps.ovr _ _ _|refine Keeps.ovr2 ?_ rfl _))
    ·simp only[go_sem]
    ·by_cases e:i'=i
     ·rw[e];exact fun h=>c2 (h.2.2 j c1)
     ·exact hno i' (by omega)
    ·rw[upTo_int h5,upTo_int (k:=.i64) (i:=i+1) (by simp only[go_sem])];omega
  ·(repeat(first|with_reducible(first|refine nx ?_|refine r_6 rfl ?_)|simp only[go_sem,h6,decide_eq_false (show¬(j:Int)<(n:Int) by omega),beq_int_true (show(j:Int)=(n:Int) by omega),h5]))
   exact⟨i,rfl,by omega,.inr ⟨⟨hi1,hlt,fun j' hj'=>hz j' (by omega)⟩,hno⟩⟩
 ·have hge: ¬i+n≤s.B.length:=by
   intro h
   have: ¬((i+n:Nat):Int)≤(s.B.length:Int):=by simpa using hge
   omega
  (repeat(first|with_reducible(first|refine nx ?_|refine r_6 rfl ?_)|simp only[go_sem]))
  refine⟨0,rfl,by omega,.inl ⟨rfl,fun i' h=>?_⟩⟩
  by_cases e:i'<i
  ·exact hno i' e h
  ·have:=h.2.1;omega
def GapOk (s:RL) (a:Int) (ok:Bool):Prop:=ok=true→ ∃k:Nat,1≤k∧k<s.B.length∧s.stateR (k:Int)=1∧((64*k:Nat):Int)≤a∧a<((64*(k+1):Nat):Int)
def RL.GapAt (s:RL) (sh:Sh) (sp:Int) (i:Nat) (a:Int):Prop:=1≤i∧i<s.B.length∧s.stateR (i:Int)=1∧s.spaceR (i:Int)=sp∧ ∃j,j<(s.gapsR i).length∧wordsS sh≤((s.gapsR i).getD j (0,0)).2∧a=((s.gapsR i).getD j (0,0)).1∧ ∀j',j'<j→ ¬wordsS sh≤((s.gapsR i).getD j' (0,0)).2
def RL.GapIs (s:RL) (sh:Sh) (sp a:Int) (ok:Bool):Prop:=(ok=false∧ ∀i a',¬s.GapAt sh sp i a')∨(ok=true∧ ∃i,s.GapAt sh sp i a∧ ∀i' a',i'<i→ ¬s.GapAt sh sp i' a')
theorem RL.GapIs.uniq {s:RL} {sh:Sh} {sp a a':Int} {ok ok':Bool} (h:s.GapIs sh sp a ok) (h':s.GapIs sh sp a' ok'):ok=ok'∧(ok=true→a=a'):=by
 rcases h with⟨rfl,h2⟩|⟨rfl,i,h1,h2⟩<;>rcases h' with⟨rfl,h4⟩|⟨rfl,i',h3,h4⟩
 ·exact⟨rfl,fun h=>by cases h⟩
 ·exact absurd h3 (h2 _ _)
 ·exact absurd h1 (h4 _ _)
 ·refine⟨rfl,fun _=>?_⟩
  rcases Nat.lt_trichotomy i i' with h|h|h
  ·exact absurd h1 (h4 _ _ h)
  ·subst h
   obtain⟨_,_,_,_,j,e1,e2,e3,e4⟩:=h1
   obtain⟨_,_,_,_,j',f1,f2,f3,f4⟩:=h3
   rcases Nat.lt_trichotomy j j' with h|h|h
   ·exact absurd e2 (f4 _ h)
   ·subst h;rw[e3,f3]
   ·exact absurd f2 (e4 _ h)
  ·exact absurd h3 (h2 _ _ h)
theorem fGap {w:World} {b:Nat} {s:RL} {fp:List Nat} (h:FM w b s fp) (sh:Sh) (sp:Int):Cs Tryz.prog 205 [.pointer (some ⟨b,0,none⟩),.agg ⟨shV sh⟩,.int .i64 sp] w fun v w'=>(∃a ok,v=.tuple #[.int .i64 a,.bool ok]∧GapOk s a ok∧s.GapIs sh sp a ok)∧Only [] w w':=by
 have hB:=h.ok.b64
 refine enter_ref12_Gap rfl ?_
 unfold x_ref12_Gap
 (repeat(first|with_reducible(first|refine nx ?_|refine r_6 rfl ?_)|simp only[go_sem]))
 refine boxT fun q w1 hq hs1 hat1 ho1=>?_
 (repeat(first|with_reducible(first|refine nx ?_|refine r_6 rfl ?_)|simp only[go_sem]))
 refine run_loop (6::7::8::9::10::11::12::13::14::15::16::17::18::19::20::21::22::23::24::25::26::27::28::29::30::31::32::33::34::35::36::37::38::39::40::41::42::43::44::45::46::47::48::49::[]) (fun g w'=> ∃i:Nat,g 8=.int .i64 (i:Int)∧1≤i∧i≤s.B.length+1∧(∀i' a',i'<i→ ¬s.GapAt sh sp i' a')∧Only [] w1 w') (fun g _=>upTo 100 8 g)
  ⟨1,by simp only[go_sem];rfl,by omega,by omega,fun i' a' hi' h=>by have:=h.1;omega,Only.refl _ _⟩ fun g w2 hI hnext=>?_
 obtain⟨i,h8,hi1,hi,hno,ho2⟩:=hI
 have o2:=ho1.nil ho2
 have h2:=h.keep0 o2
 (repeat(first|with_reducible(first|refine nx ?_|refine r_6 rfl ?_)|simp only[go_sem,h8]))
 refine callT0 (fBlocks h2) ?_
 (repeat(first|with_reducible(first|refine nx ?_|refine r_6 rfl ?_)|simp only[go_sem]))
 refine condT (fun hlt=>?_) (fun hge=>?_)
 ·have hlt:i<s.B.length:=by simpa using hlt
  have next: ∀w3,Only [] w2 w3→ ∀ρ':Env,True:=fun _ _ _=>trivial
  clear next
  (repeat(first|with_reducible(first|refine nx ?_|refine r_6 rfl ?_)|simp only[go_sem,h8]))
  refine callT0 (fState h2 (i:Int)) ?_
  by_cases c1:s.stateR (i:Int)=1
  rotate_left
  ·(repeat(first|with_reducible(first|refine nx ?_|refine r_6 rfl ?_)|simp only[go_sem,bne_int_true c1,h8,i64_succ i (by omega)]))
   refine hnext _ w2 ?_ ⟨i+1,?_,by omega,by omega,fun i' a' hi' h=>?_,ho2⟩ ?_
   ·(repeat(first|with_reducible exact k_1|with_reducible exact Keeps.ovr _ _ _|refine Keeps.put ?_ rfl _|exact k_1|exact Keeps.ovr _ _ _|refine Keeps.ovr2 ?_ rfl _))
   ·simp only[go_sem]
   ·by_cases e:i'=i
    ·subst e;exact c1 h.2.2.1
    ·exact hno i' a' (by omega) h
   ·rw[upTo_int h8,upTo_int (k:=.i64) (i:=i+1) (by simp only[go_sem])];omega
  (repeat(first|with_reducible(first|refine nx ?_|refine r_6 rfl ?_)|simp only[go_sem,bne_int_false c1,h8]))
  refine callT0 (fSpace h2 (i:Int)) ?_
  by_cases c2:s.spaceR (i:Int)=sp
  rotate_left
  ·(repeat(first|with_reducible(first|refine nx ?_|refine r_6 rfl ?_)|simp only[go_sem,bne_int_true c2,h8,i64_succ i (by omega)]))
   refine hnext _ w2 ?_ ⟨i+1,?_,by omega,by omega,fun i' a' hi' h=>?_,ho2⟩ ?_
   ·(repeat(first|with_reducible exact k_1|with_reducible exact Keeps.ovr _ _ _|refine Keeps.put ?_ rfl _|exact k_1|exact Keeps.ovr _ _ _|refine Keeps.ovr2 ?_ rfl _))
   ·simp only[go_sem]
   ·by_cases e:i'=i
    ·subst e;exact c2 h.2.2.2.1
    ·exact hno i' a' (by omega) h
   ·rw[upTo_int h8,upTo_int (k:=.i64) (i:=i+1) (by simp only[go_sem])];omega
  (repeat(first|with_reducible(first|refine nx ?_|refine r_6 rfl ?_)|simp only[go_sem,bne_int_false c2,h8]))
  refine callT (fGaps h2 i (by omega)) ?_
  rintro vR w3 ⟨ho3,R,fq,hR,hruns,hRl,hfq,hRe⟩
  have o13:=ho2.nil ho3
  obtain⟨aR,cR,hvR⟩:=hR.val
  subst hvR
  (repeat(first|with_reducible(first|refine nx ?_|refine r_6 rfl ?_)|simp only[go_sem]))
  refine run_loop (6::7::10::31::32::33::34::35::36::37::38::39::40::41::42::43::44::45::46::47::48::49::[]) (fun g' w'=> ∃j:Nat,g' 10=.int .i64 (j:Int)∧j≤R.length∧(∀j',j'<j→ ¬wordsS sh≤(R.getD j' (0,0)).2)∧Only [] w3 w') (fun g' _=>upTo R.length 10 g')
   ⟨0,by simp only[go_sem];rfl,by omega,fun j' hj'=>absurd hj' (by omega),Only.refl _ _⟩ fun g' w4 hI' hnext'=>?_
  obtain⟨j,h10,hj,hnj,ho4⟩:=hI'
  have o14:=o13.nil ho4
  (repeat(first|with_reducible(first|refine nx ?_|refine r_6 rfl ?_)|simp only[go_sem,h10]))
  refine condT (fun hlt'=>?_) (fun hge'=>?_)
  ·have hlt':j<R.length:=by simpa using hlt'
   obtain⟨gR,capR,ysR,hvR',hatR,hfR⟩: ∃g cap ys,Value.slice aR R.length cR=.slice (some ⟨g,0,none⟩) R.length cap∧At w3 g (blkV R++ys)∧fq=[g]:=by
    rcases hR.2 with⟨_,h0,_⟩|⟨g,cap,ys,T,q1,q2,q3,q4,q5⟩
    ·omega
    ·exact⟨g,cap,ys,q1,⟨T,q3⟩,q2⟩
   cases hvR'
   have e2:(0:Int)≤(j:Int)∧(j:Int)<(R.length:Int):=⟨by omega,by omega⟩
   have hat4:=hatR.keep0 ho4
   obtain⟨b1,b2⟩:=blk_at (B:=R) ysR hlt'
   have hcq: ∀w',Only [] w1 w'→cellsAt w' ⟨q,0,none⟩ 3=some (shV sh):=fun w' k=>cellsAt_at (hat1.keep0 k) 0 3 (by simp[shV])
   have hl1:=hat4.lt
   have hl2:=(hat1.keep0 o14).lt
   have hsb: ∀z,z∈[gR,q]→z<w4.drew.heap.size∧z∉([]:List Nat):=fun z hz=>⟨by show z<w4.heap.size;simp only[List.mem_cons,List.not_mem_nil,or_false]at hz;rcases hz with rfl|rfl;exact hl1;exact hl2,by simp⟩
   (repeat(first|with_reducible(first|refine nx ?_|refine r_6 rfl ?_)|simp only[go_sem]))
   refine run_drt [gR,q] ?_
   (repeat(first|with_reducible(first|refine nx ?_|refine r_6 rfl ?_)|simp only[go_sem,h10,if_pos e2,Int.toNat_natCast,hat4.drew.cell,b2,hcq w4.drew (o14.nil (Only.drew [] w4))]))
   refine callS1 (fWords w4.drew sh) (.inr ⟨SB.refl _ _,hsb⟩) fun w5 ho5=>?_
   have o5:=(Only.drew [] w4).nil ho5
   by_cases c3:wordsS sh≤(R.getD j (0,0)).2
   ·(repeat(first|with_reducible(first|refine nx ?_|refine r_6 rfl ?_)|simp only[go_sem,decide_eq_true c3,h10,if_pos e2,Int.toNat_natCast,(hat4.keep0 o5).cell,b1]))
    refine⟨⟨_,true,rfl,fun _=>⟨i,hi1,hlt,c1,?_⟩,.inr ⟨rfl,i,⟨hi1,hlt,c1,c2,j,by rw[←hRe];exact hlt',by rw[←hRe];exact c3,by rw[←hRe],by rw[←hRe];exact hnj⟩,hno⟩⟩,(ho1.nil o14).nil o5⟩
    exact hruns _ (by simp[hlt'])
   ·(repeat(first|with_reducible(first|refine nx ?_|refine r_6 rfl ?_)|simp only[go_sem,decide_eq_false c3,h10,i64_succ j (by omega)]))
    refine hnext' _ w5 ?_ ⟨j+1,?_,by omega,fun j' hj'=>?_,ho4.nil o5⟩ ?_
    ·(repeat(first|with_reducible exact k_1|with_reducible exact Keeps.ovr _ _ _|refine Keeps.put ?_ rfl _|exact k_1|exact Keeps.ovr _ _ _|refine Keeps.ovr2 ?_ rfl _))
    ·simp only[go_sem]
    ·by_cases e:j'=j
     ·rw[e];exact c3
     ·exact hnj j' (by omega)
    ·rw[upTo_int h10,upTo_int (k:=.i64) (i:=j+1) (by simp only[go_sem])];omega
  ·have hge': ¬j<R.length:=by simpa using hge'
   (repeat(first|with_reducible(first|refine nx ?_|refine r_6 rfl ?_)|simp only[go_sem,h8,i64_succ i (by omega)]))
   refine hnext _ w4 ?_ ⟨i+1,?_,by omega,by omega,fun i' a' hi' h=>?_,o14⟩ ?_
   ·(repeat(first|with_reducible exact k_1|with_reducible exact Keeps.ovr _ _ _|refine Keeps.put ?_ rfl _|exact k_1|exact Keeps.ovr _ _ _|refine Keeps.ovr2 ?_ rfl _))
   ·simp only[go_sem]
   ·by_cases e:i'=i
    ·subst e
     obtain⟨_,_,_,_,j',e1,e2,_,_⟩:=h
     rw[←hRe]at e1 e2
     exact hnj j' (by omega) e2
    ·exact hno i' a' (by omega) h
   ·rw[upTo_int h8,upTo_int (k:=.i64) (i:=i+1) (by simp only[go_sem])];omega
 ·have hge: ¬i<s.B.length:=by simpa using hge
  (repeat(first|with_reducible(first|refine nx ?_|refine r_6 rfl ?_)|simp only[go_sem]))
  exact⟨⟨0,false,rfl,(fun h=>by cases h),.inl ⟨rfl,fun i' a' h=>hno i' a' (by have:=h.2.1;omega) h⟩⟩,o2⟩
def FirstOk (s s' : RL) (sh : Sh) (sp a : Int) (ok : Bool) (c : Nat) : Prop := (ok = false ∧ s' = s ∧ c = 0) ∨ (ok = true ∧ ∃ k : Nat, k ≤ 64 ∧
  ((wordsS sh ≤ 32 ∧ 1 ≤ k ∧ k < s.B.length ∧ s.stateR (k : Int) = 1 ∧ ((64 * k : Nat) : Int) ≤ a ∧ a < ((64 * (k + 1) : Nat) : Int) ∧ s' = s ∧ c = 1) ∨
   (32 < wordsS sh ∧ a = ((64 * k : Nat) : Int) ∧ s.claimLE (k : Int) ((wordsS sh + 63) / 64) sp = 0 ∧ s' = s.claimLM (k : Int) ((wordsS sh + 63) / 64) sp ∧ c = 2) ∨
   (wordsS sh ≤ 32 ∧ a = ((64 * k : Nat) : Int) ∧ s.claimE (k : Int) sp = 0 ∧ s' = s.claimM (k : Int) sp ∧ c = 3)))
def RL.FirstU (s:RL) (sh:Sh) (sp a:Int) (c:Nat):Prop:=
 (32<wordsS sh∧ ∃k,s.FreeIs ((wordsS sh+63)/64).toNat k∧((c=0∧(k=0∨s.claimLE (k:Int) ((wordsS sh+63)/64) sp≠0))∨(c=2∧k≠0∧s.claimLE (k:Int) ((wordsS sh+63)/64) sp=0∧a=((64*k:Nat):Int))))∨
 (¬32<wordsS sh∧((c=1∧s.GapIs sh sp a true)∨((∃a',s.GapIs sh sp a' false)∧ ∃k,s.FreeIs 1 k∧((c=0∧(k=0∨s.claimE (k:Int) sp≠0))∨(c=3∧k≠0∧s.claimE (k:Int) sp=0∧a=((64*k:Nat):Int))))))
theorem RL.FirstU.uniq {s:RL} {sh:Sh} {sp a a':Int} {c c':Nat} (h:s.FirstU sh sp a c) (h':s.FirstU sh sp a' c'):c=c'∧(c≠0→a=a'):=by
 rcases h with⟨h0,k,h1,h2⟩|⟨h0,h1⟩<;>rcases h' with⟨g0,l,g1,g2⟩|⟨g0,g1⟩
 ·obtain rfl:=h1.uniq g1
  rcases h2 with⟨rfl,h2⟩|⟨rfl,h2,h3,h4⟩<;>rcases g2 with⟨rfl,g2⟩|⟨rfl,g2,g3,g4⟩
  ·exact⟨rfl,fun h=>absurd rfl h⟩
  ·exact h2.elim (fun h=>absurd h g2) fun h=>absurd g3 h
  ·exact g2.elim (fun h=>absurd h h2) fun h=>absurd h3 h
  ·exact⟨rfl,fun _=>by rw[h4,g4]⟩
 ·exact absurd h0 g0
 ·exact absurd g0 h0
 ·rcases h1 with⟨rfl,h1⟩|⟨⟨b,h1⟩,k,h2,h3⟩<;>rcases g1 with⟨rfl,g1⟩|⟨⟨b',g1⟩,l,g2,g3⟩
  ·exact⟨rfl,fun _=>(h1.uniq g1).2 rfl⟩
  ·exact absurd (h1.uniq g1).1 (by simp)
  ·exact absurd (h1.uniq g1).1 (by simp)
  ·obtain rfl:=h2.uniq g2
   rcases h3 with⟨rfl,h2⟩|⟨rfl,h2,h3,h4⟩<;>rcases g3 with⟨rfl,g2⟩|⟨rfl,g2,g3,g4⟩
   ·exact⟨rfl,fun h=>absurd rfl h⟩
   ·exact h2.elim (fun h=>absurd h g2) fun h=>absurd g3 h
   ·exact g2.elim (fun h=>absurd h h2) fun h=>absurd h3 h
   ·exact⟨rfl,fun _=>by rw[h4,g4]⟩
theorem fFirst {w:World} {b:Nat} {s:RL} {fp:List Nat} (h:FM w b s fp) (sh:Sh) (sp:Int):Cs Tryz.prog 146 [.pointer (some ⟨b,0,none⟩),.agg ⟨shV sh⟩,.int .i64 sp] w fun v w'=> ∃a ok s' c,v=.tuple #[.int .i64 a,.bool ok]∧FM w' b s' fp∧Only fp w w'∧FirstOk s s' sh sp a ok c∧s.FirstU sh sp a c:=by
 have hw:=words_any sh
 refine enter_ref12_First rfl ?_
 unfold x_ref12_First
 (repeat(first|with_reducible(first|refine nx ?_|refine r_6 rfl ?_)|simp only[go_sem]))
 refine boxT fun q w1 hq hs1 hat1 ho1=>?_
 have hcq: ∀w',Only [] w1 w'→cellsAt w' ⟨q,0,none⟩ 3=some (shV sh):=fun w' k=>cellsAt_at (hat1.keep0 k) 0 3 (by simp[shV])
 (repeat(first|with_reducible(first|refine nx ?_|refine r_6 rfl ?_)|simp only[go_sem,hcq w1 (Only.refl _ _)]))
 refine callT1 (fLarge w1 sh) fun w2 ho2=>?_
 have mul64: ∀k:Nat,k≤64→IntKind.i64.wrap ((k:Int)*64)=((64*k:Nat):Int):=fun k hk=>by rw[IntWalk.i64_in _ (by omega)];omega
 by_cases c32:32<wordsS sh
 ·(repeat(first|with_reducible(first|refine nx ?_|refine r_6 rfl ?_)|simp only[go_sem,decide_eq_true c32,hcq w2 ho2]))
  refine callT1 (fNeed w2 sh) fun w3 ho3=>?_
  have o3:=(ho1.nil ho2).nil ho3
  have h3:=h.keep0 o3
  obtain⟨n,hn⟩: ∃n:Nat,(wordsS sh+63)/64=n:=⟨((wordsS sh+63)/64).toNat,by omega⟩
  rw[hn]
  have hnn:((wordsS sh+63)/64).toNat=n:=by omega
  (repeat(first|with_reducible(first|refine nx ?_|refine r_6 rfl ?_)|simp only[go_sem]))
  refine callT (fFree h3 n (by omega)) ?_
  rintro v w4 ⟨⟨k,rfl,hk,hfr⟩,rfl⟩
  by_cases c0:k=0
  ·(repeat(first|with_reducible(first|refine nx ?_|refine r_6 rfl ?_)|simp only[go_sem,beq_int_true (show(k:Int)=0 by omega)]))
   exact⟨0,false,s,0,rfl,h3,o3.of_nil,.inl ⟨rfl,rfl,rfl⟩,.inl ⟨c32,k,by rw[hnn];exact hfr,.inl ⟨rfl,.inl c0⟩⟩⟩
  (repeat(first|with_reducible(first|refine nx ?_|refine r_6 rfl ?_)|simp only[go_sem,beq_int_false (show¬(k:Int)=0 by omega),mul64 k hk]))
  refine callT (fClaimLarge h3 (k:Int) (n:Int) sp (by omega) (by omega)) ?_
  rintro v w5 ⟨rfl,h5,ho5⟩
  by_cases ce:s.claimLE (k:Int) (n:Int) sp=0
  ·(repeat(first|with_reducible(first|refine nx ?_|refine r_6 rfl ?_)|simp only[go_sem,beq_int_true ce]))
   refine⟨_,true,_,2,rfl,h5,o3.of_nil.same ho5,.inr ⟨rfl,k,hk,.inr (.inl ⟨c32,rfl,?_,?_,rfl⟩)⟩,.inl ⟨c32,k,by rw[hnn];exact hfr,.inr ⟨rfl,c0,by rw[hn];exact ce,rfl⟩⟩⟩
   ·rw[hn];exact ce
   ·rw[hn]
  ·(repeat(first|with_reducible(first|refine nx ?_|refine r_6 rfl ?_)|simp only[go_sem,beq_int_false ce]))
   refine⟨_,false,_,0,rfl,h5,o3.of_nil.same ho5,.inl ⟨rfl,?_,rfl⟩,.inl ⟨c32,k,by rw[hnn];exact hfr,.inl ⟨rfl,.inr (by rw[hn];exact ce)⟩⟩⟩
   unfold RL.claimLM;rw[if_neg ce]
 ·(repeat(first|with_reducible(first|refine nx ?_|refine r_6 rfl ?_)|simp only[go_sem,decide_eq_false c32,hcq w2 ho2]))
  refine callT (fGap (h.keep0 (ho1.nil ho2)) sh sp) ?_
  rintro v w3 ⟨⟨a,ok,rfl,hg,hgu⟩,ho3⟩
  have o3:=(ho1.nil ho2).nil ho3
  have h3:=h.keep0 o3
  cases ok with
  |true=>
   obtain⟨k,k1,k2,k3,k4,k5⟩:=hg rfl
   have:=h.ok.b64
   (repeat(first|with_reducible(first|refine nx ?_|refine r_6 rfl ?_)|simp only[go_sem]))
   exact⟨a,true,s,1,rfl,h3,o3.of_nil,.inr ⟨rfl,k,by omega,.inl ⟨by omega,k1,k2,k3,k4,k5,rfl,rfl⟩⟩,.inr ⟨c32,.inl ⟨rfl,hgu⟩⟩⟩
  |false=>
   (repeat(first|with_reducible(first|refine nx ?_|refine r_6 rfl ?_)|simp only[go_sem]))
   refine callT (fFree h3 1 (by omega)) ?_
   rintro v w4 ⟨⟨k,rfl,hk,hfr⟩,rfl⟩
   by_cases c0:k=0
   ·(repeat(first|with_reducible(first|refine nx ?_|refine r_6 rfl ?_)|simp only[go_sem,beq_int_true (show(k:Int)=0 by omega)]))
    exact⟨0,false,s,0,rfl,h3,o3.of_nil,.inl ⟨rfl,rfl,rfl⟩,.inr ⟨c32,.inr ⟨⟨a,hgu⟩,k,hfr,.inl ⟨rfl,.inl c0⟩⟩⟩⟩
   (repeat(first|with_reducible(first|refine nx ?_|refine r_6 rfl ?_)|simp only[go_sem,beq_int_false (show¬(k:Int)=0 by omega),mul64 k hk]))
   refine callT (fClaim h3 (k:Int) sp) ?_
   rintro v w5 ⟨rfl,h5,ho5⟩
   by_cases ce:s.claimE (k:Int) sp=0
   ·(repeat(first|with_reducible(first|refine nx ?_|refine r_6 rfl ?_)|simp only[go_sem,beq_int_true ce]))
    exact⟨_,true,_,3,rfl,h5,o3.of_nil.same ho5,.inr ⟨rfl,k,hk,.inr (.inr ⟨by omega,rfl,ce,rfl,rfl⟩)⟩,.inr ⟨c32,.inr ⟨⟨a,hgu⟩,k,hfr,.inr ⟨rfl,c0,ce,rfl⟩⟩⟩⟩
   ·(repeat(first|with_reducible(first|refine nx ?_|refine r_6 rfl ?_)|simp only[go_sem,beq_int_false ce]))
    refine⟨_,false,_,0,rfl,h5,o3.of_nil.same ho5,.inl ⟨rfl,?_,rfl⟩,.inr ⟨c32,.inr ⟨⟨a,hgu⟩,k,hfr,.inl ⟨rfl,.inr ce⟩⟩⟩⟩
    unfold RL.claimM;rw[if_neg ce]
end Go.Proofs.YtgcofabdialaaaaGreat
end
section
namespace Go.Proofs.YtgcofabdialaaaaGreat
set_option maxRecDepth 8000
def HL.obAt (s : HL) (i : Nat) : Ob :=
  ⟨((2 * i : Nat) : Int), s.W.getD (2 * i) 0, shapeN (s.W.getD (2 * i + 1) 0), (List.range (shapeN (s.W.getD (2 * i + 1) 0)).1.toNat).map (fun j => s.W.getD (2 * i + 2 + j) 0),
    (List.range (shapeN (s.W.getD (2 * i + 1) 0)).2.1.toNat).map (fun j => s.W.getD (2 * i + 2 + (shapeN (s.W.getD (2 * i + 1) 0)).1.toNat + j) 0), decide (s.pn.getD i 0 = 1)⟩
def HL.abs (s:HL):RL:=⟨s.B,s.objs.map s.obAt,[],s.born⟩
structure HL.Inv (s:HL):Prop where
 ok:s.Ok
 bf: ∀i,i<s.B.length→(s.B.getD i (0,0)).1=0→s.B.getD i (0,0)=(0,0)
 ids: ∀i,s.st.getD i 0=1→1≤s.W.getD (2*i) 0
 pz: ∀i,s.st.getD i 0≠1→s.pn.getD i 0=0
 fz: ∀k,(∀i,s.st.getD i 0=1→k<2*i∨((2*i:Nat):Int)+s.size (2*i)≤(k:Int))→s.W.getD k 0=0
 b0:(s.B.getD 0 (0,0)).1=0
 z0:s.st.getD 0 0≠1
theorem mem_objs {s:HL} {i:Nat}:i∈s.objs↔s.st.getD i 0=1:=by
 unfold HL.objs
 rw[mem_objsB]
 constructor
 ·exact fun h=>h.2
 ·intro h
  refine⟨⟨Nat.zero_le _,?_⟩,h⟩
  rcases Nat.lt_or_ge i s.st.length with h'|h'
  ·exact h'
  ·rw[List.getD_eq_getElem?_getD,List.getElem?_eq_none h']at h;simp at h
theorem objs_nodup (s:HL):s.objs.Nodup:=List.Nodup.sublist List.filter_sublist List.nodup_range
theorem abs_ix {s:HL} {i j:Nat} (hj:j<s.objs.length) (hi:s.objs.getD j 0=i):ixO s.abs.O ((2*i:Nat):Int)=some j:=by
 have hl:s.abs.O.length=s.objs.length:=by simp[HL.abs]
 have get: ∀k,k<s.objs.length→(s.abs.O.getD k default).a=((2*s.objs.getD k 0:Nat):Int):=fun k hk=>by simp[HL.abs,hk,HL.obAt]
 refine ixO_some (by omega) (by rw[get j hj,hi]) fun k hk=>?_
 rw[get k (by omega)]
 intro e
 have e2:s.objs.getD k 0=s.objs.getD j 0:=by omega
 have hkl:k<s.objs.length:=by omega
 have e3:s.objs[k]=s.objs[j]:=by simpa[hkl,hj]using e2
 have:=(List.getElem_inj (h₀:=hkl) (h₁:=hj) (objs_nodup s)).1 e3
 omega
theorem objs_index {s:HL} {i:Nat} (h:s.st.getD i 0=1): ∃j,j<s.objs.length∧s.objs.getD j 0=i:=by
 obtain⟨j,hj,e⟩:=List.mem_iff_getElem.1 (mem_objs.2 h)
 exact⟨j,hj,by simpa[hj]using e⟩
theorem abs_none {s:HL} {x:Int} (h: ∀i,s.st.getD i 0=1→((2*i:Nat):Int)≠x):ixO s.abs.O x=none:=by
 refine ixO_none fun j hj=>?_
 have hl:j<s.objs.length:=by simpa[HL.abs]using hj
 have:(s.abs.O.getD j default).a=((2*s.objs.getD j 0:Nat):Int):=by simp[HL.abs,hl,HL.obAt]
 rw[this]
 exact h _ (mem_objs.1 (by simp[hl]))
theorem has_iff {s:HL} (h:s.Ok) {x:Int}:hasO (some s) x=true↔ ∃i:Nat,x=((2*i:Nat):Int)∧s.st.getD i 0=1:=by
 constructor
 ·exact has_spec h
 ·rintro⟨i,rfl,hi⟩
  have hlt:=(h.start hi).1
  simp only[hasO,Bool.and_eq_true,decide_eq_true_eq]
  refine⟨⟨by omega,by omega⟩,?_⟩
  show(if hasB s.st.length (((2*i:Nat):Int)/2)=true then((s.st.getD (((2*i:Nat):Int)/2).toNat 0:Nat):Int)else-1)=1
  rw[show((2*i:Nat):Int)/2=(i:Int) by omega,if_pos (hasB_of hlt),Int.toNat_natCast,hi];rfl
theorem abs_cases {s:HL} (h:s.Ok) (x:Int):(hasO (some s) x=false∧ixO s.abs.O x=none)∨ ∃i j:Nat,x=((2*i:Nat):Int)∧s.st.getD i 0=1∧hasO (some s) x=true∧j<s.objs.length∧s.objs.getD j 0=i∧ixO s.abs.O x=some j:=by
 cases hh:hasO (some s) x with
 |true=>
  obtain⟨i,rfl,hi⟩:=(has_iff h).1 hh
  obtain⟨j,hj,e⟩:=objs_index hi
  exact .inr ⟨i,j,rfl,hi,rfl,hj,e,abs_ix hj e⟩
 |false=>
  refine .inl ⟨rfl,abs_none fun i hi e=>?_⟩
  have:hasO (some s) x=true:=(has_iff h).2 ⟨i,e.symm,hi⟩
  rw[hh]at this;cases this
theorem abs_has {s:HL} (h:s.Ok) (x:Int):s.abs.has x=hasO (some s) x:=by
 unfold RL.has
 rcases abs_cases h x with⟨h1,h2⟩|⟨i,j,_,_,h1,_,_,h2⟩
 ·rw[h1,h2];rfl
 ·rw[h1,h2];rfl
theorem abs_lacks {s:HL} (h:s.Ok) (x:Int):s.abs.lacks x=objE (some s) x:=by
 unfold RL.lacks objE
 rw[abs_has h]
theorem abs_get {s:HL} {i j:Nat} (hj:j<s.objs.length) (e:s.objs.getD j 0=i):s.abs.O.getD j default=s.obAt i:=by
 subst e;simp[HL.abs,hj]
theorem abs_ob {s:HL} (h:s.Ok) (x:Int):(hasO (some s) x=false∧s.abs.ob x=none)∨ ∃i:Nat,x=((2*i:Nat):Int)∧s.st.getD i 0=1∧hasO (some s) x=true∧s.abs.ob x=some (s.obAt i):=by
 unfold RL.ob
 rcases abs_cases h x with⟨h1,h2⟩|⟨i,j,hx,hi,h1,hj,e,h2⟩
 ·exact .inl ⟨h1,by rw[h2];rfl⟩
 ·exact .inr ⟨i,hx,hi,h1,by rw[h2,Option.map_some,abs_get hj e]⟩
theorem obAt_rf {s:HL} (h:s.Ok) {i:Nat} (hi:s.st.getD i 0=1): ∃r d k:Nat,validS (r,d,k)=true∧shapeN (s.W.getD (2*i+1) 0)=((r:Int),(d:Int),(k:Int))∧s.size (2*i)=wordsS (r,d,k)∧(s.obAt i).sh=((r:Int),(d:Int),(k:Int))∧(s.obAt i).rf=(List.range r).map (fun j=>s.W.getD (2*i+2+j) 0)∧(s.obAt i).dt=(List.range d).map (fun j=>s.W.getD (2*i+2+r+j) 0):=by
 obtain⟨_,_,_,r,d,k,h1,h2,h3⟩:=h.sz hi
 refine⟨r,d,k,h1,h2,h3,h2,?_,?_⟩
 ·simp only[HL.obAt,h2,Int.toNat_natCast]
 ·simp only[HL.obAt,h2,Int.toNat_natCast]
theorem abs_setRefE {s:HL} (h:s.Ok) (x i to:Int):s.abs.setRefR x i to=setRefE (some s) x i to:=by
 unfold RL.setRefR setRefE fieldO objE
 rcases abs_ob h x with⟨h1,h2⟩|⟨o,rfl,ho,h1,h2⟩
 ·rw[h1,h2];rfl
 ·obtain⟨r,d,k,hv,hs,hz,e1,e2,_⟩:=obAt_rf h ho
  rw[h1,h2]
  simp only[if_true,ne_eq,not_true_eq_false,if_false,cond_false]
  have hsa:s.shapeAt ((2*o:Nat):Int)=((r:Int),(d:Int),(k:Int)):=hs
  rw[hsa,e2,List.length_map,List.length_range,abs_has h]
  by_cases c:i<0∨(r:Int)≤i
  ·rw[if_pos c,if_pos c];rfl
  ·rw[if_neg c,if_neg c];rfl
theorem abs_upd {s s':HL} {f:Ob→Ob} {i:Nat} (hi:s.st.getD i 0=1) (hB:s'.B=s.B) (hs:s'.st=s.st) (hb:s'.born=s.born) (h1:s'.obAt i=f (s.obAt i)) (h2: ∀k,k≠i→s.st.getD k 0=1→s'.obAt k=s.obAt k):s'.abs=s.abs.upd ((2*i:Nat):Int) f:=by
 obtain⟨j,hj,e⟩:=objs_index hi
 unfold RL.upd
 rw[abs_ix hj e]
 have ho:s'.objs=s.objs:=by unfold HL.objs;rw[hs]
 show RL.mk s'.B (s'.objs.map s'.obAt) [] s'.born=RL.mk s.B (s.abs.O.set j (f (s.abs.O.getD j default))) [] s.born
 rw[hB,hb,ho,abs_get hj e,←h1]
 congr 1
 show s.objs.map s'.obAt=(s.objs.map s.obAt).set j (s'.obAt i)
 apply List.ext_getElem
 ·simp
 intro k k1 k2
 have k3:k<s.objs.length:=by simpa using k1
 rw[List.getElem_set]
 by_cases hk:j=k
 ·subst hk
  rw[if_pos rfl,List.getElem_map]
  congr 1
  simpa[hj]using e
 ·rw[if_neg hk,List.getElem_map,List.getElem_map]
  refine h2 _ (fun e2=>hk ?_) (mem_objs.1 (List.getElem_mem k3))
  have e3:s.objs[j]=s.objs[k]:=by rw[e2];simpa[hj]using e
  exact(List.getElem_inj (h₀:=hj) (h₁:=k3) (objs_nodup s)).1 e3
theorem abs_setRef {s:HL} (h:s.Ok) (x i to:Int): ∃s',setRefM (some s) x i to=some s'∧s'.abs=s.abs.setRefM x i to∧s'.B=s.B∧s'.st=s.st∧s'.born=s.born∧s'.pn=s.pn:=by
 unfold setRefM RL.setRefM
 rw[abs_setRefE h]
 by_cases c:setRefE (some s) x i to=0
 rotate_left
 ·rw[if_neg c];simp only[if_neg c];exact⟨s,rfl,rfl,rfl,rfl,rfl,rfl⟩
 rw[if_pos c]
 simp only[if_pos c]
 refine⟨_,rfl,?_,rfl,rfl,rfl,rfl⟩
 have hf:(fieldO (some s) x i false).2=0:=by
  unfold setRefE at c
  by_cases c2:(fieldO (some s) x i false).2=0
  ·exact c2
  ·simp only[ne_eq,c2,not_false_eq_true,if_true]at c
 obtain⟨o,k,rfl,ho,hk,k1,k2,k3⟩:=field_spec h hf
 obtain⟨r,d,q,hv,hs,hz,e1,e2,e3⟩:=obAt_rf h ho
 have hw:=words_le hv
 simp only at hw
 -- which reference it is
 have hfo:fieldO (some s) ((2*o:Nat):Int) i false=(((2*o:Nat):Int)+2+i,0)∧0≤i∧i<(r:Int):=by
  have hsa:s.shapeAt ((2*o:Nat):Int)=((r:Int),(d:Int),(q:Int)):=hs
  have hh:objE (some s) ((2*o:Nat):Int)=0:=by unfold objE;rw[(has_iff h).2 ⟨o,rfl,ho⟩];rfl
  unfold fieldO at hf⊢
  simp only[hh,ne_eq,not_true_eq_false,if_false,cond_false,hsa]at hf⊢
  by_cases c2:i<0∨(r:Int)≤i
  ·rw[if_pos c2]at hf;cases hf
  ·rw[if_neg c2];exact⟨rfl,by omega,by omega⟩
 obtain⟨hfo1,i0,ir⟩:=hfo
 obtain⟨n,rfl⟩: ∃n:Nat,i=n:=⟨i.toNat,by omega⟩
 have hkn:k=2*o+2+n:=by
  have e4:=hk
  rw[hfo1]at e4;simp only at e4;omega
 rw[hk,Int.toNat_natCast]
 have hne: ∀j,j≠k→(s.W.set k to).getD j 0=s.W.getD j 0:=fun j hj=>getD_set_ne' (Ne.symm hj)
 have hhd:=h.inside ho k1 k2
 refine abs_upd (s:=s) (s':= {s with W:=s.W.set k to}) ho rfl rfl rfl ?_ fun t ht hto=>?_
 ·unfold HL.obAt
  simp only[hne (2*o) (by omega),hne (2*o+1) (by omega),hs,Int.toNat_natCast]
  congr 1
  ·apply List.ext_getElem
   ·simp
   intro j j1 j2
   have j3:j<r:=by simpa using j1
   rw[List.getElem_set]
   simp only[List.getElem_map,List.getElem_range]
   by_cases c3:n=j
   ·subst c3;rw[if_pos rfl,←hkn];exact getD_set_eq k3
   ·rw[if_neg c3,hne _ (by omega)]
  ·apply List.map_congr_left
   intro j hj
   exact hne _ (by omega)
 ·obtain⟨r',d',q',hv',hs',hz',_,_,_⟩:=obAt_rf h hto
  have hw':=words_le hv'
  simp only at hw'
  have hout: ∀j:Nat,2*t≤j→(j:Int)<((2*t:Nat):Int)+s.size (2*t)→j≠k:=by
   intro j hj1 hj2 e
   subst e
   rcases Nat.lt_or_ge o t with hot|hot
   ·have:=h.dj o t ho hto hot;omega
   ·have:=h.dj t o hto ho (by omega);omega
  unfold HL.obAt
  have a0:=hne (2*t) (hout _ (by omega) (by rw[hz'];omega))
  have a1:=hne (2*t+1) (hout _ (by omega) (by rw[hz'];omega))
  simp only[a0,a1,hs',Int.toNat_natCast]
  congr 1
  ·apply List.map_congr_left
   intro j hj
   have:=List.mem_range.1 hj
   exact hne _ (hout _ (by omega) (by rw[hz'];omega))
  ·apply List.map_congr_left
   intro j hj
   have:=List.mem_range.1 hj
   exact hne _ (hout _ (by omega) (by rw[hz'];omega))
end Go.Proofs.YtgcofabdialaaaaGreat
end
section
namespace Go.Proofs.YtgcofabdialaaaaGreat
set_option maxRecDepth 8000
theorem obAt_congr {s s':HL} {i:Nat} (h:s.Ok) (hi:s.st.getD i 0=1) (hW: ∀k:Nat,2*i≤k→(k:Int)<((2*i:Nat):Int)+s.size (2*i)→s'.W.getD k 0=s.W.getD k 0) (hp:s'.pn.getD i 0=s.pn.getD i 0):s'.obAt i=s.obAt i:=by
 obtain⟨r,d,q,hv,hs,hz,_,_,_⟩:=obAt_rf h hi
 have hw:=words_le hv
 simp only at hw
 have a0:=hW (2*i) (by omega) (by rw[hz];omega)
 have a1:=hW (2*i+1) (by omega) (by rw[hz];omega)
 unfold HL.obAt
 simp only[a0,a1,hs,Int.toNat_natCast,hp]
 congr 1
 ·apply List.map_congr_left
  intro j hj
  have:=List.mem_range.1 hj
  exact hW _ (by omega) (by rw[hz];omega)
 ·apply List.map_congr_left
  intro j hj
  have:=List.mem_range.1 hj
  exact hW _ (by omega) (by rw[hz];omega)
theorem abs_pin {s:HL} (h:s.Ok) (x:Int) (v:Nat) (hv:v≤1): ∃s',pinM (some s) x v=some s'∧s'.abs=s.abs.pinM x (decide (v=1))∧s'.B=s.B∧s'.W=s.W∧s'.st=s.st∧s'.born=s.born∧(∀i,s.st.getD i 0≠1→s'.pn.getD i 0=s.pn.getD i 0):=by
 simp only[pinM,RL.pinM]
 rw[←abs_lacks h]
 rcases abs_cases h x with⟨h1,h2⟩|⟨i,j,rfl,hi,h1,hj,e,h2⟩
 ·have:s.abs.lacks x=4:=by rw[abs_lacks h];unfold objE;rw[h1];rfl
  simp only[this]
  refine⟨s,rfl,?_,rfl,rfl,rfl,rfl,fun _ _=>rfl⟩
  unfold RL.upd;rw[h2]
 ·have:s.abs.lacks ((2*i:Nat):Int)=0:=by rw[abs_lacks h];unfold objE;rw[h1];rfl
  simp only[this,if_true,Int.toNat_natCast,Nat.mul_div_cancel_left i (show 0<2 by omega)]
  have hlt:=(h.start hi).1
  have hsl:=h.sl
  have hpl:=h.pl
  refine⟨_,rfl,?_,rfl,rfl,rfl,rfl,fun k hk=>getD_set_ne' (by rintro rfl;exact hk hi)⟩
  refine abs_upd (s:=s) (s':= {s with pn:=s.pn.set i v}) hi rfl rfl rfl ?_ fun k hk hk1=>obAt_congr (s':= {s with pn:=s.pn.set i v}) h hk1 (fun _ _ _=>rfl) (getD_set_ne' (Ne.symm hk))
  unfold HL.obAt
  simp only[getD_set_eq (show i<s.pn.length by omega)]
theorem erase_filter {l:List Nat} (hn:l.Nodup) {j:Nat} (hj:j<l.length):l.eraseIdx j=l.filter fun k=>k !=l.getD j 0:=by
 induction l generalizing j with
 |nil=>simp at hj
 |cons a l ih=>
  rw[List.nodup_cons]at hn
  cases j with
  |zero=>
   rw[List.eraseIdx_cons_zero,List.getD_cons_zero,List.filter_cons_of_neg (by simp)]
   refine(List.filter_eq_self.2 fun k hk=>?_).symm
   simp only[bne_iff_ne,ne_eq]
   rintro rfl;exact hn.1 hk
  |succ j=>
   rw[List.eraseIdx_cons_succ,List.getD_cons_succ,List.filter_cons_of_pos,ih hn.2 (by simpa using hj)]
   simp only[bne_iff_ne,ne_eq]
   rintro rfl
   exact hn.1 (by simp[show j<l.length by simpa using hj])
theorem objsB_set {l:List Nat} {lo hi i v:Nat} (hv:v≠1):objsB (l.set i v) lo hi=(objsB l lo hi).filter fun k=>k !=i:=by
 unfold objsB
 rw[List.filter_filter]
 apply List.filter_congr
 intro k _
 by_cases e:k=i
 ·subst e
  have:(l.set k v).getD k 0≠1:=by
   by_cases hk:k<l.length
   ·rw[getD_set_eq hk];exact hv
   ·simp[List.getD_eq_getElem?_getD,List.getElem?_eq_none (Nat.not_lt.1 hk),hk]
  rw[decide_eq_false this];simp
 ·rw[getD_set_ne' (Ne.symm e)]
  simp[e]
theorem abs_kill {s:HL} (h:s.Ok) (x:Int): ∃s',killM (some s) x=some s'∧s'.abs=s.abs.killM x∧s'.B=s.B∧s'.born=s.born∧
  ((s'=s)∨ ∃i:Nat,s.st.getD i 0=1∧s'.st=s.st.set i 0∧s'.pn=s.pn.set i 0∧s'.W=wipeW s.W (2*i) (s.size (2*i)).toNat):=by
 simp only[killM,RL.killM]
 rw[←abs_lacks h]
 rcases abs_cases h x with⟨h1,h2⟩|⟨i,j,rfl,hi,h1,hj,e,h2⟩
 ·have:s.abs.lacks x=4:=by rw[abs_lacks h];unfold objE;rw[h1];rfl
  simp only[this]
  refine⟨s,rfl,?_,rfl,rfl,.inl rfl⟩
  rw[h2]
 ·have:s.abs.lacks ((2*i:Nat):Int)=0:=by rw[abs_lacks h];unfold objE;rw[h1];rfl
  simp only[this,if_true,Int.toNat_natCast,Nat.mul_div_cancel_left i (show 0<2 by omega)]
  refine⟨_,rfl,?_,rfl,rfl,.inr ⟨i,hi,rfl,rfl,rfl⟩⟩
  rw[h2]
  obtain⟨g1,g2,g3,_⟩:=h.sz hi
  have hin:2*i+(s.size (2*i)).toNat≤s.W.length:=by omega
  show RL.mk s.B _ [] s.born=RL.mk s.B (s.abs.O.eraseIdx j) [] s.born
  congr 1
  show List.map _ (objsB (s.st.set i 0) 0 (s.st.set i 0).length)=(s.objs.map s.obAt).eraseIdx j
  rw[List.length_set,objsB_set (by omega),map_erase,erase_filter (objs_nodup s) hj,e]
  apply List.map_congr_left
  intro k hk
  obtain⟨k1,k2⟩:=List.mem_filter.1 hk
  have hk1:s.st.getD k 0=1:=mem_objs.1 k1
  have hki:k≠i:=by simpa using k2
  refine obAt_congr h hk1 (fun t t1 t2=>?_) (getD_set_ne' (Ne.symm hki))
  simp only
  rw[wipeW_get hin,if_neg]
  rcases Nat.lt_or_ge i k with hik|hik
  ·have:=h.dj i k hi hk1 hik;omega
  ·have:=h.dj k i hk1 hi (by omega);omega
theorem wrong_congr {s t:HL} (h:s.B=t.B) (a words:Int):wrongB s a words=wrongB t a words:=by
 unfold wrongB HL.b HL.span
 rw[h]
theorem find_spec {s:HL} (h:s.Ok) {x:Int} (e:(findO (some s) x).2=0): ∃i:Nat,s.st.getD i 0=1∧(findO (some s) x).1=((2*i:Nat):Int)∧((2*i:Nat):Int)≤x∧x<((2*i:Nat):Int)+s.size (2*i):=by
 unfold findO at e⊢
 simp only at e⊢
 split at e
 ·cases e
 ·rename_i h1
  rw[if_neg h1]
  split at e
  ·cases e
  ·rename_i i hi
   split at e
   ·cases e
   ·rename_i h2
    have hl:s.starts.lastO (x/2+1) 1=lastI (fun k=>decide ((k:Int)<x/2+1)&&decide (((s.st.getD k 0:Nat):Int)=1)) s.st.length:=rfl
    have hi':=hi
    rw[hl]at hi'
    obtain⟨i1,i2⟩:=lastI_spec hi'
    simp only[Bool.and_eq_true,decide_eq_true_eq]at i2
    refine⟨i,by omega,?_,by omega,by omega⟩
    simp only[hi,if_neg h2]
    omega
theorem abs_fits {s:HL} (h:s.Inv) (a:Int) (sh:Sh) (hv:validS sh=true):s.abs.fitsR a sh 0=fitsE s a (wordsS sh) (-1):=by
 have hw:=words_le hv
 have hwl:=h.ok.wl
 unfold RL.fitsR fitsE
 have hB:s.abs.B=s.B:=rfl
 by_cases c1:a<0∨a%2≠0∨((64*s.abs.B.length:Nat):Int)≤a
 ·rw[if_pos c1,if_pos]
  rw[hB]at c1
  simp only[argB,Bool.or_eq_true,decide_eq_true_eq]
  omega
 have hA:argB s a=false:=by
  rw[hB]at c1
  simp only[argB,Bool.or_eq_false_iff,decide_eq_false_iff_not]
  omega
 rw[if_neg c1,hA]
 simp only[Bool.false_eq_true,if_false]
 rw[wrong_congr (t:=s) (show s.abs.hl.B=s.B from rfl)]
 by_cases c2:wrongB s a (wordsS sh)=true
 ·rw[if_pos c2,if_pos c2]
 rw[if_neg c2,if_neg c2]
 have key:s.abs.O.any (overB a (wordsS sh) 0)=true↔(List.range ((wordsS sh+1)/2).toNat).any (takenB s a (-1))=true:=by
  simp only[List.any_eq_true]
  constructor
  ·rintro⟨o,ho,hov⟩
   obtain⟨i,hi,rfl⟩:=List.mem_map.1 ho
   have hi1:=mem_objs.1 hi
   obtain⟨r,d,q,hv',hs,hz,e1,_,_⟩:=obAt_rf h.ok hi1
   have hov':(((2*i:Nat):Int)<a+wordsS sh)∧a<((2*i:Nat):Int)+s.size (2*i):=by
    simp only[overB,Bool.and_eq_true,decide_eq_true_eq]at hov
    obtain⟨⟨_,h1⟩,h2⟩:=hov
    rw[e1]at h2
    exact⟨h1,by rw[hz];exact h2⟩
   obtain⟨g1,g2,g3,_⟩:=h.ok.sz hi1
   rw[hB]at c1
   have ha2:a%2=0:=by omega
   refine⟨((max a ((2*i:Nat):Int)-a)/2).toNat,List.mem_range.2 (by omega),?_⟩
   have e5:a+2*((((max a ((2*i:Nat):Int)-a)/2).toNat:Nat):Int)=(((max a ((2*i:Nat):Int)).toNat:Nat):Int):=by omega
   unfold takenB
   rw[e5,find_of h.ok hi1 (by omega) (by omega)]
   simp;omega
  ·rintro⟨j,hj,ht⟩
   have hj':=List.mem_range.1 hj
   unfold takenB at ht
   simp only[Bool.and_eq_true,beq_iff_eq]at ht
   obtain⟨i,hi1,_,i2,i3⟩:=find_spec h.ok ht.1
   obtain⟨r,d,q,hv',hs,hz,e1,_,_⟩:=obAt_rf h.ok hi1
   obtain⟨g1,g2,g3,_⟩:=h.ok.sz hi1
   refine⟨s.obAt i,List.mem_map.2 ⟨i,mem_objs.2 hi1,rfl⟩,?_⟩
   have hid:=h.ids i hi1
   simp only[overB,Bool.and_eq_true,decide_eq_true_eq,bne_iff_ne,ne_eq]
   rw[e1,←hz]
   refine⟨⟨?_,?_⟩,?_⟩
   ·show¬s.W.getD (2*i) 0=0;omega
   ·show((2*i:Nat):Int)<_;omega
   ·show a<((2*i:Nat):Int)+_;omega
 by_cases c3:s.abs.O.any (overB a (wordsS sh) 0)=true
 ·rw[if_pos c3,if_pos (key.1 c3)]
 ·rw[if_neg c3,if_neg (fun h=>c3 (key.2 h))]
end Go.Proofs.YtgcofabdialaaaaGreat
end
section
namespace Go.Proofs.YtgcofabdialaaaaGreat
set_option maxRecDepth 8000
theorem objsB_split (l:List Nat) {lo m hi:Nat} (h1:lo≤m) (h2:m≤hi):objsB l lo hi=objsB l lo m++objsB l m hi:=by
 obtain⟨d,rfl⟩: ∃d,hi=m+d:=⟨hi-m,by omega⟩
 induction d with
 |zero=>rw[Nat.add_zero,objsB_self,List.append_nil]
 |succ d ih=>
  rw[show m+(d+1)=m+d+1 by omega,objsB_succ,objsB_succ,ih (by omega),List.append_assoc]
  congr 2
  by_cases h:l.getD (m+d) 0=1
  ·rw[if_pos ⟨by omega,h⟩,if_pos ⟨by omega,h⟩]
  ·rw[if_neg (fun e=>h e.2),if_neg (fun e=>h e.2)]
theorem objsB_congr {l l':List Nat} {lo hi:Nat} (h: ∀j,lo≤j→j<hi→l.getD j 0=l'.getD j 0):objsB l lo hi=objsB l' lo hi:=by
 unfold objsB
 apply List.filter_congr
 intro j hj
 have:=List.mem_range.1 hj
 by_cases h1:lo≤j
 ·rw[h j h1 this]
 ·simp[h1]
theorem objsB_one (l:List Nat) (k:Nat):objsB l k (k+1)=if l.getD k 0=1 then [k]else []:=by
 rw[objsB_succ,objsB_self,List.nil_append]
 by_cases h:l.getD k 0=1
 ·rw[if_pos ⟨Nat.le_refl _,h⟩,if_pos h]
 ·rw[if_neg (fun e=>h e.2),if_neg h]
theorem abs_placeR {s:HL} (h:s.Inv) (a:Int) (sh:Sh):s.abs.placeR a sh=placeR (some s) a sh:=by
 unfold RL.placeR placeR
 cases hv:validS sh with
 |false=>rfl
 |true=>
  simp only[Bool.true_eq_false,if_false]
  rw[abs_fits h a sh hv]
  rfl
theorem abs_place {s:HL} (h:s.Inv) (a:Int) (sh:Sh): ∃s',placeM (some s) a sh=some s'∧s'.abs=s.abs.placeM a sh∧s'.Inv∧s'.B=s.B∧s'.born≤s.born+1:=by
 have hR:=abs_placeR h a sh
 by_cases c:(placeR (some s) a sh).2=0
 rotate_left
 ·refine⟨s,by unfold placeM;simp only[if_neg c],?_,h,rfl,by omega⟩
  unfold RL.placeM
  rw[hR,if_neg c]
 -- it fits
 have hv:validS sh=true:=by
  cases hv:validS sh with
  |true=>rfl
  |false=>simp[placeR,hv]at c
 have hE:fitsE s a (wordsS sh) (-1)=0:=by
  by_cases e:fitsE s a (wordsS sh) (-1)=0
  ·exact e
  ·simp[placeR,hv,e]at c
 have hw:=words_le hv
 obtain⟨k,rfl,hk,hin,hfree⟩:=fits_spec h.ok hw.1 hw.2.2.1 hw.2.1 hE
 have hsl:=h.ok.sl
 have hwl:=h.ok.wl
 have hpl:=h.ok.pl
 have hPR:placeR (some s) ((2*k:Nat):Int) sh=(((s.born+1:Nat):Int),0):=by
  unfold placeR
  simp only[hv,Bool.true_eq_false,if_false]
  rw[if_neg (fun e=>e hE)]
 have hPM:placeM (some s) ((2*k:Nat):Int) sh=some {s with W:=(s.W.set (2*k) ((s.born+1:Nat):Int)).set (2*k+1) (numS sh),st:=s.st.set k 1,pl:=putM s.pl ((s.born+1:Nat):Int) (.int .i64 ((2*k:Nat):Int)),born:=s.born+1}:=by
  unfold placeM
  simp only[hPR,if_true,Int.toNat_natCast,Nat.mul_div_cancel_left k (show 0<2 by omega)]
 -- no object has a word there
 have hno: ∀i,s.st.getD i 0=1→((2*i:Nat):Int)+s.size (2*i)≤((2*k:Nat):Int)∨((2*k:Nat):Int)+wordsS sh≤((2*i:Nat):Int):=by
  intro i hi
  obtain⟨g1,g2,g3,_⟩:=h.ok.sz hi
  by_cases c1:k≤i
  ·right
   refine Decidable.byContradiction fun c2=>?_
   have h1:=taken_none (hfree (i-k) (by omega))
   have e1:((2*k:Nat):Int)+2*((i-k:Nat):Int)=((2*i:Nat):Int):=by omega
   rw[e1,find_of h.ok hi (Nat.le_refl _) (by omega)]at h1
   exact h1 rfl
  ·left
   refine Decidable.byContradiction fun c2=>?_
   have h1:=taken_none (hfree 0 (by omega))
   have e1:((2*k:Nat):Int)+2*((0:Nat):Int)=((2*k:Nat):Int):=by omega
   rw[e1,find_of h.ok hi (by omega) (by omega)]at h1
   exact h1 rfl
 have hnk:s.st.getD k 0≠1:=fun e=>by
  have:=hno k e
  have:=(h.ok.sz e).1
  omega
 obtain⟨r,d,q,hsh⟩: ∃r d q:Nat,sh=((r:Int),(d:Int),(q:Int)):=by
  obtain⟨sa,sb,sc⟩:=sh
  have hv':=hv
  simp only[validS,Bool.and_eq_true,decide_eq_true_eq]at hv'
  exact⟨sa.toNat,sb.toNat,sc.toNat,by rw[Prod.mk.injEq,Prod.mk.injEq];omega⟩
 have hsn:shapeN (numS sh)=sh:=by rw[hsh];rw[hsh]at hv;exact shape_num hv
 have hzero: ∀j:Nat,2*k≤j→(j:Int)<((2*k:Nat):Int)+wordsS sh→s.W.getD j 0=0:=fun j j1 j2=>h.fz j fun i hi=>by
  have:=hno i hi
  have:=(h.ok.sz hi).1
  omega
 have hW: ∀j,j≠2*k→j≠2*k+1→((s.W.set (2*k) ((s.born+1:Nat):Int)).set (2*k+1) (numS sh)).getD j 0=s.W.getD j 0:=fun j j1 j2=>by
  rw[getD_set_ne' (Ne.symm j2),getD_set_ne' (Ne.symm j1)]
 have hW0:((s.W.set (2*k) ((s.born+1:Nat):Int)).set (2*k+1) (numS sh)).getD (2*k) 0=((s.born+1:Nat):Int):=by
  rw[getD_set_ne' (by omega),getD_set_eq (by omega)]
 have hW1:((s.W.set (2*k) ((s.born+1:Nat):Int)).set (2*k+1) (numS sh)).getD (2*k+1) 0=numS sh:=getD_set_eq (by simp;omega)
 have hout: ∀i,s.st.getD i 0=1→ ∀j:Nat,2*i≤j→(j:Int)<((2*i:Nat):Int)+s.size (2*i)→j≠2*k∧j≠2*k+1:=fun i hi j j1 j2=>by
  have:=hno i hi
  omega
 rw[hPM]
 refine⟨_,rfl,?_,?_,rfl,Nat.le_refl _⟩
 ·unfold RL.placeM
  rw[hR,hPR,if_pos rfl]
  generalize hs':(HL.mk s.B ((s.W.set (2*k) ((s.born+1:Nat):Int)).set (2*k+1) (numS sh)) (s.st.set k 1) s.pn (putM s.pl ((s.born+1:Nat):Int) (.int .i64 ((2*k:Nat):Int))) s.fw (s.born+1))=s'
  have sW:s'.W=(s.W.set (2*k) ((s.born+1:Nat):Int)).set (2*k+1) (numS sh):=by rw[←hs']
  have sS:s'.st=s.st.set k 1:=by rw[←hs']
  have sP:s'.pn=s.pn:=by rw[←hs']
  have sB:s'.B=s.B:=by rw[←hs']
  have sb:s'.born=s.born+1:=by rw[←hs']
  have hA:objsB s.st 0 s.st.length=objsB s.st 0 k++objsB s.st (k+1) s.st.length:=by
   rw[objsB_split s.st (show 0≤k by omega) (show k≤s.st.length by omega),objsB_split s.st (show k≤k+1 by omega) (show k+1≤s.st.length by omega),objsB_one,if_neg hnk,List.nil_append]
  have hA':s'.objs=objsB s.st 0 k++[k]++objsB s.st (k+1) s.st.length:=by
   unfold HL.objs
   rw[sS,List.length_set,objsB_split (s.st.set k 1) (show 0≤k by omega) (show k≤s.st.length by omega),objsB_split (s.st.set k 1) (show k≤k+1 by omega) (show k+1≤s.st.length by omega),objsB_one,if_pos (getD_set_eq hk),←List.append_assoc]
   congr 1
   ·congr 1
    exact objsB_congr fun j _ hj=>getD_set_ne' (by omega)
   ·exact objsB_congr fun j hj _=>getD_set_ne' (by omega)
  have hold: ∀i,s.st.getD i 0=1→s'.obAt i=s.obAt i:=fun i hi=>obAt_congr h.ok hi (fun j j1 j2=>by rw[sW];exact hW j (hout i hi j j1 j2).1 (hout i hi j j1 j2).2) (by rw[sP])
  have hnew:s'.obAt k=s.abs.newOb ((2*k:Nat):Int) sh:=by
   unfold HL.obAt RL.newOb
   rw[sW,sP,hW0,hW1,hsn,h.pz k hnk]
   have hw':=hw
   rw[hsh]at hw'⊢
   simp only[Int.toNat_natCast]at hw'⊢
   rw[hsh]at hW hzero
   congr 1
   ·apply List.ext_getElem
    ·simp
    intro j j1 j2
    have j3:j<r:=by simpa using j1
    rw[List.getElem_map,List.getElem_range,List.getElem_replicate,hW _ (by omega) (by omega)]
    exact hzero _ (by omega) (by omega)
   ·apply List.ext_getElem
    ·simp
    intro j j1 j2
    have j3:j<d:=by simpa using j1
    rw[List.getElem_map,List.getElem_range,List.getElem_replicate,hW _ (by omega) (by omega)]
    exact hzero _ (by omega) (by omega)
  have mA: ∀i,i∈objsB s.st 0 k→i<k∧s.st.getD i 0=1:=fun i hi=>⟨(mem_objsB.1 hi).1.2,(mem_objsB.1 hi).2⟩
  have mC: ∀i,i∈objsB s.st (k+1) s.st.length→k<i∧s.st.getD i 0=1:=fun i hi=>⟨(mem_objsB.1 hi).1.1,(mem_objsB.1 hi).2⟩
  have hO:s.abs.O=(objsB s.st 0 k).map s.obAt++(objsB s.st (k+1) s.st.length).map s.obAt:=by
   show(objsB s.st 0 s.st.length).map s.obAt=_
   rw[hA,List.map_append]
  have hpos:posO s.abs.O ((2*k:Nat):Int)=(objsB s.st 0 k).length:=by
   refine posO_at (by rw[hO];simp) (fun j hj=>?_) fun hl=>?_
   ·have e:s.abs.O.getD j default=s.obAt ((objsB s.st 0 k)[j]):=by
     rw[hO,List.getD_eq_getElem?_getD,List.getElem?_append_left (by simpa using hj)];simp[hj]
    rw[e]
    have:=(mA _ (List.getElem_mem hj)).1
    show((2*(objsB s.st 0 k)[j]:Nat):Int)<_
    omega
   ·have hl':0<(objsB s.st (k+1) s.st.length).length:=by rw[hO]at hl;simpa using hl
    have e:s.abs.O.getD (objsB s.st 0 k).length default=s.obAt ((objsB s.st (k+1) s.st.length)[0]):=by
     rw[hO,List.getD_eq_getElem?_getD,List.getElem?_append_right (by simp)];simp[hl']
    rw[e]
    have:=(mC _ (List.getElem_mem hl')).1
    show¬((2*(objsB s.st (k+1) s.st.length)[0]:Nat):Int)<_
    omega
  show RL.mk s'.B (s'.objs.map s'.obAt) [] s'.born=RL.mk s.B (s.abs.O.take (posO s.abs.O ((2*k:Nat):Int))++[s.abs.newOb ((2*k:Nat):Int) sh]++s.abs.O.drop (posO s.abs.O ((2*k:Nat):Int))) [] (s.born+1)
  rw[sB,sb,hpos,hA',hO,List.map_append,List.map_append,List.map_cons,List.map_nil,hnew,List.take_append_of_le_length (by simp),List.drop_append_of_le_length (by simp)]
  congr 1
  rw[List.take_of_length_le (by simp),List.drop_of_length_le (by simp),List.nil_append]
  congr 1
  ·congr 1
   exact List.map_congr_left fun i hi=>hold i (mA i hi).2
  ·exact List.map_congr_left fun i hi=>hold i (mC i hi).2
 ·have hst: ∀i,(s.st.set k 1).getD i 0=1→i=k∨(i≠k∧s.st.getD i 0=1):=fun i hi=>by
   by_cases e:i=k
   ·exact .inl e
   ·exact .inr ⟨e,by rw[getD_set_ne' (Ne.symm e)]at hi;exact hi⟩
  have hsz: ∀i,i≠k→HL.size {s with W:=(s.W.set (2*k) ((s.born+1:Nat):Int)).set (2*k+1) (numS sh),st:=s.st.set k 1,pl:=putM s.pl ((s.born+1:Nat):Int) (.int .i64 ((2*k:Nat):Int)),born:=s.born+1} (2*i)=s.size (2*i):=fun i hi=>by
   unfold HL.size
   simp only
   rw[hW _ (by omega) (by omega)]
  have hszk:HL.size {s with W:=(s.W.set (2*k) ((s.born+1:Nat):Int)).set (2*k+1) (numS sh),st:=s.st.set k 1,pl:=putM s.pl ((s.born+1:Nat):Int) (.int .i64 ((2*k:Nat):Int)),born:=s.born+1} (2*k)=wordsS sh:=by
   unfold HL.size
   simp only
   rw[hW1,hsn]
  have hk0:k≠0:=fun e=>by
   subst e
   have hb:=h.b0
   by_cases ha:argB s ((2*0:Nat):Int)=true
   ·unfold fitsE at hE;rw[if_pos ha]at hE;cases hE
   by_cases hwr:wrongB s ((2*0:Nat):Int) (wordsS sh)=true
   ·unfold fitsE at hE;rw[if_neg ha,if_pos hwr]at hE;cases hE
   refine hwr ?_
   unfold wrongB HL.b
   split
   ·simp only[Bool.or_eq_true,decide_eq_true_eq];left;show(s.B.getD 0 (0,0)).1≠1;omega
   ·simp only[Bool.or_eq_true,decide_eq_true_eq];left;left;show(s.B.getD 0 (0,0)).1≠2;omega
  refine⟨h.ok.place hv hk hin hfree,h.bf,fun i hi=>?_,fun i hi=>h.pz i fun e=>hi ?_,fun j hj=>?_,h.b0,fun e=>h.z0 (by simp only at e;rw[getD_set_ne' hk0]at e;exact e)⟩
  ·rcases hst i hi with rfl|⟨hne,hi'⟩
   ·simp only;rw[hW0];omega
   ·simp only;rw[hW _ (by omega) (by omega)];exact h.ids i hi'
  ·by_cases e2:i=k
   ·subst e2;exact getD_set_eq hk
   ·simp only;rw[getD_set_ne' (Ne.symm e2)];exact e
  ·have hk1:=hj k (getD_set_eq hk)
   rw[hszk]at hk1
   simp only
   rw[hW j (by omega) (by omega)]
   refine h.fz j fun i hi=>?_
   have hik:i≠k:=fun e=>hnk (e▸hi)
   have:=hj i (by simp only;rw[getD_set_ne' (Ne.symm hik)];exact hi)
   rw[hsz i hik]at this
   exact this
theorem HL.Inv.setRef {s s':HL} (h:s.Inv) {x i to:Int} (e:setRefM (some s) x i to=some s') (hok:s'.Ok):s'.Inv:=by
 unfold setRefM at e
 by_cases c:setRefE (some s) x i to=0
 rotate_left
 ·simp only[if_neg c,Option.some.injEq]at e;subst e;exact h
 simp only[if_pos c,Option.some.injEq]at e
 subst e
 have hf:(fieldO (some s) x i false).2=0:=by
  unfold setRefE at c
  by_cases c2:(fieldO (some s) x i false).2=0
  ·exact c2
  ·simp only[ne_eq,c2,not_false_eq_true,if_true]at c
 obtain⟨o,k,rfl,ho,hk,k1,k2,k3⟩:=field_spec h.ok hf
 have hhd:=h.ok.inside ho k1 k2
 rw[hk,Int.toNat_natCast]
 have hsz: ∀j,s.st.getD j 0=1→HL.size {s with W:=s.W.set k to} (2*j)=s.size (2*j):=fun j hj=>HL.size_set (hhd j hj)
 refine⟨by rw[hk,Int.toNat_natCast]at hok;exact hok,h.bf,fun j hj=>?_,h.pz,fun j hj=>?_,h.b0,h.z0⟩
 ·have:2*j≠k:=by
   intro e2
   rcases Nat.lt_trichotomy o j with hij|hij|hij
   ·have:=h.ok.dj o j ho hj hij;omega
   ·subst hij;omega
   ·have:=h.ok.dj j o hj ho hij;have:=(h.ok.sz hj).1;omega
  simp only;rw[getD_set_ne' (Ne.symm this)];exact h.ids j hj
 ·have hjk:j≠k:=by
   intro e2
   have:=hj o ho
   rw[hsz o ho]at this
   omega
  simp only;rw[getD_set_ne' (Ne.symm hjk)]
  exact h.fz j fun i hi=>by have:=hj i hi;rw[hsz i hi]at this;exact this
theorem HL.Inv.pin {s s':HL} (h:s.Inv) {x:Int} {v:Nat} (e:pinM (some s) x v=some s') (hok:s'.Ok) (hp: ∀i,s.st.getD i 0≠1→s'.pn.getD i 0=s.pn.getD i 0):s'.Inv:=by
 unfold pinM at e
 by_cases c:objE (some s) x=0
 rotate_left
 ·simp only[if_neg c,Option.some.injEq]at e;subst e;exact h
 simp only[if_pos c,Option.some.injEq]at e
 subst e
 exact⟨hok,h.bf,h.ids,fun i hi=>(hp i hi).trans (h.pz i hi),h.fz,h.b0,h.z0⟩
theorem HL.Inv.kill {s s':HL} (h:s.Inv) {x:Int} (e:killM (some s) x=some s') (hok:s'.Ok):s'.Inv:=by
 obtain⟨t,e1,_,hB,_,hc⟩:=abs_kill h.ok x
 rw[e1]at e
 cases e
 rcases hc with rfl|⟨i,hi,hS,hP,hW⟩
 ·exact h
 obtain⟨g1,g2,g3,_⟩:=h.ok.sz hi
 have hin:2*i+(s.size (2*i)).toNat≤s.W.length:=by omega
 have hst: ∀j,s'.st.getD j 0=1→j≠i∧s.st.getD j 0=1:=by
  intro j hj
  rw[hS]at hj
  by_cases e:j=i
  ·subst e
   have:=(h.ok.start hi).1
   rw[getD_set_eq this]at hj;cases hj
  ·exact⟨e,by rw[getD_set_ne' (Ne.symm e)]at hj;exact hj⟩
 have hout: ∀j,j≠i→s.st.getD j 0=1→ ∀t:Nat,2*j≤t→(t:Int)<((2*j:Nat):Int)+s.size (2*j)→s'.W.getD t 0=s.W.getD t 0:=fun j hj hj1 t t1 t2=>by
  rw[hW,wipeW_get hin,if_neg]
  rcases Nat.lt_or_ge i j with hij|hij
  ·have:=h.ok.dj i j hi hj1 hij;omega
  ·have:=h.ok.dj j i hj1 hi (by omega);omega
 have hsz: ∀j,j≠i→s.st.getD j 0=1→s'.size (2*j)=s.size (2*j):=fun j hj hj1=>by
  unfold HL.size
  have:=(h.ok.sz hj1).1
  rw[hout j hj hj1 (2*j+1) (by omega) (by omega)]
 refine⟨hok,fun j hj=>by rw[hB]at hj⊢;exact h.bf j hj,fun j hj=>?_,fun j hj=>?_,fun t ht=>?_,by rw[hB];exact h.b0,fun e=>h.z0 (hst 0 e).2⟩
 ·obtain⟨hne,hj1⟩:=hst j hj
  have:=(h.ok.sz hj1).1
  rw[hout j hne hj1 (2*j) (by omega) (by omega)]
  exact h.ids j hj1
 ·rw[hP]
  by_cases e:j=i
  ·subst e
   by_cases hl:j<s.pn.length
   ·rw[getD_set_eq hl]
   ·simp[List.getD_eq_getElem?_getD,List.getElem?_eq_none (Nat.not_lt.1 hl),hl]
  ·rw[getD_set_ne' (Ne.symm e)]
   refine h.pz j fun e2=>hj ?_
   rw[hS,getD_set_ne' (Ne.symm e)];exact e2
 ·rw[hW,wipeW_get hin]
  by_cases c:2*i≤t∧t<2*i+(s.size (2*i)).toNat
  ·rw[if_pos c]
  ·rw[if_neg c]
   refine h.fz t fun j hj=>?_
   by_cases e:j=i
   ·subst e;omega
   ·have:=ht j (by rw[hS,getD_set_ne' (Ne.symm e)];exact hj)
    rw[hsz j e hj]at this
    exact this
theorem HL.Inv.setB {s:HL} (h:s.Inv) {B':List (Int×Int)} (hl:B'.length=s.B.length) (hb: ∀i,i<s.B.length→(B'.getD i (0,0)).1=0→B'.getD i (0,0)=(0,0)) (hb0:B'.getD 0 (0,0)=s.B.getD 0 (0,0)):HL.Inv {s with B:=B'}:=
 ⟨h.ok.setB hl,fun i hi=>hb i (by rw[←hl];exact hi),h.ids,h.pz,h.fz,by simp only[hb0];exact h.b0,h.z0⟩
theorem abs_claim {s:HL} (h:s.Inv) (k:Nat) (sp:Int):s.abs.claimE (k:Int) sp=claimE (some s) (k:Int) 1 (1,sp)∧ ∃s',claimM (some s) (k:Int) 1 (1,sp) (0,0)=some s'∧s'.abs=s.abs.claimM (k:Int) sp∧s'.Inv∧s'.born=s.born∧s'.B.length=s.B.length:=by
 have hE:s.abs.claimE (k:Int) sp=claimE (some s) (k:Int) 1 (1,sp):=by
  unfold RL.claimE claimE thereO
  have hB:s.abs.B=s.B:=rfl
  rw[hB]
  simp only
  by_cases c1: ¬(1≤(k:Int)∧(k:Int)<(s.B.length:Int))∨spaceB sp=false
  ·rw[if_pos c1,if_pos]
   rcases c1 with c1|c1
   ·left;simp only[Bool.and_eq_false_iff,decide_eq_false_iff_not];omega
   ·exact .inr (.inr (.inr c1))
  ·have c1a:1≤(k:Int)∧(k:Int)<(s.B.length:Int):=Decidable.byContradiction fun e=>c1 (.inl e)
   have c1b: ¬spaceB sp=false:=fun e=>c1 (.inr e)
   have hc: ¬((decide (1≤(k:Int))&&decide ((k:Int)<(s.B.length:Int)))=false∨(1:Int)<1∨(s.B.length:Int)-(k:Int)<1∨spaceB sp=false):=by
    rintro(h1|h1|h1|h1)
    ·simp only[Bool.and_eq_false_iff,decide_eq_false_iff_not]at h1;omega
    ·omega
    ·omega
    ·exact c1b h1
   have hk:k<s.B.length:=by omega
   have e1:(s.B.drop k).take 1=[s.B.getD k (0,0)]:=by
    rw[List.drop_eq_getElem_cons hk,List.take_succ_cons,List.take_zero,List.getD_eq_getElem?_getD,List.getElem?_eq_getElem hk];rfl
   rw[if_neg c1,if_neg hc,Int.toNat_natCast,show(1:Int).toNat=1 from rfl,e1]
   simp only[List.any_cons,List.any_nil,Bool.or_false]
   by_cases c2:(s.B.getD k (0,0)).1=0
   ·rw[h.bf k hk c2];rfl
   ·rw[if_pos c2,if_pos]
    simp only[bne_iff_ne,ne_eq]
    intro e;exact c2 (by rw[e])
 refine⟨hE,?_⟩
 unfold claimM RL.claimM
 simp only
 rw[←hE]
 by_cases c:s.abs.claimE (k:Int) sp=0
 rotate_left
 ·rw[if_neg c,if_neg c];exact⟨s,rfl,rfl,h,rfl,rfl⟩
 rw[if_pos c,if_pos c]
 obtain⟨hk1,hk⟩:1≤k∧k<s.B.length:=by
  unfold RL.claimE at c
  by_cases c1: ¬(1≤(k:Int)∧(k:Int)<(s.abs.B.length:Int))∨spaceB sp=false
  ·rw[if_pos c1]at c;cases c
  ·have:1≤(k:Int)∧(k:Int)<(s.abs.B.length:Int):=Decidable.byContradiction fun e=>c1 (.inl e)
   exact⟨by omega,Int.ofNat_lt.1 this.2⟩
 have e2:(fillB s.B (k:Int).toNat (0,0) (1:Int).toNat).set (k:Int).toNat (1,sp)=s.B.set k (1,sp):=by
  rw[Int.toNat_natCast,show(1:Int).toNat=1 from rfl]
  simp only[fillB,Nat.add_zero,List.set_set]
 rw[e2,Int.toNat_natCast]
 refine⟨_,rfl,rfl,h.setB (by simp) (fun i hi h0=>?_) (getD_set_ne' (by omega)),rfl,by simp⟩
 by_cases e:k=i
 ·subst e;rw[getD_set_eq hk]at h0;cases h0
 ·rw[getD_set_ne' e]at h0⊢;exact h.bf i hi h0
theorem fillB_get (B:List (Int×Int)) (k:Nat) (x:Int×Int): ∀n,k+n≤B.length→ ∀i,(fillB B k x n).getD i (0,0)=if k≤i∧i<k+n then x else B.getD i (0,0)
 |0,_,i=>by rw[if_neg (by omega)];rfl
 |n+1,h,i=>by
  unfold fillB
  by_cases e:k+n=i
  ·subst e
   rw[getD_set_eq (by rw[fillB_len];omega),if_pos (by omega)]
  ·rw[getD_set_ne' e,fillB_get B k x n (by omega) i]
   by_cases c:k≤i∧i<k+n
   ·rw[if_pos c,if_pos (by omega)]
   ·rw[if_neg c,if_neg (by omega)]
theorem abs_claimL {s:HL} (h:s.Inv) (k n:Nat) (sp:Int):s.abs.claimLE (k:Int) (n:Int) sp=claimE (some s) (k:Int) (n:Int) (2,sp)∧ ∃s',claimM (some s) (k:Int) (n:Int) (2,sp) (3,sp)=some s'∧s'.abs=s.abs.claimLM (k:Int) (n:Int) sp∧s'.Inv∧s'.born=s.born∧s'.B.length=s.B.length:=by
 have hE:s.abs.claimLE (k:Int) (n:Int) sp=claimE (some s) (k:Int) (n:Int) (2,sp):=by
  unfold RL.claimLE claimE thereO
  have hB:s.abs.B=s.B:=rfl
  rw[hB]
  simp only
  by_cases c1: ¬(1≤(k:Int)∧(k:Int)<(s.B.length:Int))∨(n:Int)<1∨(s.B.length:Int)-(k:Int)<(n:Int)∨spaceB sp=false
  ·rw[if_pos c1,if_pos]
   rcases c1 with c1|c1|c1|c1
   ·left;simp only[Bool.and_eq_false_iff,decide_eq_false_iff_not];omega
   ·exact .inr (.inl c1)
   ·exact .inr (.inr (.inl c1))
   ·exact .inr (.inr (.inr c1))
  ·have c1a:1≤(k:Int)∧(k:Int)<(s.B.length:Int):=Decidable.byContradiction fun e=>c1 (.inl e)
   have c1b: ¬(n:Int)<1:=fun e=>c1 (.inr (.inl e))
   have c1c: ¬(s.B.length:Int)-(k:Int)<(n:Int):=fun e=>c1 (.inr (.inr (.inl e)))
   have c1d: ¬spaceB sp=false:=fun e=>c1 (.inr (.inr (.inr e)))
   have hc: ¬((decide (1≤(k:Int))&&decide ((k:Int)<(s.B.length:Int)))=false∨(n:Int)<1∨(s.B.length:Int)-(k:Int)<(n:Int)∨spaceB sp=false):=by
    rintro(h1|h1|h1|h1)
    ·simp only[Bool.and_eq_false_iff,decide_eq_false_iff_not]at h1;omega
    ·exact c1b h1
    ·exact c1c h1
    ·exact c1d h1
   rw[if_neg c1,if_neg hc,Int.toNat_natCast,Int.toNat_natCast]
   have key:(List.range n).any (fun j=>(s.B.getD (k+j) (0,0)).1 !=0)=true↔((s.B.drop k).take n).any (fun x=>x !=(0,0))=true:=by
    simp only[List.any_eq_true]
    constructor
    ·rintro⟨j,hj,hx⟩
     have hj':=List.mem_range.1 hj
     have hkj:k+j<s.B.length:=by omega
     refine⟨s.B.getD (k+j) (0,0),List.mem_iff_getElem?.2 ⟨j,?_⟩,?_⟩
     ·rw[List.getElem?_take,if_pos hj',List.getElem?_drop];simp[hkj]
     ·simp only[bne_iff_ne,ne_eq]at hx⊢
      intro e;exact hx (by rw[e])
    ·rintro⟨x,hx,hne⟩
     obtain⟨j,hj⟩:=List.mem_iff_getElem?.1 hx
     rw[List.getElem?_take]at hj
     split at hj
     ·rename_i hjn
      rw[List.getElem?_drop]at hj
      have hkj:k+j<s.B.length:=(List.getElem?_eq_some_iff.1 hj).1
      have e:s.B.getD (k+j) (0,0)=x:=by rw[List.getD_eq_getElem?_getD,hj];rfl
      refine⟨j,List.mem_range.2 hjn,?_⟩
      rw[e]
      simp only[bne_iff_ne,ne_eq]at hne⊢
      intro e0
      have:=h.bf (k+j) hkj (by rw[e];exact e0)
      rw[e]at this
      exact hne this
     ·cases hj
   by_cases c:(List.range n).any (fun j=>(s.B.getD (k+j) (0,0)).1 !=0)=true
   ·rw[if_pos c,if_pos (key.1 c)]
   ·rw[if_neg c,if_neg (fun e=>c (key.2 e))]
 refine⟨hE,?_⟩
 unfold claimM RL.claimLM
 simp only
 rw[←hE]
 by_cases c:s.abs.claimLE (k:Int) (n:Int) sp=0
 rotate_left
 ·rw[if_neg c,if_neg c];exact⟨s,rfl,rfl,h,rfl,rfl⟩
 rw[if_pos c,if_pos c]
 have hk:1≤k∧k+n≤s.B.length∧1≤n:=by
  unfold RL.claimLE at c
  by_cases c1: ¬(1≤(k:Int)∧(k:Int)<(s.abs.B.length:Int))∨(n:Int)<1∨(s.abs.B.length:Int)-(k:Int)<(n:Int)∨spaceB sp=false
  ·rw[if_pos c1]at c;cases c
  ·have e1:s.abs.B.length=s.B.length:=rfl
   rw[e1]at c1
   have c1a:1≤(k:Int)∧(k:Int)<(s.B.length:Int):=Decidable.byContradiction fun e=>c1 (.inl e)
   have c1b: ¬(n:Int)<1:=fun e=>c1 (.inr (.inl e))
   have c1c: ¬(s.B.length:Int)-(k:Int)<(n:Int):=fun e=>c1 (.inr (.inr (.inl e)))
   omega
 rw[Int.toNat_natCast,Int.toNat_natCast]
 refine⟨_,rfl,rfl,h.setB (by simp[fillB_len]) (fun i hi h0=>?_) (by rw[getD_set_ne' (by omega),fillB_get _ _ _ _ hk.2.1,if_neg (by omega)]),rfl,by simp[fillB_len]⟩
 by_cases e:k=i
 ·subst e;rw[getD_set_eq (by rw[fillB_len];exact hi)]at h0;cases h0
 ·rw[getD_set_ne' e,fillB_get _ _ _ _ hk.2.1]at h0⊢
  by_cases c2:k≤i∧i<k+n
  ·rw[if_pos c2]at h0;cases h0
  ·rw[if_neg c2]at h0⊢;exact h.bf i hi h0
theorem new_inv {n:Nat} (h1:2≤n) (h2:n≤64): ∃s,newH (n:Int)=some s∧s.Inv∧s.abs=⟨List.replicate n (0,0),[],[],0⟩∧s.born=0∧s.B.length=n:=by
 have e:newH (n:Int)=some ⟨List.replicate n (0,0),List.replicate (64*n) 0,List.replicate (32*n) 0,List.replicate (32*n) 0,[],[],0⟩:=by
  unfold newH;rw[if_pos ⟨by omega,by omega⟩];simp only[Int.toNat_natCast]
 have z: ∀(m i:Nat),(List.replicate m (0:Nat)).getD i 0=0:=fun m i=>by
  simp only[List.getD_eq_getElem?_getD,List.getElem?_replicate];split<;>rfl
 have zi: ∀(m i:Nat),(List.replicate m (0:Int)).getD i 0=0:=fun m i=>by
  simp only[List.getD_eq_getElem?_getD,List.getElem?_replicate];split<;>rfl
 refine⟨_,e,⟨newH_ok e,fun i hi _=>?_,fun i hi=>?_,fun i _=>z _ i,fun k _=>zi _ k,by simp[show 0<n by omega],by simp only;rw[z];omega⟩,?_,rfl,by simp⟩
 ·simp only[List.length_replicate]at hi
  simp[hi]
 ·simp only at hi;rw[z]at hi;cases hi
 ·show RL.mk _ _ [] 0=_
  congr 1
  have:(HL.mk (List.replicate n (0,0)) (List.replicate (64*n) 0) (List.replicate (32*n) 0) (List.replicate (32*n) 0) [] [] 0).objs=[]:=by
   unfold HL.objs objsB
   rw[List.filter_eq_nil_iff]
   intro i _
   simp only[z];simp
  rw[this];rfl
end Go.Proofs.YtgcofabdialaaaaGreat
end
section
namespace Go.Proofs.YtgcofabdialaaaaGreat
set_option maxRecDepth 8000
section
variable {s:HL} {i:Nat}
theorem at_objE (h:s.Ok) (hi:s.st.getD i 0=1):objE (some s) ((2*i:Nat):Int)=0:=by
 unfold objE;rw[(has_iff h).2 ⟨i,rfl,hi⟩];rfl
theorem at_ident (h:s.Ok) (hi:s.st.getD i 0=1):identO (some s) ((2*i:Nat):Int)=((s.obAt i).id,0):=by
 unfold identO
 simp only[at_objE h hi,if_true,Int.toNat_natCast]
 rfl
theorem at_shape (h:s.Ok) (hi:s.st.getD i 0=1):shapeO (some s) ((2*i:Nat):Int)=((s.obAt i).sh,0):=by
 unfold shapeO
 simp only[at_objE h hi,if_true]
 rfl
theorem at_ref (h:s.Ok) (hi:s.st.getD i 0=1) {j:Nat} (hj:j<(s.obAt i).rf.length):refO (some s) ((2*i:Nat):Int) (j:Int)=((s.obAt i).rf.getD j 0,0):=by
 obtain⟨r,d,k,hv,hs,hz,e1,e2,e3⟩:=obAt_rf h hi
 have hsa:s.shapeAt ((2*i:Nat):Int)=((r:Int),(d:Int),(k:Int)):=hs
 rw[e2]at hj⊢
 simp only[List.length_map,List.length_range]at hj
 unfold refO fieldO
 simp only[at_objE h hi,ne_eq,not_true_eq_false,if_false,cond_false,hsa]
 rw[if_neg (show¬((j:Int)<0∨(r:Int)≤(j:Int)) by omega)]
 simp only[if_true]
 rw[show(((2*i:Nat):Int)+2+(j:Int)).toNat=2*i+2+j by omega]
 simp[hj]
theorem at_data (h:s.Ok) (hi:s.st.getD i 0=1) {j:Nat} (hj:j<(s.obAt i).dt.length):dataO (some s) ((2*i:Nat):Int) (j:Int)=((s.obAt i).dt.getD j 0,0):=by
 obtain⟨r,d,k,hv,hs,hz,e1,e2,e3⟩:=obAt_rf h hi
 have hsa:s.shapeAt ((2*i:Nat):Int)=((r:Int),(d:Int),(k:Int)):=hs
 rw[e3]at hj⊢
 simp only[List.length_map,List.length_range]at hj
 unfold dataO fieldO
 simp only[at_objE h hi,ne_eq,not_true_eq_false,if_false,cond_true,hsa]
 rw[if_neg (show¬((j:Int)<0∨(d:Int)≤(j:Int)) by omega)]
 simp only[if_true]
 rw[show(((2*i:Nat):Int)+2+(r:Int)+(j:Int)).toNat=2*i+2+r+j by omega]
 simp[hj]
theorem at_pinned (h:s.Ok) (hi:s.st.getD i 0=1):pinnedO (some s) ((2*i:Nat):Int)=(s.obAt i).pin:=by
 have hh:=(has_iff h).2 ⟨i,rfl,hi⟩
 have hlt:=(h.start hi).1
 unfold pinnedO
 simp only[hh,Bool.true_and]
 show((if hasB s.pn.length (((2*i:Nat):Int)/2)=true then((s.pn.getD (((2*i:Nat):Int)/2).toNat 0:Nat):Int)else-1)==1)=decide (s.pn.getD i 0=1)
 rw[show((2*i:Nat):Int)/2=(i:Int) by omega,if_pos (hasB_of (by have:=h.sl;have:=h.pl;omega)),Int.toNat_natCast]
 by_cases c:s.pn.getD i 0=1
 ·rw[c];rfl
 ·rw[decide_eq_false c]
  exact beq_int_false (by omega)
theorem obAt_len (h:s.Ok) (hi:s.st.getD i 0=1):(((s.obAt i).rf.length:Nat):Int)=(s.obAt i).sh.1∧(((s.obAt i).dt.length:Nat):Int)=(s.obAt i).sh.2.1∧validS (s.obAt i).sh=true:=by
 obtain⟨r,d,k,hv,hs,hz,e1,e2,e3⟩:=obAt_rf h hi
 rw[e1,e2,e3]
 exact⟨by simp,by simp,hv⟩
theorem abs_Ok (h:s.Ok) (o:Ob) (ho:o∈s.abs.O):o.Ok s.B.length:=by
 simp only[HL.abs,List.mem_map]at ho
 obtain⟨i,hi,rfl⟩:=ho
 have hi:=mem_objs.1 hi
 obtain⟨h1,h2,h3⟩:=obAt_len h hi
 obtain⟨r,d,k,hv,hn,hw⟩:=h.fit i hi
 have hsh:(s.obAt i).sh=((r:Int),(d:Int),(k:Int)):=by
  show shapeN (s.W.getD (2*i+1) 0)=_
  rw[hn,shape_num hv]
 refine⟨h3,h1,h2,?_,?_⟩
 ·show(0:Int)≤((2*i:Nat):Int);omega
 ·rw[hsh]
  show((2*i:Nat):Int)+_≤_
  have:=h.wl
  omega
end
end Go.Proofs.YtgcofabdialaaaaGreat
end
section
namespace Go.Proofs.YtgcofabdialaaaaGreat
set_option maxRecDepth 8000
theorem refsO_at {s:HL} {k:Nat} (h:s.Ok) (hk:s.st.getD k 0=1):refsO (some s) ((2*k:Nat):Int)=(s.obAt k).rf:=by
 obtain⟨h1,_,_⟩:=obAt_len h hk
 unfold refsO
 rw[at_shape h hk]
 have e:(s.obAt k).sh.1.toNat=(s.obAt k).rf.length:=by omega
 simp only[e]
 refine List.ext_getElem (by simp) fun i h1 h2=>?_
 simp only[List.getElem_map,List.getElem_range]
 rw[at_ref h hk h2]
 simp[h2]
def okTo (s:HL) (to:Int):Prop:=to=0∨ ∃k:Nat,to=((2*k:Nat):Int)∧s.st.getD k 0=1
theorem okTo.le {s:HL} {to:Int} (h:okTo s to) (hok:s.Ok):0≤to∧to≤4096:=by
 rcases h with rfl|⟨k,rfl,hk⟩
 ·omega
 ·have:=(hok.start hk).1;have:=hok.sl;have:=hok.b64;omega
theorem live_le {s:HL} {k:Nat} (hok:s.Ok) (hk:s.st.getD k 0=1):2*k≤4096:=by
 have:=(hok.start hk).1;have:=hok.sl;have:=hok.b64;omega
theorem field_at {s:HL} {k j:Nat} (h:s.Ok) (hk:s.st.getD k 0=1) (hj:j<(s.obAt k).rf.length):fieldO (some s) ((2*k:Nat):Int) (j:Int) false=(((2*k+2+j:Nat):Int),0):=by
 obtain⟨r,d,kk,hv,hs,hz,e1,e2,e3⟩:=obAt_rf h hk
 have hsa:s.shapeAt ((2*k:Nat):Int)=((r:Int),(d:Int),(kk:Int)):=hs
 rw[e2]at hj
 simp only[List.length_map,List.length_range]at hj
 unfold fieldO
 simp only[at_objE h hk,ne_eq,not_true_eq_false,if_false,cond_false,hsa]
 rw[if_neg (show¬((j:Int)<0∨(r:Int)≤(j:Int)) by omega)]
 refine Prod.ext ?_ rfl
 simp only;omega
theorem setRef_ok {s:HL} {k j:Nat} {to:Int} (h:s.Ok) (hk:s.st.getD k 0=1) (hj:j<(s.obAt k).rf.length) (ht:okTo s to):setRefE (some s) ((2*k:Nat):Int) (j:Int) to=0:=by
 unfold setRefE
 simp only[field_at h hk hj,ne_eq,not_true_eq_false,if_false]
 rw[if_neg]
 rintro⟨h1,h2⟩
 rcases ht with rfl|⟨k',rfl,hk'⟩
 ·exact h1 rfl
 ·rw[(has_iff h).2 ⟨k',rfl,hk'⟩]at h2;cases h2
theorem rf_le {s:HL} {k:Nat} (h:s.Ok) (hk:s.st.getD k 0=1):(s.obAt k).rf.length≤15:=by
 obtain⟨h1,_,hv⟩:=obAt_len h hk
 simp only[validS,Bool.and_eq_true,decide_eq_true_eq]at hv
 omega
theorem BM.made {w:World} {b:Nat} {hp:Addr} {t:BS} {fp:List Nat} (h:BM w b hp t fp):Cs Tryz.prog 45 [.pointer (some ⟨b,0,none⟩)] w fun v w'=>v=.bool true∧w'=w:=by
 obtain⟨bd,bo,vs,vl,fs,fl,M,_,hm⟩:=h
 exact bMadeS hm.hb
theorem BM.cell0 {w:World} {b:Nat} {hp:Addr} {t:BS} {fp:List Nat} (h:BM w b hp t fp):w.cell? ⟨b,0,none⟩=some (.pointer (some hp)):=by
 obtain⟨bd,bo,vs,vl,fs,fl,M,_,hm⟩:=h
 rw[hm.hb.cell];rfl
theorem bStoreT {w:World} {b hb:Nat} {t:BS} {fp fh:List Nat} {s s':HL} {k j:Nat} {to:Int} (h:BM w b ⟨hb,0,none⟩ t fp) (hh:HR w (some ⟨hb,0,none⟩) fh (some s)) (hd: ∀y,y∈fh→y∉fp) (hk:s.st.getD k 0=1) (hj:j<(s.obAt k).rf.length) (ht:okTo s to)
  (e:setRefM (some s) ((2*k:Nat):Int) (j:Int) to=some s') (hS:t.S.length≤90000) (hL:t.L.length≤90000):
  Cs Tryz.prog 28 [.pointer (some ⟨b,0,none⟩),.int .i64 ((2*k:Nat):Int),.int .i64 (j:Int),.int .i64 to] w fun v w'=>v=.int .i64 0∧HR w' (some ⟨hb,0,none⟩) fh (some s')∧Only (fh++fp) w w'∧ ∃fp',BM w' b ⟨hb,0,none⟩ (t.note (some s') (2*k) j (s.obAt k).rf to) fp'∧ ∀y,y∈fp'→y∈fp∨w.heap.size≤y:=by
 have hok:=hh.ok s rfl
 have hxl:=live_le hok hk
 have htl:=ht.le hok
 have hrl:=rf_le hok hk
 refine enter_barrier_Barrier_Store rfl ?_
 unfold x_barrier_Barrier_Store
 (repeat(first|with_reducible(first|refine nx ?_|refine r_6 rfl ?_)|simp only[go_sem]))
 refine callT0 h.made ?_
 (repeat(first|with_reducible(first|refine nx ?_|refine r_6 rfl ?_)|simp only[go_sem,h.cell0]))
 refine callT (hRefs hh ((2*k:Nat):Int) (by omega)) ?_
 rintro vr w1 ⟨ho1,fr,hr1,hfr1⟩
 rw[refsO_at hok hk]at hr1
 have h1:=h.keep0 ho1
 (repeat(first|with_reducible(first|refine nx ?_|refine r_6 rfl ?_)|simp only[go_sem,h1.cell0]))
 refine callT (hSetRef (hh.keep0 ho1) ((2*k:Nat):Int) (j:Int) to (by omega) (by omega)) ?_
 rintro r w2 ⟨rfl,h2,ho2⟩
 rw[e]at h2
 rw[setRef_ok hok hk hj ht]
 have hlh:=hh.lt
 have hlb:=h.lt
 have b2:=h1.keep ho2 fun y hy hy2=>hd y hy2 hy
 have hr2:=hr1.keep ho2 fun y hy hy2=>by have:=hfr1 y hy;have:=hlh y hy2;omega
 (repeat(first|with_reducible(first|refine nx ?_|refine r_6 rfl ?_)|simp only[go_sem,bne_int_false (rfl:(0:Int)=0)]))
 refine callT (b2.noteT (m:=some s') h2 (fun y hy=>by
  simp only[List.mem_append,not_or]
  exact⟨hd y hy,fun hy2=>by have:=hfr1 y hy2;have:=hlh y hy;omega⟩) hr2 (fun y hy hy2=>by have:=hfr1 y hy;have:=hlb y hy2;omega) (2*k) j (by omega) hj (by omega) to htl.1 (by omega) hS hL) ?_
 rintro r w3 ⟨rfl,ho3,fp',b3,hs3⟩
 (repeat(first|with_reducible(first|refine nx ?_|refine r_6 rfl ?_)|simp only[go_sem]))
 have hz1:=ho1.size
 have hz2:=ho2.size
 have o2:Only (fh++fp) w w2:=(ho1.of_nil (T:=fh++fp)).same (ho2.weakT fun y hy=>by simp[hy])
 refine⟨h2.keep ho3 fun y hy hy2=>?_,o2.trans ho3 fun y hy=>?_,fp',b3,fun y hy=>?_⟩
 ·rcases List.mem_append.1 hy2 with h'|h'
  ·exact hd y hy h'
  ·have:=hfr1 y h';have:=hlh y hy;omega
 ·rcases List.mem_append.1 hy with h'|h'
  ·exact .inl (by simp[h'])
  ·exact .inr (hfr1 y h')
 ·rcases hs3 y hy with h'|h'
  ·rcases List.mem_append.1 h' with h'|h'
   ·exact .inl h'
   ·exact .inr (hfr1 y h')
  ·exact .inr (by omega)
theorem bNoteT {w:World} {b hb:Nat} {t:BS} {fp fh:List Nat} {s:HL} {k j:Nat} {old:Int} (h:BM w b ⟨hb,0,none⟩ t fp) (hh:HR w (some ⟨hb,0,none⟩) fh (some s)) (hd: ∀y,y∈fh→y∉fp) (hk:s.st.getD k 0=1) (hj:j<(s.obAt k).rf.length) (ho:0≤old) (hn:okTo s ((s.obAt k).rf.getD j 0))
  (hS:t.S.length≤90000) (hL:t.L.length≤90000):
  Cs Tryz.prog 29 [.pointer (some ⟨b,0,none⟩),.int .i64 ((2*k:Nat):Int),.int .i64 (j:Int),.int .i64 old] w fun v w'=>v=.int .i64 0∧Only fp w w'∧ ∃fp',BM w' b ⟨hb,0,none⟩ (t.note (some s) (2*k) j ((s.obAt k).rf.set j old) ((s.obAt k).rf.getD j 0)) fp'∧ ∀y,y∈fp'→y∈fp∨w.heap.size≤y:=by
 have hok:=hh.ok s rfl
 have hxl:=live_le hok hk
 have htl:=hn.le hok
 have hrl:=rf_le hok hk
 have hlh:=hh.lt
 have hlb:=h.lt
 refine enter_barrier_Barrier_Note rfl ?_
 unfold x_barrier_Barrier_Note
 (repeat(first|with_reducible(first|refine nx ?_|refine r_6 rfl ?_)|simp only[go_sem]))
 refine callT0 h.made ?_
 (repeat(first|with_reducible(first|refine nx ?_|refine r_6 rfl ?_)|simp only[go_sem,h.cell0]))
 refine callT1 (hRef hh ((2*k:Nat):Int) (j:Int) (by omega)) fun w1 ho1=>?_
 rw[at_ref hok hk hj]
 have h1:=h.keep0 ho1
 (repeat(first|with_reducible(first|refine nx ?_|refine r_6 rfl ?_)|simp only[go_sem,bne_int_false (rfl:(0:Int)=0),decide_eq_false (show¬old<0 by omega),h1.cell0]))
 refine callT (hRefs (hh.keep0 ho1) ((2*k:Nat):Int) (by omega)) ?_
 rintro vr w2 ⟨ho2,fr,hr2,hfr2⟩
 rw[refsO_at hok hk]at hr2
 obtain⟨gr,cr,yr,rfl,hatr,rfl,hcr⟩: ∃g c ys,vr=.slice (some ⟨g,0,none⟩) (s.obAt k).rf.length c∧At w2 g (ints (s.obAt k).rf++ys)∧fr=[g]∧(ints (s.obAt k).rf++ys).length=c:=by
  rcases hr2.2 with⟨_,h0,_⟩|⟨g,c,ys,T,e1,e2,h3,h4,_⟩
  ·omega
  ·exact⟨g,c,ys,e1,⟨T,h3⟩,e2,by omega⟩
 have hz1:=ho1.size
 have hz2:=ho2.size
 have hgr:=hfr2 gr (by simp)
 (repeat(first|with_reducible(first|refine nx ?_|refine r_6 rfl ?_)|simp only[go_sem,if_pos (show(0:Int)≤(j:Int)∧(j:Int)<((s.obAt k).rf.length:Int) by omega),Int.toNat_natCast,Nat.mul_one]))
 refine stT hatr (by rw[List.length_append,ints_length];omega) rfl fun w3 hs3 hat3 ho3=>?_
 have hr3:=Sl.setI rfl hatr hcr hj hat3
 have o3:Only [] w w3:=(ho1.nil ho2).trans ho3 fun y hy=>by simp only[List.mem_singleton]at hy;subst hy;exact .inr (by omega)
 have h3:=h.keep0 o3
 (repeat(first|with_reducible(first|refine nx ?_|refine r_6 rfl ?_)|simp only[go_sem]))
 refine callT (h3.noteT (m:=some s) (hh.keep0 o3) (fun y hy=>by
  simp only[List.mem_append,List.mem_singleton,not_or]
  exact⟨hd y hy,fun hy2=>by have:=hlh y hy;omega⟩) hr3 (fun y hy hy2=>by simp only[List.mem_singleton]at hy;have:=hlb y hy2;omega) (2*k) j (by omega) hj (by omega) ((s.obAt k).rf.getD j 0) htl.1 (by omega) hS hL) ?_
 rintro r w4 ⟨rfl,ho4,fp',b4,hs4⟩
 (repeat(first|with_reducible(first|refine nx ?_|refine r_6 rfl ?_)|simp only[go_sem]))
 have hz3:=o3.size
 refine⟨(o3.of_nil (T:=fp)).trans ho4 fun y hy=>?_,fp',b4,fun y hy=>?_⟩
 ·rcases List.mem_append.1 hy with h'|h'
  ·exact .inl h'
  ·simp only[List.mem_singleton]at h';exact .inr (by omega)
 ·rcases hs4 y hy with h'|h'
  ·rcases List.mem_append.1 h' with h'|h'
   ·exact .inl h'
   ·simp only[List.mem_singleton]at h';exact .inr (by omega)
  ·exact .inr (by omega)
end Go.Proofs.YtgcofabdialaaaaGreat
end
section
namespace Go.Proofs.YtgcofabdialaaaaGreat
set_option maxRecDepth 8000
theorem ints_take_succ {l:List Int} {j:Nat} (hj:j<l.length):ints (l.take j)++[Value.int .i64 (l.getD j 0)]=ints (l.take (j+1)):=by
 have e:l.getD j 0=l[j]:=by simp[hj]
 rw[List.take_succ_eq_append_getElem hj,e]
 unfold ints
 rw[List.map_append];rfl
theorem blkV_take_succ {B:List (Int×Int)} {j:Nat} (hj:j<B.length):blkV (B.take j)++[Value.int .i64 (B.getD j (0,0)).1,Value.int .i64 (B.getD j (0,0)).2]=blkV (B.take (j+1)):=by
 rw[List.take_succ_eq_append_getElem hj,blkV_append]
 simp[blkV,hj]
theorem adrs_get {l:List Nat} {i:Nat} (h:i<l.length):(adrs l).getD i 0=((2*l.getD i 0:Nat):Int):=by simp[adrs,h]
theorem cRead {w:World} {hb:Nat} {s:HL} {fh:List Nat} (h:HR w (some ⟨hb,0,none⟩) fh (some s)) (hi:s.Inv):Cs Tryz.prog 25 [.pointer (some ⟨hb,0,none⟩)] w fun v w'=>Only [] w w'∧ ∃b fp,v=.pointer (some ⟨b,0,none⟩)∧FM w' b s.abs fp∧ ∀x,x∈fp→w.heap.size≤x:=by
 have hok:=hi.ok
 have hb64:=hok.b64
 refine enter_law12_Read rfl ?_
 unfold x_law12_Read
 (repeat(first|with_reducible(first|refine nx ?_|refine r_6 rfl ?_)|simp only[go_sem]))
 refine callT0 (hBirths h) ?_
 have hbo:bornO (some s)=s.born:=rfl
 rw[hbo]
 (repeat(first|with_reducible(first|refine nx ?_|refine r_6 rfl ?_)|simp only[go_sem]))
 rw[fillL_one rfl rfl]
 (repeat(first|with_reducible(first|refine nx ?_|refine r_6 rfl ?_)|simp only[go_sem]))
 refine boxT fun qb w1 hq1 hs1 hat1 ho1=>?_
 simp only[go_sem]
 refine run_seq ?_
 refine run_cut (4::5::22::23::24::25::26::27::28::29::30::31::32::33::34::35::36::37::38::39::40::41::42::43::44::[]) (fun _ w'=> ∃vB fB,At w' qb [vB,.slice none 0 0,.slice none 0 0,.int .i64 (s.born:Int)]∧Sl w' 2 vB s.B.length (blkV s.B) fB∧(∀x,x∈fB→w1.heap.size≤x)∧Only [] w w') (fun kk hkk=>?_) (fun g1 w2 hJ=>?_)
 ·(repeat(first|with_reducible(first|refine nx ?_|refine r_6 rfl ?_)|simp only[go_sem]))
  refine run_loop (4::5::22::23::24::25::26::27::28::29::30::31::32::33::34::35::36::37::38::39::40::41::42::43::44::[]) (fun g w'=> ∃(i:Nat) (vB:Value) (fB:List Nat),g 4=.int .i64 (i:Int)∧i≤s.B.length∧At w' qb [vB,.slice none 0 0,.slice none 0 0,.int .i64 (s.born:Int)]∧Sl w' 2 vB i (blkV (s.B.take i)) fB∧(∀x,x∈fB→w1.heap.size≤x)∧Only [] w w') (fun g _=>upTo s.B.length 4 g)
   ⟨0,.slice none 0 0,[],by simp only[go_sem];rfl,by omega,hat1,Sl.nil2 _,by simp,ho1⟩ fun g w' hI hnext=>?_
  obtain⟨i,vB,fB,h4,hil,hat,hsl,hfB,ho⟩:=hI
  have hw':=h.keep0 ho
  have hblk:((blocksO (some s):Nat):Int)=(s.B.length:Int):=rfl
  by_cases c1:i<s.B.length
  rotate_left
  ·(repeat(first|with_reducible(first|refine nx ?_|refine r_6 rfl ?_)|simp only[go_sem,h4]))
   refine callT0 (hBlocks hw') ?_
   (repeat(first|with_reducible(first|refine nx ?_|refine r_6 rfl ?_)|simp only[go_sem,h4,hblk,decide_eq_false (show¬(i:Int)<(s.B.length:Int) by omega)]))
   obtain rfl:i=s.B.length:=by omega
   rw[List.take_length]at hsl
   refine hkk _ w' ?_ ⟨vB,fB,hat,hsl,hfB,ho⟩
   (repeat(first|with_reducible exact k_1|with_reducible exact Keeps.ovr _ _ _|refine Keeps.put ?_ rfl _|exact k_1|exact Keeps.ovr _ _ _|refine Keeps.ovr2 ?_ rfl _))
  (repeat(first|with_reducible(first|refine nx ?_|refine r_6 rfl ?_)|simp only[go_sem,h4]))
  refine callT0 (hBlocks hw') ?_
  (repeat(first|with_reducible(first|refine nx ?_|refine r_6 rfl ?_)|simp only[go_sem,h4,hblk,decide_eq_true (show(i:Int)<(s.B.length:Int) by omega),hat.cell]))
  refine callT0 (hState hw' (i:Int)) ?_
  (repeat(first|with_reducible(first|refine nx ?_|refine r_6 rfl ?_)|simp only[go_sem,h4]))
  refine callT0 (hSpace hw' (i:Int)) ?_
  have e1:stateO (some s) (i:Int)=(s.B.getD i (0,0)).1:=by
   show(if 0≤(i:Int)∧(i:Int)<(s.B.length:Int)then(s.b (i:Int)).1 else-1)=_
   rw[if_pos (by omega)];rfl
  have e2:bspaceO (some s) (i:Int)=(s.B.getD i (0,0)).2:=by
   show(if 0≤(i:Int)∧(i:Int)<(s.B.length:Int)then(s.b (i:Int)).2 else-1)=_
   rw[if_pos (by omega)];rfl
  rw[e1,e2]
  (repeat(first|with_reducible(first|refine nx ?_|refine r_6 rfl ?_)|simp only[go_sem]))
  rw[fillL_one rfl rfl,fillL_one rfl rfl]
  (repeat(first|with_reducible(first|refine nx ?_|refine r_6 rfl ?_)|simp only[go_sem]))
  rw[fillL_ag (n:=2) rfl rfl]
  (repeat(first|with_reducible(first|refine nx ?_|refine r_6 rfl ?_)|simp only[go_sem]))
  refine bslT fun q4 w4 hq4 hs4 hat4 ho4=>?_
  (repeat(first|with_reducible(first|refine nx ?_|refine r_6 rfl ?_)|simp only[go_sem]))
  refine appT (sz:=2) (m:=1) (us:=[.int .i64 (s.B.getD i (0,0)).1,.int .i64 (s.B.getD i (0,0)).2]) (hsl.keep0 ho4) (SrcIs.at hat4 rfl) (by simp[oneC]) (by omega) (by omega) ?_
  intro v5 w5 f5 hs5 hf5 ho5 _
  rw[blkV_take_succ c1]at hs5
  have hz:=ho.size
  have hz1:=ho1.size
  have hz4:=ho4.size
  have hqf:qb∉fB:=fun hx=>by have:=hfB qb hx;omega
  have hat5:=(hat.keep0 ho4).keep ho5 hqf
  have hfB5: ∀x,x∈f5→w1.heap.size≤x:=fun x hx=>by
   rcases hf5 with rfl|rfl
   ·exact hfB x hx
   ·simp only[List.mem_singleton]at hx;have:=hat.lt;omega
  have o5:Only [] w w5:=(ho.nil ho4).trans ho5 fun x hx=>.inr (by have:=hfB x hx;omega)
  (repeat(first|with_reducible(first|refine nx ?_|refine r_6 rfl ?_)|simp only[go_sem]))
  refine stT hat5 (by simp) hs5.oneC' fun w6 hs6 hat6 ho6=>?_
  simp only[List.set_cons_zero,List.set_cons_succ]at hat6
  (repeat(first|with_reducible(first|refine nx ?_|refine r_6 rfl ?_)|simp only[go_sem,h4,i64_succ i (by omega)]))
  refine hnext _ w6 ?_ ⟨i+1,v5,f5,?_,by omega,hat6,hs5.keep ho6 fun x hx=>off1 (by have:=hfB5 x hx;omega),hfB5,o5.trans ho6 fun x hx=>by simp only[List.mem_singleton]at hx;subst hx;exact .inr (by omega)⟩ ?_
  ·(repeat(first|with_reducible exact k_1|with_reducible exact Keeps.ovr _ _ _|refine Keeps.put ?_ rfl _|exact k_1|exact Keeps.ovr _ _ _|refine Keeps.ovr2 ?_ rfl _))
  ·simp only[go_sem]
  ·rw[upTo_int (i:=i) h4,upTo_int (k:=.i64) (i:=i+1) (by simp only[go_sem])];omega
 obtain⟨vB,fB,hat2,hB2,hfB,ho2⟩:=hJ
 (repeat(first|with_reducible(first|refine nx ?_|refine r_6 rfl ?_)|simp only[go_sem]))
 refine callT (hAll (h.keep0 ho2)) ?_
 rintro vA w3 ⟨ho3,fq,hA3,hfq⟩
 have hA:allH (some s)=adrs s.objs:=rfl
 rw[hA]at hA3
 have hAl:(adrs s.objs).length=s.objs.length:=adrs_len _
 rw[hAl]at hA3
 obtain⟨aA,cA,rfl⟩:=hA3.val
 have hol:s.objs.length≤2048:=by
  have:=objsB_len s.st 0 s.st.length
  have hl:s.objs.length≤s.st.length:=this
  have:=hok.sl
  omega
 have hz1:=ho1.size
 have hz2:=ho2.size
 have hz3:=ho3.size
 have hq2:=hat2.lt
 have hB2l:=hB2.lt
 have hfql:=hA3.lt
 have oo3:=ho2.nil ho3
 (repeat(first|with_reducible(first|refine nx ?_|refine r_6 rfl ?_)|simp only[go_sem]))
 refine run_loop (7::8::9::10::11::12::13::14::15::16::17::47::48::49::50::51::52::53::54::55::56::57::58::59::60::61::62::63::64::65::66::67::68::69::70::71::72::73::74::75::76::77::78::79::80::81::82::83::84::85::86::87::88::89::90::91::92::93::94::95::96::97::98::99::100::101::102::103::104::105::106::107::108::109::110::111::112::113::114::115::116::117::118::119::120::121::122::123::124::125::126::127::128::129::130::131::132::133::134::[]) (fun g w'=> ∃(i:Nat) (vO:Value) (fO:List Nat) (L:List OM),g 7=.int .i64 (i:Int)∧i≤s.objs.length∧At w' qb [vB,vO,.slice none 0 0,.int .i64 (s.born:Int)]∧Sl w' 8 vO i (omV L) fO∧L.map OM.o=(s.objs.take i).map s.obAt∧(∀m,m∈L→m.ok w')∧(fO++omF L).Nodup∧(∀x,x∈fO++omF L→w3.heap.size≤x)∧Only [qb] w3 w') (fun g _=>upTo s.objs.length 7 g)
  ⟨0,.slice none 0 0,[],[],by simp only[go_sem];rfl,by omega,hat2.keep0 ho3,Sl.nil8 _,by simp,by simp,by simp[omF],by simp[omF],Only.refl _ _⟩ fun g w' hI hnext=>?_
 obtain⟨i,vO,fO,L,h7,hil,hat,hO,hLm,hLok,hnd,hge,ho⟩:=hI
 have oo:Only [] w w':=oo3.trans ho fun x hx=>by simp only[List.mem_singleton]at hx;subst hx;exact .inr (by omega)
 have hLl:L.length=i:=by have:=congrArg List.length hLm;simp only[List.length_map,List.length_take]at this;omega
 by_cases c1:i<s.objs.length
 rotate_left
 ·(repeat(first|with_reducible(first|refine nx ?_|refine r_6 rfl ?_)|simp only[go_sem,h7,decide_eq_false (show¬(i:Int)<(s.objs.length:Int) by omega)]))
  obtain rfl:i=s.objs.length:=by omega
  rw[List.take_length]at hLm
  have hnd':=List.nodup_append.1 hnd
  have hO3: ∀x,x∈fO→w3.heap.size≤x:=fun x hx=>hge x (by simp[hx])
  have hL3: ∀x,x∈omF L→w3.heap.size≤x:=fun x hx=>hge x (by simp[hx])
  have hB3:=(hB2.keep0 ho3).keep ho fun x hx=>off1 (by have:=hfB x hx;omega)
  refine⟨oo,qb,qb::(fB++(fO++([]++omF L))),rfl,⟨vB,vO,.slice none 0 0,fB,fO,[],L,rfl,⟨⟨?_,?_,?_,?_⟩,hat,hB3,?_,⟨rfl,.inl ⟨rfl,rfl,rfl⟩⟩,?_,hLok,nd4_mk ?_ ?_ ?_ ?_ hnd'.2.1 hnd'.1 hB2.nodup (by simp)⟩⟩,?_⟩
  ·exact hok.b2
  ·exact hok.b64
  ·show(s.objs.map s.obAt).length≤2048;rw[List.length_map];exact hol
  ·exact fun o ho=>abs_Ok hok o ho
  ·rw[hLl];exact hO
  ·exact hLm.symm
  ·rintro y (hy|hy|hy|hy)
   ·have:=hfB y hy;omega
   ·have:=hO3 y hy;omega
   ·simp at hy
   ·have:=hL3 y hy;omega
  ·exact fun y hy=>⟨fun h=>by have:=hO3 y h;have:=hB2l y hy;omega,by simp,fun h=>by have:=hL3 y h;have:=hB2l y hy;omega⟩
  ·exact fun y hy=>⟨by simp,fun h=>hnd'.2.2 y hy y h rfl⟩
  ·simp
  ·intro x hx
   simp only[List.mem_cons,List.mem_append,List.nil_append]at hx
   rcases hx with rfl|hx|hx|hx
   ·omega
   ·have:=hfB x hx;omega
   ·have:=hO3 x hx;omega
   ·have:=hL3 x hx;omega
 (repeat(first|with_reducible(first|refine nx ?_|refine r_6 rfl ?_)|simp only[go_sem,h7,decide_eq_true (show(i:Int)<(s.objs.length:Int) by omega)]))
 obtain⟨k,hk⟩: ∃k,k=s.objs.getD i 0:=⟨_,rfl⟩
 have hmem:k∈s.objs:=by rw[hk];simp[c1]
 have hki:=mem_objs.1 hmem
 have hxl:((2*k:Nat):Int)≤4096:=by have:=(hok.start hki).1;have:=hok.sl;omega
 obtain⟨hrl,hdl,hvs⟩:=obAt_len hok hki
 have hw':=h.keep0 oo
 -- the list of addresses, at any later time
 obtain⟨gA,cA',yA,eA,hatA3,rfl,hcA⟩:=hA3.pos (by omega)
 cases eA
 have hgA:gA<w3.heap.size:=hfql gA (by simp)
 have hgAb:gA≠qb:=by have:=hfq gA (by simp);omega
 have hatA:=hatA3.keep ho (off1 hgAb)
 have hAc:(ints (adrs s.objs)++yA)[i]? =some (.int .i64 ((2*k:Nat):Int)):=by
  rw[hk,←adrs_get c1];exact ints_append_get yA (by omega)
 have ci:(0:Int)≤(i:Int)∧(i:Int)<(s.objs.length:Int):=by omega
 refine run_cut (8::53::54::55::56::57::58::59::60::61::62::63::[]) (fun ρ' w4=> ∃u,ρ' 8=.pointer (some ⟨u,0,none⟩)∧At w4 u [.int .i64 ((2*k:Nat):Int),.int .i64 0,.int .i64 0,.int .i64 0,.int .i64 0,.slice none 0 0,.slice none 0 0,.bool (s.obAt k).pin]∧w'.heap.size≤u∧Only [] w' w4) (fun kk hkk=>?_) (fun g4 w4 hJ=>?_)
 ·have hwd:=hw'.keep0 (Only.drew [] w')
  have hgd:gA<w'.drew.heap.size:=hatA.lt
  have sbd: ∀z,z∈[gA]→z<w'.drew.heap.size∧z∉([]:List Nat):=fun z hz=>⟨by simp only[List.mem_singleton]at hz;subst hz;exact hgd,by simp⟩
  have hbld:aggO (fillL [Value.int .i64 0,.int .i64 0,.int .i64 0,.int .i64 0,.int .i64 0,.slice none 0 0,.slice none 0 0,.bool false] [(0,1,.int .i64 ((2*k:Nat):Int)),(7,1,.bool (s.obAt k).pin)])=some (.agg ⟨[.int .i64 ((2*k:Nat):Int),.int .i64 0,.int .i64 0,.int .i64 0,.int .i64 0,.slice none 0 0,.slice none 0 0,.bool (s.obAt k).pin]⟩):=by
   rw[fillL_one rfl rfl,fillL_one rfl rfl];rfl
  have one8: ∀u,u∈[Value.int .i64 ((2*k:Nat):Int),.int .i64 0,.int .i64 0,.int .i64 0,.int .i64 0,.slice none 0 0,.slice none 0 0,.bool (s.obAt k).pin]→oneC u=true:=by simp[oneC]
  refine run_drt [gA] ?_
  (repeat(first|with_reducible(first|refine nx ?_|refine r_6 rfl ?_)|simp only[go_sem,h7,hatA.drew.cell,if_pos ci,Int.toNat_natCast,Nat.mul_one,hAc]))
  refine⟨?_,?_⟩
  ·refine callS1 (hPinned hwd ((2*k:Nat):Int) (by omega)) (.inr ⟨SB.refl _ _,sbd⟩) fun w5 ho5=>?_
   rw[at_pinned hok hki]
   (repeat(first|with_reducible(first|refine nx ?_|refine r_6 rfl ?_)|simp only[go_sem,hbld]))
   refine boxS fun u w6 hu hs6 hat6 ho6=>⟨.inr (((SB.refl _ _).only ho5 sbd).only ho6 fun z hz=>⟨by have:=(sbd z hz).1;have:=ho5.size;omega,by simp⟩),?_⟩
   (repeat(first|with_reducible(first|refine nx ?_|refine r_6 rfl ?_)|simp only[go_sem]))
   refine stNS hat6 rfl (by simp) one8 fun w7 hs7 hat7 ho7=>⟨.inl rfl,?_⟩
   (repeat(first|with_reducible(first|refine nx ?_|refine r_6 rfl ?_)|simp only[go_sem]))
   have hu5:w'.heap.size≤w5.heap.size:=ho5.size
   refine hkk _ w7 ?_ ⟨u,?_,hat7,by omega,((((Only.drew [] w').nil ho5).nil ho6).trans ho7 fun x hx=>by simp only[List.mem_singleton]at hx;subst hx;exact .inr (by omega))⟩
   ·(repeat(first|with_reducible exact k_1|with_reducible exact Keeps.ovr _ _ _|refine Keeps.put ?_ rfl _|exact k_1|exact Keeps.ovr _ _ _|refine Keeps.ovr2 ?_ rfl _))
   ·simp only[go_sem]
  ·refine boxS fun u w5 hu hs5 hat5 ho5=>⟨.inr ((SB.refl _ _).only ho5 sbd),?_⟩
   (repeat(first|with_reducible(first|refine nx ?_|refine r_6 rfl ?_)|simp only[go_sem]))
   refine callS1 (hPinned (hwd.keep0 ho5) ((2*k:Nat):Int) (by omega)) (.inr ⟨(SB.refl _ _).only ho5 sbd,fun z hz=>⟨by have:=(sbd z hz).1;have:=ho5.size;omega,by simp⟩⟩) fun w6 ho6=>?_
   rw[at_pinned hok hki]
   (repeat(first|with_reducible(first|refine nx ?_|refine r_6 rfl ?_)|simp only[go_sem,hbld]))
   refine stNS (hat5.keep0 ho6) rfl (by simp) one8 fun w7 hs7 hat7 ho7=>⟨.inl rfl,?_⟩
   (repeat(first|with_reducible(first|refine nx ?_|refine r_6 rfl ?_)|simp only[go_sem]))
   have hu5:u=w'.heap.size:=hu
   refine hkk _ w7 ?_ ⟨u,?_,hat7,by omega,((((Only.drew [] w').nil ho5).nil ho6).trans ho7 fun x hx=>by simp only[List.mem_singleton]at hx;subst hx;exact .inr (by omega))⟩
   ·(repeat(first|with_reducible exact k_1|with_reducible exact Keeps.ovr _ _ _|refine Keeps.put ?_ rfl _|exact k_1|exact Keeps.ovr _ _ _|refine Keeps.ovr2 ?_ rfl _))
   ·simp only[go_sem]
 obtain⟨u,h8,hu4,hul,ho4⟩:=hJ
 have hw4:=hw'.keep0 ho4
 have hid:=at_ident hok hki
 have hsh:=at_shape hok hki
 have hrf: ∀j,j<(s.obAt k).rf.length→refO (some s) ((2*k:Nat):Int) (j:Int)=((s.obAt k).rf.getD j 0,0):=fun j hj=>at_ref hok hki hj
 have hdt: ∀j,j<(s.obAt k).dt.length→dataO (some s) ((2*k:Nat):Int) (j:Int)=((s.obAt k).dt.getD j 0,0):=fun j hj=>at_data hok hki hj
 have hoa:(s.obAt k).a=((2*k:Nat):Int):=rfl
 (repeat(first|with_reducible(first|refine nx ?_|refine r_6 rfl ?_)|simp only[go_sem,h8,hu4.cell]))
 refine callT1 (hIdent hw4 ((2*k:Nat):Int) (by omega)) fun w5 ho5=>?_
 rw[hid]
 (repeat(first|with_reducible(first|refine nx ?_|refine r_6 rfl ?_)|simp only[go_sem,h8]))
 refine stT (hu4.keep0 ho5) (by simp) rfl fun w6 hs6 hu6 ho6=>?_
 simp only[List.set_cons_zero,List.set_cons_succ]at hu6
 have huf:u∉fh:=fun hx=>by have:=h.lt u hx;have:=oo.size;omega
 have hw6:=(hw4.keep0 ho5).keep ho6 fun x hx=>off1 (fun e=>huf (e▸hx))
 (repeat(first|with_reducible(first|refine nx ?_|refine r_6 rfl ?_)|simp only[go_sem,h8,hu6.cell]))
 refine callT1 (hShape hw6 ((2*k:Nat):Int) (by omega)) fun w7 ho7=>?_
 rw[hsh]
 (repeat(first|with_reducible(first|refine nx ?_|refine r_6 rfl ?_)|simp only[go_sem,h8]))
 refine stNT (cs:=shV (s.obAt k).sh) (hu6.keep0 ho7) rfl (by simp[shV]) (shV_one _) fun w8 hs8 hu8 ho8=>?_
 have hu8:At w8 u [.int .i64 ((2*k:Nat):Int),.int .i64 (s.obAt k).id,.int .i64 (s.obAt k).sh.1,.int .i64 (s.obAt k).sh.2.1,.int .i64 (s.obAt k).sh.2.2,.slice none 0 0,.slice none 0 0,.bool (s.obAt k).pin]:=hu8
 have o8:Only [] w' w8:=((((ho4.nil ho5).of_nil (T:=[u])).same ho6).nil ho7|>.same ho8).mono fun x hx=>by simp only[List.mem_singleton]at hx;subst hx;exact .inr hul
 have hw8:=hw'.keep0 o8
 have hul8:=hu8.lt
 have hz8:=o8.size
 have hzw:=ho.size
 have hvs':=hvs
 simp only[validS,Bool.and_eq_true,decide_eq_true_eq]at hvs'
 have ux: ∀ {w9 w10:World},Only [] w8 w9→True:=fun _=>trivial
 clear ux
 (repeat(first|with_reducible(first|refine nx ?_|refine r_6 rfl ?_)|simp only[go_sem]))
 refine run_loop (9::10::11::12::80::81::82::83::84::85::86::87::88::89::90::91::92::93::94::95::96::97::98::99::100::101::[]) (fun g w'=> ∃(j:Nat) (vr:Value) (fr:List Nat),g 9=.int .i64 (j:Int)∧j≤(s.obAt k).rf.length∧At w' u [.int .i64 ((2*k:Nat):Int),.int .i64 (s.obAt k).id,.int .i64 (s.obAt k).sh.1,.int .i64 (s.obAt k).sh.2.1,.int .i64 (s.obAt k).sh.2.2,vr,.slice none 0 0,.bool (s.obAt k).pin]∧Sl w' 1 vr j (ints ((s.obAt k).rf.take j)) fr∧(∀x,x∈fr→w8.heap.size≤x)∧Only [u] w8 w') (fun g _=>upTo (s.obAt k).rf.length 9 g)
  ⟨0,.slice none 0 0,[],by simp only[go_sem];rfl,by omega,hu8,Sl.nil1 _,by simp,Only.refl _ _⟩ fun g9 w9 hI9 hnext9=>?_
 obtain⟨j,vr,fr,h9,hjl,hu9,hr9,hfr9,ho9⟩:=hI9
 have hw9:=hw8.keep ho9 fun x hx=>off1 (fun e=>huf (e▸hx))
 by_cases c2:j<(s.obAt k).rf.length
 ·(repeat(first|with_reducible(first|refine nx ?_|refine r_6 rfl ?_)|simp only[go_sem,h8,h9,hu9.cell,decide_eq_true (show(j:Int)<(s.obAt k).sh.1 by omega)]))
  refine callT1 (hRef hw9 ((2*k:Nat):Int) (j:Int) (by omega)) fun w10 ho10=>?_
  rw[hrf j c2]
  have hu10:=hu9.keep0 ho10
  (repeat(first|with_reducible(first|refine nx ?_|refine r_6 rfl ?_)|simp only[go_sem,h8,hu10.cell]))
  rw[fillL_one rfl rfl]
  (repeat(first|with_reducible(first|refine nx ?_|refine r_6 rfl ?_)|simp only[go_sem]))
  refine bslT fun q11 w11 hq11 hs11 hat11 ho11=>?_
  (repeat(first|with_reducible(first|refine nx ?_|refine r_6 rfl ?_)|simp only[go_sem]))
  refine appT (sz:=1) (m:=1) (us:=[.int .i64 ((s.obAt k).rf.getD j 0)]) ((hr9.keep0 ho10).keep0 ho11) (SrcIs.at hat11 rfl) (by simp[oneC]) (by omega) (by omega) ?_
  intro v12 w12 f12 hs12 hf12 ho12 _
  rw[ints_take_succ c2]at hs12
  have z9:=ho9.size
  have z10:=ho10.size
  have hf12': ∀x,x∈f12→w8.heap.size≤x:=fun x hx=>by
   rcases hf12 with rfl|rfl
   ·exact hfr9 x hx
   ·simp only[List.mem_singleton]at hx;omega
  have hu12:=(hu10.keep0 ho11).keep ho12 fun hx=>by have:=hfr9 u hx;omega
  have o12:Only [u] w8 w12:=((ho9.nil ho10).nil ho11).trans ho12 fun x hx=>.inr (hfr9 x hx)
  (repeat(first|with_reducible(first|refine nx ?_|refine r_6 rfl ?_)|simp only[go_sem,h8]))
  refine stT hu12 (by simp) hs12.oneC' fun w13 hs13 hu13 ho13=>?_
  simp only[List.set_cons_zero,List.set_cons_succ]at hu13
  (repeat(first|with_reducible(first|refine nx ?_|refine r_6 rfl ?_)|simp only[go_sem,h9,i64_succ j (by omega)]))
  refine hnext9 _ w13 ?_ ⟨j+1,v12,f12,?_,by omega,hu13,hs12.keep ho13 fun x hx=>off1 (by have:=hf12' x hx;omega),hf12',o12.same ho13⟩ ?_
  ·(repeat(first|with_reducible exact k_1|with_reducible exact Keeps.ovr _ _ _|refine Keeps.put ?_ rfl _|exact k_1|exact Keeps.ovr _ _ _|refine Keeps.ovr2 ?_ rfl _))
  ·simp only[go_sem]
  ·rw[upTo_int (i:=j) h9,upTo_int (k:=.i64) (i:=j+1) (by simp only[go_sem])];omega
 obtain rfl:j=(s.obAt k).rf.length:=by omega
 rw[List.take_length]at hr9
 have hr9l:=hr9.lt
 (repeat(first|with_reducible(first|refine nx ?_|refine r_6 rfl ?_)|simp only[go_sem,h8,h9,hu9.cell,decide_eq_false (show¬(((s.obAt k).rf.length:Nat):Int)<(s.obAt k).sh.1 by omega)]))
 refine run_loop (13::14::15::16::102::103::104::105::106::107::108::109::110::111::112::113::114::115::116::117::118::119::120::121::122::123::[]) (fun g w'=> ∃(j:Nat) (vd:Value) (fd:List Nat),g 13=.int .i64 (j:Int)∧j≤(s.obAt k).dt.length∧At w' u [.int .i64 ((2*k:Nat):Int),.int .i64 (s.obAt k).id,.int .i64 (s.obAt k).sh.1,.int .i64 (s.obAt k).sh.2.1,.int .i64 (s.obAt k).sh.2.2,vr,vd,.bool (s.obAt k).pin]∧Sl w' 1 vd j (ints ((s.obAt k).dt.take j)) fd∧(∀x,x∈fd→w9.heap.size≤x)∧Only [u] w9 w') (fun g _=>upTo (s.obAt k).dt.length 13 g)
  ⟨0,.slice none 0 0,[],by simp only[go_sem];rfl,by omega,hu9,Sl.nil1 _,by simp,Only.refl _ _⟩ fun gA wA hIA hnextA=>?_
 obtain⟨j,vd,fd,hA13,hjlA,huA,hdA,hfdA,hoA⟩:=hIA
 have hwA:=hw9.keep hoA fun x hx=>off1 (fun e=>huf (e▸hx))
 have z9:=ho9.size
 by_cases c3:j<(s.obAt k).dt.length
 ·(repeat(first|with_reducible(first|refine nx ?_|refine r_6 rfl ?_)|simp only[go_sem,h8,hA13,huA.cell,decide_eq_true (show(j:Int)<(s.obAt k).sh.2.1 by omega)]))
  refine callT1 (hData hwA ((2*k:Nat):Int) (j:Int) (by omega)) fun w10 ho10=>?_
  rw[hdt j c3]
  have hu10:=huA.keep0 ho10
  (repeat(first|with_reducible(first|refine nx ?_|refine r_6 rfl ?_)|simp only[go_sem,h8,hu10.cell]))
  rw[fillL_one rfl rfl]
  (repeat(first|with_reducible(first|refine nx ?_|refine r_6 rfl ?_)|simp only[go_sem]))
  refine bslT fun q11 w11 hq11 hs11 hat11 ho11=>?_
  (repeat(first|with_reducible(first|refine nx ?_|refine r_6 rfl ?_)|simp only[go_sem]))
  refine appT (sz:=1) (m:=1) (us:=[.int .i64 ((s.obAt k).dt.getD j 0)]) ((hdA.keep0 ho10).keep0 ho11) (SrcIs.at hat11 rfl) (by simp[oneC]) (by omega) (by omega) ?_
  intro v12 w12 f12 hs12 hf12 ho12 _
  rw[ints_take_succ c3]at hs12
  have zA:=hoA.size
  have z10:=ho10.size
  have hf12': ∀x,x∈f12→w9.heap.size≤x:=fun x hx=>by
   rcases hf12 with rfl|rfl
   ·exact hfdA x hx
   ·simp only[List.mem_singleton]at hx;omega
  have hu12:=(hu10.keep0 ho11).keep ho12 fun hx=>by have:=hfdA u hx;omega
  have o12:Only [u] w9 w12:=((hoA.nil ho10).nil ho11).trans ho12 fun x hx=>.inr (hfdA x hx)
  (repeat(first|with_reducible(first|refine nx ?_|refine r_6 rfl ?_)|simp only[go_sem,h8]))
  refine stT hu12 (by simp) hs12.oneC' fun w13 hs13 hu13 ho13=>?_
  simp only[List.set_cons_zero,List.set_cons_succ]at hu13
  (repeat(first|with_reducible(first|refine nx ?_|refine r_6 rfl ?_)|simp only[go_sem,hA13,i64_succ j (by omega)]))
  refine hnextA _ w13 ?_ ⟨j+1,v12,f12,?_,by omega,hu13,hs12.keep ho13 fun x hx=>off1 (by have:=hf12' x hx;omega),hf12',o12.same ho13⟩ ?_
  ·(repeat(first|with_reducible exact k_1|with_reducible exact Keeps.ovr _ _ _|refine Keeps.put ?_ rfl _|exact k_1|exact Keeps.ovr _ _ _|refine Keeps.ovr2 ?_ rfl _))
  ·simp only[go_sem]
  ·rw[upTo_int (i:=j) hA13,upTo_int (k:=.i64) (i:=j+1) (by simp only[go_sem])];omega
 obtain rfl:j=(s.obAt k).dt.length:=by omega
 rw[List.take_length]at hdA
 have hdAl:=hdA.lt
 have oA:Only [] w' wA:=o8.trans (ho9.trans hoA fun x hx=>.inl hx) fun x hx=>by simp only[List.mem_singleton]at hx;subst hx;exact .inr hul
 have hqu:qb≠u:=by have:=ho.size;omega
 have hatAq:=hat.keep0 oA
 have hc8:cellsAt wA ⟨u,0,none⟩ 8=some [.int .i64 ((2*k:Nat):Int),.int .i64 (s.obAt k).id,.int .i64 (s.obAt k).sh.1,.int .i64 (s.obAt k).sh.2.1,.int .i64 (s.obAt k).sh.2.2,vr,vd,.bool (s.obAt k).pin]:=cellsAt_at huA 0 8 (by simp)
 (repeat(first|with_reducible(first|refine nx ?_|refine r_6 rfl ?_)|simp only[go_sem,h8,hA13,huA.cell,decide_eq_false (show¬(((s.obAt k).dt.length:Nat):Int)<(s.obAt k).sh.2.1 by omega),hatAq.cell,hc8]))
 rw[fillL_ag (n:=8) rfl rfl]
 (repeat(first|with_reducible(first|refine nx ?_|refine r_6 rfl ?_)|simp only[go_sem]))
 refine bslT fun qB wB hqB hsB hatB hoB=>?_
 (repeat(first|with_reducible(first|refine nx ?_|refine r_6 rfl ?_)|simp only[go_sem]))
 have hmo:OM.ok wA ⟨s.obAt k,vr,vd,fr,fd⟩:=⟨hr9.keep hoA fun x hx=>off1 (by have:=hfr9 x hx;omega),hdA⟩
 have hatB':At wB qB (OM.V ⟨s.obAt k,vr,vd,fr,fd⟩):=hatB
 refine appT (sz:=8) ((hO.keep0 oA).keep0 hoB) (SrcIs.at (m:=1) hatB' rfl) (V_one hmo) (by omega) (by omega) ?_
 intro vC wC fC hsC hfC hoC _
 have zA:=oA.size
 have zB:=hoB.size
 have hO3: ∀x,x∈fO→w3.heap.size≤x:=fun x hx=>hge x (by simp[hx])
 have hL3: ∀x,x∈omF L→w3.heap.size≤x:=fun x hx=>hge x (by simp[hx])
 have hfC': ∀x,x∈fC→w3.heap.size≤x:=fun x hx=>by
  rcases hfC with rfl|rfl
  ·exact hO3 x hx
  ·simp only[List.mem_singleton]at hx;omega
 have hatC:=(hatAq.keep0 hoB).keep hoC fun hx=>by have:=hO3 qb hx;omega
 (repeat(first|with_reducible(first|refine nx ?_|refine r_6 rfl ?_)|simp only[go_sem]))
 refine stT hatC (by simp) hsC.oneC' fun wD hsD hatD hoD=>?_
 simp only[List.set_cons_zero,List.set_cons_succ]at hatD
 (repeat(first|with_reducible(first|refine nx ?_|refine r_6 rfl ?_)|simp only[go_sem,h7,i64_succ i (by omega)]))
 have oC:Only [] w' wB:=oA.nil hoB
 have oD:Only [qb] w3 wD:=(((ho.nil oC).trans hoC fun x hx=>.inr (hO3 x hx))).same hoD
 have hmD: ∀m:OM,m.ok wB→(∀x,x∈m.fr++m.fd→w3.heap.size≤x∧x∉fO)→m.ok wD:=fun m hm hx=>(hm.keep hoC fun x hx'=>(hx x (List.mem_append.2 hx')).2).keep hoD fun x hx'=>off1 (by have:=(hx x (List.mem_append.2 hx')).1;omega)
 have hnd':=List.nodup_append.1 hnd
 have hLO: ∀x,x∈omF L→x∉fO:=fun x h1 h2=>hnd'.2.2 x h2 x h1 rfl
 have hOl:=hO.lt
 have hLlt: ∀x,x∈omF L→x<w'.heap.size:=fun x hx=>by
  simp only[omF,List.mem_flatMap,List.mem_append]at hx
  obtain⟨m,hm,hx⟩:=hx
  rcases hx with hx|hx
  ·exact(hLok m hm).r.lt x hx
  ·exact(hLok m hm).d.lt x hx
 have hnew: ∀x,x∈fr++fd→w8.heap.size≤x∧x<wA.heap.size:=fun x hx=>by
  rcases List.mem_append.1 hx with h|h
  ·have:=hfr9 x h;have:=hr9l x h;have:=hoA.size;omega
  ·have:=hfdA x h;have:=hdAl x h;omega
 have hfrd:(fr++fd).Nodup:=by
  rw[List.nodup_append]
  exact⟨hr9.nodup,hdA.nodup,fun x h1 y h2 e=>by have:=hr9l x h1;have:=hfdA y h2;omega⟩
 have heF:omF (L++[⟨s.obAt k,vr,vd,fr,fd⟩])=omF L++(fr++fd):=by rw[omF_append];simp[omF]
 have hfCd: ∀x,x∈fC→x∉omF L∧x∉fr++fd:=fun x hx=>by
  rcases hfC with rfl|rfl
  ·exact⟨fun h=>hLO x h hx,fun h=>by have:=hnew x h;have:=hOl x hx;omega⟩
  ·simp only[List.mem_singleton]at hx
   exact⟨fun h=>by have:=hLlt x h;omega,fun h=>by have:=hnew x h;omega⟩
 refine hnext _ wD ?_ ⟨i+1,vC,fC,L++[⟨s.obAt k,vr,vd,fr,fd⟩],?_,by omega,hatD,?_,?_,?_,?_,?_,oD⟩ ?_
 ·(repeat(first|with_reducible exact k_1|with_reducible exact Keeps.ovr _ _ _|refine Keeps.put ?_ rfl _|exact k_1|exact Keeps.ovr _ _ _|refine Keeps.ovr2 ?_ rfl _))
 ·simp only[go_sem]
 ·have e1:omV [(⟨s.obAt k,vr,vd,fr,fd⟩:OM)]=OM.V ⟨s.obAt k,vr,vd,fr,fd⟩:=by simp[omV]
  rw[omV_append,e1]
  exact hsC.keep hoD fun x hx=>off1 (by have:=hfC' x hx;omega)
 ·rw[List.map_append,hLm,List.take_succ_eq_append_getElem c1,List.map_append]
  have:s.objs[i]=k:=by rw[hk];simp[c1]
  rw[this];rfl
 ·intro m hm
  rcases List.mem_append.1 hm with hm|hm
  ·exact hmD m (((hLok m hm).keep0 oC)) fun x hx=>by
    have:=mem_omF hm (List.mem_append.1 hx)
    exact⟨hL3 x this,hLO x this⟩
  ·simp only[List.mem_singleton]at hm
   subst hm
   exact hmD _ (hmo.keep0 hoB) fun x hx=>⟨by have:=(hnew x hx).1;omega,fun h=>by have:=(hnew x hx).1;have:=hOl x h;omega⟩
 ·rw[heF,List.nodup_append,List.nodup_append]
  refine⟨hsC.nodup,⟨hnd'.2.1,hfrd,fun x h1 y h2 e=>by subst e;have:=hLlt x h1;have:=hnew x h2;omega⟩,fun x h1 y h2 e=>?_⟩
  subst e
  rcases List.mem_append.1 h2 with h|h
  ·exact(hfCd x h1).1 h
  ·exact(hfCd x h1).2 h
 ·intro x hx
  rw[heF]at hx
  rcases List.mem_append.1 hx with h|h
  ·exact hfC' x h
  rcases List.mem_append.1 h with h|h
  ·exact hL3 x h
  ·have:=(hnew x h).1;omega
 ·rw[upTo_int (i:=i) h7,upTo_int (k:=.i64) (i:=i+1) (by simp only[go_sem])];omega
end Go.Proofs.YtgcofabdialaaaaGreat
end
section
namespace Go.Proofs.YtgcofabdialaaaaGreat
set_option maxRecDepth 8000
theorem hClaimLarge {w:World} {a:Option Addr} {fp:List Nat} {m:HO} (h:HR w a fp m) (x n sp:Int) (hx:x≤4611686018427387904) (hn:n≤4611686018427387904):Cs Tryz.prog 148 [.pointer a,.int .i64 x,.int .i64 n,.int .i64 sp] w fun v w'=>v=.int .i64 (claimE m x n (2,sp))∧HR w' a fp (claimM m x n (2,sp) (3,sp))∧Only fp w w':=by
 refine enter_heap_Heap_ClaimLarge rfl ?_
 unfold x_heap_Heap_ClaimLarge
 (repeat(first|with_reducible(first|refine nx ?_|refine r_6 rfl ?_)|simp only[go_sem]))
 rw[fillL_one rfl rfl,fillL_one rfl rfl]
 (repeat(first|with_reducible(first|refine nx ?_|refine r_6 rfl ?_)|simp only[go_sem]))
 rw[fillL_one rfl rfl,fillL_one rfl rfl]
 (repeat(first|with_reducible(first|refine nx ?_|refine r_6 rfl ?_)|simp only[go_sem]))
 refine callT (hClaims h x n (2,sp) (3,sp) hx hn) ?_
 rintro v w' ⟨rfl,h1,ho⟩
 (repeat(first|with_reducible(first|refine nx ?_|refine r_6 rfl ?_)|simp only[go_sem]))
 exact⟨h1,ho⟩
end Go.Proofs.YtgcofabdialaaaaGreat
end
section
namespace Go.Proofs.YtgcofabdialaaaaGreat
set_option maxRecDepth 8000
structure SCs (w:World) (b hb rb qb kb:Nat) (s:HL) (R:Rt.MS) (fh fr ff fk:List Nat):Prop where
 at_:At w b [.pointer (some ⟨hb,0,none⟩),.pointer (some ⟨rb,0,none⟩),.pointer (some ⟨qb,0,none⟩),.pointer (some ⟨kb,0,none⟩)]
 inv:s.Inv
 h:HR w (some ⟨hb,0,none⟩) fh (some s)
 r:Rt.PR w (some ⟨rb,0,none⟩) fr (some R)
 f:FM w qb s.abs ff
 k:Rt.RR w (some ⟨kb,0,none⟩) fk (some R)
 d1:b∉fh∧b∉fr∧b∉ff∧b∉fk
 d2: ∀x,x∈fh→x∉fr∧x∉ff∧x∉fk
 d3: ∀x,x∈fr→x∉ff∧x∉fk
 d4: ∀x,x∈ff→x∉fk
def SC (w:World) (b:Nat) (s:HL) (R:Rt.MS) (fp:List Nat):Prop:= ∃hb rb qb kb fh fr ff fk,fp=b::(fh++(fr++(ff++fk)))∧SCs w b hb rb qb kb s R fh fr ff fk
section
variable {w w':World} {b hb rb qb kb:Nat} {s:HL} {R:Rt.MS} {fh fr ff fk:List Nat}
theorem SCs.keep {S:List Nat} (h:SCs w b hb rb qb kb s R fh fr ff fk) (o:Only S w w') (hd: ∀x,x∈b::(fh++(fr++(ff++fk)))→x∉S):SCs w' b hb rb qb kb s R fh fr ff fk:=
 ⟨h.at_.keep o (hd b (by simp)),h.inv,h.h.keep o fun x hx=>hd x (by simp[hx]),h.r.keep o fun x hx=>hd x (by simp[hx]),h.f.keep o fun x hx=>hd x (by simp[hx]),h.k.keep o fun x hx=>hd x (by simp[hx]),h.d1,h.d2,h.d3,h.d4⟩
theorem SCs.keep0 (h:SCs w b hb rb qb kb s R fh fr ff fk) (o:Only [] w w'):SCs w' b hb rb qb kb s R fh fr ff fk:=h.keep o fun _ _=>by simp
theorem SCs.lt (h:SCs w b hb rb qb kb s R fh fr ff fk): ∀x,x∈b::(fh++(fr++(ff++fk)))→x<w.heap.size:=by
 intro x hx
 simp only[List.mem_cons,List.mem_append]at hx
 rcases hx with rfl|hx|hx|hx|hx
 ·exact h.at_.lt
 ·exact h.h.lt x hx
 ·exact h.r.lt x hx
 ·exact h.f.lt x hx
 ·exact h.k.lt x hx
theorem SCs.setF (h:SCs w b hb rb qb kb s R fh fr ff fk) (o:Only ff w w') {t:RL} {ff':List Nat} (hf:FM w' qb t ff') (hsub: ∀x,x∈ff'→x∈ff∨w.heap.size≤x):
  At w' b [.pointer (some ⟨hb,0,none⟩),.pointer (some ⟨rb,0,none⟩),.pointer (some ⟨qb,0,none⟩),.pointer (some ⟨kb,0,none⟩)]∧HR w' (some ⟨hb,0,none⟩) fh (some s)∧Rt.PR w' (some ⟨rb,0,none⟩) fr (some R)∧Rt.RR w' (some ⟨kb,0,none⟩) fk (some R)∧
   (b∉fh∧b∉fr∧b∉ff'∧b∉fk)∧(∀x,x∈fh→x∉fr∧x∉ff'∧x∉fk)∧(∀x,x∈fr→x∉ff'∧x∉fk)∧(∀x,x∈ff'→x∉fk):=by
 have lt:=h.lt
 have hn: ∀x,x∉ff→x<w.heap.size→x∉ff':=fun x h1 h2 h3=>by rcases hsub x h3 with h4|h4;exact h1 h4;omega
 refine⟨h.at_.keep o h.d1.2.2.1,h.h.keep o fun x hx=>(h.d2 x hx).2.1,h.r.keep o fun x hx=>(h.d3 x hx).1,h.k.keep o fun x hx hx2=>h.d4 x hx2 hx,⟨h.d1.1,h.d1.2.1,hn b h.d1.2.2.1 (lt b (by simp)),h.d1.2.2.2⟩,fun x hx=>⟨(h.d2 x hx).1,hn x (h.d2 x hx).2.1 (lt x (by simp[hx])),(h.d2 x hx).2.2⟩,fun x hx=>⟨hn x (h.d3 x hx).1 (lt x (by simp[hx])),(h.d3 x hx).2⟩,fun x hx hx2=>?_⟩
 rcases hsub x hx with h4|h4
 ·exact h.d4 x h4 hx2
 ·have:=lt x (by simp[hx2]);omega
theorem SCs.both {w1 w2:World} (h:SCs w b hb rb qb kb s R fh fr ff fk) {s':HL} {ff':List Nat} (hi:s'.Inv) (o1:Only ff w w1) (hf:FM w1 qb s'.abs ff') (hsub: ∀x,x∈ff'→x∈ff∨w.heap.size≤x) (o2:Only fh w1 w2) (hh:HR w2 (some ⟨hb,0,none⟩) fh (some s')):
  SCs w2 b hb rb qb kb s' R fh fr ff' fk∧Only (b::(fh++(fr++(ff++fk)))) w w2:=by
 obtain⟨g1,g2,g3,g4,e1,e2,e3,e4⟩:=h.setF o1 hf hsub
 refine⟨⟨g1.keep o2 e1.1,hi,hh,g3.keep o2 fun x hx hx2=>(e2 x hx2).1 hx,hf.keep o2 fun x hx hx2=>(e2 x hx2).2.1 hx,g4.keep o2 fun x hx hx2=>(e2 x hx2).2.2 hx,e1,e2,e3,e4⟩,?_⟩
 exact(o1.mono fun x hx=>.inl (by simp[hx])).same (o2.mono fun x hx=>.inl (by simp[hx]))
end
def atS (s:HL) (n:Nat):Int:=if s.objs.length=0 then 0 else((2*s.objs.getD (n%s.objs.length) 0:Nat):Int)
theorem atS_le {s:HL} (h:s.Ok) (n:Nat):0≤atS s n∧atS s n≤4096:=by
 unfold atS
 split
 ·omega
 ·rename_i h0
  have hlt:n%s.objs.length<s.objs.length:=Nat.mod_lt _ (by omega)
  have:=mem_objs.1 (show s.objs.getD (n%s.objs.length) 0∈s.objs by simp[hlt])
  have:=(h.start this).1
  have:=h.sl
  have:=h.b64
  omega
theorem cAtF {w:World} {b qb:Nat} {s:HL} {ff:List Nat} {p0 p1 p3:Value} (hat:At w b [p0,p1,.pointer (some ⟨qb,0,none⟩),p3]) (hf:FM w qb s.abs ff) (n:Nat) (hn:n<100):Cs Tryz.prog 92 [.pointer (some ⟨b,0,none⟩),.int .i64 (n:Int)] w fun v w'=>v=.int .i64 (atS s n)∧Only [] w w':=by
 obtain⟨vB,vO,vF,fB,fO,fF,L,hfp,hm⟩:=hf
 have hlen:=hm.len
 have hl2:s.abs.O.length=s.objs.length:=by simp[HL.abs]
 have hol:=hm.ok.ol
 obtain⟨ao,co,hvO⟩:=hm.valO
 refine enter_law12_Scene_At rfl ?_
 unfold x_law12_Scene_At
 by_cases c0:L.length=0
 ·(repeat(first|with_reducible(first|refine nx ?_|refine r_6 rfl ?_)|simp only[go_sem,beq_int_false (show¬(n:Int)= -77 by omega),decide_eq_false (show¬(1000:Int)≤(n:Int) by omega),decide_eq_false (show¬(n:Int)<0 by omega),decide_eq_false (show¬(100:Int)≤(n:Int) by omega),hat.cell,hm.hb.cell,hvO,beq_int_true (show((L.length:Nat):Int)=0 by omega)]))
  refine⟨?_,Only.refl _ _⟩
  unfold atS;rw[if_pos (by omega)]
 have hmd:=hm.keep0 (Only.drew [] w)
 obtain⟨g8,cap,ys,e8,hrow,_,_⟩:=hmd.row (by omega)
 have hvO':=hvO
 rw[e8]at hvO'
 cases hvO'
 have hmod:n%L.length<L.length:=Nat.mod_lt _ (by omega)
 have e1:(n:Int).tmod (L.length:Int)=((n%L.length:Nat):Int):=by rw[Int.tmod_eq_emod_of_nonneg (by omega)];omega
 have e2:(0:Int)≤((n%L.length:Nat):Int)∧((n%L.length:Nat):Int)<(L.length:Int):=⟨by omega,by omega⟩
 have hd0:divO (L.length:Int) (.int .i64 ((n%L.length:Nat):Int))=some (.int .i64 ((n%L.length:Nat):Int)):=divO_of (by omega) _
 have hc:w.drew.cell? ⟨g8,n%L.length*8,none⟩=some (.int .i64 (atS s n)):=by
  have:=omV_cell (j:=0) ys hmod (by omega)
  rw[hrow.cell,←Nat.add_zero (n%L.length*8),this]
  have e3:=hmd.getO hmod
  rw[show(L.getD (n%L.length) default).V[0]? =some (.int .i64 (L.getD (n%L.length) default).o.a)from rfl,←e3,abs_get (s:=s) (i:=s.objs.getD (n%L.length) 0) (by omega) rfl]
  unfold atS
  rw[if_neg (by omega),←hl2,←hlen];rfl
 (repeat(first|with_reducible(first|refine nx ?_|refine r_6 rfl ?_)|simp only[go_sem,beq_int_false (show¬(n:Int)= -77 by omega),decide_eq_false (show¬(1000:Int)≤(n:Int) by omega),decide_eq_false (show¬(n:Int)<0 by omega),decide_eq_false (show¬(100:Int)≤(n:Int) by omega),hat.cell,hat.drew.cell,hm.hb.cell,hmd.hb.cell,hvO,beq_int_false (show¬((L.length:Nat):Int)=0 by omega),e1,hd0,if_pos e2,Int.toNat_natCast,hc]))
 exact Only.drew [] w
theorem cAt {w:World} {b hb rb qb kb:Nat} {s:HL} {R:Rt.MS} {fh fr ff fk:List Nat} (h:SCs w b hb rb qb kb s R fh fr ff fk) (n:Nat) (hn:n<100):Cs Tryz.prog 92 [.pointer (some ⟨b,0,none⟩),.int .i64 (n:Int)] w fun v w'=>v=.int .i64 (atS s n)∧Only [] w w':=cAtF h.at_ h.f n hn
theorem cLink {w:World} {b hb rb qb kb:Nat} {s:HL} {R:Rt.MS} {fh fr ff fk:List Nat} (h:SCs w b hb rb qb kb s R fh fr ff fk) (x i to:Int) (hx:x≤4611686018427387904) (hto:to≤4611686018427387904):
  Cs Tryz.prog 96 [.pointer (some ⟨b,0,none⟩),.int .i64 x,.int .i64 i,.int .i64 to] w fun v w'=>v=.bool true∧ ∃s',setRefM (some s) x i to=some s'∧SCs w' b hb rb qb kb s' R fh fr ff fk∧Only (b::(fh++(fr++(ff++fk)))) w w':=by
 have hd:=h.keep0 (Only.drew [] w)
 have lt:=h.lt
 obtain⟨s',e1,e2,e3,e4,e5,e6⟩:=abs_setRef h.inv.ok x i to
 refine enter_law12_Scene_Link rfl ?_
 unfold x_law12_Scene_Link
 (repeat(first|with_reducible(first|refine nx ?_|refine r_6 rfl ?_)|simp only[go_sem]))
 refine run_drt [b] ?_
 (repeat(first|with_reducible(first|refine nx ?_|refine r_6 rfl ?_)|simp only[go_sem,hd.at_.cell]))
 refine callS (fSetRef hd.f x i to) ?_
 rintro v w1 ⟨rfl,hf1,ho1⟩
 refine⟨.inr ((SB.refl _ _).only ho1 fun z hz=>by simp only[List.mem_singleton]at hz;subst hz;exact⟨lt _ (by simp),h.d1.2.2.1⟩),?_⟩
 (repeat(first|with_reducible(first|refine nx ?_|refine r_6 rfl ?_)|simp only[go_sem]))
 refine callS (hSetRef (hd.h.keep ho1 fun z hz=>(h.d2 z hz).2.1) x i to hx hto) ?_
 rintro v w2 ⟨rfl,hh2,ho2⟩
 refine⟨.inl rfl,?_⟩
 rw[e1]at hh2
 rw[←e2]at hf1
 have heq:s.abs.setRefR x i to=setRefE (some s) x i to:=abs_setRefE h.inv.ok x i to
 (repeat(first|with_reducible(first|refine nx ?_|refine r_6 rfl ?_)|simp only[go_sem,heq,beq_int_true (rfl:setRefE (some s) x i to=setRefE (some s) x i to)]))
 obtain⟨g1,g2⟩:=hd.both (h.inv.setRef e1 (hh2.ok s' rfl)) ho1 hf1 (fun y hy=>.inl hy) ho2 hh2
 exact⟨s',e1,g1,(Only.drew _ w).same g2⟩
end Go.Proofs.YtgcofabdialaaaaGreat
end
