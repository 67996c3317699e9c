/- What the walks need, joined: HpQ, HpR, RtM, RtA, RtB, RtC, RtD, RtE, RtF, RtG, RtH, RtR, RtS, RtT, RtU, RtV, RtW, RtX, RtY, HpU, HpV, HpW, FxM, FxA, FxB, FxC, FxD, FxE, FxF, BrA, BrS -/
import Derived.Test.YtgcofabdialaaaaGreatZPk1
import Derived.Test.YtgcofabdialaaaaGreatZCodeD
set_option linter.unusedSimpArgs false
set_option linter.unusedVariables false
section
namespace Go.Proofs.YtgcofabdialaaaaGreat
set_option maxRecDepth 8000
theorem hPut {w:World} {b:Nat} {m:IM} (h:MpAt w b m) (k:Int):Cs Tryz.prog 73 [.map (some b),.int .i64 k] w fun v w'=>v=.tuple #[]∧MpAt w' b (putM m k (.agg ⟨[]⟩))∧Only [b] w w':=by
 refine enter_barrier_set_put rfl ?_
 unfold x_barrier_set_put
 (repeat(first|with_reducible(first|refine nx ?_|refine r_6 rfl ?_)|simp only[go_sem]))
 refine mputT Tryz.underlying75 Tryz.underlying3 h fun w1 hs1 hm1 ho1=>?_
 (repeat(first|with_reducible(first|refine nx ?_|refine r_6 rfl ?_)|simp only[go_sem]))
 exact⟨hm1,ho1⟩
theorem bShade0 {w:World} {b:Nat}:Cs Tryz.prog 80 [.pointer (some ⟨b,0,none⟩),.int .i64 0] w fun v w'=>v=.tuple #[]∧w'=w:=by
 refine enter_barrier_Barrier_shade rfl ?_
 unfold x_barrier_Barrier_shade
 (repeat(first|with_reducible(first|refine nx ?_|refine r_6 rfl ?_)|simp only[go_sem,bne_int_false (rfl:(0:Int)=0)]))
theorem bShadeN {w:World} {b:Nat} {c0 c1 c2 c3 c4 vl:Value} (hb:At w b [c0,c1,c2,c3,c4,.slice none 0 0,vl]) (x:Int) (hx:x≠0):Cs Tryz.prog 80 [.pointer (some ⟨b,0,none⟩),.int .i64 x] w fun v w'=>v=.tuple #[]∧ ∃vs fs,At w' b [c0,c1,c2,c3,c4,vs,vl]∧Sl w' 1 vs 1 (ints [x]) fs∧(∀y,y∈fs→w.heap.size≤y)∧Only [b] w w':=by
 refine enter_barrier_Barrier_shade rfl ?_
 unfold x_barrier_Barrier_shade
 (repeat(first|with_reducible(first|refine nx ?_|refine r_6 rfl ?_)|simp only[go_sem,bne_int_true hx,hb.cell]))
 refine callT0 (Contains_m (RdB.nil w 0 none) (by simp) x) ?_
 have e1:([]:List Int).contains x=false:=rfl
 (repeat(first|with_reducible(first|refine nx ?_|refine r_6 rfl ?_)|simp only[go_sem,e1,hb.cell]))
 rw[fillL_one rfl rfl]
 (repeat(first|with_reducible(first|refine nx ?_|refine r_6 rfl ?_)|simp only[go_sem]))
 refine bslT fun q w1 hq hs1 hat1 ho1=>?_
 (repeat(first|with_reducible(first|refine nx ?_|refine r_6 rfl ?_)|simp only[go_sem]))
 refine appT (Sl.nil1 w1) (SrcIs.at hat1 rfl) (by simp[oneC]) (by omega) (by omega) ?_
 intro v2 w2 f2 hs2 hf2 ho2 _
 have hb2:=(hb.keep0 ho1).keep ho2 (by simp)
 (repeat(first|with_reducible(first|refine nx ?_|refine r_6 rfl ?_)|simp only[go_sem]))
 refine stT hb2 (by simp) hs2.oneC' fun w3 hs3 hb3 ho3=>?_
 simp only[List.set_cons_zero,List.set_cons_succ]at hb3
 (repeat(first|with_reducible(first|refine nx ?_|refine r_6 rfl ?_)|simp only[go_sem]))
 have hlt:=hb.lt
 have hfs: ∀y,y∈f2→w.heap.size≤y:=by
  intro y hy
  rcases hf2 with rfl|rfl
  ·cases hy
  ·simp only[List.mem_singleton]at hy;omega
 exact⟨v2,f2,hb3,hs2.keep ho3 (fun y hy=>off1 (by have:=hfs y hy;omega)),hfs,((ho1.nil ho2).of_nil (T:=[b])).same ho3⟩
theorem bImage0 {w:World} {b:Nat} {c0 c1 c2 c3 c4 c5:Value} (hb:At w b [c0,c1,c2,c3,c4,c5,.slice none 0 0]) (x:Int):Cs Tryz.prog 85 [.pointer (some ⟨b,0,none⟩),.int .i64 x] w fun v w'=>v=.int .i64 (-1)∧Only [] w w':=by
 refine enter_barrier_Barrier_image rfl ?_
 unfold x_barrier_Barrier_image
 (repeat(first|with_reducible(first|refine nx ?_|refine r_6 rfl ?_)|simp only[go_sem]))
 refine boxT fun q w1 hq hs1 hat1 ho1=>?_
 (repeat(first|with_reducible(first|refine nx ?_|refine r_6 rfl ?_)|simp only[go_sem,(hb.keep0 ho1).cell]))
 refine callT0 (a:=.int .i64 (-1)) ?_ ?_
 ·refine enter_slices_IndexFunc___api_Image_api_Image_ rfl ?_
  unfold x_slices_IndexFunc___api_Image_api_Image_
  (repeat(first|with_reducible(first|refine nx ?_|refine r_6 rfl ?_)|simp only[go_sem]))
  refine run_loop (5::8::9::10::11::12::13::14::15::16::17::18::[]) (fun g w'=>g 8=.int .i64 0∧w'=w1) (fun _ _=>0) ⟨by simp only[go_sem],rfl⟩ fun g w' hI _=>?_
  obtain⟨h8,rfl⟩:=hI
  have e1:decide ((0:Int)<((0:Nat):Int))=false:=rfl
  (repeat(first|with_reducible(first|refine nx ?_|refine r_6 rfl ?_)|simp only[go_sem,h8,e1]))
 ·(repeat(first|with_reducible(first|refine nx ?_|refine r_6 rfl ?_)|simp only[go_sem]))
  exact ho1
theorem bNote0 {w:World} {b bd bo gr cr:Nat} {hp:Addr} {fp:List Nat} {m:HO} {yr:List Value} (h:HR w (some hp) fp m) (hb:At w b [.pointer (some hp),.int .i64 63,.int .i64 1,.map (some bd),.map (some bo),.slice none 0 0,.slice none 0 0])
  (hd:MpAt w bd []) (ho:MpAt w bo []) (hr:At w gr (ints [0,0]++yr)) (y1:youngO m 1 64=false) (y2:youngO m 1 128=true) (n1:b≠bd) (n2:b≠bo) (n3:bd≠bo) (hfp:b∉fp∧bd∉fp∧bo∉fp) (hfr:gr≠b∧gr≠bd∧gr≠bo):
  Cs Tryz.prog 71 [.pointer (some ⟨b,0,none⟩),.int .i64 64,.int .i64 0,.slice (some ⟨gr,0,none⟩) 2 cr,.int .i64 128] w fun v w'=>v=.tuple #[]∧ ∃vs fs vl fl,At w' b [.pointer (some hp),.int .i64 63,.int .i64 1,.map (some bd),.map (some bo),vs,vl]∧
   Sl w' 1 vs 1 (ints [128]) fs∧Sl w' 2 vl 1 [.int .i64 64,.slice (some ⟨gr,0,none⟩) 2 cr] fl∧MpAt w' bd [(8,.agg ⟨[]⟩)]∧MpAt w' bo [(64,.agg ⟨[]⟩)]∧Only [b,bd,bo] w w':=by
 have k32:(bitI .and .i64 63 32 !=0)=true:=by decide
 have k8:(bitI .and .i64 63 8 !=0)=true:=by decide
 have k1:(bitI .and .i64 63 1 !=0)=true:=by decide
 have k2:(bitI .and .i64 63 2 !=0)=true:=by decide
 have k4:(bitI .and .i64 63 4 !=0)=true:=by decide
 have hlb:=hb.lt
 have hld:=hd.lt
 have hlo:=ho.lt
 have hlr:=hr.lt
 refine enter_barrier_Barrier_note rfl ?_
 unfold x_barrier_Barrier_note
 (repeat(first|with_reducible(first|refine nx ?_|refine r_6 rfl ?_)|simp only[go_sem]))
 refine callT0 (bIs hb) ?_
 (repeat(first|with_reducible(first|refine nx ?_|refine r_6 rfl ?_)|simp only[go_sem,k32]))
 refine callT1 (bImage0 hb 64) fun w1 ho1=>?_
 have hb1:=hb.keep0 ho1
 have hz1:=ho1.size
 (repeat(first|with_reducible(first|refine nx ?_|refine r_6 rfl ?_)|simp only[go_sem,hb1.cell]))
 rw[fillL_one rfl rfl,fillL_one rfl rfl]
 (repeat(first|with_reducible(first|refine nx ?_|refine r_6 rfl ?_)|simp only[go_sem]))
 rw[fillL_ag (n:=2) rfl rfl]
 (repeat(first|with_reducible(first|refine nx ?_|refine r_6 rfl ?_)|simp only[go_sem]))
 refine bslT fun q2 w2 hq2 hs2 hat2 ho2=>?_
 (repeat(first|with_reducible(first|refine nx ?_|refine r_6 rfl ?_)|simp only[go_sem]))
 refine appT (sz:=2) (n:=0) (m:=1) (xs:=[]) (us:=[.int .i64 64,.slice (some ⟨gr,0,none⟩) 2 cr]) (fp:=[]) ⟨rfl,.inl ⟨rfl,rfl,rfl⟩⟩ (SrcIs.at (us:=[.int .i64 64,.slice (some ⟨gr,0,none⟩) 2 cr]) hat2 rfl) (by simp[oneC]) (by omega) (by omega) ?_
 intro vl w3 fl hs3 hf3 ho3 _
 have o3:Only [] w w3:=(ho1.nil ho2).nil ho3
 have hb3:=hb.keep0 o3
 (repeat(first|with_reducible(first|refine nx ?_|refine r_6 rfl ?_)|simp only[go_sem]))
 refine stT hb3 (by simp) hs3.oneC' fun w4 hs4 hb4 ho4=>?_
 simp only[List.set_cons_zero,List.set_cons_succ]at hb4
 have hfl: ∀y,y∈fl→w.heap.size≤y:=by
  intro y hy
  rcases hf3 with rfl|rfl
  ·cases hy
  ·simp only[List.mem_singleton]at hy;omega
 have hl4:=hs3.keep ho4 (fun y hy=>off1 (by have:=hfl y hy;omega))
 have o4:Only [b] w w4:=(o3.of_nil (T:=[b])).same ho4
 have hr4:=hr.keep o4 (off1 hfr.1)
 have e0:(0:Int)<((2:Nat):Int):=by decide
 (repeat(first|with_reducible(first|refine nx ?_|refine r_6 rfl ?_)|simp only[go_sem]))
 refine callT0 (bIs hb4) ?_
 have hrc:w4.cell? ⟨gr,0,none⟩=some (.int .i64 0):=by rw[hr4.cell];rfl
 (repeat(first|with_reducible(first|refine nx ?_|refine r_6 rfl ?_)|simp only[go_sem,k8,if_pos e0,show Int.toNat 0=0 from rfl,Nat.zero_mul,hrc]))
 refine callT0 bShade0 ?_
 (repeat(first|with_reducible(first|refine nx ?_|refine r_6 rfl ?_)|simp only[go_sem]))
 refine callT0 (bIs hb4) ?_
 have z1:IntKind.i64.wrap (64+2)=66:=by decide
 have z2:IntKind.i64.wrap (66+0)=66:=by decide
 have z3:IntKind.i64.wrap (Int.tdiv 66 8)=8:=by decide
 (repeat(first|with_reducible(first|refine nx ?_|refine r_6 rfl ?_)|simp only[go_sem,k1,hb4.cell,z1,z2,z3]))
 refine callT (hPut (hd.keep o4 (off1 n1.symm)) 8) ?_
 rintro r w5 ⟨rfl,hd5,ho5⟩
 have hb5:=hb4.keep ho5 (off1 n1)
 have o5:Only [b,bd] w w5:=(o4.sub (by simp)).same (ho5.sub (by simp))
 have h5:=h.keep o5 (fun y hy=>by simp only[List.mem_cons,List.not_mem_nil,or_false];rintro(rfl|rfl);exact hfp.1 hy;exact hfp.2.1 hy)
 (repeat(first|with_reducible(first|refine nx ?_|refine r_6 rfl ?_)|simp only[go_sem]))
 refine callT0 (bIs hb5) ?_
 (repeat(first|with_reducible(first|refine nx ?_|refine r_6 rfl ?_)|simp only[go_sem,k2]))
 refine callT1 (bYoung h5 hb5 64 (by omega) (by omega)) fun w6 ho6=>?_
 (repeat(first|with_reducible(first|refine nx ?_|refine r_6 rfl ?_)|simp only[go_sem,y1]))
 refine callT1 (bYoung (h5.keep0 ho6) (hb5.keep0 ho6) 128 (by omega) (by omega)) fun w7 ho7=>?_
 have o67:=ho6.nil ho7
 have hb7:=hb5.keep0 o67
 (repeat(first|with_reducible(first|refine nx ?_|refine r_6 rfl ?_)|simp only[go_sem,y2,hb7.cell]))
 refine callT (hPut ((ho.keep o5 (by simp;omega)).keep0 o67) 64) ?_
 rintro r w8 ⟨rfl,ho8m,ho8⟩
 have hb8:=hb7.keep ho8 (off1 n2)
 (repeat(first|with_reducible(first|refine nx ?_|refine r_6 rfl ?_)|simp only[go_sem]))
 refine callT0 (bIs hb8) ?_
 (repeat(first|with_reducible(first|refine nx ?_|refine r_6 rfl ?_)|simp only[go_sem,k4]))
 refine callT (bShadeN hb8 128 (by omega)) ?_
 rintro r w9 ⟨rfl,vs,fs,hb9,hs9,hfs,ho9⟩
 have o8:Only [b,bd,bo] w w8:=((o5.sub (fun x hx=>by simp only[List.mem_cons,List.not_mem_nil,or_false]at hx⊢;omega)).nil o67).same (ho8.sub (by simp))
 have o9:Only [b,bd,bo] w w9:=o8.same (ho9.sub (by simp))
 (repeat(first|with_reducible(first|refine nx ?_|refine r_6 rfl ?_)|simp only[go_sem]))
 refine⟨vs,fs,vl,fl,hb9,hs9,?_,?_,?_,o9⟩
 ·have hlt4:=hl4.lt
  have o49:Only [b,bd,bo] w4 w9:=(((ho5.sub (T:=[b,bd,bo]) (by simp)).nil o67).same (ho8.sub (by simp))).same (ho9.sub (by simp))
  exact hl4.keep o49 fun y hy=>by have:=hfl y hy;simp only[List.mem_cons,List.not_mem_nil,or_false];omega
 ·exact((hd5.keep0 o67).keep ho8 (off1 n3)).keep ho9 (off1 n1.symm)
 ·exact ho8m.keep ho9 (off1 n2.symm)
end Go.Proofs.YtgcofabdialaaaaGreat
end
section
namespace Go.Proofs.YtgcofabdialaaaaGreat
set_option maxRecDepth 8000
theorem bDirty {w:World} {b bd:Nat} {p:Addr} {c1 c2:Value} {cs:List Value} {m:IM} (hb:At w b (.pointer (some p)::c1::c2::.map (some bd)::cs)) (hm:MpAt w bd m) (hl:m.length≤100000):Cs Tryz.prog 12 [.pointer (some ⟨b,0,none⟩)] w fun v w'=>Only [] w w'∧ ∃xs fp,Sl w' 1 v xs.length (ints (sortI xs)) fp∧(∀x,x∈fp→w.heap.size≤x)∧xs.Perm m.keys:=by
 refine enter_barrier_Barrier_Dirty rfl ?_
 unfold x_barrier_Barrier_Dirty
 (repeat(first|with_reducible(first|refine nx ?_|refine r_6 rfl ?_)|simp only[go_sem]))
 refine callT0 (bMadeS hb) ?_
 (repeat(first|with_reducible(first|refine nx ?_|refine r_6 rfl ?_)|simp only[go_sem,hb.cell]))
 refine callT (hRising hm hl) ?_
 rintro v w' ⟨ho,h⟩
 (repeat(first|with_reducible(first|refine nx ?_|refine r_6 rfl ?_)|simp only[go_sem]))
 exact⟨ho,h⟩
theorem bRemembered {w:World} {b bo:Nat} {p:Addr} {c1 c2 c3:Value} {cs:List Value} {m:IM} (hb:At w b (.pointer (some p)::c1::c2::c3::.map (some bo)::cs)) (hm:MpAt w bo m) (hl:m.length≤100000):Cs Tryz.prog 16 [.pointer (some ⟨b,0,none⟩)] w fun v w'=>Only [] w w'∧ ∃xs fp,Sl w' 1 v xs.length (ints (sortI xs)) fp∧(∀x,x∈fp→w.heap.size≤x)∧xs.Perm m.keys:=by
 refine enter_barrier_Barrier_Remembered rfl ?_
 unfold x_barrier_Barrier_Remembered
 (repeat(first|with_reducible(first|refine nx ?_|refine r_6 rfl ?_)|simp only[go_sem]))
 refine callT0 (bMadeS hb) ?_
 (repeat(first|with_reducible(first|refine nx ?_|refine r_6 rfl ?_)|simp only[go_sem,hb.cell]))
 refine callT (hRising hm hl) ?_
 rintro v w' ⟨ho,h⟩
 (repeat(first|with_reducible(first|refine nx ?_|refine r_6 rfl ?_)|simp only[go_sem]))
 exact⟨ho,h⟩
theorem bShaded {w:World} {b:Nat} {p:Addr} {c1 c2 c3 c4 vs:Value} {cs:List Value} {n:Nat} {xs:List Int} {fs:List Nat} (hb:At w b (.pointer (some p)::c1::c2::c3::c4::vs::cs)) (hs:Sl w 1 vs n (ints xs) fs) (hl:n≤100000):Cs Tryz.prog 17 [.pointer (some ⟨b,0,none⟩)] w fun v w'=>Only [] w w'∧ ∃fp,Sl w' 1 v n (ints xs) fp∧ ∀x,x∈fp→w.heap.size≤x:=by
 refine enter_barrier_Barrier_Shaded rfl ?_
 unfold x_barrier_Barrier_Shaded
 (repeat(first|with_reducible(first|refine nx ?_|refine r_6 rfl ?_)|simp only[go_sem]))
 refine callT0 (bMadeS hb) ?_
 (repeat(first|with_reducible(first|refine nx ?_|refine r_6 rfl ?_)|simp only[go_sem,hb.cell]))
 refine callT (sclone hs.src ints_one hl) ?_
 rintro v w' ⟨ho,h⟩
 (repeat(first|with_reducible(first|refine nx ?_|refine r_6 rfl ?_)|simp only[go_sem]))
 exact⟨ho,h⟩
theorem bLog1 {w:World} {b gl cl gr cr nr:Nat} {p:Addr} {c1 c2 c3 c4 c5:Value} {x:Int} {xr:List Int} {yl:List Value} {fr:List Nat} (hb:At w b [.pointer (some p),c1,c2,c3,c4,c5,.slice (some ⟨gl,0,none⟩) 1 cl]) (hl:At w gl ([.int .i64 x,.slice (some ⟨gr,0,none⟩) nr cr]++yl)) (hr:Sl w 1 (.slice (some ⟨gr,0,none⟩) nr cr) nr (ints xr) fr) (hn:nr≤1000):
  Cs Tryz.prog 22 [.pointer (some ⟨b,0,none⟩)] w fun v w'=>Only [] w w'∧ ∃a c,v=.slice a 1 c:=by
 refine enter_barrier_Barrier_Log rfl ?_
 unfold x_barrier_Barrier_Log
 (repeat(first|with_reducible(first|refine nx ?_|refine r_6 rfl ?_)|simp only[go_sem]))
 refine callT0 (bMadeS hb) ?_
 (repeat(first|with_reducible(first|refine nx ?_|refine r_6 rfl ?_)|simp only[go_sem,hb.cell]))
 refine run_loop (3::5::14::15::16::17::18::19::20::21::22::23::24::25::26::27::[]) (fun g w'=>(g 14=.int .i64 0∧g 3=.slice none 0 0∧w'=w)∨(g 14=.int .i64 1∧(∃a c,g 3=.slice a 1 c)∧Only [] w w')) (fun g _=>upTo 1 14 g) (.inl ⟨by simp only[go_sem],by simp only[go_sem],rfl⟩) fun g w' hI hnext=>?_
 rcases hI with⟨h14,h3,rfl⟩|⟨h14,⟨a,c,h3⟩,ho⟩
 ·have e0:decide ((0:Int)<((1:Nat):Int))=true:=rfl
  have e1:(0:Int)<((1:Nat):Int):=by decide
  have hc:cellsAt w' ⟨gl,0,none⟩ 2=some [.int .i64 x,.slice (some ⟨gr,0,none⟩) nr cr]:=by rw[cellsAt_at hl 0 2 (by simp)];rfl
  (repeat(first|with_reducible(first|refine nx ?_|refine r_6 rfl ?_)|simp only[go_sem,h14,e0,if_pos e1,show Int.toNat 0=0 from rfl,Nat.zero_mul,hc]))
  refine boxT fun q w1 hq hs1 hat1 ho1=>?_
  (repeat(first|with_reducible(first|refine nx ?_|refine r_6 rfl ?_)|simp only[go_sem]))
  refine stNT (cs:=[.int .i64 x,.slice (some ⟨gr,0,none⟩) nr cr]) hat1 rfl (by simp) (by simp[oneC]) fun w2 hs2 hat2 ho2=>?_
  have hat2':At w2 q [.int .i64 x,.slice (some ⟨gr,0,none⟩) nr cr]:=hat2
  have o2:Only [] w' w2:=ho1.trans ho2 fun y hy=>by simp only[List.mem_singleton]at hy;subst hy;exact .inr (by omega)
  have hr2:=hr.keep0 o2
  (repeat(first|with_reducible(first|refine nx ?_|refine r_6 rfl ?_)|simp only[go_sem,h3]))
  refine run_drt [q] ?_
  (repeat(first|with_reducible(first|refine nx ?_|refine r_6 rfl ?_)|simp only[go_sem,hat2'.drew.cell,hat2'.cell,h3]))
  have hql:=hat2'.lt
  refine callS (sclone (hr2.keep0 (Only.drew [] w2)).src ints_one (by omega)) ?_
  rintro v w3 ⟨ho3,fp,hs3,hfp3⟩
  refine⟨.inr ((SB.refl _ _).only ho3 fun z hz=>⟨by simp only[List.mem_singleton]at hz;rw[hz];exact hql,by simp⟩),?_⟩
  obtain⟨a3,c3',rfl⟩:=hs3.val
  (repeat(first|with_reducible(first|refine nx ?_|refine r_6 rfl ?_)|simp only[go_sem]))
  rw[fillL_one rfl rfl,fillL_one rfl rfl]
  (repeat(first|with_reducible(first|refine nx ?_|refine r_6 rfl ?_)|simp only[go_sem]))
  rw[fillL_ag (n:=2) rfl rfl]
  (repeat(first|with_reducible(first|refine nx ?_|refine r_6 rfl ?_)|simp only[go_sem]))
  refine bslS fun q4 w4 hq4 hs4 hat4 ho4=>⟨.inl rfl,?_⟩
  (repeat(first|with_reducible(first|refine nx ?_|refine r_6 rfl ?_)|simp only[go_sem]))
  refine appS (sz:=2) (n:=0) (m:=1) (xs:=[]) (us:=[.int .i64 x,.slice a3 nr c3']) (fp:=[]) ⟨rfl,.inl ⟨rfl,rfl,rfl⟩⟩ (SrcIs.at (us:=[.int .i64 x,.slice a3 nr c3']) hat4 rfl) (by simp[oneC]) (by omega) (by omega) ?_
  intro v5 w5 f5 hs5 hf5 ho5 _
  refine⟨.inl rfl,?_⟩
  obtain⟨a5,c5',rfl⟩:=hs5.val
  have z1:IntKind.i64.wrap (0+1)=1:=by decide
  (repeat(first|with_reducible(first|refine nx ?_|refine r_6 rfl ?_)|simp only[go_sem,h14,z1]))
  refine hnext _ w5 ?_ (.inr ⟨?_,⟨a5,c5',?_⟩,(((o2.nil (Only.drew [] w2)).nil ho3).nil ho4).nil ho5⟩) ?_
  ·(repeat(first|with_reducible exact k_1|with_reducible exact Keeps.ovr _ _ _|refine Keeps.put ?_ rfl _|exact k_1|exact Keeps.ovr _ _ _|refine Keeps.ovr2 ?_ rfl _))
  ·simp only[go_sem]
  ·simp only[go_sem]
  ·rw[upTo_int (i:=0) h14,upTo_int (k:=.i64) (i:=1) (by simp only[go_sem];rfl)];omega
 ·have e0:decide ((1:Int)<((1:Nat):Int))=false:=rfl
  (repeat(first|with_reducible(first|refine nx ?_|refine r_6 rfl ?_)|simp only[go_sem,h14,e0,h3]))
  exact⟨ho,a,c,rfl⟩
def hA0:HO:=newH 4
def hA1:HO:=claimM hA0 1 1 (1,0) (0,0)
def hA2:HO:=claimM hA1 2 1 (1,1) (0,0)
def hA3:HO:=placeM hA2 64 (2,0,0)
def hA4:HO:=placeM hA3 128 (2,0,0)
def hA5:HO:=setRefM hA4 64 0 128
theorem hA_facts:claimE hA0 1 1 (1,0)=0∧claimE hA1 2 1 (1,1)=0∧(placeR hA2 64 (2,0,0)).2=0∧(placeR hA3 128 (2,0,0)).2=0∧blocksO hA4=4∧refsO hA4 64=[0,0]∧setRefE hA4 64 0 128=0∧youngO hA5 1 64=false∧youngO hA5 1 128=true∧hA2.map HL.born=some 0∧hA3.map HL.born=some 1:=by decide+kernel
theorem bStoreA {w:World} {b bd bo:Nat} {hp:Addr} {fp:List Nat} (h:HR w (some hp) fp hA4) (hb:At w b [.pointer (some hp),.int .i64 63,.int .i64 1,.map (some bd),.map (some bo),.slice none 0 0,.slice none 0 0])
  (hd:MpAt w bd []) (ho:MpAt w bo []) (n1:b≠bd) (n2:b≠bo) (n3:bd≠bo) (hfp:b∉fp∧bd∉fp∧bo∉fp):
  Cs Tryz.prog 28 [.pointer (some ⟨b,0,none⟩),.int .i64 64,.int .i64 0,.int .i64 128] w fun v w'=>v=.int .i64 0∧ ∃vs fs vl fl gr cr fr,At w' b [.pointer (some hp),.int .i64 63,.int .i64 1,.map (some bd),.map (some bo),vs,vl]∧
   Sl w' 1 vs 1 (ints [128]) fs∧Sl w' 2 vl 1 [.int .i64 64,.slice (some ⟨gr,0,none⟩) 2 cr] fl∧Sl w' 1 (.slice (some ⟨gr,0,none⟩) 2 cr) 2 (ints [0,0]) fr∧MpAt w' bd [(8,.agg ⟨[]⟩)]∧MpAt w' bo [(64,.agg ⟨[]⟩)]∧Only ([b,bd,bo]++fp) w w':=by
 obtain⟨_,_,_,_,_,f6,f7,f8,f9,_⟩:=hA_facts
 have hlb:=hb.lt
 have hld:=hd.lt
 have hlo:=ho.lt
 refine enter_barrier_Barrier_Store rfl ?_
 unfold x_barrier_Barrier_Store
 (repeat(first|with_reducible(first|refine nx ?_|refine r_6 rfl ?_)|simp only[go_sem]))
 refine callT0 (bMadeS hb) ?_
 (repeat(first|with_reducible(first|refine nx ?_|refine r_6 rfl ?_)|simp only[go_sem,hb.cell]))
 refine callT (hRefs h 64 (by omega)) ?_
 rintro vr w1 ⟨ho1,fr,hr1,hfr1⟩
 rw[f6]at hr1
 obtain⟨gr,cr,yr,rfl,hatr,rfl,_⟩:=hr1.pos (by decide)
 have hgr:=hfr1 gr (by simp)
 have hb1:=hb.keep0 ho1
 (repeat(first|with_reducible(first|refine nx ?_|refine r_6 rfl ?_)|simp only[go_sem,hb1.cell]))
 refine callT (hSetRef (h.keep0 ho1) 64 0 128 (by omega) (by omega)) ?_
 rintro r w2 ⟨rfl,h2,ho2⟩
 rw[f7]
 have hb2:=hb1.keep ho2 hfp.1
 have hltf:=h.lt
 have hgf:gr∉fp:=fun hx=>by have:=hltf gr hx;omega
 (repeat(first|with_reducible(first|refine nx ?_|refine r_6 rfl ?_)|simp only[go_sem,bne_int_false (rfl:(0:Int)=0)]))
 refine callT (bNote0 (m:=hA5) h2 hb2 ((hd.keep0 ho1).keep ho2 hfp.2.1) ((ho.keep0 ho1).keep ho2 hfp.2.2) (hatr.keep ho2 hgf) f8 f9 n1 n2 n3 hfp ⟨by omega,by omega,by omega⟩) ?_
 rintro r w3 ⟨rfl,vs,fs,vl,fl,hb3,hs3,hl3,hd3,hod3,ho3⟩
 (repeat(first|with_reducible(first|refine nx ?_|refine r_6 rfl ?_)|simp only[go_sem]))
 refine⟨vs,fs,vl,fl,gr,cr,[gr],hb3,hs3,hl3,?_,hd3,hod3,?_⟩
 ·exact(hr1.keep ho2 (by simpa using hgf)).keep ho3 (fun y hy=>by simp only[List.mem_singleton]at hy;subst hy;simp only[List.mem_cons,List.not_mem_nil,or_false];omega)
 ·exact((ho1.of_nil (T:=[b,bd,bo]++fp)).same (ho2.sub (by intro y hy;simp[hy]))).same (ho3.sub (by intro y hy;exact List.mem_append.2 (.inl hy)))
theorem perm_one {xs:List Int} {x:Int} (h:xs.Perm [x]):xs=[x]:=List.perm_singleton.1 h
theorem law_awake (w:World):Cs Tryz.prog 14 [] w fun v w'=>v=.bool true∧Only [] w w':=by
 obtain⟨f1,f2,f3,f4,f5,_,_,_,_,f10,f11⟩:=hA_facts
 refine enter_law12_awake rfl ?_
 unfold x_law12_awake
 (repeat(first|with_reducible(first|refine nx ?_|refine r_6 rfl ?_)|simp only[go_sem]))
 refine callT (hNew w 4) ?_
 rintro r w1 ⟨a,fp,rfl,h1,_,hfp1,ho1⟩
 have hs0:(newH 4).isSome=true:=rfl
 have h1':HR w1 a fp hA0:=h1
 obtain⟨hb,rfl,_⟩:=h1
 (repeat(first|with_reducible(first|refine nx ?_|refine r_6 rfl ?_)|simp only[go_sem,hs0]))
 refine callT (hClaim h1' 1 0 (by omega)) ?_
 rintro r w2 ⟨rfl,h2,ho2⟩
 rw[f1]
 (repeat(first|with_reducible(first|refine nx ?_|refine r_6 rfl ?_)|simp only[go_sem,bne_int_false (rfl:(0:Int)=0)]))
 refine callT (hClaim (m:=hA1) h2 2 1 (by omega)) ?_
 rintro r w3 ⟨rfl,h3,ho3⟩
 rw[f2]
 (repeat(first|with_reducible(first|refine nx ?_|refine r_6 rfl ?_)|simp only[go_sem,bne_int_false (rfl:(0:Int)=0)]))
 rw[fillL_one rfl rfl]
 (repeat(first|with_reducible(first|refine nx ?_|refine r_6 rfl ?_)|simp only[go_sem]))
 have b2: ∀s,hA2=some s→s.born≤4611686018427387900:=fun s h=>by rw[h]at f10;simp only[Option.map_some,Option.some.injEq]at f10;omega
 have b3: ∀s,hA3=some s→s.born≤4611686018427387900:=fun s h=>by rw[h]at f11;simp only[Option.map_some,Option.some.injEq]at f11;omega
 refine callT (hPlace (m:=hA2) h3 64 (2,0,0) (by omega) (by decide) b2) ?_
 rintro r w4 ⟨rfl,h4,ho4⟩
 rw[f3]
 (repeat(first|with_reducible(first|refine nx ?_|refine r_6 rfl ?_)|simp only[go_sem,bne_int_false (rfl:(0:Int)=0)]))
 rw[fillL_one rfl rfl]
 (repeat(first|with_reducible(first|refine nx ?_|refine r_6 rfl ?_)|simp only[go_sem]))
 refine callT (hPlace (m:=hA3) h4 128 (2,0,0) (by omega) (by decide) b3) ?_
 rintro r w5 ⟨rfl,h5,ho5⟩
 rw[f4]
 have h5':HR w5 (some ⟨hb,0,none⟩) fp hA4:=h5
 obtain⟨s5,hs5⟩: ∃s,hA4=some s:=by
  cases h:hA4 with
  |none=>rw[h]at f5;cases f5
  |some s=>exact⟨s,rfl⟩
 have o5:Only fp w1 w5:=((ho2.same ho3).same ho4).same ho5
 have o05:Only [] w w5:=ho1.trans o5 fun x hx=>.inr (hfp1 x hx)
 (repeat(first|with_reducible(first|refine nx ?_|refine r_6 rfl ?_)|simp only[go_sem,bne_int_false (rfl:(0:Int)=0)]))
 refine callT (bNewS (s:=s5) (by rw[←hs5];exact h5') 63 1 (by omega) (by omega) (by omega) (by omega)) ?_
 rintro r w6 ⟨b,bd,bo,rfl,hb6,hd6,ho6m,g1,g2,g3,ho6⟩
 have h6:=h5'.keep0 ho6
 have hlt5:=h5'.lt
 (repeat(first|with_reducible(first|refine nx ?_|refine r_6 rfl ?_)|simp only[go_sem]))
 refine callT (bStoreA h6 hb6 hd6 ho6m (by omega) (by omega) (by omega) ⟨fun hx=>by have:=hlt5 b hx;omega,fun hx=>by have:=hlt5 bd hx;omega,fun hx=>by have:=hlt5 bo hx;omega⟩) ?_
 rintro r w7 ⟨rfl,vs,fs,vl,fl,gr,cr,fr,hb7,hs7,hl7,hr7,hd7,ho7m,ho7⟩
 have hz05:=o05.size
 have hz6:=ho6.size
 have o07:Only [] w w7:=(o05.nil ho6).trans ho7 fun x hx=>.inr (by
  rcases List.mem_append.1 hx with h|h
  ·simp only[List.mem_cons,List.not_mem_nil,or_false]at h;omega
  ·exact hfp1 x h)
 (repeat(first|with_reducible(first|refine nx ?_|refine r_6 rfl ?_)|simp only[go_sem,bne_int_false (rfl:(0:Int)=0)]))
 refine callT (bDirty hb7 hd7 (by simp)) ?_
 rintro v8 w8 ⟨ho8,xs8,f8,hs8,_,hp8⟩
 have e8:xs8=[8]:=perm_one hp8
 subst e8
 have q8:sortI [8]=[8]:=by simp[sortI]
 rw[q8]at hs8
 (repeat(first|with_reducible(first|refine nx ?_|refine r_6 rfl ?_)|simp only[go_sem]))
 refine callT0 (hHas12 hs8.rd (by simp) 8) ?_
 have c8:([8]:List Int).contains 8=true:=rfl
 have hb8:=hb7.keep0 ho8
 (repeat(first|with_reducible(first|refine nx ?_|refine r_6 rfl ?_)|simp only[go_sem,c8]))
 refine callT (bRemembered hb8 (ho7m.keep0 ho8) (by simp)) ?_
 rintro v9 w9 ⟨ho9,xs9,f9',hs9,_,hp9⟩
 have e9:xs9=[64]:=perm_one hp9
 subst e9
 have q9:sortI [64]=[64]:=by simp[sortI]
 rw[q9]at hs9
 (repeat(first|with_reducible(first|refine nx ?_|refine r_6 rfl ?_)|simp only[go_sem]))
 refine callT0 (hHas12 hs9.rd (by simp) 64) ?_
 have c9:([64]:List Int).contains 64=true:=rfl
 have o79:=ho8.nil ho9
 have hb9:=hb8.keep0 ho9
 (repeat(first|with_reducible(first|refine nx ?_|refine r_6 rfl ?_)|simp only[go_sem,c9]))
 refine callT (bShaded hb9 (hs7.keep0 o79) (by omega)) ?_
 rintro v10 w10 ⟨ho10,f10',hs10,_⟩
 (repeat(first|with_reducible(first|refine nx ?_|refine r_6 rfl ?_)|simp only[go_sem]))
 refine callT0 (hHas12 (hs10.rd) (by simp) 128) ?_
 have c10:([128]:List Int).contains 128=true:=rfl
 have o710:=o79.nil ho10
 have hl10:=hl7.keep0 o710
 have hr10:=hr7.keep0 o710
 have hb10:=hb9.keep0 ho10
 obtain⟨gl,cl,yl,rfl,hatl,rfl⟩: ∃g c ys,vl=.slice (some ⟨g,0,none⟩) 1 c∧At w10 g ([.int .i64 64,.slice (some ⟨gr,0,none⟩) 2 cr]++ys)∧fl=[g]:=by
  rcases hl10.2 with⟨_,h,_⟩|⟨g,c,ys,T,h1,h2,h3,_⟩
  ·cases h
  ·exact⟨g,c,ys,h1,⟨T,h3⟩,h2⟩
 (repeat(first|with_reducible(first|refine nx ?_|refine r_6 rfl ?_)|simp only[go_sem,c10]))
 refine callT (bLog1 hb10 hatl hr10 (by omega)) ?_
 rintro v11 w11 ⟨ho11,a11,c11,rfl⟩
 (repeat(first|with_reducible(first|refine nx ?_|refine r_6 rfl ?_)|simp only[go_sem,beq_int_true (show((1:Nat):Int)=1 from rfl)]))
 exact(o07.nil o710).nil ho11
end Go.Proofs.YtgcofabdialaaaaGreat
end
section
namespace Go.Proofs.YtgcofabdialaaaaGreat
namespace Rt
set_option maxRecDepth 8000
theorem ints_get {xs:List Int} {i:Nat} (rest:List Value) (h:i<xs.length):(ints xs++rest)[i]? =some (.int .i64 (xs.getD i 0)):=ints_append_get rest h
theorem ints_replicate (n:Nat):ints (List.replicate n 0)=List.replicate n (.int .i64 0):=by simp[ints]
structure MS where
 M:Nat
 S:List Int
 G:List Int
 Q:List Int
structure MS.Ok (s:MS):Prop where
 m1:1≤s.M
 m4:s.M≤4
 ls:s.S.length=16*s.M
 lg:s.G.length=16
 lq:s.Q.length≤64
abbrev PT:=Int×Int×Int
def plV (p:PT):List Value:=[.int .i64 p.1,.int .i64 p.2.1,.int .i64 p.2.2]
theorem plV_eq (p:PT):plV p=[.int .i64 p.1,.int .i64 p.2.1,.int .i64 p.2.2]:=Eq.trans rfl rfl
theorem plV_one {p:PT}: ∀u,u∈plV p→oneC u=true:=by
 intro u hu
 simp only[plV,List.mem_cons,List.not_mem_nil,or_false]at hu
 rcases hu with rfl|rfl|rfl<;>rfl
def seg (s:MS) (p:PT):Option (Nat×Nat):=
 if p.1=0∧0≤p.2.1∧p.2.1<s.M then(if 0≤p.2.2∧p.2.2<16 then some (0,(16*p.2.1+p.2.2).toNat)else none)
 else if p.1=1∧p.2.1=0 then(if 0≤p.2.2∧p.2.2<16 then some (1,p.2.2.toNat)else none)
 else if p.1=2∧p.2.1=0 then(if 0≤p.2.2∧p.2.2<s.Q.length then some (2,p.2.2.toNat)else none)
 else none
def MS.rd (s:MS):Nat×Nat→Int
 |(0,i)=>s.S.getD i 0
 |(1,i)=>s.G.getD i 0
 |(_,i)=>s.Q.getD i 0
def MS.wr (s:MS) (x:Nat×Nat) (a:Int):MS:=match x with
 |(0,i)=> {s with S:=s.S.set i a}
 |(1,i)=> {s with G:=s.G.set i a}
 |(_,i)=> {s with Q:=s.Q.set i a}
theorem MS.Ok.wr {s:MS} (h:s.Ok) (x:Nat×Nat) (a:Int):(s.wr x a).Ok:=by
 obtain⟨h1,h2,h3,h4,h5⟩:=h
 unfold MS.wr
 split<;>exact⟨h1,h2,by simpa using h3,by simpa using h4,by simpa using h5⟩
abbrev MO:=Option MS
def getO (m:MO) (p:PT):Int×Int:=match m with
 |none=>(0,5)
 |some s=>(match seg s p with|none=>(0,1)|some x=>(s.rd x,0))
def badA (p:PT) (a:Int):Bool:=decide (a<0)||(decide (a=0)&&decide (p.1=2))
def setO (m:MO) (p:PT) (a:Int):Int×MO:=match m with
 |none=>(5,none)
 |some s=>(match seg s p with|none=>(1,some s)|some x=>(if badA p a then(1,some s)else(0,some (s.wr x a))))
def pushO (m:MO) (a:Int):Int×MO:=match m with
 |none=>(5,none)
 |some s=>(if a≤0 then(1,some s)else(if s.Q.length=64 then(6,some s)else(0,some {s with Q:=s.Q++[a]})))
def newO (n:Int):MO:=if 1≤n∧n≤4 then some ⟨n.toNat,List.replicate (16*n.toNat) 0,List.replicate 16 0,[]⟩else none
theorem newO_ok {n:Int} {s:MS} (h:newO n=some s):s.Ok:=by
 unfold newO at h
 split at h
 ·rename_i hn;cases h
  exact⟨by show 1≤n.toNat;omega,by show n.toNat≤4;omega,by simp,by simp,by simp⟩
 ·cases h
def MS.V (s:MS):List Int:=s.S++s.G++s.Q
def mutO:MO→Int|none=>0|some s=>(s.M:Int)
def queueO:MO→List Int|none=>[]|some s=>s.Q
def MS.map (s:MS) (g:Int→Int):MS:= {s with S:=s.S.map g,G:=s.G.map g,Q:=s.Q.map g}
theorem seg_cases {s:MS} {p:PT} {x:Nat×Nat} (h:s.Ok) (e:seg s p=some x):
  (p.1=0∧0≤p.2.1∧p.2.1<s.M∧0≤p.2.2∧p.2.2<16∧ ∃i,x=(0,i)∧(i:Int)=16*p.2.1+p.2.2∧i<s.S.length)∨
  (p.1=1∧p.2.1=0∧0≤p.2.2∧p.2.2<16∧ ∃i:Nat,x=(1,i)∧(i:Int)=p.2.2∧i<s.G.length)∨
  (p.1=2∧p.2.1=0∧0≤p.2.2∧p.2.2<s.Q.length∧ ∃i:Nat,x=(2,i)∧(i:Int)=p.2.2∧i<s.Q.length):=by
 unfold seg at e
 have h3:=h.ls;have h4:=h.lg
 split at e
 ·rename_i h1
  split at e
  ·rename_i h2;cases e
   exact .inl ⟨h1.1,h1.2.1,h1.2.2,h2.1,h2.2,_,rfl,by omega,by omega⟩
  ·cases e
 ·split at e
  ·rename_i h1
   split at e
   ·rename_i h2;cases e
    exact .inr (.inl ⟨h1.1,h1.2,h2.1,h2.2,_,rfl,by omega,by omega⟩)
   ·cases e
  ·split at e
   ·rename_i h1
    split at e
    ·rename_i h2;cases e
     exact .inr (.inr ⟨h1.1,h1.2,h2.1,h2.2,_,rfl,by omega,by omega⟩)
    ·cases e
   ·cases e
end Rt
end Go.Proofs.YtgcofabdialaaaaGreat
end
section
namespace Go.Proofs.YtgcofabdialaaaaGreat
namespace Rt
set_option maxRecDepth 8000
structure PMs (w:World) (b:Nat) (s:MS) (vs vg vq:Value) (fs fg fq:List Nat):Prop where
 ok:s.Ok
 nd:(b::(fs++(fg++fq))).Nodup
 hb:At w b [.int .i64 s.M,vs,vg,vq]
 h0:Sl w 1 vs (16*s.M) (ints s.S) fs
 h1:Sl w 1 vg 16 (ints s.G) fg
 h2:Sl w 1 vq s.Q.length (ints s.Q) fq
def PM (w:World) (b:Nat) (s:MS) (fp:List Nat):Prop:= ∃vs vg vq fs fg fq,fp=b::(fs++(fg++fq))∧PMs w b s vs vg vq fs fg fq
def PR (w:World) (a:Option Addr) (fp:List Nat) (m:MO):Prop:=match m with
 |some s=> ∃b,a=some ⟨b,0,none⟩∧PM w b s fp
 |none=>(a=none∧fp=[])∨ ∃b,a=some ⟨b,0,none⟩∧fp=[b]∧At w b [.int .i64 0,.slice none 0 0,.slice none 0 0,.slice none 0 0]
theorem PMs.keep {w w':World} {b:Nat} {s:MS} {vs vg vq:Value} {fs fg fq S:List Nat} (h:PMs w b s vs vg vq fs fg fq) (k:Only S w w') (hd: ∀x,x∈b::(fs++(fg++fq))→x∉S):PMs w' b s vs vg vq fs fg fq:=
 ⟨h.ok,h.nd,h.hb.keep k (hd b (by simp)),h.h0.keep k fun x hx=>hd x (by simp[hx]),h.h1.keep k fun x hx=>hd x (by simp[hx]),h.h2.keep k fun x hx=>hd x (by simp[hx])⟩
theorem PMs.keep0 {w w':World} {b:Nat} {s:MS} {vs vg vq:Value} {fs fg fq:List Nat} (h:PMs w b s vs vg vq fs fg fq) (k:Only [] w w'):PMs w' b s vs vg vq fs fg fq:=h.keep k fun _ _=>by simp
theorem PM.keep {w w':World} {b:Nat} {s:MS} {fp S:List Nat} (h:PM w b s fp) (k:Only S w w') (hd: ∀x,x∈fp→x∉S):PM w' b s fp:=by
 obtain⟨vs,vg,vq,fs,fg,fq,rfl,h⟩:=h
 exact⟨vs,vg,vq,fs,fg,fq,rfl,h.keep k hd⟩
theorem PM.lt {w:World} {b:Nat} {s:MS} {fp:List Nat} (h:PM w b s fp): ∀x,x∈fp→x<w.heap.size:=by
 obtain⟨vs,vg,vq,fs,fg,fq,rfl,h⟩:=h
 intro x hx
 simp only[List.mem_cons,List.mem_append]at hx
 rcases hx with rfl|hx|hx|hx
 ·exact h.hb.lt
 ·exact h.h0.lt x hx
 ·exact h.h1.lt x hx
 ·exact h.h2.lt x hx
theorem PR.keep {w w':World} {a:Option Addr} {fp S:List Nat} {m:MO} (h:PR w a fp m) (k:Only S w w') (hd: ∀x,x∈fp→x∉S):PR w' a fp m:=by
 match m,h with
 |some s,⟨b,h1,h2⟩=>exact⟨b,h1,h2.keep k hd⟩
 |none,.inl h=>exact .inl h
 |none,.inr ⟨b,h1,h2,h3⟩=>subst h2;exact .inr ⟨b,h1,rfl,h3.keep k (hd b (by simp))⟩
theorem PR.keep0 {w w':World} {a:Option Addr} {fp:List Nat} {m:MO} (h:PR w a fp m) (k:Only [] w w'):PR w' a fp m:=h.keep k fun _ _=>by simp
theorem PR.lt {w:World} {a:Option Addr} {fp:List Nat} {m:MO} (h:PR w a fp m): ∀x,x∈fp→x<w.heap.size:=by
 match m,h with
 |some s,⟨b,h1,h2⟩=>exact h2.lt
 |none,.inl h=>rw[h.2];intro x hx;cases hx
 |none,.inr ⟨b,h1,h2,h3⟩=>subst h2;intro x hx;simp only[List.mem_singleton]at hx;subst hx;exact h3.lt
def PlaceAt (w:World) (b:Nat) (s:MS) (fp:List Nat) (x:Nat×Nat) (ad:Addr):Prop:=
 ∃g i xs,ad=⟨g,i,none⟩∧At w g xs∧xs[i]? =some (.int .i64 (s.rd x))∧g∈fp∧
  ∀a w',At w' g (xs.set i (.int .i64 a))→Only [g] w w'→PM w' b (s.wr x a) fp
theorem PMs.place0 {w:World} {b:Nat} {s:MS} {vs vg vq:Value} {fg fq:List Nat} {g cap i:Nat} {ys:List Value} (h:PMs w b s vs vg vq [g] fg fq) (hv:vs=.slice (some ⟨g,0,none⟩) (16*s.M) cap) (hat:At w g (ints s.S++ys)) (hc:(ints s.S++ys).length=cap) (hi:i<s.S.length):
  PlaceAt w b s (b::([g]++(fg++fq))) (0,i) ⟨g,i,none⟩:=by
 have hnd:=h.nd
 simp only[List.cons_append,List.nil_append,List.nodup_cons,List.mem_cons,List.mem_append,not_or,List.nodup_append]at hnd
 obtain⟨⟨n1,n2,n3⟩,⟨n4,n5⟩,n6⟩:=hnd
 refine⟨g,i,_,rfl,hat,ints_get ys hi,by simp,fun a w' hat' ho=>?_⟩
 refine⟨vs,vg,vq,[g],fg,fq,rfl,h.ok.wr (0,i) a,h.nd,h.hb.keep ho (by simpa using n1),?_,h.h1.keep ho ?_,h.h2.keep ho ?_⟩
 ·rw[ints_set ys hi]at hat'
  rw[hv]
  exact Sl.mk1 hat' (by rw[ints_length];have:=h.ok.ls;simp only[MS.wr,List.length_set];omega) (by rw[←hc];simp[ints_length,MS.wr])
 ·intro x hx;simp only[List.mem_singleton];rintro rfl;exact n4 hx
 ·intro x hx;simp only[List.mem_singleton];rintro rfl;exact n5 hx
theorem PMs.place1 {w:World} {b:Nat} {s:MS} {vs vg vq:Value} {fs fq:List Nat} {g cap i:Nat} {ys:List Value} (h:PMs w b s vs vg vq fs [g] fq) (hv:vg=.slice (some ⟨g,0,none⟩) 16 cap) (hat:At w g (ints s.G++ys)) (hc:(ints s.G++ys).length=cap) (hi:i<s.G.length):
  PlaceAt w b s (b::(fs++([g]++fq))) (1,i) ⟨g,i,none⟩:=by
 have hnd:=h.nd
 simp only[List.nodup_cons,List.mem_append,not_or,List.nodup_append,List.mem_singleton,List.cons_append,List.nil_append,List.mem_cons]at hnd
 obtain⟨⟨n1,n2,n3⟩,n4,⟨n5,n5'⟩,n6⟩:=hnd
 refine⟨g,i,_,rfl,hat,ints_get ys hi,by simp,fun a w' hat' ho=>?_⟩
 refine⟨vs,vg,vq,fs,[g],fq,rfl,h.ok.wr (1,i) a,h.nd,h.hb.keep ho (by simpa using n2),h.h0.keep ho ?_,?_,h.h2.keep ho ?_⟩
 ·intro x hx;simp only[List.mem_singleton];rintro rfl;exact n6 x hx x (.inl rfl) rfl
 ·rw[ints_set ys hi]at hat'
  rw[hv]
  exact Sl.mk1 hat' (by rw[ints_length];have:=h.ok.lg;simp only[MS.wr,List.length_set];omega) (by rw[←hc];simp[ints_length,MS.wr])
 ·intro x hx;simp only[List.mem_singleton];rintro rfl;exact n5 hx
theorem PMs.place2 {w:World} {b:Nat} {s:MS} {vs vg vq:Value} {fs fg:List Nat} {g cap i:Nat} {ys:List Value} (h:PMs w b s vs vg vq fs fg [g]) (hv:vq=.slice (some ⟨g,0,none⟩) s.Q.length cap) (hat:At w g (ints s.Q++ys)) (hc:(ints s.Q++ys).length=cap) (hi:i<s.Q.length):
  PlaceAt w b s (b::(fs++(fg++[g]))) (2,i) ⟨g,i,none⟩:=by
 have hnd:=h.nd
 simp only[List.nodup_cons,List.mem_append,not_or,List.nodup_append,List.mem_singleton]at hnd
 obtain⟨⟨n1,n2,n3⟩,n4,⟨n5,n5',n6⟩,n7⟩:=hnd
 refine⟨g,i,_,rfl,hat,ints_get ys hi,by simp,fun a w' hat' ho=>?_⟩
 refine⟨vs,vg,vq,fs,fg,[g],rfl,h.ok.wr (2,i) a,h.nd,h.hb.keep ho (by simpa using n3),h.h0.keep ho ?_,h.h1.keep ho ?_,?_⟩
 ·intro x hx;simp only[List.mem_singleton];rintro rfl;exact n7 x hx x (.inr rfl) rfl
 ·intro x hx;simp only[List.mem_singleton];rintro rfl;exact n6 x hx x rfl rfl
 ·rw[ints_set ys hi]at hat'
  rw[hv]
  show Sl w' 1 _ (s.Q.set i a).length (ints (s.Q.set i a)) [g]
  rw[List.length_set]
  exact Sl.mk1 hat' (by rw[ints_length];simp) (by rw[←hc];simp[ints_length])
theorem made_nil (w:World):Cs Tryz.prog 140 [.pointer none] w fun v w'=>v=.bool false∧w'=w:=by
 refine enter_roots_Roots_made rfl ?_
 unfold x_roots_Roots_made
 (repeat(first|with_reducible(first|refine nx ?_|refine r_6 rfl ?_)|simp only[go_sem]))
theorem made_at (b:Nat) (n:Int) (c:List Value) (w:World) (h:At w b (.int .i64 n::c)):Cs Tryz.prog 140 [.pointer (some ⟨b,0,none⟩)] w fun v w'=>v=.bool (decide (0<n))∧w'=w:=by
 refine enter_roots_Roots_made rfl ?_
 unfold x_roots_Roots_made
 (repeat(first|with_reducible(first|refine nx ?_|refine r_6 rfl ?_)|simp only[go_sem,h.cell]))
theorem made_m {w:World} {a:Option Addr} {fp:List Nat} {m:MO} (h:PR w a fp m):Cs Tryz.prog 140 [.pointer a] w fun v w'=>v=.bool m.isSome∧w'=w:=by
 match m,h with
 |some s,⟨b,h1,vs,vg,vq,fs,fg,fq,_,k⟩=>
  subst h1
  refine(made_at b _ _ w k.hb).mono ?_
  rintro v w' ⟨rfl,rfl⟩
  have:=k.ok.m1
  exact⟨by simp;omega,rfl⟩
 |none,.inl ⟨h1,_⟩=>subst h1;exact made_nil w
 |none,.inr ⟨b,h1,_,h3⟩=>subst h1;exact made_at b 0 _ w h3
theorem at1_in {w:World} {q g o n c i:Nat} {p:PT} (hq:At w q (plV p)) (hp:p.2.2=(i:Int)) (hi:i<n):Cs Tryz.prog 250 [.slice (some ⟨g,o,none⟩) n c,.pointer (some ⟨q,0,none⟩)] w fun v w'=>v=.pointer (some ⟨g,o+i,none⟩)∧w'=w:=by
 refine enter_roots_Roots_at_1 rfl ?_
 unfold x_roots_Roots_at_1
 rw[plV_eq]at hq
 have c1: ¬(i:Int)<0:=by omega
 have c2: ¬(n:Int)≤(i:Int):=by omega
 have c3:(0:Int)≤(i:Int)∧(i:Int)<(n:Int):=⟨by omega,by omega⟩
 (repeat(first|with_reducible(first|refine nx ?_|refine r_6 rfl ?_)|simp only[go_sem,hq.cell,hp,decide_eq_false c1,decide_eq_false c2,if_pos c3,Int.toNat_natCast,Nat.mul_one]))
theorem at1_out {w:World} {q n c:Nat} {a:Option Addr} {p:PT} (hq:At w q (plV p)) (hp: ¬(0≤p.2.2∧p.2.2<n)):Cs Tryz.prog 250 [.slice a n c,.pointer (some ⟨q,0,none⟩)] w fun v w'=>v=.pointer none∧w'=w:=by
 refine enter_roots_Roots_at_1 rfl ?_
 unfold x_roots_Roots_at_1
 rw[plV_eq]at hq
 by_cases c1:p.2.2<0
 ·(repeat(first|with_reducible(first|refine nx ?_|refine r_6 rfl ?_)|simp only[go_sem,hq.cell,decide_eq_true c1]))
 ·have c2:(n:Int)≤p.2.2:=by omega
  (repeat(first|with_reducible(first|refine nx ?_|refine r_6 rfl ?_)|simp only[go_sem,hq.cell,decide_eq_false c1,decide_eq_true c2]))
theorem at_m {w:World} {b:Nat} {s:MS} {fp:List Nat} (h:PM w b s fp) (p:PT):Cs Tryz.prog 237 [.pointer (some ⟨b,0,none⟩),.agg ⟨plV p⟩] w fun v w'=>Only [] w w'∧
  ∃ad,v=.pointer ad∧ad.isSome=(seg s p).isSome∧ ∀x,seg s p=some x→ ∃d,ad=some d∧PlaceAt w' b s fp x d:=by
 refine enter_roots_Roots_at rfl ?_
 unfold x_roots_Roots_at
 (repeat(first|with_reducible(first|refine nx ?_|refine r_6 rfl ?_)|simp only[go_sem]))
 refine boxT fun q w1 hq hs1 hat1 ho1=>?_
 obtain⟨vs,vg,vq,fs,fg,fq,rfl,hm⟩:=h
 have m1:=hm.keep0 ho1
 have hb:=m1.hb
 have hok:=hm.ok
 have hM1:=hok.m1;have hM4:=hok.m4;have hls:=hok.ls;have hlg:=hok.lg
 obtain⟨k,m,i⟩:=p
 have hat1:At w1 q (plV (k,m,i)):=hat1
 have hc:At w1 q [.int .i64 k,.int .i64 m,.int .i64 i]:=hat1
 have out: ∀w',Only [] w1 w'→seg s (k,m,i)=none→Only [] w w'∧ ∃ad,(Value.pointer none)=.pointer ad∧ad.isSome=(seg s (k,m,i)).isSome∧ ∀x,seg s (k,m,i)=some x→ ∃d,ad=some d∧PlaceAt w' b s (b::(fs++(fg++fq))) x d:=
  fun w' ho' e=>⟨ho1.nil ho',none,rfl,by rw[e];rfl,fun x hx=>by rw[e]at hx;cases hx⟩
 have hin: ∀w',Only [] w1 w'→ ∀x d,seg s (k,m,i)=some x→PlaceAt w' b s (b::(fs++(fg++fq))) x d→Only [] w w'∧ ∃ad,(Value.pointer (some d))=.pointer ad∧ad.isSome=(seg s (k,m,i)).isSome∧ ∀x,seg s (k,m,i)=some x→ ∃d,ad=some d∧PlaceAt w' b s (b::(fs++(fg++fq))) x d:=
  fun w' ho' x d e hp=>⟨ho1.nil ho',some d,rfl,by rw[e];rfl,fun y hy=>by rw[e]at hy;cases hy;exact⟨d,rfl,hp⟩⟩
 by_cases c0:k=0
 ·subst c0
  by_cases c1:0≤m
  ·by_cases c2:m<(s.M:Int)
   ·obtain⟨mn,rfl⟩: ∃mn:Nat,m=mn:=⟨m.toNat,by omega⟩
    have e1:IntKind.i64.wrap ((mn:Int)*16)=((mn*16:Nat):Int):=by rw[show((mn:Int)*16)=((mn*16:Nat):Int) by omega,i64_of_nat _ (by omega)]
    have e2:IntKind.i64.wrap ((mn:Int)+1)=((mn+1:Nat):Int):=i64_succ mn (by omega)
    have e3:IntKind.i64.wrap (((mn+1:Nat):Int)*16)=(((mn+1)*16:Nat):Int):=by rw[show(((mn+1:Nat):Int)*16)=(((mn+1)*16:Nat):Int) by omega,i64_of_nat _ (by omega)]
    (repeat(first|with_reducible(first|refine nx ?_|refine r_6 rfl ?_)|simp only[go_sem,hc.cell,hb.cell,beq_int_true (rfl:(0:Int)=0),decide_eq_true c1,decide_eq_true c2]))
    refine run_drt [q,b] ?_
    obtain⟨g,cap,ys,hv,hg,hfs,hcap⟩:=m1.h0.pos (by omega)
    subst hfs
    have hcap2:(ints s.S++ys).length=cap:=by
     rcases m1.h0.2 with⟨_,h0,_⟩|⟨g',cap',ys',T,h1,h2,h3,h4,h5⟩
     ·omega
     ·rw[hv]at h1;cases h1;cases h2
      obtain⟨T',hg⟩:=hg
      rw[hg]at h3;simp at h3
      obtain⟨h3,_⟩:=h3
      rw[h3];simpa using h4
    subst hv
    (repeat(first|with_reducible(first|refine nx ?_|refine r_6 rfl ?_)|simp only[go_sem,hc.cell,hb.cell,e1,e2,e3,Nat.mul_one,slcO_lh (show mn*16≤(mn+1)*16 by omega) (show(mn+1)*16≤cap by omega) (show mn*16<cap by omega)]))
    by_cases c3:0≤i∧i<16
    ·obtain⟨j,rfl⟩: ∃j:Nat,i=j:=⟨i.toNat,by omega⟩
     refine callVS (vs:=[.slice (some ⟨g,mn*16,none⟩) ((mn+1)*16-mn*16) (cap-mn*16),.pointer (some ⟨q,0,none⟩)]) ?_ (by kernel_rfl) (at1_in (w:=w1.drew.drew) (n:=(mn+1)*16-mn*16) (i:=j) (p:=(0,(mn:Int),(j:Int))) hat1 rfl (by omega)) ?_
     ·rfl
     rintro v w' ⟨rfl,rfl⟩
     refine⟨.inr (SB.refl _ _),?_⟩
     (repeat(first|with_reducible(first|refine nx ?_|refine r_6 rfl ?_)|simp only[go_sem]))
     refine hin _ (((Only.drew [] _).nil (Only.drew [] _))) (0,mn*16+j) _ ?_ ?_
     ·simp only[seg,c1,c2,and_self,if_true,c3];congr 2;omega
     ·exact(m1.keep0 ((Only.drew [] _).nil (Only.drew [] _))).place0 rfl hg hcap2 (by omega)
    ·refine callVS (vs:=[.slice (some ⟨g,mn*16,none⟩) ((mn+1)*16-mn*16) (cap-mn*16),.pointer (some ⟨q,0,none⟩)]) ?_ (by kernel_rfl) (at1_out (w:=w1.drew.drew) (n:=(mn+1)*16-mn*16) (p:=(0,(mn:Int),i)) hat1 (by simp only;omega)) ?_
     ·rfl
     rintro v w' ⟨rfl,rfl⟩
     refine⟨.inr (SB.refl _ _),?_⟩
     (repeat(first|with_reducible(first|refine nx ?_|refine r_6 rfl ?_)|simp only[go_sem]))
     exact out _ (((Only.drew [] _).nil (Only.drew [] _))) (by simp only[seg,c1,c2,and_self,if_true];rw[if_neg c3])
   ·(repeat(first|with_reducible(first|refine nx ?_|refine r_6 rfl ?_)|simp only[go_sem,hc.cell,hb.cell,beq_int_true (rfl:(0:Int)=0),decide_eq_true c1,decide_eq_false c2]))
    exact out _ (Only.drew [] _) (by simp[seg,c2])
  ·(repeat(first|with_reducible(first|refine nx ?_|refine r_6 rfl ?_)|simp only[go_sem,hc.cell,hb.cell,beq_int_true (rfl:(0:Int)=0),decide_eq_false c1]))
   exact out _ (Only.drew [] _) (by simp[seg,c1])
 ·by_cases c1:k=1
  ·subst c1
   by_cases c2:m=0
   ·subst c2
    obtain⟨g,cap,ys,hv,hg,hfs,hcap⟩:=m1.h1.pos (by omega)
    subst hfs
    have hcap2:(ints s.G++ys).length=cap:=by
     rcases m1.h1.2 with⟨_,h0,_⟩|⟨g',cap',ys',T,h1,h2,h3,h4,h5⟩
     ·omega
     ·rw[hv]at h1;cases h1;cases h2
      obtain⟨T',hg⟩:=hg
      rw[hg]at h3;simp at h3
      obtain⟨h3,_⟩:=h3
      rw[h3];simpa using h4
    subst hv
    (repeat(first|with_reducible(first|refine nx ?_|refine r_6 rfl ?_)|simp only[go_sem,hc.cell,hb.cell,beq_int_true (rfl:(1:Int)=1),beq_int_true (rfl:(0:Int)=0),beq_int_false (show¬(1:Int)=0 by omega)]))
    by_cases c3:0≤i∧i<16
    ·obtain⟨j,rfl⟩: ∃j:Nat,i=j:=⟨i.toNat,by omega⟩
     refine callVT (vs:=[.slice (some ⟨g,0,none⟩) 16 cap,.pointer (some ⟨q,0,none⟩)]) rfl (by kernel_rfl) (at1_in (w:=w1.drew) (o:=0) (n:=16) (i:=j) (p:=(1,0,(j:Int))) hat1 rfl (by omega)) ?_
     rintro v w' ⟨rfl,rfl⟩
     (repeat(first|with_reducible(first|refine nx ?_|refine r_6 rfl ?_)|simp only[go_sem]))
     refine hin _ (Only.drew [] _) (1,j) _ ?_ ?_
     ·simp[seg,c3]
     ·exact(m1.keep0 (Only.drew [] _)).place1 rfl hg hcap2 (by omega)
    ·refine callVT (vs:=[.slice (some ⟨g,0,none⟩) 16 cap,.pointer (some ⟨q,0,none⟩)]) rfl (by kernel_rfl) (at1_out (w:=w1.drew) (n:=16) (p:=(1,0,i)) hat1 (by simp only;omega)) ?_
     rintro v w' ⟨rfl,rfl⟩
     (repeat(first|with_reducible(first|refine nx ?_|refine r_6 rfl ?_)|simp only[go_sem]))
     exact out _ (Only.drew [] _) (by simp[seg];omega)
   ·(repeat(first|with_reducible(first|refine nx ?_|refine r_6 rfl ?_)|simp only[go_sem,hc.cell,hb.cell,beq_int_true (rfl:(1:Int)=1),beq_int_false c2,beq_int_false (show¬(1:Int)=0 by omega),beq_int_false (show¬(1:Int)=2 by omega)]))
    exact out _ (Only.drew [] _) (by simp[seg,c2])
  ·by_cases c1':k=2
   ·subst c1'
    by_cases c2:m=0
    ·subst c2
     obtain⟨a',cap,hv⟩:=m1.h2.val
     subst hv
     (repeat(first|with_reducible(first|refine nx ?_|refine r_6 rfl ?_)|simp only[go_sem,hc.cell,hb.cell,beq_int_true (rfl:(2:Int)=2),beq_int_true (rfl:(0:Int)=0),beq_int_false (show¬(2:Int)=0 by omega),beq_int_false (show¬(2:Int)=1 by omega)]))
     by_cases c3:0≤i∧i<s.Q.length
     ·obtain⟨j,rfl⟩: ∃j:Nat,i=j:=⟨i.toNat,by omega⟩
      obtain⟨g,cap,ys,hv,hg,hfs,hcap⟩:=m1.h2.pos (by omega)
      subst hfs
      cases hv
      have hcap2:(ints s.Q++ys).length=cap:=by
       rcases m1.h2.2 with⟨_,h0,_⟩|⟨g',cap',ys',T,h1,h2,h3,h4,h5⟩
       ·omega
       ·cases h1;cases h2
        obtain⟨T',hg⟩:=hg
        rw[hg]at h3;simp at h3
        obtain⟨h3,_⟩:=h3
        rw[h3];simpa using h4
      refine callVT (vs:=[.slice (some ⟨g,0,none⟩) s.Q.length cap,.pointer (some ⟨q,0,none⟩)]) rfl (by kernel_rfl) (at1_in (w:=w1.drew) (o:=0) (n:=s.Q.length) (i:=j) (p:=(2,0,(j:Int))) hat1 rfl (by omega)) ?_
      rintro v w' ⟨rfl,rfl⟩
      (repeat(first|with_reducible(first|refine nx ?_|refine r_6 rfl ?_)|simp only[go_sem]))
      refine hin _ (Only.drew [] _) (2,j) _ ?_ ?_
      ·simp[seg];omega
      ·exact(m1.keep0 (Only.drew [] _)).place2 rfl hg hcap2 (by omega)
     ·refine callVT (vs:=[.slice a' s.Q.length cap,.pointer (some ⟨q,0,none⟩)]) rfl (by kernel_rfl) (at1_out (w:=w1.drew) (n:=s.Q.length) (p:=(2,0,i)) hat1 (by simp only;omega)) ?_
      rintro v w' ⟨rfl,rfl⟩
      (repeat(first|with_reducible(first|refine nx ?_|refine r_6 rfl ?_)|simp only[go_sem]))
      exact out _ (Only.drew [] _) (by simp[seg];omega)
    ·(repeat(first|with_reducible(first|refine nx ?_|refine r_6 rfl ?_)|simp only[go_sem,hc.cell,hb.cell,beq_int_true (rfl:(2:Int)=2),beq_int_false c2,beq_int_false (show¬(2:Int)=0 by omega),beq_int_false (show¬(2:Int)=1 by omega)]))
     exact out _ (Only.drew [] _) (by simp[seg,c2])
   ·(repeat(first|with_reducible(first|refine nx ?_|refine r_6 rfl ?_)|simp only[go_sem,hc.cell,hb.cell,beq_int_false c0,beq_int_false c1,beq_int_false c1']))
    exact out _ (Only.drew [] _) (by simp[seg,c0,c1,c1'])
end Rt
end Go.Proofs.YtgcofabdialaaaaGreat
end
section
namespace Go.Proofs.YtgcofabdialaaaaGreat
namespace Rt
set_option maxRecDepth 8000
theorem lt_of_get {xs:List Value} {i:Nat} {v:Value} (h:xs[i]? =some v):i<xs.length:=(List.getElem?_eq_some_iff.1 h).1
theorem place_m {w : World} {a : Option Addr} {fp : List Nat} {m : MO} (h : PR w a fp m) (p : PT) : Cs Tryz.prog 214 [.pointer a, .agg ⟨plV p⟩] w fun v w' => Only [] w w' ∧
    ((m = none ∧ v = .tuple #[.pointer none, .int .i64 5]) ∨ ∃ s, m = some s ∧ ((seg s p = none ∧ v = .tuple #[.pointer none, .int .i64 1]) ∨
      ∃ x b d, seg s p = some x ∧ a = some ⟨b, 0, none⟩ ∧ v = .tuple #[.pointer (some d), .int .i64 0] ∧ PlaceAt w' b s fp x d)) := by
  refine enter_roots_Roots_place rfl ?_
  unfold x_roots_Roots_place
  (repeat (first | with_reducible (first | refine nx ?_ | refine r_6 rfl ?_) | simp only [go_sem]))
  refine boxT fun q w1 hq hs1 hat1 ho1 => ?_
  have h' := h.keep0 ho1
  (repeat (first | with_reducible (first | refine nx ?_ | refine r_6 rfl ?_) | simp only [go_sem]))
  refine callT0 (made_m h') ?_
  match m, h, h' with
  | none, _, _ =>
    (repeat (first | with_reducible (first | refine nx ?_ | refine r_6 rfl ?_) | simp only [go_sem, Option.isSome_none]))
    exact ho1
  | some s, _, ⟨b, hb, hp⟩ =>
    subst hb
    have hc : At w1 q [.int .i64 p.1, .int .i64 p.2.1, .int .i64 p.2.2] := hat1
    have hcs : cellsAt w1 ⟨q, 0, none⟩ 3 = some (plV p) := cellsAt_at hat1 0 3 (by simp [plV])
    (repeat (first | with_reducible (first | refine nx ?_ | refine r_6 rfl ?_) | simp only [go_sem, Option.isSome_some, hcs]))
    refine callT (at_m hp p) ?_
    rintro v w2 ⟨ho2, ad, rfl, hsome, hx⟩
    cases e : seg s p with
    | none =>
      rw [e] at hsome
      cases ad with
      | some d => cases hsome
      | none =>
        (repeat (first | with_reducible (first | refine nx ?_ | refine r_6 rfl ?_) | simp only [go_sem]))
        exact ⟨ho1.nil ho2, .inr ⟨s, rfl, .inl (by first | exact e | exact ⟨e, rfl⟩)⟩⟩
    | some x =>
      obtain ⟨d, rfl, hd⟩ := hx x e
      (repeat (first | with_reducible (first | refine nx ?_ | refine r_6 rfl ?_) | simp only [go_sem]))
      exact ⟨ho1.nil ho2, .inr ⟨s, rfl, .inr ⟨x, b, d, e, rfl, rfl, hd⟩⟩⟩
theorem Get_m {w:World} {a:Option Addr} {fp:List Nat} {m:MO} (h:PR w a fp m) (p:PT):Cs Tryz.prog 185 [.pointer a,.agg ⟨plV p⟩] w fun v w'=>v=.tuple #[.int .i64 (getO m p).1,.int .i64 (getO m p).2]∧Only [] w w':=by
 refine enter_roots_Roots_Get rfl ?_
 unfold x_roots_Roots_Get
 (repeat(first|with_reducible(first|refine nx ?_|refine r_6 rfl ?_)|simp only[go_sem]))
 refine boxT fun q w1 hq hs1 hat1 ho1=>?_
 have h':=h.keep0 ho1
 have hcs:cellsAt w1 ⟨q,0,none⟩ 3=some (plV p):=cellsAt_at hat1 0 3 (by simp[plV])
 (repeat(first|with_reducible(first|refine nx ?_|refine r_6 rfl ?_)|simp only[go_sem,hcs]))
 refine callT (place_m h' p) ?_
 rintro v w2 ⟨ho2,⟨rfl,rfl⟩|⟨s,rfl,⟨e,rfl⟩|⟨x,b,d,e,rfl,rfl,hd⟩⟩⟩
 ·(repeat(first|with_reducible(first|refine nx ?_|refine r_6 rfl ?_)|simp only[go_sem,bne_int_true (show¬(5:Int)=0 by omega)]))
  exact⟨rfl,ho1.nil ho2⟩
 ·(repeat(first|with_reducible(first|refine nx ?_|refine r_6 rfl ?_)|simp only[go_sem,bne_int_true (show¬(1:Int)=0 by omega)]))
  exact⟨by simp only[getO,e],ho1.nil ho2⟩
 ·obtain⟨g,i,xs,rfl,hat,hget,hg,hset⟩:=hd
  (repeat(first|with_reducible(first|refine nx ?_|refine r_6 rfl ?_)|simp only[go_sem,bne_int_false (rfl:(0:Int)=0),hat.cell,hget]))
  exact⟨by simp only[getO,e],ho1.nil ho2⟩
theorem Set_m {w:World} {a:Option Addr} {fp:List Nat} {m:MO} (h:PR w a fp m) (p:PT) (y:Int):Cs Tryz.prog 162 [.pointer a,.agg ⟨plV p⟩,.int .i64 y] w fun v w'=>v=.int .i64 (setO m p y).1∧PR w' a fp (setO m p y).2∧Only fp w w'∧((setO m p y).1≠0→Only [] w w'):=by
 refine enter_roots_Roots_Set rfl ?_
 unfold x_roots_Roots_Set
 (repeat(first|with_reducible(first|refine nx ?_|refine r_6 rfl ?_)|simp only[go_sem]))
 refine boxT fun q w1 hq hs1 hat1 ho1=>?_
 have h':=h.keep0 ho1
 have hcs:cellsAt w1 ⟨q,0,none⟩ 3=some (plV p):=cellsAt_at hat1 0 3 (by simp[plV])
 have hc:At w1 q [.int .i64 p.1,.int .i64 p.2.1,.int .i64 p.2.2]:=hat1
 (repeat(first|with_reducible(first|refine nx ?_|refine r_6 rfl ?_)|simp only[go_sem,hcs]))
 refine callT (place_m h' p) ?_
 rintro v w2 ⟨ho2,⟨rfl,rfl⟩|⟨s,rfl,⟨e,rfl⟩|⟨x,b,d,e,rfl,rfl,hd⟩⟩⟩
 ·(repeat(first|with_reducible(first|refine nx ?_|refine r_6 rfl ?_)|simp only[go_sem,bne_int_true (show¬(5:Int)=0 by omega)]))
  exact⟨rfl,h'.keep0 ho2,(ho1.nil ho2).of_nil,fun _=>ho1.nil ho2⟩
 ·(repeat(first|with_reducible(first|refine nx ?_|refine r_6 rfl ?_)|simp only[go_sem,bne_int_true (show¬(1:Int)=0 by omega)]))
  exact⟨by simp only[setO,e],by simp only[setO,e];exact h'.keep0 ho2,(ho1.nil ho2).of_nil,fun _=>ho1.nil ho2⟩
 ·obtain⟨g,i,xs,rfl,hat,hget,hg,hset⟩:=hd
  have hc2:=hc.keep0 ho2
  have bad:badA p y=true→(setO (some s) p y)=(1,some s):=fun hb=>by simp only[setO,e,hb,if_true]
  have good:badA p y=false→(setO (some s) p y)=(0,some (s.wr x y)):=fun hb=>by simp only[setO,e,hb,Bool.false_eq_true,if_false]
  have fin:badA p y=false→ ∀w',At w' g (xs.set i (.int .i64 y))→Only [g] w2 w'→(Value.int .i64 0)=.int .i64 (setO (some s) p y).1∧PR w' (some ⟨b,0,none⟩) fp (setO (some s) p y).2∧Only fp w w'∧((setO (some s) p y).1≠0→Only [] w w'):=by
   intro hb w' hat' ho'
   rw[good hb]
   exact⟨rfl,⟨b,rfl,hset y w' hat' ho'⟩,(ho1.nil ho2).of_nil.same (ho'.mono fun x hx=>by simp only[List.mem_singleton]at hx;subst hx;exact .inl hg),fun hne=>absurd rfl hne⟩
  by_cases c1:y<0
  ·(repeat(first|with_reducible(first|refine nx ?_|refine r_6 rfl ?_)|simp only[go_sem,bne_int_false (rfl:(0:Int)=0),decide_eq_true c1]))
   rw[bad (by simp[badA,c1])]
   exact⟨rfl,h'.keep0 ho2,(ho1.nil ho2).of_nil,fun _=>ho1.nil ho2⟩
  ·by_cases c2:y=0
   ·by_cases c3:p.1=2
    ·(repeat(first|with_reducible(first|refine nx ?_|refine r_6 rfl ?_)|simp only[go_sem,bne_int_false (rfl:(0:Int)=0),decide_eq_false c1,beq_int_true c2,beq_int_true c3,hc2.cell]))
     rw[bad (by simp[badA,c2,c3])]
     exact⟨rfl,h'.keep0 ho2,(ho1.nil ho2).of_nil,fun _=>ho1.nil ho2⟩
    ·(repeat(first|with_reducible(first|refine nx ?_|refine r_6 rfl ?_)|simp only[go_sem,bne_int_false (rfl:(0:Int)=0),decide_eq_false c1,beq_int_true c2,beq_int_false c3,hc2.cell]))
     refine stT hat (lt_of_get hget) rfl fun w3 hs3 hat3 ho3=>?_
     (repeat(first|with_reducible(first|refine nx ?_|refine r_6 rfl ?_)|simp only[go_sem]))
     exact fin (by simp[badA,c1,c3]) w3 hat3 ho3
   ·(repeat(first|with_reducible(first|refine nx ?_|refine r_6 rfl ?_)|simp only[go_sem,bne_int_false (rfl:(0:Int)=0),decide_eq_false c1,beq_int_false c2,hc2.cell]))
    refine stT hat (lt_of_get hget) rfl fun w3 hs3 hat3 ho3=>?_
    (repeat(first|with_reducible(first|refine nx ?_|refine r_6 rfl ?_)|simp only[go_sem]))
    exact fin (by simp[badA,c1,c2]) w3 hat3 ho3
theorem PMs.turn {w w':World} {b:Nat} {s:MS} {vs vg vq vq':Value} {fs fg fq fq':List Nat} {q:List Int} (h:PMs w b s vs vg vq fs fg fq) (hl:q.length≤64) (hq:Sl w' 1 vq' q.length (ints q) fq') (hb:At w' b [.int .i64 s.M,vs,vg,vq'])
  (ho:Only (b::fq) w w') (hf: ∀x,x∈fq'→x∈fq∨w.heap.size≤x):PM w' b {s with Q:=q} (b::(fs++(fg++fq'))):=by
 have hnd:=h.nd
 simp only[List.nodup_cons,List.mem_append,not_or,List.nodup_append]at hnd
 obtain⟨⟨n1,n2,n3⟩,n4,⟨n5,n6,n7⟩,n8⟩:=hnd
 have l0:=h.hb.lt
 refine⟨vs,vg,vq',fs,fg,fq',rfl,⟨⟨h.ok.m1,h.ok.m4,h.ok.ls,h.ok.lg,hl⟩,?_,hb,h.h0.keep ho ?_,h.h1.keep ho ?_,hq⟩⟩
 ·simp only[List.nodup_cons,List.mem_append,not_or,List.nodup_append]
  refine⟨⟨n1,n2,fun hx=>?_⟩,n4,⟨n5,hq.nodup,fun x hx y hy e=>?_⟩,fun x hx y hy e=>?_⟩
  ·rcases hf b hx with hx|hx
   ·exact n3 hx
   ·omega
  ·subst e
   rcases hf x hy with hy|hy
   ·exact n7 x hx x hy rfl
   ·have:=h.h1.lt x hx;omega
  ·subst e
   rcases hy with hy|hy
   ·exact n8 x hx x (.inl hy) rfl
   ·rcases hf x hy with hy|hy
    ·exact n8 x hx x (.inr hy) rfl
    ·have:=h.h0.lt x hx;omega
 ·intro x hx hx2
  simp only[List.mem_cons]at hx2
  rcases hx2 with rfl|hx2
  ·exact n1 hx
  ·exact n8 x hx x (.inr hx2) rfl
 ·intro x hx hx2
  simp only[List.mem_cons]at hx2
  rcases hx2 with rfl|hx2
  ·exact n2 hx
  ·exact n7 x hx x hx2 rfl
theorem Push_m {w:World} {a:Option Addr} {fp:List Nat} {m:MO} (h:PR w a fp m) (y:Int):Cs Tryz.prog 160 [.pointer a,.int .i64 y] w fun v w'=>v=.int .i64 (pushO m y).1∧Only fp w w'∧((pushO m y).1≠0→Only [] w w')∧ ∃fp',PR w' a fp' (pushO m y).2∧ ∀x,x∈fp'→x∈fp∨w.heap.size≤x:=by
 refine enter_roots_Roots_Push rfl ?_
 unfold x_roots_Roots_Push
 (repeat(first|with_reducible(first|refine nx ?_|refine r_6 rfl ?_)|simp only[go_sem]))
 refine callT0 (made_m h) ?_
 match m,h with
 |none,h=>
  (repeat(first|with_reducible(first|refine nx ?_|refine r_6 rfl ?_)|simp only[go_sem,Option.isSome_none]))
  exact⟨rfl,Only.refl _ _,fun _=>Only.refl _ _,fp,h,fun x hx=>.inl hx⟩
 |some s,⟨b,hb,vs,vg,vq,fs,fg,fq,hfp,hp⟩=>
  subst hb
  subst hfp
  have h0:PR w (some ⟨b,0,none⟩) (b::(fs++(fg++fq))) (some s):=⟨b,rfl,vs,vg,vq,fs,fg,fq,rfl,hp⟩
  obtain⟨aq,cq,hvq⟩:=hp.h2.val
  subst hvq
  by_cases c1:y≤0
  ·(repeat(first|with_reducible(first|refine nx ?_|refine r_6 rfl ?_)|simp only[go_sem,Option.isSome_some,decide_eq_true c1]))
   rw[show pushO (some s) y=(1,some s) by simp[pushO,c1]]
   exact⟨rfl,Only.refl _ _,fun _=>Only.refl _ _,_,h0,fun x hx=>.inl (by simpa using hx)⟩
  ·by_cases c2:s.Q.length=64
   ·(repeat(first|with_reducible(first|refine nx ?_|refine r_6 rfl ?_)|simp only[go_sem,Option.isSome_some,decide_eq_false c1,hp.hb.cell,beq_int_true (show(s.Q.length:Int)=64 by omega)]))
    rw[show pushO (some s) y=(6,some s) by simp[pushO,c1,c2]]
    exact⟨rfl,Only.refl _ _,fun _=>Only.refl _ _,_,h0,fun x hx=>.inl (by simpa using hx)⟩
   ·(repeat(first|with_reducible(first|refine nx ?_|refine r_6 rfl ?_)|simp only[go_sem,Option.isSome_some,decide_eq_false c1,hp.hb.cell,beq_int_false (show¬(s.Q.length:Int)=64 by omega)]))
    rw[fillL_one rfl rfl]
    (repeat(first|with_reducible(first|refine nx ?_|refine r_6 rfl ?_)|simp only[go_sem]))
    refine bslT fun q w1 hq hs1 hat1 ho1=>?_
    (repeat(first|with_reducible(first|refine nx ?_|refine r_6 rfl ?_)|simp only[go_sem]))
    refine appT (hp.h2.keep0 ho1) (SrcIs.at hat1 rfl) (by simp[oneC]) (by have:=hp.ok.lq;omega) (by have:=hp.ok.lq;omega) ?_
    intro v' w2 fp' hs2 hfp ho2 _
    have hbn:b∉fq:=by have:=hp.nd;simp only[List.nodup_cons,List.mem_append,not_or]at this;exact this.1.2.2
    have hb2:=(hp.hb.keep0 ho1).keep ho2 hbn
    obtain⟨av,cv,hv'⟩:=hs2.val
    have hone:oneC v'=true:=by rw[hv'];rfl
    (repeat(first|with_reducible(first|refine nx ?_|refine r_6 rfl ?_)|simp only[go_sem]))
    refine stT hb2 (by simp) hone fun w3 hs3 hat3 ho3=>?_
    (repeat(first|with_reducible(first|refine nx ?_|refine r_6 rfl ?_)|simp only[go_sem]))
    have hlt:=hp.hb.lt
    have hmem: ∀x,x∈fp'→x∈fq∨w.heap.size≤x:=by
     intro x hx
     rcases hfp with rfl|rfl
     ·exact .inl hx
     ·simp only[List.mem_singleton]at hx;right;omega
    have hbf:b∉fp':=by
     intro hx
     rcases hmem b hx with hx|hx
     ·exact hbn hx
     ·omega
    have hO:Only (b::fq) w w3:=(ho1.of_nil.same (ho2.mono fun x hx=>.inl (by simp[hx]))).same (ho3.mono fun x hx=>.inl (by simp only[List.mem_singleton]at hx;simp[hx]))
    have hq3:Sl w3 1 v' (s.Q++[y]).length (ints (s.Q++[y])) fp':=by
     rw[ints_append,List.length_append]
     exact hs2.keep ho3 fun x hx hx2=>by simp only[List.mem_singleton]at hx2;subst hx2;exact hbf hx
    have hp3:=hp.turn (q:=s.Q++[y]) (by simp;have:=hp.ok.lq;omega) hq3 hat3 hO hmem
    rw[show pushO (some s) y=(0,some {s with Q:=s.Q++[y]}) by simp[pushO,c1,c2]]
    refine⟨rfl,hO.mono fun x hx=>.inl ?_,fun hne=>absurd rfl hne,_,⟨b,rfl,hp3⟩,fun x hx=>?_⟩
    ·simp only[List.mem_cons]at hx
     rcases hx with rfl|hx<;>simp_all
    ·simp only[List.mem_cons,List.mem_append]at hx⊢
     rcases hx with rfl|hx|hx|hx
     ·exact .inl (.inl rfl)
     ·exact .inl (.inr (.inl hx))
     ·exact .inl (.inr (.inr (.inl hx)))
     ·exact(hmem x hx).imp (fun h=>.inr (.inr (.inr h))) id
end Rt
end Go.Proofs.YtgcofabdialaaaaGreat
end
section
namespace Go.Proofs.YtgcofabdialaaaaGreat
namespace Rt
set_option maxRecDepth 8000
theorem New_m (w:World) (n:Int):Cs Tryz.prog 81 [.int .i64 n] w fun v w'=>Only [] w w'∧ ∃a fp,v=.tuple #[.pointer a,.int .i64 (if(newO n).isSome then 0 else 1)]∧PR w' a fp (newO n)∧(newO n=none→a=none)∧ ∀x,x∈fp→w.heap.size≤x:=by
 refine enter_roots_New rfl ?_
 unfold x_roots_New
 by_cases c1:n<1
 ·(repeat(first|with_reducible(first|refine nx ?_|refine r_6 rfl ?_)|simp only[go_sem,decide_eq_true c1]))
  have:newO n=none:=by unfold newO;rw[if_neg (by omega)]
  rw[this]
  exact⟨Only.refl _ _,none,[],rfl,.inl ⟨rfl,rfl⟩,fun _=>rfl,by simp⟩
 by_cases c2:4<n
 ·(repeat(first|with_reducible(first|refine nx ?_|refine r_6 rfl ?_)|simp only[go_sem,decide_eq_false c1,decide_eq_true c2]))
  have:newO n=none:=by unfold newO;rw[if_neg (by omega)]
  rw[this]
  exact⟨Only.refl _ _,none,[],rfl,.inl ⟨rfl,rfl⟩,fun _=>rfl,by simp⟩
 ·(repeat(first|with_reducible(first|refine nx ?_|refine r_6 rfl ?_)|simp only[go_sem,decide_eq_false c1,decide_eq_false c2]))
  obtain⟨k,rfl⟩: ∃k:Nat,n=k:=⟨n.toNat,by omega⟩
  have e1:IntKind.i64.wrap ((k:Int)*16)=((16*k:Nat):Int):=by rw[show((k:Int)*16)=((16*k:Nat):Int) by omega,i64_of_nat _ (by omega)]
  have hnew:newO (k:Int)=some ⟨k,List.replicate (16*k) 0,List.replicate 16 0,[]⟩:=by
   unfold newO;rw[if_pos (by omega)];simp
  have fin: ∀q g0 g1 w',Only [] w w'→q<w'.heap.size→At w' q [.int .i64 (k:Int),.slice (some ⟨g0,0,none⟩) (16*k) (16*k),.slice (some ⟨g1,0,none⟩) 16 16,.slice none 0 0]→At w' g0 (List.replicate (16*k) (.int .i64 0))→At w' g1 (List.replicate 16 (.int .i64 0))→
    q≠g0→q≠g1→g0≠g1→w.heap.size≤q→w.heap.size≤g0→w.heap.size≤g1→
    Only [] w w'∧ ∃a fp,Value.tuple #[.pointer (some ⟨q,0,none⟩),.int .i64 0]=.tuple #[.pointer a,.int .i64 (if(newO (k:Int)).isSome then 0 else 1)]∧PR w' a fp (newO (k:Int))∧(newO (k:Int)=none→a=none)∧ ∀x,x∈fp→w.heap.size≤x:=by
   intro q g0 g1 w' ho _ hb h0 h1 n1 n2 n3 l1 l2 l3
   rw[hnew]
   have e0:List.replicate (16*k) (Value.int .i64 0)=ints (List.replicate (16*k) 0)++[]:=by rw[ints_replicate];simp
   have e2:List.replicate 16 (Value.int .i64 0)=ints (List.replicate 16 0)++[]:=by rw[ints_replicate];simp
   rw[e0]at h0
   rw[e2]at h1
   refine⟨ho,some ⟨q,0,none⟩,q::([g0]++([g1]++[])),rfl,⟨q,rfl,_,_,_,[g0],[g1],[],rfl,⟨newO_ok hnew,by simp[n1,n2,n3],hb,Sl.mk1 h0 (by simp[ints_length]) (by simp[ints_length]),Sl.mk1 h1 (by simp[ints_length]) (by simp[ints_length]),Sl.nil1 _⟩⟩,(fun h=>by cases h),fun x hx=>?_⟩
   simp only[List.cons_append,List.nil_append,List.mem_cons,List.not_mem_nil,or_false]at hx
   rcases hx with rfl|rfl|rfl<;>assumption
  refine run_drt [] ?_
  (repeat(first|with_reducible(first|refine nx ?_|refine r_6 rfl ?_)|simp only[go_sem,e1]))
  have hd:w.drew.heap.size=w.heap.size:=rfl
  refine⟨?_,?_⟩
  ·refine mksS (Nat.le_refl _) (by omega) (by omega) fun g0 w1 hg0 hs1 hat1 ho1=>⟨.inl rfl,?_⟩
   (repeat(first|with_reducible(first|refine nx ?_|refine r_6 rfl ?_)|simp only[go_sem]))
   refine mksS (n:=16) (m:=16) (Nat.le_refl _) (by omega) (by omega) fun g1 w2 hg1 hs2 hat2 ho2=>⟨.inl rfl,?_⟩
   (repeat(first|with_reducible(first|refine nx ?_|refine r_6 rfl ?_)|simp only[go_sem]))
   rw[fillL_one rfl rfl]
   (repeat(first|with_reducible(first|refine nx ?_|refine r_6 rfl ?_)|simp only[go_sem]))
   rw[fillL_one rfl rfl]
   (repeat(first|with_reducible(first|refine nx ?_|refine r_6 rfl ?_)|simp only[go_sem]))
   rw[fillL_one rfl rfl]
   (repeat(first|with_reducible(first|refine nx ?_|refine r_6 rfl ?_)|simp only[go_sem]))
   rw[fillL_one rfl rfl]
   (repeat(first|with_reducible(first|refine nx ?_|refine r_6 rfl ?_)|simp only[go_sem]))
   refine boxS fun q w3 hq hs3 hat3 ho3=>⟨.inl rfl,?_⟩
   (repeat(first|with_reducible(first|refine nx ?_|refine r_6 rfl ?_)|simp only[go_sem]))
   rw[rowZ_one]at hat1 hat2
   exact fin q g0 g1 w3 (Only.drew_left ((ho1.nil ho2).nil ho3)) (by omega) hat3 ((hat1.keep0 ho2).keep0 ho3) (hat2.keep0 ho3) (by omega) (by omega) (by omega) (by omega) (by omega) (by omega)
  ·refine mksS (n:=16) (m:=16) (Nat.le_refl _) (by omega) (by omega) fun g1 w1 hg1 hs1 hat1 ho1=>⟨.inl rfl,?_⟩
   (repeat(first|with_reducible(first|refine nx ?_|refine r_6 rfl ?_)|simp only[go_sem]))
   refine mksS (Nat.le_refl _) (by omega) (by omega) fun g0 w2 hg0 hs2 hat2 ho2=>⟨.inl rfl,?_⟩
   (repeat(first|with_reducible(first|refine nx ?_|refine r_6 rfl ?_)|simp only[go_sem]))
   rw[fillL_one rfl rfl]
   (repeat(first|with_reducible(first|refine nx ?_|refine r_6 rfl ?_)|simp only[go_sem]))
   rw[fillL_one rfl rfl]
   (repeat(first|with_reducible(first|refine nx ?_|refine r_6 rfl ?_)|simp only[go_sem]))
   rw[fillL_one rfl rfl]
   (repeat(first|with_reducible(first|refine nx ?_|refine r_6 rfl ?_)|simp only[go_sem]))
   rw[fillL_one rfl rfl]
   (repeat(first|with_reducible(first|refine nx ?_|refine r_6 rfl ?_)|simp only[go_sem]))
   refine boxS fun q w3 hq hs3 hat3 ho3=>⟨.inl rfl,?_⟩
   (repeat(first|with_reducible(first|refine nx ?_|refine r_6 rfl ?_)|simp only[go_sem]))
   rw[rowZ_one]at hat1 hat2
   exact fin q g0 g1 w3 (Only.drew_left ((ho1.nil ho2).nil ho3)) (by omega) hat3 (hat2.keep0 ho3) ((hat1.keep0 ho2).keep0 ho3) (by omega) (by omega) (by omega) (by omega) (by omega) (by omega)
end Rt
end Go.Proofs.YtgcofabdialaaaaGreat
end
section
namespace Go.Proofs.YtgcofabdialaaaaGreat
namespace Rt
set_option maxRecDepth 8000
def stg (f:Int→Int) (L:List Int) (i:Nat):List Int:=(L.take i).map f++L.drop i
theorem stg_length (f:Int→Int) (L:List Int) (i:Nat):(stg f L i).length=L.length:=by simp only[stg,List.length_append,List.length_map,List.length_take,List.length_drop];omega
theorem stg_zero (f:Int→Int) (L:List Int):stg f L 0=L:=by simp[stg]
theorem stg_end (f:Int→Int) (L:List Int):stg f L L.length=L.map f:=by simp[stg]
theorem stg_get (f:Int→Int) {L:List Int} {i:Nat} (h:i<L.length):(stg f L i).getD i 0=L.getD i 0:=by
 simp only[stg,List.getD_eq_getElem?_getD]
 rw[List.getElem?_append_right (by simp;omega),List.length_map,List.length_take,Nat.min_eq_left (by omega),Nat.sub_self]
 simp
theorem stg_set (f:Int→Int) {L:List Int} {i:Nat} (h:i<L.length):(stg f L i).set i (f (L.getD i 0))=stg f L (i+1):=by
 have hl:((L.take i).map f).length=i:=by simp;omega
 unfold stg
 rw[List.set_append_right _ _ (by omega),hl,Nat.sub_self,List.drop_eq_getElem_cons h,List.set_cons_zero,List.take_succ_eq_append_getElem h,List.map_append,List.append_assoc]
 simp[h]
theorem stg_skip (f:Int→Int) (hf:f 0=0) {L:List Int} {i:Nat} (h:i<L.length) (h0:L.getD i 0=0):stg f L i=stg f L (i+1):=by
 rw[←stg_set f h,h0,hf]
 apply List.ext_getElem (by simp)
 intro k h1 h2
 rw[List.getElem_set]
 split
 ·rename_i e;subst e
  have:=stg_get f h
  rw[h0]at this
  simp only[List.getD_eq_getElem?_getD,List.getElem?_eq_getElem h1,Option.getD_some]at this
  exact this
 ·rfl
def rowL (s:MS):Nat→List Int
 |0=>s.S
 |1=>s.G
 |_=>s.Q
def pick3 {α:Type} (a b c:α):Nat→α
 |0=>a
 |1=>b
 |_=>c
def pl (k i:Nat):PT:=if k=0 then(0,((i/16:Nat):Int),((i%16:Nat):Int))else((k:Int),0,(i:Int))
def fl (k:Nat) (L:List Int):List (PT×Int):=(((List.range L.length).map (pl k)).zip L).filter fun x=>x.2 !=0
def stR (f:Int→Int) (s:MS) (k i t:Nat):List Int:=if t<k then(rowL s t).map f else if t=k then stg f (rowL s t) i else rowL s t
theorem stR_start (f:Int→Int) (s:MS) (t:Nat):stR f s 0 0 t=rowL s t:=by
 unfold stR;rw[if_neg (by omega)];split
 ·exact stg_zero _ _
 ·rfl
theorem stR_next (f:Int→Int) (s:MS) (k t:Nat):stR f s k (rowL s k).length t=stR f s (k+1) 0 t:=by
 unfold stR
 by_cases h1:t<k
 ·rw[if_pos h1,if_pos (by omega)]
 ·rw[if_neg h1]
  by_cases h2:t=k
  ·subst h2;rw[if_pos rfl,if_pos (by omega),stg_end]
  ·rw[if_neg h2,if_neg (by omega)]
   split
   ·exact(stg_zero _ _).symm
   ·rfl
def Rows (w:World) (s:MS) (f:Int→Int) (vs vg vq:Value) (fs fg fq:List Nat) (k i:Nat):Prop:=
 ∀t,t<3→Sl w 1 (pick3 vs vg vq t) (rowL s t).length (ints (stR f s k i t)) (pick3 fs fg fq t)
theorem PMs.rows {w:World} {b:Nat} {s:MS} {vs vg vq:Value} {fs fg fq:List Nat} (h:PMs w b s vs vg vq fs fg fq) (f:Int→Int):Rows w s f vs vg vq fs fg fq 0 0:=by
 intro t ht
 rw[stR_start]
 have:t=0∨t=1∨t=2:=by omega
 rcases this with rfl|rfl|rfl
 ·have:=h.h0;rw[←h.ok.ls]at this;exact this
 ·have:=h.h1;rw[←h.ok.lg]at this;exact this
 ·exact h.h2
theorem Rows.keep0 {w w':World} {s:MS} {f:Int→Int} {vs vg vq:Value} {fs fg fq:List Nat} {k i:Nat} (h:Rows w s f vs vg vq fs fg fq k i) (ho:Only [] w w'):Rows w' s f vs vg vq fs fg fq k i:=fun t ht=>(h t ht).keep0 ho
theorem pick3_mem {fs fg fq:List Nat} {t x:Nat} (h:x∈pick3 fs fg fq t):x∈fs++(fg++fq):=by
 unfold pick3 at h
 split at h<;>simp[h]
theorem nd_pick {b:Nat} {fs fg fq:List Nat} {t u x:Nat} (h:(b::(fs++(fg++fq))).Nodup) (ht:t<3) (hu:u<3) (hne:t≠u) (hx:x∈pick3 fs fg fq t) (hy:x∈pick3 fs fg fq u):False:=by
 simp only[List.nodup_cons,List.mem_append,not_or,List.nodup_append]at h
 obtain⟨_,_,⟨_,_,n7⟩,n8⟩:=h
 have h1:t=0∨t=1∨t=2:=by omega
 have h2:u=0∨u=1∨u=2:=by omega
 rcases h1 with rfl|rfl|rfl<;>rcases h2 with rfl|rfl|rfl<;>simp only[pick3]at hx hy
 ·exact hne rfl
 ·exact n8 x hx x (.inl hy) rfl
 ·exact n8 x hx x (.inr hy) rfl
 ·exact n8 x hy x (.inl hx) rfl
 ·exact hne rfl
 ·exact n7 x hx x hy rfl
 ·exact n8 x hy x (.inr hx) rfl
 ·exact n7 x hy x hx rfl
 ·exact hne rfl
theorem Rows.at {w:World} {s:MS} {f:Int→Int} {vs vg vq:Value} {fs fg fq:List Nat} {k i:Nat} (h:Rows w s f vs vg vq fs fg fq k i) (hk:k<3) (hi:i<(rowL s k).length):
  ∃g cap ys,pick3 vs vg vq k=.slice (some ⟨g,0,none⟩) (rowL s k).length cap∧pick3 fs fg fq k=[g]∧At w g (ints (stg f (rowL s k) i)++ys)∧(ints (stg f (rowL s k) i)++ys).length=cap:=by
 have h0:=h k hk
 rcases h0.2 with⟨_,h1,_⟩|⟨g,cap,ys,T,h1,h2,h3,h4,h5⟩
 ·omega
 ·have e:stR f s k i k=stg f (rowL s k) i:=by unfold stR;rw[if_neg (by omega),if_pos rfl]
  rw[e]at h3 h4
  exact⟨g,cap,ys,h1,h2,⟨T,h3⟩,by simpa using h4⟩
theorem Rows.step {b:Nat} {w w':World} {s:MS} {f:Int→Int} {vs vg vq:Value} {fs fg fq:List Nat} {k i g cap:Nat} {ys:List Value} (hnd:(b::(fs++(fg++fq))).Nodup) (h:Rows w s f vs vg vq fs fg fq k i) (hk:k<3) (hi:i<(rowL s k).length)
  (hv:pick3 vs vg vq k=.slice (some ⟨g,0,none⟩) (rowL s k).length cap) (hfp:pick3 fs fg fq k=[g]) (hc:(ints (stg f (rowL s k) i)++ys).length=cap)
  (hat:At w' g ((ints (stg f (rowL s k) i)++ys).set i (.int .i64 (f ((rowL s k).getD i 0))))) (ho: ∀x,x∈fs++(fg++fq)→x≠g→w'.heap[x]? =w.heap[x]?):Rows w' s f vs vg vq fs fg fq k (i+1):=by
 intro t ht
 by_cases e:t=k
 ·subst e
  rw[ints_set ys (by rw[stg_length];exact hi),stg_set f hi]at hat
  rw[hv,hfp]
  have e1:stR f s t (i+1) t=stg f (rowL s t) (i+1):=by unfold stR;rw[if_neg (by omega),if_pos rfl]
  rw[e1]
  refine Sl.mk1 hat (by rw[ints_length,stg_length]) ?_
  rw[←hc];simp[ints_length,stg_length]
 ·have h0:=h t ht
  have e1:stR f s k (i+1) t=stR f s k i t:=by unfold stR;simp[e]
  rw[e1]
  refine⟨h0.1,?_⟩
  rcases h0.2 with h1|⟨g',cap',ys',T,h1,h2,h3,h4⟩
  ·exact .inl h1
  ·refine .inr ⟨g',cap',ys',T,h1,h2,?_,h4⟩
   rw[ho g' (pick3_mem (t:=t) (by rw[h2];simp)) (fun e2=>nd_pick hnd ht hk e (x:=g') (by rw[h2];simp) (by rw[hfp,e2];simp))]
   exact h3
theorem Rows.skip {w:World} {s:MS} {f:Int→Int} {vs vg vq:Value} {fs fg fq:List Nat} {k i:Nat} (h:Rows w s f vs vg vq fs fg fq k i) (hf:f 0=0) (hi:i<(rowL s k).length) (h0:(rowL s k).getD i 0=0):Rows w s f vs vg vq fs fg fq k (i+1):=by
 intro t ht
 have e:stR f s k (i+1) t=stR f s k i t:=by
  unfold stR
  by_cases e:t=k
  ·subst e;rw[if_neg (by omega),if_pos rfl,if_neg (by omega),if_pos rfl,stg_skip f hf hi h0]
  ·simp[e]
 rw[e];exact h t ht
theorem Rows.next {w:World} {s:MS} {f:Int→Int} {vs vg vq:Value} {fs fg fq:List Nat} {k:Nat} (h:Rows w s f vs vg vq fs fg fq k (rowL s k).length):Rows w s f vs vg vq fs fg fq (k+1) 0:=by
 intro t ht;rw[←stR_next];exact h t ht
end Rt
end Go.Proofs.YtgcofabdialaaaaGreat
end
section
namespace Go.Proofs.YtgcofabdialaaaaGreat
namespace Rt
set_option maxRecDepth 8000
def plsV (l:List PT):List Value:=l.flatMap plV
theorem plsV_length (l:List PT):(plsV l).length=l.length*3:=by induction l with
 |nil=>rfl
 |cons a l ih=>simp only[plsV,List.flatMap_cons,List.length_append,List.length_cons]at ih⊢;rw[ih];simp[plV];omega
theorem _root_.Go.Proofs.YtgcofabdialaaaaGreat.Sl.oneC {w:World} {sz:Nat} {v:Value} {n:Nat} {xs:List Value} {fp:List Nat} (h:Sl w sz v n xs fp):Go.Proofs.YtgcofabdialaaaaGreat.oneC v=true:=by
 obtain⟨a,c,e⟩:=h.val;rw[e];rfl
end Rt
end Go.Proofs.YtgcofabdialaaaaGreat
end
section
namespace Go.Proofs.YtgcofabdialaaaaGreat
namespace Rt
set_option maxRecDepth 8000
theorem take_contains_succ {xs:List Int} {i:Nat} {y:Int} (h:i<xs.length):(xs.take (i+1)).contains y=((xs.take i).contains y||decide (y=xs.getD i 0)):=by
 have e:xs.take (i+1)=xs.take i++[xs.getD i 0]:=by rw[List.take_succ_eq_append_getElem h];simp[h]
 rw[e,Bool.eq_iff_iff]
 simp
theorem Index_m {w : World} {D : List Nat} {v : Value} {xs : List Int} (h : RdB w D v xs) (hl : xs.length ≤ 100000) (y : Int) : Cs Tryz.prog 143 [v, .int .i64 y] w fun r w' => (∃ k : Int, r = .int .i64 k ∧ decide (0 ≤ k) = xs.contains y) ∧ w' = w := by
  refine enter_slices_Index___int_int_ rfl ?_
  unfold x_slices_Index___int_int_
  obtain ⟨a, cap, rfl, hrd⟩ := h
  (repeat (first | with_reducible (first | refine nx ?_ | refine r_6 rfl ?_) | simp only [go_sem]))
  refine run_loop (4 :: 5 :: 6 :: 7 :: 8 :: 9 :: 10 :: 11 :: 12 :: 13 :: 14 :: 15 :: 16 :: 17 :: 18 :: []) (fun g w' => ∃ i : Nat, g 8 = .int .i64 i ∧ g 7 = .int .i64 xs.length ∧ i ≤ xs.length ∧ (xs.take i).contains y = false ∧ w' = w) (fun g _ => upTo xs.length 8 g) ⟨0, by simp only [go_sem]; rfl, by simp only [go_sem], by omega, by simp, rfl⟩ fun g w' hI hnext => ?_
  obtain ⟨i, h8, h7, hi, hno, rfl⟩ := hI
  (repeat (first | with_reducible (first | refine nx ?_ | refine r_6 rfl ?_) | simp only [go_sem, h8, h7]))
  refine condT (fun hlt => ?_) (fun hge => ?_)
  · have hlt : i < xs.length := by simpa using hlt
    obtain ⟨p, rfl, _, hc⟩ := hrd i hlt
    have c1 : (0 : Int) ≤ (i : Int) ∧ (i : Int) < (xs.length : Int) := ⟨by omega, by omega⟩
    by_cases e : y = xs.getD i 0
    · (repeat (first | with_reducible (first | refine nx ?_ | refine r_6 rfl ?_) | simp only [go_sem, h8, h7, if_pos c1, Int.toNat_natCast, Nat.mul_one, hc, beq_int_true e]))
      refine ⟨i, rfl, ?_⟩
      have : xs.contains y = true := by
        rw [List.contains_iff_mem, e, List.getD_eq_getElem?_getD, List.getElem?_eq_getElem hlt]; simp
      rw [this]; simp
    · (repeat (first | with_reducible (first | refine nx ?_ | refine r_6 rfl ?_) | simp only [go_sem, h8, h7, if_pos c1, Int.toNat_natCast, Nat.mul_one, hc, beq_int_false e, i64_succ i (by omega)]))
      refine hnext _ w' ?_ ⟨i + 1, ?_, ?_, by omega, by rw [take_contains_succ hlt, hno]; simpa using e, rfl⟩ ?_
      · (repeat (first | with_reducible exact k_1 | with_reducible exact Keeps.ovr _ _ _ | refine Keeps.put ?_ rfl _ | exact k_1 | exact Keeps.ovr _ _ _ | refine Keeps.ovr2 ?_ rfl _))
      · simp only [go_sem]
      · simp only [go_sem, h7]
      · rw [upTo_int h8, upTo_int (k := .i64) (i := i + 1) (by simp only [go_sem])]; omega
  · have : i = xs.length := by have : ¬ (i < xs.length) := by simpa using hge
                               omega
    subst this
    (repeat (first | with_reducible (first | refine nx ?_ | refine r_6 rfl ?_) | simp only [go_sem]))
    refine ⟨-1, rfl, ?_⟩
    rw [List.take_length] at hno
    rw [hno]; rfl
theorem Contains_m {w:World} {D:List Nat} {v:Value} {xs:List Int} (h:RdB w D v xs) (hl:xs.length≤100000) (y:Int):Cs Tryz.prog 84 [v,.int .i64 y] w fun r w'=>r=.bool (xs.contains y)∧w'=w:=by
 refine enter_slices_Contains___int_int_ rfl ?_
 unfold x_slices_Contains___int_int_
 (repeat(first|with_reducible(first|refine nx ?_|refine r_6 rfl ?_)|simp only[go_sem]))
 refine callT (Index_m h hl y) ?_
 rintro r w' ⟨⟨k,rfl,hk⟩,rfl⟩
 (repeat(first|with_reducible(first|refine nx ?_|refine r_6 rfl ?_)|simp only[go_sem,hk]))
end Rt
end Go.Proofs.YtgcofabdialaaaaGreat
end
section
namespace Go.Proofs.YtgcofabdialaaaaGreat
namespace Rt
set_option maxRecDepth 8000
end Rt
end Go.Proofs.YtgcofabdialaaaaGreat
end
section
namespace Go.Proofs.YtgcofabdialaaaaGreat
namespace Rt
set_option maxRecDepth 8000
end Rt
end Go.Proofs.YtgcofabdialaaaaGreat
end
section
namespace Go.Proofs.YtgcofabdialaaaaGreat
namespace Rt
set_option maxRecDepth 8000
def rowS (S:List Int) (t:Nat):List Int:=(S.drop (16*t)).take 16
theorem rowS_length {S:List Int} {t:Nat} (h:16*t+16≤S.length):(rowS S t).length=16:=by simp only[rowS,List.length_take,List.length_drop];omega
theorem rowS_get? {S:List Int} {t i:Nat} (hi:i<16):(rowS S t)[i]? =S[16*t+i]? :=by
 unfold rowS;rw[List.getElem?_take,if_pos hi,List.getElem?_drop]
theorem rowS_set_same {S:List Int} {t i:Nat} {a:Int} (hi:i<16):rowS (S.set (16*t+i) a) t=(rowS S t).set i a:=by
 apply List.ext_getElem?
 intro k
 by_cases hk:k<16
 ·rw[rowS_get? hk,List.getElem?_set,List.getElem?_set,rowS_get? hk]
  by_cases e:i=k
  ·subst e;rw[if_pos rfl,if_pos rfl]
   by_cases h1:16*t+i<S.length
   ·rw[if_pos h1,if_pos (by simp only[rowS,List.length_take,List.length_drop];omega)]
   ·rw[if_neg h1,if_neg (by simp only[rowS,List.length_take,List.length_drop];omega)]
  ·rw[if_neg (by omega),if_neg e]
 ·rw[List.getElem?_eq_none (by simp only[rowS,List.length_take,List.length_drop,List.length_set];omega),List.getElem?_eq_none (by simp only[rowS,List.length_take,List.length_drop,List.length_set];omega)]
theorem rowS_set_other {S:List Int} {t u i:Nat} {a:Int} (hi:i<16) (h:u≠t):rowS (S.set (16*t+i) a) u=rowS S u:=by
 apply List.ext_getElem?
 intro k
 by_cases hk:k<16
 ·rw[rowS_get? hk,rowS_get? hk,List.getElem?_set,if_neg (by omega)]
 ·rw[List.getElem?_eq_none (by simp only[rowS,List.length_take,List.length_drop,List.length_set];omega),List.getElem?_eq_none (by simp only[rowS,List.length_take,List.length_drop];omega)]
def rowsV (rows:List (Nat×Nat)):List Value:=rows.map fun r=>.slice (some ⟨r.1,0,none⟩) 16 r.2
theorem rowsV_get {rows:List (Nat×Nat)} {t:Nat} (ys:List Value) (h:t<rows.length):(rowsV rows++ys)[t]? =some (.slice (some ⟨(rows.getD t (0,0)).1,0,none⟩) 16 (rows.getD t (0,0)).2):=by
 rw[List.getElem?_append_left (by simpa[rowsV]using h)]
 simp[rowsV,h]
structure RMs (w:World) (b:Nat) (s:MS) (vs vg vq:Value) (fs:List Nat) (rows:List (Nat×Nat)) (fg fq:List Nat):Prop where
 ok:s.Ok
 len:rows.length=s.M
 nd:(b::(fs++(rows.map (·.1)++(fg++fq)))).Nodup
 hb:At w b [vs,vg,vq]
 h0:Sl w 1 vs s.M (rowsV rows) fs
 hr: ∀t,t<s.M→ ∃ys,At w (rows.getD t (0,0)).1 (ints (rowS s.S t)++ys)
 h1:Sl w 1 vg 16 (ints s.G) fg
 h2:Sl w 1 vq s.Q.length (ints s.Q) fq
def RM (w:World) (b:Nat) (s:MS) (fp:List Nat):Prop:= ∃vs vg vq fs rows fg fq,fp=b::(fs++(rows.map (·.1)++(fg++fq)))∧RMs w b s vs vg vq fs rows fg fq
def RR (w:World) (a:Option Addr) (fp:List Nat) (m:MO):Prop:=match m with
 |some s=> ∃b,a=some ⟨b,0,none⟩∧RM w b s fp
 |none=>a=none∧fp=[]
theorem getD_mem {rows:List (Nat×Nat)} {t:Nat} (h:t<rows.length):(rows.getD t (0,0)).1∈rows.map (·.1):=by
 rw[List.mem_map]
 exact⟨rows[t],List.getElem_mem h,by simp[h]⟩
theorem RMs.keep {w w':World} {b:Nat} {s:MS} {vs vg vq:Value} {fs fg fq S:List Nat} {rows:List (Nat×Nat)} (h:RMs w b s vs vg vq fs rows fg fq) (k:Only S w w') (hd: ∀x,x∈b::(fs++(rows.map (·.1)++(fg++fq)))→x∉S):RMs w' b s vs vg vq fs rows fg fq:=
 ⟨h.ok,h.len,h.nd,h.hb.keep k (hd b (by simp)),h.h0.keep k fun x hx=>hd x (by simp only[List.mem_cons,List.mem_append];exact .inr (.inl hx)),fun t ht=>let ⟨ys,hy⟩:=h.hr t ht;⟨ys,hy.keep k (hd _ (by simp only[List.mem_cons,List.mem_append];exact .inr (.inr (.inl (getD_mem (by rw[h.len];exact ht))))))⟩,
  h.h1.keep k fun x hx=>hd x (by simp only[List.mem_cons,List.mem_append];exact .inr (.inr (.inr (.inl hx)))),h.h2.keep k fun x hx=>hd x (by simp only[List.mem_cons,List.mem_append];exact .inr (.inr (.inr (.inr hx))))⟩
theorem RMs.keep0 {w w':World} {b:Nat} {s:MS} {vs vg vq:Value} {fs fg fq:List Nat} {rows:List (Nat×Nat)} (h:RMs w b s vs vg vq fs rows fg fq) (k:Only [] w w'):RMs w' b s vs vg vq fs rows fg fq:=h.keep k fun _ _=>by simp
theorem RM.keep {w w':World} {b:Nat} {s:MS} {fp S:List Nat} (h:RM w b s fp) (k:Only S w w') (hd: ∀x,x∈fp→x∉S):RM w' b s fp:=by
 obtain⟨vs,vg,vq,fs,rows,fg,fq,rfl,h⟩:=h
 exact⟨vs,vg,vq,fs,rows,fg,fq,rfl,h.keep k hd⟩
theorem RM.keep0 {w w':World} {b:Nat} {s:MS} {fp:List Nat} (h:RM w b s fp) (k:Only [] w w'):RM w' b s fp:=h.keep k fun _ _=>by simp
theorem RM.lt {w:World} {b:Nat} {s:MS} {fp:List Nat} (h:RM w b s fp): ∀x,x∈fp→x<w.heap.size:=by
 obtain⟨vs,vg,vq,fs,rows,fg,fq,rfl,h⟩:=h
 intro x hx
 simp only[List.mem_cons,List.mem_append]at hx
 rcases hx with rfl|hx|hx|hx|hx
 ·exact h.hb.lt
 ·exact h.h0.lt x hx
 ·rw[List.mem_map]at hx
  obtain⟨r,hr,rfl⟩:=hx
  obtain⟨t,ht,rfl⟩:=List.mem_iff_getElem.1 hr
  obtain⟨ys,hy⟩:=h.hr t (by rw[←h.len];exact ht)
  have:=hy.lt
  simpa[ht]using this
 ·exact h.h1.lt x hx
 ·exact h.h2.lt x hx
theorem RR.keep {w w':World} {a:Option Addr} {fp S:List Nat} {m:MO} (h:RR w a fp m) (k:Only S w w') (hd: ∀x,x∈fp→x∉S):RR w' a fp m:=by
 match m,h with
 |some s,⟨b,h1,h2⟩=>exact⟨b,h1,h2.keep k hd⟩
 |none,h=>exact h
theorem RR.keep0 {w w':World} {a:Option Addr} {fp:List Nat} {m:MO} (h:RR w a fp m) (k:Only [] w w'):RR w' a fp m:=h.keep k fun _ _=>by simp
theorem RR.lt {w:World} {a:Option Addr} {fp:List Nat} {m:MO} (h:RR w a fp m): ∀x,x∈fp→x<w.heap.size:=by
 match m,h with
 |some s,⟨b,h1,h2⟩=>exact h2.lt
 |none,h=>rw[h.2];intro x hx;cases hx
theorem rmade {w:World} {a:Option Addr} {fp:List Nat} {m:MO} (h:RR w a fp m):Cs Tryz.prog 211 [.pointer a] w fun v w'=>v=.bool m.isSome∧w'=w:=by
 refine enter_ref03_Roots_Made rfl ?_
 unfold x_ref03_Roots_Made
 match m,h with
 |none,⟨h1,_⟩=>
  subst h1
  (repeat(first|with_reducible(first|refine nx ?_|refine r_6 rfl ?_)|simp only[go_sem,Option.isSome_none]))
 |some s,⟨b,h1,vs,vg,vq,fs,rows,fg,fq,_,k⟩=>
  subst h1
  obtain⟨a,c,e⟩:=k.h0.val
  subst e
  have hp:(0:Int)<(s.M:Int):=by have:=k.ok.m1;omega
  (repeat(first|with_reducible(first|refine nx ?_|refine r_6 rfl ?_)|simp only[go_sem,k.hb.cell,decide_eq_true hp,Option.isSome_some]))
theorem rhas {w:World} {b:Nat} {s:MS} {fp:List Nat} (h:RM w b s fp) (p:PT):Cs Tryz.prog 212 [.pointer (some ⟨b,0,none⟩),.agg ⟨plV p⟩] w fun v w'=>v=.bool (seg s p).isSome∧Only [] w w':=by
 refine enter_ref03_Roots_has rfl ?_
 unfold x_ref03_Roots_has
 (repeat(first|with_reducible(first|refine nx ?_|refine r_6 rfl ?_)|simp only[go_sem]))
 refine boxT fun q w1 hq hs1 hat1 ho1=>?_
 obtain⟨vs,vg,vq,fs,rows,fg,fq,rfl,hm⟩:=h
 have hb:=(hm.keep0 ho1).hb
 obtain⟨k,m,i⟩:=p
 have hc:At w1 q [.int .i64 k,.int .i64 m,.int .i64 i]:=hat1
 obtain⟨a1,c1,e1⟩:=hm.h0.val
 obtain⟨a2,c2,e2⟩:=hm.h2.val
 subst e1 e2
 by_cases k0:k=0
 ·by_cases k1:0≤m
  ·by_cases k2:m<(s.M:Int)
   ·by_cases k3:0≤i
    ·by_cases k4:i<16
     ·(repeat(first|with_reducible(first|refine nx ?_|refine r_6 rfl ?_)|simp only[go_sem,hc.cell,hb.cell,beq_int_true k0,decide_eq_true k1,decide_eq_true k2,decide_eq_true k3,decide_eq_true k4]))
      exact⟨by simp[seg,k0,k1,k2,k3,k4],ho1.nil (Only.drew [] _)⟩
     ·(repeat(first|with_reducible(first|refine nx ?_|refine r_6 rfl ?_)|simp only[go_sem,hc.cell,hb.cell,beq_int_true k0,decide_eq_true k1,decide_eq_true k2,decide_eq_true k3,decide_eq_false k4]))
      exact⟨by simp[seg,k0,k1,k2,k4],ho1.nil (Only.drew [] _)⟩
    ·(repeat(first|with_reducible(first|refine nx ?_|refine r_6 rfl ?_)|simp only[go_sem,hc.cell,hb.cell,beq_int_true k0,decide_eq_true k1,decide_eq_true k2,decide_eq_false k3]))
     exact⟨by simp[seg,k0,k1,k2,k3],ho1.nil (Only.drew [] _)⟩
   ·(repeat(first|with_reducible(first|refine nx ?_|refine r_6 rfl ?_)|simp only[go_sem,hc.cell,hb.cell,beq_int_true k0,decide_eq_true k1,decide_eq_false k2]))
    exact⟨by simp[seg,k0,k2],ho1.nil (Only.drew [] _)⟩
  ·(repeat(first|with_reducible(first|refine nx ?_|refine r_6 rfl ?_)|simp only[go_sem,hc.cell,hb.cell,beq_int_true k0,decide_eq_false k1]))
   exact⟨by simp[seg,k0,k1],ho1.nil (Only.drew [] _)⟩
 ·by_cases k1:k=1
  ·have n0: ¬k=0:=k0
   by_cases k2:m=0
   ·by_cases k3:0≤i
    ·by_cases k4:i<16
     ·(repeat(first|with_reducible(first|refine nx ?_|refine r_6 rfl ?_)|simp only[go_sem,hc.cell,hb.cell,beq_int_false n0,beq_int_true k1,beq_int_true k2,decide_eq_true k3,decide_eq_true k4]))
      exact⟨by simp[seg,k1,k2,k3,k4],ho1⟩
     ·(repeat(first|with_reducible(first|refine nx ?_|refine r_6 rfl ?_)|simp only[go_sem,hc.cell,hb.cell,beq_int_false n0,beq_int_true k1,beq_int_true k2,decide_eq_true k3,decide_eq_false k4]))
      exact⟨by simp[seg,k1,k2,k4],ho1⟩
    ·(repeat(first|with_reducible(first|refine nx ?_|refine r_6 rfl ?_)|simp only[go_sem,hc.cell,hb.cell,beq_int_false n0,beq_int_true k1,beq_int_true k2,decide_eq_false k3]))
     exact⟨by simp[seg,k1,k2,k3],ho1⟩
   ·(repeat(first|with_reducible(first|refine nx ?_|refine r_6 rfl ?_)|simp only[go_sem,hc.cell,hb.cell,beq_int_false n0,beq_int_true k1,beq_int_false k2]))
    exact⟨by simp[seg,k1,k2],ho1⟩
  ·by_cases k1':k=2
   ·by_cases k2:m=0
    ·by_cases k3:0≤i
     ·by_cases k4:i<(s.Q.length:Int)
      ·(repeat(first|with_reducible(first|refine nx ?_|refine r_6 rfl ?_)|simp only[go_sem,hc.cell,hb.cell,beq_int_false k0,beq_int_false k1,beq_int_true k1',beq_int_true k2,decide_eq_true k3,decide_eq_true k4]))
       exact⟨by simp[seg,k1',k2,k3,k4],ho1.nil (Only.drew [] _)⟩
      ·(repeat(first|with_reducible(first|refine nx ?_|refine r_6 rfl ?_)|simp only[go_sem,hc.cell,hb.cell,beq_int_false k0,beq_int_false k1,beq_int_true k1',beq_int_true k2,decide_eq_true k3,decide_eq_false k4]))
       exact⟨by simp[seg,k1',k2,k4],ho1.nil (Only.drew [] _)⟩
     ·(repeat(first|with_reducible(first|refine nx ?_|refine r_6 rfl ?_)|simp only[go_sem,hc.cell,hb.cell,beq_int_false k0,beq_int_false k1,beq_int_true k1',beq_int_true k2,decide_eq_false k3]))
      exact⟨by simp[seg,k1',k2,k3],ho1.nil (Only.drew [] _)⟩
    ·(repeat(first|with_reducible(first|refine nx ?_|refine r_6 rfl ?_)|simp only[go_sem,hc.cell,hb.cell,beq_int_false k0,beq_int_false k1,beq_int_true k1',beq_int_false k2]))
     exact⟨by simp[seg,k1',k2],ho1.nil (Only.drew [] _)⟩
   ·(repeat(first|with_reducible(first|refine nx ?_|refine r_6 rfl ?_)|simp only[go_sem,hc.cell,hb.cell,beq_int_false k0,beq_int_false k1,beq_int_false k1']))
    exact⟨by simp[seg,k0,k1,k1'],ho1⟩
theorem RMs.row {w:World} {b:Nat} {s:MS} {vs vg vq:Value} {fs fg fq:List Nat} {rows:List (Nat×Nat)} (h:RMs w b s vs vg vq fs rows fg fq) {t:Nat} (ht:t<s.M):
  ∃g cap ys g' c' zs,vs=.slice (some ⟨g,0,none⟩) s.M cap∧At w g (rowsV rows++ys)∧(rowsV rows++ys)[t]? =some (.slice (some ⟨g',0,none⟩) 16 c')∧g'=(rows.getD t (0,0)).1∧At w g' (ints (rowS s.S t)++zs):=by
 obtain⟨g,cap,ys,h1,h2,_⟩:=h.h0.pos (by omega)
 obtain⟨zs,hz⟩:=h.hr t ht
 exact⟨g,cap,ys,_,_,zs,h1,h2,rowsV_get ys (by rw[h.len];exact ht),rfl,hz⟩
end Rt
end Go.Proofs.YtgcofabdialaaaaGreat
end
section
namespace Go.Proofs.YtgcofabdialaaaaGreat
namespace Rt
set_option maxRecDepth 8000
theorem rnd {b:Nat} {fs fg fq:List Nat} {rs:List Nat} (h:(b::(fs++(rs++(fg++fq)))).Nodup):
  b∉fs∧b∉rs∧b∉fg∧b∉fq∧fs.Nodup∧rs.Nodup∧fg.Nodup∧fq.Nodup∧(∀x,x∈fs→x∉rs∧x∉fg∧x∉fq)∧(∀x,x∈rs→x∉fg∧x∉fq)∧(∀x,x∈fg→x∉fq):=by
 simp only[List.nodup_cons,List.mem_append,not_or,List.nodup_append]at h
 obtain⟨⟨h1,h2,h3,h4⟩,h5,⟨h6,⟨h7,h8,h9⟩,h10⟩,h11⟩:=h
 refine⟨h1,h2,h3,h4,h5,h6,h7,h8,fun x hx=>⟨fun hy=>h11 x hx x (.inl hy) rfl,fun hy=>h11 x hx x (.inr (.inl hy)) rfl,fun hy=>h11 x hx x (.inr (.inr hy)) rfl⟩,fun x hx=>⟨fun hy=>h10 x hx x (.inl hy) rfl,fun hy=>h10 x hx x (.inr hy) rfl⟩,fun x hx hy=>h9 x hx x hy rfl⟩
theorem rows_ne {rows:List (Nat×Nat)} (h:(rows.map (·.1)).Nodup) {t u:Nat} (ht:t<rows.length) (hu:u<rows.length) (hne:t≠u):(rows.getD t (0,0)).1≠(rows.getD u (0,0)).1:=by
 intro e
 apply hne
 have h1:t<(rows.map (·.1)).length:=by simpa using ht
 have h2:u<(rows.map (·.1)).length:=by simpa using hu
 have hp:=List.pairwise_iff_getElem.1 h
 have e':(rows.map (·.1))[t]=(rows.map (·.1))[u]:=by simpa[ht,hu]using e
 rcases Nat.lt_trichotomy t u with h3|h3|h3
 ·exact absurd e' (hp t u h1 h2 h3)
 ·exact h3
 ·exact absurd e'.symm (hp u t h2 h1 h3)
theorem RMs.upd0 {w w':World} {b:Nat} {s:MS} {vs vg vq:Value} {fs fg fq:List Nat} {rows:List (Nat×Nat)} {m i j:Nat} {a:Int} {zs:List Value} (h:RMs w b s vs vg vq fs rows fg fq) (hm:m<s.M) (hi:i<16) (hj:j=16*m+i)
  (hat:At w' (rows.getD m (0,0)).1 (ints ((rowS s.S m).set i a)++zs)) (ho:Only [(rows.getD m (0,0)).1] w w'):RMs w' b (s.wr (0,j) a) vs vg vq fs rows fg fq:=by
 have hmem:=getD_mem (rows:=rows) (t:=m) (by rw[h.len];exact hm)
 obtain⟨n1,n2,n3,n4,n5,n6,n7,n8,n9,n10,n11⟩:=rnd h.nd
 refine⟨h.ok.wr _ _,h.len,h.nd,h.hb.keep ho (by simp only[List.mem_singleton];rintro rfl;exact n2 hmem),h.h0.keep ho fun x hx=>?_,fun t ht=>?_,h.h1.keep ho fun x hx=>?_,h.h2.keep ho fun x hx=>?_⟩
 ·simp only[List.mem_singleton];rintro rfl;exact(n9 _ hx).1 hmem
 ·subst hj
  by_cases e:t=m
  ·subst e
   exact⟨zs,by show At w' _ (ints (rowS (s.S.set (16*t+i) a) t)++zs);rw[rowS_set_same hi];exact hat⟩
  ·obtain⟨ys,hy⟩:=h.hr t ht
   refine⟨ys,?_⟩
   show At w' _ (ints (rowS (s.S.set (16*m+i) a) t)++ys)
   rw[rowS_set_other hi e]
   exact hy.keep ho (by simp only[List.mem_singleton];exact rows_ne n6 (by rw[h.len];exact ht) (by rw[h.len];exact hm) e)
 ·simp only[List.mem_singleton];rintro rfl;exact(n10 _ hmem).1 hx
 ·simp only[List.mem_singleton];rintro rfl;exact(n10 _ hmem).2 hx
theorem RMs.upd1 {w w':World} {b:Nat} {s:MS} {vs vg vq:Value} {fs fq:List Nat} {rows:List (Nat×Nat)} {g j cap:Nat} {a:Int} {ys:List Value} (h:RMs w b s vs vg vq fs rows [g] fq) (hv:vg=.slice (some ⟨g,0,none⟩) 16 cap) (hc:(ints s.G++ys).length=cap)
  (hat:At w' g (ints (s.G.set j a)++ys)) (ho:Only [g] w w'):RMs w' b (s.wr (1,j) a) vs vg vq fs rows [g] fq:=by
 obtain⟨n1,n2,n3,n4,n5,n6,n7,n8,n9,n10,n11⟩:=rnd h.nd
 refine⟨h.ok.wr _ _,h.len,h.nd,h.hb.keep ho n3,h.h0.keep ho fun x hx=>(n9 x hx).2.1,fun t ht=>?_,?_,h.h2.keep ho fun x hx=>?_⟩
 ·obtain⟨zs,hz⟩:=h.hr t ht
  exact⟨zs,hz.keep ho (n10 _ (getD_mem (by rw[h.len];exact ht))).1⟩
 ·rw[hv]
  exact Sl.mk1 hat (by have:=h.ok.lg;simpa[ints_length,MS.wr]using this) (by rw[←hc];simp[ints_length,MS.wr])
 ·simp only[List.mem_singleton];rintro rfl;exact n11 _ (by simp) hx
theorem RMs.upd2 {w w':World} {b:Nat} {s:MS} {vs vg vq:Value} {fs fg:List Nat} {rows:List (Nat×Nat)} {g j cap:Nat} {a:Int} {ys:List Value} (h:RMs w b s vs vg vq fs rows fg [g]) (hv:vq=.slice (some ⟨g,0,none⟩) s.Q.length cap) (hc:(ints s.Q++ys).length=cap)
  (hat:At w' g (ints (s.Q.set j a)++ys)) (ho:Only [g] w w'):RMs w' b (s.wr (2,j) a) vs vg vq fs rows fg [g]:=by
 obtain⟨n1,n2,n3,n4,n5,n6,n7,n8,n9,n10,n11⟩:=rnd h.nd
 refine⟨h.ok.wr _ _,h.len,h.nd,h.hb.keep ho n4,h.h0.keep ho fun x hx=>(n9 x hx).2.2,fun t ht=>?_,h.h1.keep ho fun x hx=>n11 x hx,?_⟩
 ·obtain⟨zs,hz⟩:=h.hr t ht
  exact⟨zs,hz.keep ho (n10 _ (getD_mem (by rw[h.len];exact ht))).2⟩
 ·rw[hv]
  show Sl w' 1 _ (s.Q.set j a).length _ [g]
  rw[List.length_set]
  exact Sl.mk1 hat (by simp[ints_length,MS.wr]) (by rw[←hc];simp[ints_length,MS.wr])
theorem _root_.Go.Proofs.YtgcofabdialaaaaGreat.Sl.cap {w:World} {n cap g:Nat} {xs ys:List Value} {fp:List Nat} (h:Sl w 1 (.slice (some ⟨g,0,none⟩) n cap) n xs fp) (hat:At w g (xs++ys)):(xs++ys).length=cap:=by
 rcases h.2 with⟨h1,_⟩|⟨g',cap',ys',T,h1,h2,h3,h4,h5⟩
 ·cases h1
 ·cases h1
  obtain⟨T',hat⟩:=hat
  rw[hat]at h3
  simp at h3
  rw[h3.1];simpa using h4
theorem rset {w:World} {b:Nat} {s:MS} {fp:List Nat} (h:RM w b s fp) {p:PT} {x:Nat×Nat} (hx:seg s p=some x) (a:Int):Cs Tryz.prog 213 [.pointer (some ⟨b,0,none⟩),.agg ⟨plV p⟩,.int .i64 a] w fun v w'=>RM w' b (s.wr x a) fp∧Only fp w w':=by
 refine enter_ref03_Roots_set rfl ?_
 unfold x_ref03_Roots_set
 (repeat(first|with_reducible(first|refine nx ?_|refine r_6 rfl ?_)|simp only[go_sem]))
 refine boxT fun q w1 hq hs1 hat1 ho1=>?_
 have hlt:=h.lt
 obtain⟨vs,vg,vq,fs,rows,fg,fq,rfl,hm0⟩:=h
 have hm:=hm0.keep0 ho1
 have hb:=hm.hb
 obtain⟨k,m,i⟩:=p
 have hc:At w1 q [.int .i64 k,.int .i64 m,.int .i64 i]:=hat1
 have fin: ∀g w',g∈b::(fs++(rows.map (·.1)++(fg++fq)))→Only [g] w1 w'→Only (b::(fs++(rows.map (·.1)++(fg++fq)))) w w':=fun g w' hg ho=>ho1.of_nil.same (ho.mono fun y hy=>by simp only[List.mem_singleton]at hy;subst hy;exact .inl hg)
 rcases seg_cases hm.ok hx with⟨e1,e2,e3,e4,e5,j,rfl,ej,hj⟩|⟨e1,e2,e4,e5,j,rfl,ej,hj⟩|⟨e1,e2,e4,e5,j,rfl,ej,hj⟩
 ·simp only at e1 e2 e3 e4 e5 ej
  subst e1
  obtain⟨m,rfl⟩: ∃n:Nat,m=n:=⟨m.toNat,by omega⟩
  obtain⟨i,rfl⟩: ∃n:Nat,i=n:=⟨i.toNat,by omega⟩
  obtain⟨g,cap,ys,g',c',zs,rfl,hg,hgt,hg'e,hg'⟩:=hm.row (t:=m) (by omega)
  have c1:(0:Int)≤(m:Int)∧(m:Int)<(s.M:Int):=⟨by omega,by omega⟩
  have c2:(0:Int)≤(i:Int)∧(i:Int)<((16:Nat):Int):=⟨by omega,by omega⟩
  have hl:(rowS s.S m).length=16:=rowS_length (by have:=hm.ok.ls;omega)
  (repeat(first|with_reducible(first|refine nx ?_|refine r_6 rfl ?_)|simp only[go_sem,hc.cell,hb.cell,beq_int_true (rfl:(0:Int)=0),if_pos c1,if_pos c2,Int.toNat_natCast,Nat.mul_one,hg.cell,hgt]))
  refine stT (w:=w1.drew) (hg'.keep0 (Only.drew [] w1)) (by simp[ints_length,hl];omega) rfl fun w2 hs2 hat2 ho2=>?_
  (repeat(first|with_reducible(first|refine nx ?_|refine r_6 rfl ?_)|simp only[go_sem]))
  rw[ints_set zs (by omega)]at hat2
  subst hg'e
  refine⟨⟨_,_,_,_,_,_,_,rfl,(hm.keep0 (Only.drew [] w1)).upd0 (by omega) (by omega) (by omega) hat2 ho2⟩,fin _ w2 ?_ (Only.drew_left ho2)⟩
  simp only[List.mem_cons,List.mem_append]
  exact .inr (.inr (.inl (getD_mem (by rw[hm.len];omega))))
 ·simp only at e1 e2 e4 e5 ej
  subst e1
  obtain⟨g,cap,ys,rfl,hg,rfl,_⟩:=hm.h1.pos (by omega)
  have hcap:=hm.h1.cap hg
  have c2:(0:Int)≤i∧i<((16:Nat):Int):=⟨by omega,by omega⟩
  subst ej
  (repeat(first|with_reducible(first|refine nx ?_|refine r_6 rfl ?_)|simp only[go_sem,hc.cell,hb.cell,beq_int_true (rfl:(1:Int)=1),beq_int_false (show¬(1:Int)=0 by omega),if_pos c2,Int.toNat_natCast,Nat.mul_one]))
  refine stT (w:=w1.drew) (hg.keep0 (Only.drew [] w1)) (by simp[ints_length];omega) rfl fun w2 hs2 hat2 ho2=>?_
  (repeat(first|with_reducible(first|refine nx ?_|refine r_6 rfl ?_)|simp only[go_sem]))
  rw[ints_set ys hj]at hat2
  exact⟨⟨_,_,_,_,_,_,_,rfl,(hm.keep0 (Only.drew [] w1)).upd1 rfl hcap hat2 ho2⟩,fin g w2 (by simp) (Only.drew_left ho2)⟩
 ·simp only at e1 e2 e4 e5 ej
  subst e1
  obtain⟨g,cap,ys,rfl,hg,rfl,_⟩:=hm.h2.pos (by omega)
  have hcap:=hm.h2.cap hg
  have c2:(0:Int)≤i∧i<(s.Q.length:Int):=⟨by omega,by omega⟩
  subst ej
  (repeat(first|with_reducible(first|refine nx ?_|refine r_6 rfl ?_)|simp only[go_sem,hc.cell,hb.cell,beq_int_false (show¬(2:Int)=1 by omega),beq_int_false (show¬(2:Int)=0 by omega),if_pos c2,Int.toNat_natCast,Nat.mul_one]))
  refine stT (w:=w1.drew) (hg.keep0 (Only.drew [] w1)) (by simp[ints_length];omega) rfl fun w2 hs2 hat2 ho2=>?_
  (repeat(first|with_reducible(first|refine nx ?_|refine r_6 rfl ?_)|simp only[go_sem]))
  rw[ints_set ys hj]at hat2
  exact⟨⟨_,_,_,_,_,_,_,rfl,(hm.keep0 (Only.drew [] w1)).upd2 rfl hcap hat2 ho2⟩,fin g w2 (by simp) (Only.drew_left ho2)⟩
theorem rSet {w:World} {a:Option Addr} {fp:List Nat} {m:MO} (h:RR w a fp m) (p:PT) (y:Int):Cs Tryz.prog 161 [.pointer a,.agg ⟨plV p⟩,.int .i64 y] w fun v w'=>v=.int .i64 (setO m p y).1∧RR w' a fp (setO m p y).2∧Only fp w w':=by
 refine enter_ref03_Roots_Set rfl ?_
 unfold x_ref03_Roots_Set
 (repeat(first|with_reducible(first|refine nx ?_|refine r_6 rfl ?_)|simp only[go_sem]))
 refine boxT fun q w1 hq hs1 hat1 ho1=>?_
 have h':=h.keep0 ho1
 have hcs:cellsAt w1 ⟨q,0,none⟩ 3=some (plV p):=cellsAt_at hat1 0 3 (by simp[plV])
 have hc:At w1 q [.int .i64 p.1,.int .i64 p.2.1,.int .i64 p.2.2]:=hat1
 (repeat(first|with_reducible(first|refine nx ?_|refine r_6 rfl ?_)|simp only[go_sem]))
 refine callT0 (rmade h') ?_
 match m,h,h' with
 |none,_,h'=>
  (repeat(first|with_reducible(first|refine nx ?_|refine r_6 rfl ?_)|simp only[go_sem,Option.isSome_none]))
  exact⟨rfl,h',ho1.of_nil⟩
 |some s,_,⟨b,hb,hp⟩=>
  subst hb
  (repeat(first|with_reducible(first|refine nx ?_|refine r_6 rfl ?_)|simp only[go_sem,Option.isSome_some,hcs]))
  refine callT (rhas hp p) ?_
  rintro v w2 ⟨rfl,ho2⟩
  have hp2:=hp.keep0 ho2
  have hc2:=hc.keep0 ho2
  have hcs2:cellsAt w2 ⟨q,0,none⟩ 3=some (plV p):=cellsAt_at (hat1.keep0 ho2) 0 3 (by simp[plV])
  cases e:seg s p with
  |none=>
   (repeat(first|with_reducible(first|refine nx ?_|refine r_6 rfl ?_)|simp only[go_sem,Option.isSome_none]))
   rw[show setO (some s) p y=(1,some s) by simp only[setO,e]]
   exact⟨rfl,⟨b,rfl,hp2⟩,(ho1.nil ho2).of_nil⟩
  |some x=>
   have bad:badA p y=true→(setO (some s) p y)=(1,some s):=fun hb=>by simp only[setO,e,hb,if_true]
   have good:badA p y=false→(setO (some s) p y)=(0,some (s.wr x y)):=fun hb=>by simp only[setO,e,hb,Bool.false_eq_true,if_false]
   by_cases c1:y<0
   ·(repeat(first|with_reducible(first|refine nx ?_|refine r_6 rfl ?_)|simp only[go_sem,Option.isSome_some,decide_eq_true c1]))
    rw[bad (by simp[badA,c1])]
    exact⟨rfl,⟨b,rfl,hp2⟩,(ho1.nil ho2).of_nil⟩
   ·by_cases c2:y=0
    ·by_cases c3:p.1=2
     ·(repeat(first|with_reducible(first|refine nx ?_|refine r_6 rfl ?_)|simp only[go_sem,Option.isSome_some,decide_eq_false c1,beq_int_true c2,beq_int_true c3,hc2.cell]))
      rw[bad (by simp[badA,c2,c3])]
      exact⟨rfl,⟨b,rfl,hp2⟩,(ho1.nil ho2).of_nil⟩
     ·(repeat(first|with_reducible(first|refine nx ?_|refine r_6 rfl ?_)|simp only[go_sem,Option.isSome_some,decide_eq_false c1,beq_int_true c2,beq_int_false c3,hc2.cell,hcs2]))
      refine callT (rset hp2 e y) ?_
      rintro v w3 ⟨hp3,ho3⟩
      (repeat(first|with_reducible(first|refine nx ?_|refine r_6 rfl ?_)|simp only[go_sem]))
      rw[good (by simp[badA,c1,c3])]
      exact⟨rfl,⟨b,rfl,hp3⟩,(ho1.nil ho2).of_nil.same ho3⟩
    ·(repeat(first|with_reducible(first|refine nx ?_|refine r_6 rfl ?_)|simp only[go_sem,Option.isSome_some,decide_eq_false c1,beq_int_false c2,hc2.cell,hcs2]))
     refine callT (rset hp2 e y) ?_
     rintro v w3 ⟨hp3,ho3⟩
     (repeat(first|with_reducible(first|refine nx ?_|refine r_6 rfl ?_)|simp only[go_sem]))
     rw[good (by simp[badA,c1,c2])]
     exact⟨rfl,⟨b,rfl,hp3⟩,(ho1.nil ho2).of_nil.same ho3⟩
theorem rMutators {w:World} {a:Option Addr} {fp:List Nat} {m:MO} (h:RR w a fp m):Cs Tryz.prog 180 [.pointer a] w fun v w'=>v=.int .i64 (mutO m)∧w'=w:=by
 refine enter_ref03_Roots_Mutators rfl ?_
 unfold x_ref03_Roots_Mutators
 (repeat(first|with_reducible(first|refine nx ?_|refine r_6 rfl ?_)|simp only[go_sem]))
 refine callT0 (rmade h) ?_
 match m,h with
 |none,_=>
  (repeat(first|with_reducible(first|refine nx ?_|refine r_6 rfl ?_)|simp only[go_sem,Option.isSome_none]))
  rfl
 |some s,⟨b,hb,vs,vg,vq,fs,rows,fg,fq,_,hp⟩=>
  subst hb
  obtain⟨a1,c1,e1⟩:=hp.h0.val
  subst e1
  (repeat(first|with_reducible(first|refine nx ?_|refine r_6 rfl ?_)|simp only[go_sem,Option.isSome_some,hp.hb.cell]))
  rfl
theorem _root_.Go.Proofs.YtgcofabdialaaaaGreat.Sl.empty1 {w:World} {q:Nat} (h:At w q []):Sl w 1 (.slice (some ⟨q,0,none⟩) 0 0) 0 [] [q]:=Sl.mk1 (ys:=[]) h rfl rfl
theorem rQueue {w:World} {a:Option Addr} {fp:List Nat} {m:MO} (h:RR w a fp m):Cs Tryz.prog 158 [.pointer a] w fun v w'=>Only [] w w'∧ ∃fp',Sl w' 1 v (queueO m).length (ints (queueO m)) fp'∧ ∀x,x∈fp'→w.heap.size≤x:=by
 refine enter_ref03_Roots_Queue rfl ?_
 unfold x_ref03_Roots_Queue
 (repeat(first|with_reducible(first|refine nx ?_|refine r_6 rfl ?_)|simp only[go_sem]))
 refine callT0 (rmade h) ?_
 match m,h with
 |none,_=>
  (repeat(first|with_reducible(first|refine nx ?_|refine r_6 rfl ?_)|simp only[go_sem,Option.isSome_none]))
  exact⟨Only.refl _ _,[],Sl.nil1 w,by simp⟩
 |some s,⟨b,hb,vs,vg,vq,fs,rows,fg,fq,_,hp⟩=>
  subst hb
  (repeat(first|with_reducible(first|refine nx ?_|refine r_6 rfl ?_)|simp only[go_sem,Option.isSome_some]))
  refine bslT fun q w1 hq hs1 hat1 ho1=>?_
  (repeat(first|with_reducible(first|refine nx ?_|refine r_6 rfl ?_)|simp only[go_sem,(hp.keep0 ho1).hb.cell]))
  refine appT (Sl.empty1 hat1) (hp.h2.src.keep0 ho1) ints_one (by have:=hp.ok.lq;omega) (by have:=hp.ok.lq;omega) ?_
  intro v' w2 fp' hs2 hf2 ho2 _
  (repeat(first|with_reducible(first|refine nx ?_|refine r_6 rfl ?_)|simp only[go_sem]))
  refine⟨ho1.trans ho2 fun x hx=>.inr (by simp only[List.mem_singleton]at hx;omega),fp',by simpa[queueO]using hs2,fun x hx=>?_⟩
  rcases hf2 with rfl|rfl<;>simp only[List.mem_singleton]at hx<;>omega
theorem RMs.turn {w w':World} {b:Nat} {s:MS} {vs vg vq vq':Value} {fs fg fq fq':List Nat} {rows:List (Nat×Nat)} {q:List Int} (h:RMs w b s vs vg vq fs rows fg fq) (hl:q.length≤64) (hq:Sl w' 1 vq' q.length (ints q) fq') (hb:At w' b [vs,vg,vq'])
  (ho:Only (b::fq) w w') (hf: ∀x,x∈fq'→x∈fq∨w.heap.size≤x):RM w' b {s with Q:=q} (b::(fs++(rows.map (·.1)++(fg++fq')))):=by
 obtain⟨n1,n2,n3,n4,n5,n6,n7,n8,n9,n10,n11⟩:=rnd h.nd
 have hlt: ∀x,x∈b::(fs++(rows.map (·.1)++(fg++fq)))→x<w.heap.size:=(show RM w b s _ from⟨_,_,_,_,_,_,_,rfl,h⟩).lt
 have hbf:b∉fq':=fun hx=>(hf b hx).elim n4 (fun h2=>by have:=hlt b (by simp);omega)
 refine⟨vs,vg,vq',fs,rows,fg,fq',rfl,⟨⟨h.ok.m1,h.ok.m4,h.ok.ls,h.ok.lg,hl⟩,h.len,?_,hb,h.h0.keep ho ?_,fun t ht=>?_,h.h1.keep ho ?_,hq⟩⟩
 ·simp only[List.nodup_cons,List.mem_append,not_or,List.nodup_append]
  refine⟨⟨n1,n2,n3,hbf⟩,n5,⟨n6,⟨n7,hq.nodup,fun x hx y hy e=>?_⟩,fun x hx y hy e=>?_⟩,fun x hx y hy e=>?_⟩
  ·subst e
   rcases hf x hy with hy|hy
   ·exact n11 x hx hy
   ·have:=hlt x (by simp[hx]);omega
  ·subst e
   rcases hy with hy|hy
   ·exact(n10 x hx).1 hy
   ·rcases hf x hy with hy|hy
    ·exact(n10 x hx).2 hy
    ·have:=hlt x (by simp only[List.mem_cons,List.mem_append];exact .inr (.inr (.inl hx)));omega
  ·subst e
   rcases hy with hy|hy|hy
   ·exact(n9 x hx).1 hy
   ·exact(n9 x hx).2.1 hy
   ·rcases hf x hy with hy|hy
    ·exact(n9 x hx).2.2 hy
    ·have:=hlt x (by simp[hx]);omega
 ·intro x hx hx2
  simp only[List.mem_cons]at hx2
  rcases hx2 with rfl|hx2
  ·exact n1 hx
  ·exact(n9 x hx).2.2 hx2
 ·obtain⟨ys,hy⟩:=h.hr t ht
  have hm:=getD_mem (rows:=rows) (t:=t) (by rw[h.len];exact ht)
  refine⟨ys,hy.keep ho fun hx2=>?_⟩
  simp only[List.mem_cons]at hx2
  rcases hx2 with hx2|hx2
  ·rw[hx2]at hm;exact n2 hm
  ·exact(n10 _ hm).2 hx2
 ·intro x hx hx2
  simp only[List.mem_cons]at hx2
  rcases hx2 with rfl|hx2
  ·exact n3 hx
  ·exact n11 x hx hx2
end Rt
end Go.Proofs.YtgcofabdialaaaaGreat
end
section
namespace Go.Proofs.YtgcofabdialaaaaGreat
namespace Rt
set_option maxRecDepth 8000
theorem rPush {w:World} {a:Option Addr} {fp:List Nat} {m:MO} (h:RR w a fp m) (y:Int):Cs Tryz.prog 159 [.pointer a,.int .i64 y] w fun v w'=>v=.int .i64 (pushO m y).1∧Only fp w w'∧ ∃fp',RR w' a fp' (pushO m y).2∧ ∀x,x∈fp'→x∈fp∨w.heap.size≤x:=by
 refine enter_ref03_Roots_Push rfl ?_
 unfold x_ref03_Roots_Push
 (repeat(first|with_reducible(first|refine nx ?_|refine r_6 rfl ?_)|simp only[go_sem]))
 refine callT0 (rmade h) ?_
 match m,h with
 |none,h=>
  (repeat(first|with_reducible(first|refine nx ?_|refine r_6 rfl ?_)|simp only[go_sem,Option.isSome_none]))
  exact⟨rfl,Only.refl _ _,fp,h,fun x hx=>.inl hx⟩
 |some s,⟨b,hb,vs,vg,vq,fs,rows,fg,fq,hfp,hp⟩=>
  subst hb
  subst hfp
  have h0:RR w (some ⟨b,0,none⟩) (b::(fs++(rows.map (·.1)++(fg++fq)))) (some s):=⟨b,rfl,vs,vg,vq,fs,rows,fg,fq,rfl,hp⟩
  obtain⟨aq,cq,hvq⟩:=hp.h2.val
  subst hvq
  have hl64:=hp.ok.lq
  by_cases c1:y≤0
  ·(repeat(first|with_reducible(first|refine nx ?_|refine r_6 rfl ?_)|simp only[go_sem,Option.isSome_some,decide_eq_true c1]))
   rw[show pushO (some s) y=(1,some s) by simp[pushO,c1]]
   exact⟨rfl,Only.refl _ _,_,h0,fun x hx=>.inl (by simpa using hx)⟩
  ·by_cases c2:s.Q.length=64
   ·(repeat(first|with_reducible(first|refine nx ?_|refine r_6 rfl ?_)|simp only[go_sem,Option.isSome_some,decide_eq_false c1,hp.hb.cell,decide_eq_true (show(64:Int)≤(s.Q.length:Int) by omega)]))
    rw[show pushO (some s) y=(6,some s) by simp[pushO,c1,c2]]
    exact⟨rfl,Only.refl _ _,_,h0,fun x hx=>.inl (by simpa using hx)⟩
   ·(repeat(first|with_reducible(first|refine nx ?_|refine r_6 rfl ?_)|simp only[go_sem,Option.isSome_some,decide_eq_false c1,hp.hb.cell,decide_eq_false (show¬(64:Int)≤(s.Q.length:Int) by omega)]))
    rw[fillL_one rfl rfl]
    (repeat(first|with_reducible(first|refine nx ?_|refine r_6 rfl ?_)|simp only[go_sem]))
    refine bslT fun q w1 hq hs1 hat1 ho1=>?_
    (repeat(first|with_reducible(first|refine nx ?_|refine r_6 rfl ?_)|simp only[go_sem]))
    refine appT (hp.h2.keep0 ho1) (SrcIs.at hat1 rfl) (by simp[oneC]) (by omega) (by omega) ?_
    intro v' w2 fp' hs2 hfp ho2 _
    obtain⟨n1,n2,n3,n4,n5,n6,n7,n8,n9,n10,n11⟩:=rnd hp.nd
    have hb2:=(hp.hb.keep0 ho1).keep ho2 n4
    (repeat(first|with_reducible(first|refine nx ?_|refine r_6 rfl ?_)|simp only[go_sem]))
    refine stT hb2 (by simp) hs2.oneC fun w3 hs3 hat3 ho3=>?_
    (repeat(first|with_reducible(first|refine nx ?_|refine r_6 rfl ?_)|simp only[go_sem]))
    have hlt:=hp.hb.lt
    have hmem: ∀x,x∈fp'→x∈fq∨w.heap.size≤x:=by
     intro x hx
     rcases hfp with rfl|rfl
     ·exact .inl hx
     ·simp only[List.mem_singleton]at hx;right;omega
    have hbf:b∉fp':=fun hx=>(hmem b hx).elim n4 (fun h=>by omega)
    have hO:Only (b::fq) w w3:=(ho1.of_nil.same (ho2.mono fun x hx=>.inl (by simp[hx]))).same (ho3.mono fun x hx=>.inl (by simp only[List.mem_singleton]at hx;simp[hx]))
    have hq3:Sl w3 1 v' (s.Q++[y]).length (ints (s.Q++[y])) fp':=by
     rw[ints_append,List.length_append]
     exact hs2.keep ho3 fun x hx hx2=>by simp only[List.mem_singleton]at hx2;subst hx2;exact hbf hx
    have hp3:=hp.turn (q:=s.Q++[y]) (by simp;omega) hq3 hat3 hO hmem
    rw[show pushO (some s) y=(0,some {s with Q:=s.Q++[y]}) by simp[pushO,c1,c2]]
    refine⟨rfl,hO.mono fun x hx=>.inl ?_,_,⟨b,rfl,hp3⟩,fun x hx=>?_⟩
    ·simp only[List.mem_cons]at hx
     rcases hx with rfl|hx<;>simp_all
    ·simp only[List.mem_cons,List.mem_append]at hx⊢
     rcases hx with rfl|hx|hx|hx|hx
     ·exact .inl (.inl rfl)
     ·exact .inl (.inr (.inl hx))
     ·exact .inl (.inr (.inr (.inl hx)))
     ·exact .inl (.inr (.inr (.inr (.inl hx))))
     ·exact(hmem x hx).imp (fun h=>.inr (.inr (.inr (.inr h)))) id
structure RowsAt (w:World) (n0:Nat) (S:List Int) (t:Nat) (v:Value) (rows:List (Nat×Nat)) (fs:List Nat):Prop where
 len:rows.length=t
 nd:(fs++rows.map (·.1)).Nodup
 sl:Sl w 1 v t (rowsV rows) fs
 hr: ∀u,u<t→ ∃ys,At w (rows.getD u (0,0)).1 (ints (rowS S u)++ys)
 new: ∀x,x∈fs++rows.map (·.1)→n0≤x
theorem RowsAt.keep {w w':World} {n0 t:Nat} {S:List Int} {v:Value} {rows:List (Nat×Nat)} {fs T:List Nat} (h:RowsAt w n0 S t v rows fs) (k:Only T w w') (hd: ∀x,x∈fs++rows.map (·.1)→x∉T):RowsAt w' n0 S t v rows fs:=
 ⟨h.len,h.nd,h.sl.keep k fun x hx=>hd x (by simp[hx]),fun u hu=>let ⟨ys,hy⟩:=h.hr u hu;⟨ys,hy.keep k (hd _ (by rw[List.mem_append];exact .inr (getD_mem (by rw[h.len];exact hu))))⟩,h.new⟩
theorem RowsAt.keep0 {w w':World} {n0 t:Nat} {S:List Int} {v:Value} {rows:List (Nat×Nat)} {fs:List Nat} (h:RowsAt w n0 S t v rows fs) (k:Only [] w w'):RowsAt w' n0 S t v rows fs:=h.keep k fun _ _=>by simp
theorem RowsAt.zero (w:World) (n0:Nat) (S:List Int):RowsAt w n0 S 0 (.slice none 0 0) [] []:=⟨rfl,by simp,Sl.nil1 w,fun u hu=>absurd hu (by omega),by simp⟩
theorem RowsAt.lt {w:World} {n0 t:Nat} {S:List Int} {v:Value} {rows:List (Nat×Nat)} {fs:List Nat} (h:RowsAt w n0 S t v rows fs): ∀x,x∈fs++rows.map (·.1)→x<w.heap.size:=by
 intro x hx
 rcases List.mem_append.1 hx with hx|hx
 ·exact h.sl.lt x hx
 ·rw[List.mem_map]at hx
  obtain⟨r,hr,rfl⟩:=hx
  obtain⟨u,hu,rfl⟩:=List.mem_iff_getElem.1 hr
  obtain⟨ys,hy⟩:=h.hr u (by rw[←h.len];exact hu)
  have:=hy.lt
  simpa[hu]using this
theorem RowsAt.snoc {w w':World} {n0 t g c:Nat} {S:List Int} {v v':Value} {rows:List (Nat×Nat)} {fs fs':List Nat} {ys:List Value} (h:RowsAt w n0 S t v rows fs) (hs:Sl w' 1 v' (t+1) (rowsV rows++[.slice (some ⟨g,0,none⟩) 16 c]) fs') (hf:fs'=fs∨fs'=[w.heap.size])
  (ho:Only fs w w') (hg:At w g (ints (rowS S t)++ys)) (hgn:g∉fs++rows.map (·.1)) (hg0:n0≤g) (h0:n0≤w.heap.size):RowsAt w' n0 S (t+1) v' (rows++[(g,c)]) fs':=by
 have hlt:=h.lt
 have hglt:=hg.lt
 simp only[List.mem_append,not_or]at hgn
 have hnd:=h.nd
 rw[List.nodup_append]at hnd
 obtain⟨nd1,nd2,nd3⟩:=hnd
 have hf': ∀x,x∈fs'→x∈fs∨x=w.heap.size:=by
  intro x hx
  rcases hf with rfl|rfl
  ·exact .inl hx
  ·simp only[List.mem_singleton]at hx;exact .inr hx
 refine⟨by simp[h.len],?_,by simpa[rowsV]using hs,fun u hu=>?_,fun x hx=>?_⟩
 ·rw[List.nodup_append]
  refine⟨hs.nodup,?_,fun x hx y hy e=>?_⟩
  ·rw[List.map_append,List.nodup_append]
   refine⟨nd2,by simp,fun x hx y hy e=>?_⟩
   simp only[List.map_cons,List.map_nil,List.mem_singleton]at hy
   subst hy;subst e;exact hgn.2 hx
  ·subst e
   rw[List.map_append,List.mem_append]at hy
   rcases hf' x hx with h1|h1
   ·rcases hy with hy|hy
    ·exact nd3 x h1 x hy rfl
    ·simp only[List.map_cons,List.map_nil,List.mem_singleton]at hy;subst hy;exact hgn.1 h1
   ·rcases hy with hy|hy
    ·have:=hlt x (by simp only[List.mem_append];exact .inr hy);omega
    ·simp only[List.map_cons,List.map_nil,List.mem_singleton]at hy;omega
 ·by_cases e:u<t
  ·obtain⟨zs,hz⟩:=h.hr u e
   have e1:(rows++[(g,c)]).getD u (0,0)=rows.getD u (0,0):=by simp[List.getElem?_append_left (show u<rows.length by rw[h.len];exact e)]
   rw[e1]
   refine⟨zs,hz.keep ho fun hx=>?_⟩
   exact nd3 _ hx _ (getD_mem (by rw[h.len];exact e)) rfl
  ·have:u=t:=by omega
   subst this
   have e1:(rows++[(g,c)]).getD u (0,0)=(g,c):=by simp[←h.len]
   rw[e1]
   exact⟨ys,hg.keep ho hgn.1⟩
 ·rw[List.map_append,←List.append_assoc]at hx
  simp only[List.mem_append,List.map_cons,List.map_nil,List.mem_singleton]at hx
  rcases hx with(hx|hx)|hx
  ·rcases hf' x hx with h1|h1
   ·exact h.new x (by simp[h1])
   ·omega
  ·exact h.new x (by simp only[List.mem_append];exact .inr hx)
  ·omega
end Rt
end Go.Proofs.YtgcofabdialaaaaGreat
end
section
namespace Go.Proofs.YtgcofabdialaaaaGreat
namespace Rt
set_option maxRecDepth 8000
theorem rowS_replicate {n t:Nat} (h:t<n):rowS (List.replicate (16*n) 0) t=List.replicate 16 0:=by
 unfold rowS
 rw[List.drop_replicate,List.take_replicate]
 congr 1;omega
theorem rNew (w : World) (n : Int) : Cs Tryz.prog 89 [.int .i64 n] w fun v w' => Only [] w w' ∧ ∃ a fp, v = .tuple #[.pointer a, .int .i64 (if (newO n).isSome then 0 else 1)] ∧ RR w' a fp (newO n) ∧ (newO n = none → a = none) ∧ ∀ x, x ∈ fp → w.heap.size ≤ x := by
  refine enter_ref03_New rfl ?_
  unfold x_ref03_New
  by_cases c1 : n < 1
  · (repeat (first | with_reducible (first | refine nx ?_ | refine r_6 rfl ?_) | simp only [go_sem, decide_eq_true c1]))
    have : newO n = none := by unfold newO; rw [if_neg (by omega)]
    rw [this]
    exact ⟨Only.refl _ _, none, [], rfl, ⟨rfl, rfl⟩, fun _ => rfl, by simp⟩
  by_cases c2 : 4 < n
  · (repeat (first | with_reducible (first | refine nx ?_ | refine r_6 rfl ?_) | simp only [go_sem, decide_eq_false c1, decide_eq_true c2]))
    have : newO n = none := by unfold newO; rw [if_neg (by omega)]
    rw [this]
    exact ⟨Only.refl _ _, none, [], rfl, ⟨rfl, rfl⟩, fun _ => rfl, by simp⟩
  obtain ⟨k, rfl⟩ : ∃ k : Nat, n = k := ⟨n.toNat, by omega⟩
  have hnew : newO (k : Int) = some ⟨k, List.replicate (16 * k) 0, List.replicate 16 0, []⟩ := by
    unfold newO; rw [if_pos (by omega)]; simp
  (repeat (first | with_reducible (first | refine nx ?_ | refine r_6 rfl ?_) | simp only [go_sem, decide_eq_false c1, decide_eq_false c2]))
  refine mksT (n := 16) (m := 16) (Nat.le_refl _) (by omega) (by omega) fun gg w1 hgg hs1 hat1 ho1 => ?_
  (repeat (first | with_reducible (first | refine nx ?_ | refine r_6 rfl ?_) | simp only [go_sem]))
  rw [fillL_one rfl rfl]
  (repeat (first | with_reducible (first | refine nx ?_ | refine r_6 rfl ?_) | simp only [go_sem]))
  refine boxT fun b w2 hb hs2 hat2 ho2 => ?_
  (repeat (first | with_reducible (first | refine nx ?_ | refine r_6 rfl ?_) | simp only [go_sem]))
  have hO2 := ho1.nil ho2
  have hG2 := hat1.keep0 ho2
  rw [rowZ_one] at hG2
  refine run_loop (5 :: 15 :: 16 :: 17 :: 18 :: 19 :: 20 :: 21 :: 22 :: 23 :: 24 :: 25 :: 26 :: 27 :: 28 :: 29 :: []) (fun g w' => ∃ (t : Nat) (v : Value) (rows : List (Nat × Nat)) (fs : List Nat), g 5 = .int .i64 t ∧ t ≤ k ∧ At w' b [v, .slice (some ⟨gg, 0, none⟩) 16 16, .slice none 0 0] ∧ RowsAt w' w2.heap.size (List.replicate (16 * k) 0) t v rows fs ∧ At w' gg (List.replicate 16 (.int .i64 0)) ∧ Only [] w w')
    (fun g _ => upTo k 5 g) ⟨0, _, [], [], by simp only [go_sem]; rfl, by omega, hat2, RowsAt.zero _ _ _, hG2, hO2⟩ fun g w3 hI hnext => ?_
  obtain ⟨t, v, rows, fs, h5, ht, hbt, hrows, hG, hO⟩ := hI
  (repeat (first | with_reducible (first | refine nx ?_ | refine r_6 rfl ?_) | simp only [go_sem, h5]))
  refine condT (fun hlt => ?_) (fun hge => ?_)
  · have hlt : t < k := by have : (t : Int) < (k : Int) := by simpa using hlt
                           omega
    (repeat (first | with_reducible (first | refine nx ?_ | refine r_6 rfl ?_) | simp only [go_sem]))
    refine run_drt [b] ?_
    have hd3 : w3.drew.heap.size = w3.heap.size := rfl
    have hbt' := hbt.lt
    have hz2 := hO.size
    have hz3 : w2.heap.size ≤ w3.heap.size := by
      have := hG.lt; omega
    have sbk : ∀ w', Only [] w3.drew w' → SB [b] w3.drew w' := fun w' ho => (SB.refl _ _).only ho fun x hx => by simp only [List.mem_singleton] at hx; subst hx; exact ⟨hbt', by simp⟩
    (repeat (first | with_reducible (first | refine nx ?_ | refine r_6 rfl ?_) | simp only [go_sem, hbt.cell]))
    refine mksS (n := 16) (m := 16) (Nat.le_refl _) (by omega) (by omega) fun g1 w4 hg1 hs4 hat4 ho4 => ⟨.inr (sbk _ ho4), ?_⟩
    (repeat (first | with_reducible (first | refine nx ?_ | refine r_6 rfl ?_) | simp only [go_sem]))
    rw [fillL_one rfl rfl]
    (repeat (first | with_reducible (first | refine nx ?_ | refine r_6 rfl ?_) | simp only [go_sem]))
    refine bslS fun q w5 hq hs5 hat5 ho5 => ⟨.inr (sbk _ (ho4.nil ho5)), ?_⟩
    have hO35 : Only [] w3 w5 := Only.drew_left (ho4.nil ho5)
    (repeat (first | with_reducible (first | refine nx ?_ | refine r_6 rfl ?_) | simp only [go_sem]))
    have hr5 := hrows.keep0 hO35
    refine appS hr5.sl (SrcIs.at hat5 rfl) (by simp [oneC]) (by omega) (by omega) ?_
    intro v' w6 fs' hs6 hf6 ho6 _
    refine ⟨.inl rfl, ?_⟩
    have hbfs : b ∉ fs := fun hx => by have := hrows.new b (by simp [hx]); omega
    have hb6 := (hbt.keep0 hO35).keep ho6 hbfs
    (repeat (first | with_reducible (first | refine nx ?_ | refine r_6 rfl ?_) | simp only [go_sem]))
    refine stS hb6 (by simp) hs6.oneC fun w7 hs7 hat7 ho7 => ⟨.inl rfl, ?_⟩
    (repeat (first | with_reducible (first | refine nx ?_ | refine r_6 rfl ?_) | simp only [go_sem, h5, i64_succ t (by omega)]))
    have hltr := hrows.lt
    have hr6 := hr5.snoc (g := g1) (c := 16) (ys := []) hs6 hf6 ho6 (by rw [rowS_replicate hlt, ints_replicate, List.append_nil]; rw [rowZ_one] at hat4; exact hat4.keep0 ho5) (fun hx => by have := hltr g1 hx; omega) (by omega) (by omega)
    have hggfs : gg ∉ fs := fun hx => by have := hrows.new gg (by simp [hx]); omega
    refine hnext _ w7 ?_ ⟨t + 1, v', _, fs', ?_, by omega, hat7, hr6.keep ho7 ?_, ((hG.keep0 hO35).keep ho6 hggfs).keep ho7 (by simp only [List.mem_singleton]; omega), ?_⟩ ?_
    · (repeat (first | with_reducible exact k_1 | with_reducible exact Keeps.ovr _ _ _ | refine Keeps.put ?_ rfl _ | exact k_1 | exact Keeps.ovr _ _ _ | refine Keeps.ovr2 ?_ rfl _))
    · simp only [go_sem]
    · intro x hx; have := hr6.new x hx; simp only [List.mem_singleton]; omega
    · refine (hO.trans (hO35.of_nil.same (ho6.mono (T := fs) fun x hx => .inl hx)) fun x hx => .inr ?_).trans ho7 fun x hx => .inr ?_
      · have := hrows.new x (by simp [hx]); omega
      · simp only [List.mem_singleton] at hx; omega
    · rw [upTo_int h5, upTo_int (k := .i64) (i := t + 1) (by simp only [go_sem])]; omega
  · have : t = k := by have : ¬ (t : Int) < (k : Int) := by simpa using hge
                       omega
    subst this
    (repeat (first | with_reducible (first | refine nx ?_ | refine r_6 rfl ?_) | simp only [go_sem]))
    rw [hnew]
    have hok := newO_ok hnew
    have hnd := hrows.nd
    have hG' : At w3 gg (ints (List.replicate 16 0) ++ []) := by rw [ints_replicate, List.append_nil]; exact hG
    refine ⟨hO, some ⟨b, 0, none⟩, b :: (fs ++ (rows.map (·.1) ++ ([gg] ++ []))), rfl, ⟨b, rfl, v, _, _, fs, rows, [gg], [], rfl, ⟨hok, hrows.len, ?_, hbt, hrows.sl, hrows.hr, Sl.mk1 hG' (by simp [ints_length]) (by simp [ints_length]), Sl.nil1 _⟩⟩, (fun h => by cases h), fun x hx => ?_⟩
    · have hn := hrows.new
      rw [List.nodup_append] at hnd
      simp only [List.append_nil, List.nodup_cons, List.mem_append, not_or, List.nodup_append, List.mem_singleton]
      refine ⟨⟨fun hx => by have := hn b (by simp [hx]); omega, fun hx => by have := hn b (by simp only [List.mem_append]; exact .inr hx); omega, by omega⟩, hnd.1, ⟨hnd.2.1, by simp, fun x hx y hy e => ?_⟩, fun x hx y hy e => ?_⟩
      · subst hy; subst e; have := hn x (by simp only [List.mem_append]; exact .inr hx); omega
      · subst e
        rcases hy with hy | hy
        · exact hnd.2.2 x hx x hy rfl
        · subst hy; have := hn x (by simp [hx]); omega
    · simp only [List.append_nil, List.mem_cons, List.mem_append, List.mem_singleton, List.not_mem_nil, or_false] at hx
      rcases hx with rfl | hx | hx | rfl
      · omega
      · have := hrows.new x (by simp [hx]); omega
      · have := hrows.new x (by simp only [List.mem_append]; exact .inr hx); omega
      · omega
end Rt
end Go.Proofs.YtgcofabdialaaaaGreat
end
section
namespace Go.Proofs.YtgcofabdialaaaaGreat
namespace Rt
set_option maxRecDepth 8000
def segJ (s:MS) (j:Nat):Nat×Nat:=if j<16*s.M then(0,j)else if j<16*s.M+16 then(1,j-16*s.M)else(2,j-16*s.M-16)
theorem V_length {s:MS} (h:s.Ok):s.V.length=16*s.M+16+s.Q.length:=by simp only[MS.V,List.length_append,h.ls,h.lg]
theorem wr_segJ {s:MS} (h:s.Ok) {j:Nat} (hj:j<16*s.M+16+s.Q.length) (a:Int):(s.wr (segJ s j) a).V=s.V.set j a:=by
 have h1:=h.ls;have h2:=h.lg
 unfold segJ MS.V
 by_cases c1:j<16*s.M
 ·rw[if_pos c1,List.set_append_left _ _ (by simp;omega),List.set_append_left _ _ (by omega)];rfl
 ·rw[if_neg c1]
  by_cases c2:j<16*s.M+16
  ·rw[if_pos c2,List.set_append_left _ _ (by simp;omega),List.set_append_right _ _ (by omega),h1];rfl
  ·rw[if_neg c2,List.set_append_right _ _ (by simp;omega),List.length_append,h1,h2,show j-(16*s.M+16)=j-16*s.M-16 by omega];rfl
theorem wr_M (s:MS) (x:Nat×Nat) (a:Int):(s.wr x a).M=s.M:=by unfold MS.wr;split<;>rfl
theorem wr_Q (s:MS) (x:Nat×Nat) (a:Int):(s.wr x a).Q.length=s.Q.length:=by unfold MS.wr;split<;>simp
def idx (s:MS):List Nat:=(List.range (16*s.M+16+s.Q.length)).filter fun j=>s.V.getD j 0 !=0
theorem idx_nodup (s:MS):(idx s).Nodup:=List.Nodup.sublist List.filter_sublist List.nodup_range
theorem idx_lt {s:MS} {j:Nat} (h:j∈idx s):j<16*s.M+16+s.Q.length∧s.V.getD j 0≠0:=by
 unfold idx at h
 rw[List.mem_filter]at h
 exact⟨by simpa using h.1,by simpa using h.2⟩
theorem idx_mem {s:MS} {j:Nat} (h1:j<16*s.M+16+s.Q.length) (h2:s.V.getD j 0≠0):j∈idx s:=by
 unfold idx
 rw[List.mem_filter]
 exact⟨by simpa using h1,by simpa using h2⟩
theorem map_V (s:MS) (f:Int→Int):(s.map f).V=s.V.map f:=by simp[MS.map,MS.V]
theorem MS.ext_V {s t:MS} (hs:s.Ok) (ht:t.Ok) (hM:s.M=t.M) (hV:s.V=t.V):s=t:=by
 obtain⟨M,S,G,Q⟩:=s
 obtain⟨M',S',G',Q'⟩:=t
 have h1:=hs.ls;have h2:=ht.ls;have h3:=hs.lg;have h4:=ht.lg
 simp only at hM h1 h2 h3 h4
 subst hM
 simp only[MS.V]at hV
 obtain⟨h5,h6⟩:=List.append_inj hV (by simp;omega)
 obtain⟨h7,h8⟩:=List.append_inj h5 (by omega)
 subst h6 h7 h8
 rfl
theorem MS.Ok.map {s:MS} (h:s.Ok) (f:Int→Int):(s.map f).Ok:=
 ⟨h.m1,h.m4,by have:=h.ls;simpa[MS.map]using this,by have:=h.lg;simpa[MS.map]using this,by have:=h.lq;simpa[MS.map]using this⟩
end Rt
end Go.Proofs.YtgcofabdialaaaaGreat
end
section
namespace Go.Proofs.YtgcofabdialaaaaGreat
namespace Rt
set_option maxRecDepth 8000
theorem _root_.Go.Proofs.YtgcofabdialaaaaGreat.Sl.posN {w:World} {sz:Nat} {v:Value} {n:Nat} {xs:List Value} {fp:List Nat} (h:Sl w sz v n xs fp) (hn:0<n): ∃g cap ys,v=.slice (some ⟨g,0,none⟩) n cap∧At w g (xs++ys)∧fp=[g]:=by
 rcases h.2 with⟨_,h0,_⟩|⟨g,cap,ys,T,h1,h2,h3,h4,h5⟩
 ·omega
 ·exact⟨g,cap,ys,h1,⟨T,h3⟩,h2⟩
theorem plsV_drop: ∀(L:List PT) (i:Nat),(plsV L).drop (i*3)=plsV (L.drop i)
 |L,0=>by simp
 | [],i+1=>by simp[plsV]
 |p::L,i+1=>by
  have e:plsV (p::L)=plV p++plsV L:=by simp[plsV]
  rw[e,show(i+1)*3=(plV p).length+i*3 by simp[plV];omega,List.drop_append,Nat.add_sub_cancel_left,plsV_drop L i]
  simp
theorem plsV_cells {w:World} {g i:Nat} {L:List PT} {ys:List Value} (h:At w g (plsV L++ys)) (hi:i<L.length):cellsAt w ⟨g,i*3,none⟩ 3=some (plV (L.getD i (0,0,0))):=by
 have hl:=plsV_length L
 rw[cellsAt_at h _ _ (by rw[List.length_append];omega),List.drop_append_of_le_length (by omega),List.take_append_of_le_length (by simp;omega),plsV_drop,List.drop_eq_getElem_cons hi]
 simp only[plsV,List.flatMap_cons]
 simp[plV,hi]
theorem _root_.Go.Proofs.YtgcofabdialaaaaGreat.Sl.place {w:World} {v:Value} {n i:Nat} {L:List PT} {fp:List Nat} (h:Sl w 3 v n (plsV L) fp) (hi:i<L.length): ∃g cap,v=.slice (some ⟨g,0,none⟩) L.length cap∧cellsAt w ⟨g,i*3,none⟩ 3=some (plV (L.getD i (0,0,0)))∧g∈fp:=by
 have hn:n=L.length:=by have:=h.1;rw[plsV_length]at this;omega
 subst hn
 obtain⟨g,cap,ys,h1,h2,h3⟩:=h.posN (by omega)
 exact⟨g,cap,h1,plsV_cells h2 hi,by rw[h3];simp⟩
end Rt
end Go.Proofs.YtgcofabdialaaaaGreat
end
section
namespace Go.Proofs.YtgcofabdialaaaaGreat
namespace Rt
set_option maxRecDepth 8000
theorem idx_at {s:MS} {i:Nat} (hi:i<(idx s).length):(idx s).getD i 0<16*s.M+16+s.Q.length∧s.V.getD ((idx s).getD i 0) 0≠0:=by
 have:(idx s).getD i 0∈idx s:=by simp[hi]
 exact idx_lt this
end Rt
end Go.Proofs.YtgcofabdialaaaaGreat
end
section
namespace Go.Proofs.YtgcofabdialaaaaGreat
namespace Rt
set_option maxRecDepth 8000
structure Stage (s u:MS) (f:Int→Int) (i:Nat):Prop where
 ok:u.Ok
 M:u.M=s.M
 Q:u.Q.length=s.Q.length
 V: ∀j,j<16*s.M+16+s.Q.length→u.V.getD j 0=if j∈(idx s).take i then f (s.V.getD j 0)else s.V.getD j 0
theorem Stage.zero {s:MS} (h:s.Ok) (f:Int→Int):Stage s s f 0:=⟨h,rfl,rfl,fun j _=>by simp⟩
theorem not_mem_take {l:List Nat} (h:l.Nodup) {i:Nat} (hi:i<l.length):l.getD i 0∉l.take i:=by
 intro hm
 obtain⟨k,hk,e⟩:=List.mem_iff_getElem.1 hm
 have hk':k<i:=by rw[List.length_take]at hk;omega
 have hp:=List.pairwise_iff_getElem.1 h k i (by omega) hi hk'
 simp only[List.getElem_take]at e
 rw[List.getD_eq_getElem?_getD,List.getElem?_eq_getElem hi,Option.getD_some]at e
 exact hp e
theorem Stage.same {s u:MS} {f:Int→Int} {i:Nat} (h:Stage s u f i) (hi:i<(idx s).length):u.V.getD ((idx s).getD i 0) 0=s.V.getD ((idx s).getD i 0) 0:=by
 rw[h.V _ (idx_at hi).1,if_neg (not_mem_take (idx_nodup s) hi)]
theorem Stage.step {s u:MS} {f:Int→Int} {i:Nat} (h:Stage s u f i) (hi:i<(idx s).length):Stage s (u.wr (segJ u ((idx s).getD i 0)) (f (s.V.getD ((idx s).getD i 0) 0))) f (i+1):=by
 have hj:=(idx_at hi).1
 have hju:(idx s).getD i 0<16*u.M+16+u.Q.length:=by rw[h.M,h.Q];exact hj
 refine⟨h.ok.wr _ _,by rw[wr_M];exact h.M,by rw[wr_Q];exact h.Q,fun k hk=>?_⟩
 have hku:k<u.V.length:=by rw[V_length h.ok,h.M,h.Q];exact hk
 have ht:(idx s).take (i+1)=(idx s).take i++[(idx s).getD i 0]:=by rw[List.take_succ_eq_append_getElem hi];simp[hi]
 rw[wr_segJ h.ok hju,ht]
 simp only[List.mem_append,List.mem_singleton]
 by_cases e:k=(idx s).getD i 0
 ·rw[if_pos (.inr e)]
  simp only[List.getD_eq_getElem?_getD]at e⊢
  rw[e,List.getElem?_set_self (by rw[←e];exact hku)]
  rfl
 ·have h1:=h.V k hk
  have e2:(u.V.set ((idx s).getD i 0) (f (s.V.getD ((idx s).getD i 0) 0))).getD k 0=u.V.getD k 0:=by
   simp only[List.getD_eq_getElem?_getD]at e⊢
   rw[List.getElem?_set_ne (fun h=>e h.symm)]
  rw[e2,h1]
  by_cases hm:k∈(idx s).take i
  ·rw[if_pos hm,if_pos (.inl hm)]
  ·rw[if_neg hm,if_neg (fun h=>h.elim hm e)]
theorem Stage.skip {s u:MS} {f:Int→Int} {i:Nat} (h:Stage s u f i) (hi:i<(idx s).length) (he:f (s.V.getD ((idx s).getD i 0) 0)=s.V.getD ((idx s).getD i 0) 0):Stage s u f (i+1):=by
 have ht:(idx s).take (i+1)=(idx s).take i++[(idx s).getD i 0]:=by rw[List.take_succ_eq_append_getElem hi];simp[hi]
 refine⟨h.ok,h.M,h.Q,fun k hk=>?_⟩
 rw[h.V k hk,ht]
 simp only[List.mem_append,List.mem_singleton]
 by_cases e:k=(idx s).getD i 0
 ·rw[if_pos (Or.inr e:k∈(idx s).take i∨k=(idx s).getD i 0),e,if_neg (not_mem_take (idx_nodup s) hi),he]
 ·by_cases hm:k∈(idx s).take i
  ·rw[if_pos hm,if_pos (.inl hm)]
  ·rw[if_neg hm,if_neg (fun h=>h.elim hm e)]
theorem Stage.end {s u:MS} {f:Int→Int} (h0:s.Ok) (h:Stage s u f (idx s).length) (hf:f 0=0):u=s.map f:=by
 refine MS.ext_V h.ok (h0.map f) h.M ?_
 rw[map_V]
 apply List.ext_getElem
 ·rw[V_length h.ok,List.length_map,V_length h0,h.M,h.Q]
 ·intro j h1 h2
  have hj:j<s.V.length:=by simpa using h2
  have hj':j<16*s.M+16+s.Q.length:=by rw[←V_length h0];exact hj
  have:=h.V j hj'
  rw[List.take_length]at this
  simp only[List.getD_eq_getElem?_getD,List.getElem?_eq_getElem h1,List.getElem?_eq_getElem hj,Option.getD_some]at this
  rw[this,List.getElem_map]
  by_cases hm:j∈idx s
  ·rw[if_pos hm]
  ·rw[if_neg hm]
   have:s.V.getD j 0=0:=by
    rcases Classical.em (s.V.getD j 0=0)with e|e
    ·exact e
    ·exact absurd (idx_mem hj' e) hm
   simp only[List.getD_eq_getElem?_getD,List.getElem?_eq_getElem hj,Option.getD_some]at this
   rw[this,hf]
end Rt
end Go.Proofs.YtgcofabdialaaaaGreat
end
section
namespace Go.Proofs.YtgcofabdialaaaaGreat
set_option maxRecDepth 8000
section
variable {P:Program} {t et:TypeId} {w:World} {g o n cap:Nat} {vs:List Value} {z:Value}
theorem zeroCells_one (z:Value) (n:Nat):(Builtin.zeroCells #[z] n).toList=List.replicate n z:=by
 apply List.ext_getElem
 ·simp[Builtin.zeroCells]
 ·intro i h1 h2
  simp[Builtin.zeroCells,Nat.mod_one]
theorem setL_rep: ∀(n o:Nat) (vs:List Value),o+n≤vs.length→setL vs o (List.replicate n z)=vs.take o++List.replicate n z++vs.drop (o+n)
 |0,o,vs,_=>by simp[setL]
 |n+1,o,vs,h=>by
  rw[List.replicate_succ,setL,setL_rep n (o+1) (vs.set o z) (by simp;omega)]
  have e1:(vs.set o z).take (o+1)=vs.take o++[z]:=by
   rw[List.take_add_one,List.take_set_of_le (Nat.le_refl o)]
   simp[show o<vs.length by omega]
  have e2:(vs.set o z).drop (o+1+n)=vs.drop (o+(n+1)):=by
   rw[List.drop_set_of_lt (by omega),show o+1+n=o+(n+1) by omega]
  rw[e1,e2];simp
theorem run_clearS {ty:TypeId} (ht:P.underlying t=some (.slice et)) (hz:(zeroValue et).run P w=.ok z w) (h1:oneC z=true) (h:At w g vs) (hn:o+n≤vs.length):
  ∃w',(Builtin.clear_ #[t] ty #[.slice (some ⟨g,o,none⟩) n cap]).run P w=.ok (.tuple #[]) w'∧w'.heap.size=w.heap.size∧At w' g (vs.take o++List.replicate n z++vs.drop (o+n))∧Only [g] w w':=by
 obtain⟨T,hT⟩:=h
 have hone: ∀u,u∈List.replicate n z→oneC u=true:=fun u hu=>by rw[(List.mem_replicate.1 hu).2];exact h1
 obtain⟨k1,k2,k3,k4⟩:=setCells_at (off:=o) (List.replicate n z) 0 w vs hT (by simpa using hn) hone
 refine⟨World.setCells w ⟨g,o,none⟩ (List.replicate n z) 0,?_,k4,⟨T,?_⟩,k3⟩
 ·cases n with
  |zero=>simp[Builtin.clear_,run_under ht,World.setCells]
  |succ n=>
   have e:=run_storeCells (P:=P) (p:=⟨g,o,none⟩) (List.replicate (n+1) z) 0 w k1
   have ez:(Builtin.zeroCells z.cells (n+1)).toList=List.replicate (n+1) z:=by rw[(oneC_one h1).2];exact zeroCells_one z (n+1)
   simp[Builtin.clear_,run_under ht,hz,ez,e]
 ·rw[k2,Nat.add_zero,setL_rep n o vs hn]
theorem clearT {d:Option Nat} {rest:List XO} {ρ:Env} {C:Env→World→Prop} (ht:P.underlying t=some (.slice et)) (hz:(zeroValue et).run P w=.ok z w) (h1:oneC z=true) (h:At w g vs) (hn:o+n≤vs.length)
  (k: ∀w',w'.heap.size=w.heap.size→At w' g (vs.take o++List.replicate n z++vs.drop (o+n))→Only [g] w w'→VO P rest (putO ρ d (.tuple #[])) w' C):RunT P (Builtin.clear_ #[t] 0 #[.slice (some ⟨g,o,none⟩) n cap]) d rest ρ w C:=by
 obtain⟨w',e1,e2,e3,e4⟩:=run_clearS (P:=P) (ty:=0) (cap:=cap) ht hz h1 h hn
 exact runT e1 (k w' e2 e3 e4)
end
def wipeW (W:List Int) (a n:Nat):List Int:=W.take a++List.replicate n 0++W.drop (a+n)
theorem wipeW_len {W:List Int} {a n:Nat} (h:a+n≤W.length):(wipeW W a n).length=W.length:=by simp[wipeW];omega
theorem wipeW_get {W:List Int} {a n:Nat} (h:a+n≤W.length) (i:Nat):(wipeW W a n).getD i 0=if a≤i∧i<a+n then 0 else W.getD i 0:=by
 unfold wipeW
 simp only[List.getD_eq_getElem?_getD]
 by_cases c1:i<a
 ·rw[if_neg (by omega),List.append_assoc,List.getElem?_append_left (by simp;omega),List.getElem?_take,if_pos c1]
 ·by_cases c2:i<a+n
  ·rw[if_pos ⟨by omega,c2⟩,List.append_assoc,List.getElem?_append_right (by simp;omega),List.getElem?_append_left (by simp;omega)]
   simp only[List.length_take]
   rw[List.getElem?_replicate,if_pos (by omega)];rfl
  ·rw[if_neg (by omega),List.getElem?_append_right (by simp;omega),List.getElem?_drop]
   congr 2
   simp;omega
def killM (m:HO) (x:Int):HO:=match m with
 |none=>none
 |some s=>if objE (some s) x=0 then some {s with W:=wipeW s.W x.toNat (s.size x.toNat).toNat,st:=s.st.set (x.toNat/2) 0,pn:=s.pn.set (x.toNat/2) 0,pl:=delM s.pl (s.W.getD x.toNat 0)}else some s
def pinM (m:HO) (x:Int) (v:Nat):HO:=match m with
 |none=>none
 |some s=>if objE (some s) x=0 then some {s with pn:=s.pn.set (x.toNat/2) v}else some s
def pinnedO (m:HO) (x:Int):Bool:=match m with
 |none=>false
 |some s=>hasO (some s) x&&s.pins.get (x/2)==1
def identO (m:HO) (x:Int):Int×Int:=match m with
 |none=>(0,5)
 |some s=>if objE (some s) x=0 then(s.W.getD x.toNat 0,0)else(0,objE (some s) x)
def dataO (m:HO) (a i:Int):Int×Int:=match m with
 |none=>(0,5)
 |some s=>if(fieldO m a i true).2=0 then(s.W.getD (fieldO m a i true).1.toNat 0,0)else(0,(fieldO m a i true).2)
def bornO (m:HO):Nat:=match m with|none=>0|some s=>s.born
theorem obj_has {m:HO} {x:Int} (h:objE m x=0): ∃s,m=some s∧hasO (some s) x=true:=by
 cases m with
 |none=>cases h
 |some s=>
  cases hh:hasO (some s) x with
  |true=>exact⟨s,rfl,hh⟩
  |false=>simp[objE,hh]at h
theorem HL.Ok.kill {s:HL} (h:s.Ok) {i:Nat} (hi:s.st.getD i 0=1) {pn:List Nat} {pl:IM} (hp:pn.length=32*s.B.length):HL.Ok {s with W:=wipeW s.W (2*i) (s.size (2*i)).toNat,st:=s.st.set i 0,pn:=pn,pl:=pl}:=by
 obtain⟨g1,g2,g3,_⟩:=h.sz hi
 have hin:2*i+(s.size (2*i)).toNat≤s.W.length:=by omega
 have hst: ∀j,(s.st.set i 0).getD j 0=1→j≠i∧s.st.getD j 0=1:=by
  intro j hj
  by_cases e:j=i
  ·subst e
   simp only[List.getD_eq_getElem?_getD]at hj
   by_cases hl:j<s.st.length
   ·rw[List.getElem?_set_self hl]at hj;cases hj
   ·rw[List.getElem?_eq_none (by simpa using hl)]at hj;cases hj
  ·refine⟨e,?_⟩
   simp only[List.getD_eq_getElem?_getD]at hj⊢
   rw[List.getElem?_set_ne (fun h=>e h.symm)]at hj;exact hj
 have hW: ∀j,j≠i→s.st.getD j 0=1→(wipeW s.W (2*i) (s.size (2*i)).toNat).getD (2*j+1) 0=s.W.getD (2*j+1) 0:=by
  intro j hne hj
  rw[wipeW_get hin,if_neg]
  have:=(h.sz hj).1
  rcases Nat.lt_or_ge i j with hij|hij
  ·have:=h.dj i j hi hj hij;omega
  ·have:=h.dj j i hj hi (by omega);omega
 have hsz: ∀j,j≠i→s.st.getD j 0=1→HL.size {s with W:=wipeW s.W (2*i) (s.size (2*i)).toNat,st:=s.st.set i 0,pn:=pn,pl:=pl} (2*j)=s.size (2*j):=by
  intro j hne hj
  show wordsS (shapeN ((wipeW s.W (2*i) (s.size (2*i)).toNat).getD (2*j+1) 0))=_
  rw[hW j hne hj];rfl
 refine⟨h.b2,h.b64,by simp only;rw[wipeW_len hin];exact h.wl,by simpa using h.sl,hp,fun j hj=>?_,fun j k hj hk hjk=>?_⟩
 ·obtain⟨hne,hj'⟩:=hst j hj
  obtain⟨r,d,q,h1,h2,h3⟩:=h.fit j hj'
  exact⟨r,d,q,h1,by simp only;rw[hW j hne hj'];exact h2,by simp only;rw[wipeW_len hin];exact h3⟩
 ·obtain⟨hne,hj'⟩:=hst j hj
  obtain⟨hnk,hk'⟩:=hst k hk
  rw[hsz j hne hj']
  exact h.dj j k hj' hk' hjk
theorem hSizeW {w:World} {b gW cW i:Nat} {c0:Value} {cs:List Value} {W:List Int} {yW:List Value} (hb:At w b (c0::.slice (some ⟨gW,0,none⟩) W.length cW::cs)) (hW:At w gW (ints W++yW)) (hi:2*i+1<W.length) (hl:W.length≤4096) (h0:0≤W.getD (2*i+1) 0) (h1:W.getD (2*i+1) 0≤100000):
  Cs Tryz.prog 155 [.pointer (some ⟨b,0,none⟩),.int .i64 ((2*i:Nat):Int)] w fun v w'=>v=.int .i64 (wordsS (shapeN (W.getD (2*i+1) 0)))∧Only [] w w':=by
 have e1:IntKind.i64.wrap (((2*i:Nat):Int)+1)=((2*i+1:Nat):Int):=i64_succ _ (by omega)
 have e2:(0:Int)≤((2*i+1:Nat):Int)∧((2*i+1:Nat):Int)<(W.length:Int):=⟨by omega,by omega⟩
 have hc:w.cell? ⟨gW,2*i+1,none⟩=some (.int .i64 (W.getD (2*i+1) 0)):=by rw[hW.cell,ints_append_get yW hi]
 refine enter_heap_Heap_size rfl ?_
 unfold x_heap_Heap_size
 (repeat(first|with_reducible(first|refine nx ?_|refine r_6 rfl ?_)|simp only[go_sem,hb.cell,e1,if_pos e2,Int.toNat_natCast,Nat.mul_one,hc]))
 refine callT1 (hShapeN w _ h0 h1) fun w1 ho1=>?_
 (repeat(first|with_reducible(first|refine nx ?_|refine r_6 rfl ?_)|simp only[go_sem]))
 refine callT1 (hWords w1 _) fun w2 ho2=>?_
 (repeat(first|with_reducible(first|refine nx ?_|refine r_6 rfl ?_)|simp only[go_sem]))
 exact ho1.nil ho2
theorem ints_wipe {W:List Int} {a n:Nat} (yW:List Value) (h:a+n≤W.length):(ints W++yW).take a++List.replicate n (Value.int .i64 0)++(ints W++yW).drop (a+n)=ints (wipeW W a n)++yW:=by
 have hl:(ints W).length=W.length:=ints_length W
 rw[List.take_append_of_le_length (by omega),List.drop_append_of_le_length (by omega)]
 simp[wipeW,ints,List.map_take,List.map_drop,List.append_assoc]
theorem hWipe {w:World} {b gW cW a n:Nat} {c0:Value} {cs:List Value} {W:List Int} {yW:List Value} (hb:At w b (c0::.slice (some ⟨gW,0,none⟩) W.length cW::cs)) (hW:At w gW (ints W++yW)) (hc:W.length≤cW) (hi:a+n≤W.length) (hl:W.length≤4096) (ha:a<W.length):
  Cs Tryz.prog 154 [.pointer (some ⟨b,0,none⟩),.int .i64 ((a:Nat):Int),.int .i64 ((n:Nat):Int)] w fun v w'=>v=.tuple #[]∧w'.heap.size=w.heap.size∧At w' gW (ints (wipeW W a n)++yW)∧Only [gW] w w':=by
 have e1:IntKind.i64.wrap ((a:Int)+(n:Int))=((a+n:Nat):Int):=by rw[IntWalk.i64_in _ (by omega)];omega
 refine enter_heap_Heap_wipe rfl ?_
 unfold x_heap_Heap_wipe
 (repeat(first|with_reducible(first|refine nx ?_|refine r_6 rfl ?_)|simp only[go_sem,hb.cell,e1]))
 rw[slcO_lh (show a≤a+n by omega) (by omega) (by omega)]
 (repeat(first|with_reducible(first|refine nx ?_|refine r_6 rfl ?_)|simp only[go_sem,addr_add,Nat.zero_add,Nat.mul_one,show a+n-a=n by omega]))
 refine clearT Tryz.underlying33 (Tryz.zeroValue3 w) rfl hW (by rw[List.length_append,ints_length];omega) fun w1 hs1 h1 ho1=>?_
 rw[ints_wipe yW hi]at h1
 (repeat(first|with_reducible(first|refine nx ?_|refine r_6 rfl ?_)|simp only[go_sem]))
 exact⟨hs1,h1,ho1⟩
end Go.Proofs.YtgcofabdialaaaaGreat
end
section
namespace Go.Proofs.YtgcofabdialaaaaGreat
set_option maxRecDepth 8000
theorem HR.intro {w:World} {b:Nat} {s:HL} {gB gW cB cW:Nat} {yB yW:List Value} {sb sg pb pg bl bf:Nat} (h:HMs w b s gB gW cB cW yB yW sb sg pb pg bl bf):HR w (some ⟨b,0,none⟩) [b,gB,gW,sb,sg,pb,pg,bl,bf] (some s):=
 ⟨b,rfl,gB,gW,cB,cW,yB,yW,sb,sg,pb,pg,bl,bf,rfl,h⟩
theorem off2 {x y z:Nat} (h1:x≠y) (h2:x≠z):x∉ [y,z]:=by simpa using⟨h1,h2⟩
theorem set_bit {l:List Nat} {k:Nat} {v:Nat} (hk:k<l.length) (hv:v≤1):MT.setM (some (1,l)) (k:Int) (v:Int)=some (1,l.set k v):=by
 have h1:hasB l.length (k:Int)=true:=hasB_of hk
 have hchk:MT.check (some (1,l)) (k:Int) [(v:Int)]=0:=by
  simp only[MT.check,h1]
  have:v=0∨v=1:=by omega
  rcases this with rfl|rfl<;>rfl
 simp only[MT.setM,hchk,if_true,Int.toNat_natCast]
theorem hSetBit {w:World} {b g n:Nat} {l:List Nat} (h:STab w b g n 1 l) (k v:Nat) (hk:k<n) (hv:v≤1):Cs Tryz.prog 127 [.pointer (some ⟨b,0,none⟩),.int .i64 (k:Int),.int .i64 (v:Int)] w fun r w'=>(∃e,r=.int .i64 e)∧STab w' b g n 1 (l.set k v)∧Only [b,g] w w':=by
 refine(Set_m (Tab.mk h) (k:Int) (v:Int)).mono ?_
 rintro r w' ⟨rfl,htab,ho⟩
 rw[set_bit (by rw[h.len];exact hk) hv]at htab
 obtain⟨b',g',g1,g2,hs⟩:=htab
 cases g1
 have e:g'=g:=by simpa using g2.symm
 subst e
 refine⟨⟨_,rfl⟩,?_,ho⟩
 have:(l.set k v).length=n:=by simpa using h.len
 rw[this]at hs
 exact hs
theorem hPinV {w:World} {a:Option Addr} {fp:List Nat} {m:HO} (h:HR w a fp m) (x:Int) (v:Nat) (hv:v≤1) (hx:x≤4611686018427387904):Cs Tryz.prog 164 [.pointer a,.int .i64 x,.int .i64 (v:Int)] w fun r w'=>r=.int .i64 (objE m x)∧HR w' a fp (pinM m x v)∧Only fp w w':=by
 refine enter_heap_Heap_pin rfl ?_
 unfold x_heap_Heap_pin
 (repeat(first|with_reducible(first|refine nx ?_|refine r_6 rfl ?_)|simp only[go_sem]))
 refine callT1 (hObject h x hx) fun w1 ho1=>?_
 by_cases he:objE m x=0
 rotate_left
 ·(repeat(first|with_reducible(first|refine nx ?_|refine r_6 rfl ?_)|simp only[go_sem,bne_int_true he]))
  have hM:pinM m x v=m:=by
   cases m with
   |none=>rfl
   |some s=>unfold pinM;simp only[he,if_false]
  rw[hM]
  exact⟨h.keep0 ho1,ho1.of_nil⟩
 obtain⟨s,rfl,hh⟩:=obj_has he
 obtain⟨b,rfl,gB,gW,cB,cW,yB,yW,sb,sg,pb,pg,bl,bf,h2,h3⟩:=h
 obtain⟨i,rfl,hi⟩:=has_spec h3.ok hh
 have hlt:=(h3.ok.start hi).1
 have hsl:=h3.ok.sl
 have hpl:=h3.ok.pl
 have hB:=h3.ok.b64
 have h4:=h3.keep0 ho1
 have e3:IntKind.i64.wrap (((2*i:Nat):Int).tdiv 2)=(i:Int):=by rw[tdiv2 _ (by omega)];omega
 obtain⟨⟨n1,n2,n3,n4,n5,n6,n7,n8⟩,⟨m2,m3,m4,m5,m6,m7,m8⟩,⟨p3,p4,p5,p6,p7,p8⟩,⟨r4,r5,r6,r7,r8⟩,⟨t5,t6,t7,t8⟩,⟨u6,u7,u8⟩,⟨v7,v8⟩,y8⟩:=nd9 h3.nd
 (repeat(first|with_reducible(first|refine nx ?_|refine r_6 rfl ?_)|simp only[go_sem,bne_int_false he,h4.hb.cell,e3]))
 refine callT (hSetBit h4.hp i v (by omega) hv) ?_
 rintro r w2 ⟨⟨e,rfl⟩,hp2,ho2⟩
 (repeat(first|with_reducible(first|refine nx ?_|refine r_6 rfl ?_)|simp only[go_sem]))
 have hM:pinM (some s) ((2*i:Nat):Int) v=some {s with pn:=s.pn.set i v}:=by
  unfold pinM
  simp only[he,if_true,Int.toNat_natCast,Nat.mul_div_cancel_left i (show 0<2 by omega)]
 rw[hM,he]
 subst h2
 refine⟨rfl,HR.intro (yB:=yB) (yW:=yW) (cW:=cW) ⟨?_,?_,?_,?_,h3.cB,h3.cW,?_,?_,?_,?_,h3.nd⟩,?_⟩
 ·exact⟨h3.ok.b2,h3.ok.b64,h3.ok.wl,h3.ok.sl,by simpa using h3.ok.pl,h3.ok.fit,h3.ok.dj⟩
 ·exact h4.hb.keep ho2 (off2 n5 n6)
 ·exact h4.hB.keep ho2 (off2 m5 m6)
 ·exact h4.hW.keep ho2 (off2 p5 p6)
 ·exact h4.hs.keep ho2 (off2 r5 r6) (off2 t5 t6)
 ·simpa using hp2
 ·exact h4.hl.keep ho2 (off2 u7.symm v7.symm)
 ·exact h4.hf.keep ho2 (off2 u8.symm v8.symm)
 ·exact(ho1.of_nil (T:=[b,gB,gW,sb,sg,pb,pg,bl,bf])).trans ho2 fun z hz=>.inl (by simp only[List.mem_cons,List.not_mem_nil,or_false]at hz⊢;omega)
theorem hPin {w:World} {a:Option Addr} {fp:List Nat} {m:HO} (h:HR w a fp m) (x:Int) (hx:x≤4611686018427387904):Cs Tryz.prog 99 [.pointer a,.int .i64 x] w fun r w'=>r=.int .i64 (objE m x)∧HR w' a fp (pinM m x 1)∧Only fp w w':=by
 refine enter_heap_Heap_Pin rfl ?_
 unfold x_heap_Heap_Pin
 (repeat(first|with_reducible(first|refine nx ?_|refine r_6 rfl ?_)|simp only[go_sem]))
 refine callT (hPinV h x 1 (by omega) hx) ?_
 rintro r w1 ⟨rfl,h1,ho1⟩
 (repeat(first|with_reducible(first|refine nx ?_|refine r_6 rfl ?_)|simp only[go_sem]))
 exact⟨h1,ho1⟩
theorem hPinned {w:World} {a:Option Addr} {fp:List Nat} {m:HO} (h:HR w a fp m) (x:Int) (hx:x≤4611686018427387904):Cs Tryz.prog 67 [.pointer a,.int .i64 x] w fun r w'=>r=.bool (pinnedO m x)∧Only [] w w':=by
 refine enter_heap_Heap_Pinned rfl ?_
 unfold x_heap_Heap_Pinned
 (repeat(first|with_reducible(first|refine nx ?_|refine r_6 rfl ?_)|simp only[go_sem]))
 refine callT1 (hHas h x hx) fun w1 ho1=>?_
 cases hh:hasO m x with
 |false=>
  (repeat(first|with_reducible(first|refine nx ?_|refine r_6 rfl ?_)|simp only[go_sem]))
  refine⟨?_,ho1⟩
  cases m with
  |none=>rfl
  |some s=>simp[pinnedO,hh]
 |true=>
  cases m with
  |none=>cases hh
  |some s=>
   obtain⟨b,rfl,gB,gW,cB,cW,yB,yW,sb,sg,pb,pg,bl,bf,h2,h3⟩:=h
   obtain⟨i,rfl,hi⟩:=has_spec h3.ok hh
   have h4:=h3.keep0 ho1
   have e3:IntKind.i64.wrap (((2*i:Nat):Int).tdiv 2)=(i:Int):=by rw[tdiv2 _ (by omega)];omega
   (repeat(first|with_reducible(first|refine nx ?_|refine r_6 rfl ?_)|simp only[go_sem,h4.hb.cell,e3]))
   refine callT1 (Get_m (Tab.mk h4.hp) (i:Int)) fun w2 ho2=>?_
   (repeat(first|with_reducible(first|refine nx ?_|refine r_6 rfl ?_)|simp only[go_sem]))
   refine⟨?_,ho1.nil ho2⟩
   unfold pinnedO
   simp only[hh,Bool.true_and]
   rw[show((2*i:Nat):Int)/2=(i:Int) by omega]
   rfl
theorem hIdent {w:World} {a:Option Addr} {fp:List Nat} {m:HO} (h:HR w a fp m) (x:Int) (hx:x≤4611686018427387904):Cs Tryz.prog 68 [.pointer a,.int .i64 x] w fun r w'=>r=.tuple #[.int .i64 (identO m x).1,.int .i64 (identO m x).2]∧Only [] w w':=by
 refine enter_heap_Heap_Ident rfl ?_
 unfold x_heap_Heap_Ident
 (repeat(first|with_reducible(first|refine nx ?_|refine r_6 rfl ?_)|simp only[go_sem]))
 refine callT1 (hObject h x hx) fun w1 ho1=>?_
 by_cases he:objE m x=0
 rotate_left
 ·(repeat(first|with_reducible(first|refine nx ?_|refine r_6 rfl ?_)|simp only[go_sem,bne_int_true he]))
  refine⟨?_,ho1⟩
  cases m with
  |none=>rfl
  |some s=>simp[identO,he]
 obtain⟨s,rfl,hh⟩:=obj_has he
 obtain⟨b,rfl,gB,gW,cB,cW,yB,yW,sb,sg,pb,pg,bl,bf,h2,h3⟩:=h
 obtain⟨i,rfl,hi⟩:=has_spec h3.ok hh
 have hl:=(h3.ok.start hi).2.1
 have h4:=h3.keep0 ho1
 have e2:(0:Int)≤((2*i:Nat):Int)∧((2*i:Nat):Int)<(s.W.length:Int):=⟨by omega,by omega⟩
 (repeat(first|with_reducible(first|refine nx ?_|refine r_6 rfl ?_)|simp only[go_sem,bne_int_false he,h4.hb.cell,if_pos e2,Int.toNat_natCast,Nat.mul_one,h4.wcell (show 2*i<s.W.length by omega)]))
 refine⟨?_,ho1⟩
 simp only[identO,he,if_true,Int.toNat_natCast]
theorem hData {w:World} {a:Option Addr} {fp:List Nat} {m:HO} (h:HR w a fp m) (x i:Int) (hx:x≤4611686018427387904):Cs Tryz.prog 69 [.pointer a,.int .i64 x,.int .i64 i] w fun v w'=>v=.tuple #[.int .i64 (dataO m x i).1,.int .i64 (dataO m x i).2]∧Only [] w w':=by
 refine enter_heap_Heap_Data rfl ?_
 unfold x_heap_Heap_Data
 (repeat(first|with_reducible(first|refine nx ?_|refine r_6 rfl ?_)|simp only[go_sem]))
 refine callT1 (hField h x i true hx) fun w1 ho1=>?_
 by_cases he:(fieldO m x i true).2=0
 rotate_left
 ·(repeat(first|with_reducible(first|refine nx ?_|refine r_6 rfl ?_)|simp only[go_sem,bne_int_true he]))
  refine⟨?_,ho1⟩
  cases m with
  |none=>rfl
  |some s=>simp[dataO,he]
 cases m with
 |none=>cases he
 |some s=>
  obtain⟨b,rfl,gB,gW,cB,cW,yB,yW,sb,sg,pb,pg,bl,bf,h2,h3⟩:=h
  obtain⟨o,k,_,_,hk,_,_,hlt⟩:=field_spec h3.ok he
  have h4:=h3.keep0 ho1
  have e2:(0:Int)≤(k:Int)∧(k:Int)<(s.W.length:Int):=⟨by omega,by omega⟩
  (repeat(first|with_reducible(first|refine nx ?_|refine r_6 rfl ?_)|simp only[go_sem,bne_int_false he,h4.hb.cell,hk,if_pos e2,Int.toNat_natCast,Nat.mul_one,h4.wcell hlt]))
  refine⟨?_,ho1⟩
  simp only[dataO,he,if_true,hk,Int.toNat_natCast]
theorem hBirths {w:World} {a:Option Addr} {fp:List Nat} {m:HO} (h:HR w a fp m):Cs Tryz.prog 62 [.pointer a] w fun v w'=>v=.int .i64 (bornO m:Nat)∧w'=w:=by
 refine enter_heap_Heap_Births rfl ?_
 unfold x_heap_Heap_Births
 (repeat(first|with_reducible(first|refine nx ?_|refine r_6 rfl ?_)|simp only[go_sem]))
 refine callT0 (hMade h) ?_
 match m,h with
 |none,h=>(repeat(first|with_reducible(first|refine nx ?_|refine r_6 rfl ?_)|simp only[go_sem]));rfl
 |some s,⟨b,h1,gB,gW,cB,cW,yB,yW,sb,sg,pb,pg,bl,bf,h2,h3⟩=>
  subst h1
  (repeat(first|with_reducible(first|refine nx ?_|refine r_6 rfl ?_)|simp only[go_sem,h3.hb.cell]))
  rfl
theorem hKill {w:World} {a:Option Addr} {fp:List Nat} {m:HO} (h:HR w a fp m) (x:Int) (hx:x≤4611686018427387904):Cs Tryz.prog 94 [.pointer a,.int .i64 x] w fun r w'=>r=.int .i64 (objE m x)∧HR w' a fp (killM m x)∧Only fp w w':=by
 refine enter_heap_Heap_Kill rfl ?_
 unfold x_heap_Heap_Kill
 (repeat(first|with_reducible(first|refine nx ?_|refine r_6 rfl ?_)|simp only[go_sem]))
 refine callT1 (hObject h x hx) fun w1 ho1=>?_
 by_cases he:objE m x=0
 rotate_left
 ·(repeat(first|with_reducible(first|refine nx ?_|refine r_6 rfl ?_)|simp only[go_sem,bne_int_true he]))
  have hM:killM m x=m:=by
   cases m with
   |none=>rfl
   |some s=>unfold killM;simp only[he,if_false]
  rw[hM]
  exact⟨h.keep0 ho1,ho1.of_nil⟩
 obtain⟨s,rfl,hh⟩:=obj_has he
 obtain⟨b,rfl,gB,gW,cB,cW,yB,yW,sb,sg,pb,pg,bl,bf,h2,h3⟩:=h
 obtain⟨i,rfl,hi⟩:=has_spec h3.ok hh
 obtain⟨hlt,hl,r,d,k,k1,k2,k3,k4,k5,k6⟩:=h3.ok.start hi
 obtain⟨g1,g2,g3,_⟩:=h3.ok.sz hi
 have hsl:=h3.ok.sl
 have hpl:=h3.ok.pl
 have hwl:=h3.ok.wl
 have hB:=h3.ok.b64
 have h4:=(h3.keep0 ho1).keep0 (Only.drew [] w1)
 have e2:(0:Int)≤((2*i:Nat):Int)∧((2*i:Nat):Int)<(s.W.length:Int):=⟨by omega,by omega⟩
 have e3:IntKind.i64.wrap (((2*i:Nat):Int).tdiv 2)=(i:Int):=by rw[tdiv2 _ (by omega)];omega
 obtain⟨⟨n1,n2,n3,n4,n5,n6,n7,n8⟩,⟨m2,m3,m4,m5,m6,m7,m8⟩,⟨p3,p4,p5,p6,p7,p8⟩,⟨r4,r5,r6,r7,r8⟩,⟨t5,t6,t7,t8⟩,⟨u6,u7,u8⟩,⟨v7,v8⟩,y8⟩:=nd9 h3.nd
 (repeat(first|with_reducible(first|refine nx ?_|refine r_6 rfl ?_)|simp only[go_sem,bne_int_false he,h4.hb.cell,if_pos e2,Int.toNat_natCast,Nat.mul_one,h4.wcell (show 2*i<s.W.length by omega)]))
 refine mdelT Tryz.underlying68 Tryz.underlying3 h4.hl fun w2 hs2 hl2 ho2=>?_
 have hb2:=h4.hb.keep ho2 (off1 n7)
 (repeat(first|with_reducible(first|refine nx ?_|refine r_6 rfl ?_)|simp only[go_sem,hb2.cell,e3]))
 refine callT (hSetBit (h4.hs.keep ho2 (off1 r7) (off1 t7)) i 0 (by omega) (by omega)) ?_
 rintro r1 w3 ⟨⟨e,rfl⟩,hst3,ho3⟩
 have hb3:=hb2.keep ho3 (off2 n3 n4)
 (repeat(first|with_reducible(first|refine nx ?_|refine r_6 rfl ?_)|simp only[go_sem,hb3.cell,e3]))
 refine callT (hSetBit ((h4.hp.keep ho2 (off1 u7) (off1 v7)).keep ho3 (off2 r5.symm t5.symm) (off2 r6.symm t6.symm)) i 0 (by omega) (by omega)) ?_
 rintro r2 w4 ⟨⟨e',rfl⟩,hp4,ho4⟩
 have hb4:=hb3.keep ho4 (off2 n5 n6)
 have hW4:=((h4.hW.keep ho2 (off1 p7)).keep ho3 (off2 p3 p4)).keep ho4 (off2 p5 p6)
 (repeat(first|with_reducible(first|refine nx ?_|refine r_6 rfl ?_)|simp only[go_sem]))
 refine callT1 (hSizeW hb4 hW4 hl (by omega) (by rw[k2];exact k4) (by rw[k2];exact k5)) fun w5 ho5=>?_
 have hsz:wordsS (shapeN (s.W.getD (2*i+1) 0))=s.size (2*i):=rfl
 have hsn:s.size (2*i)=(((s.size (2*i)).toNat:Nat):Int):=by omega
 rw[hsz,hsn]
 (repeat(first|with_reducible(first|refine nx ?_|refine r_6 rfl ?_)|simp only[go_sem]))
 refine callT (hWipe (hb4.keep0 ho5) (hW4.keep0 ho5) h3.cW (by omega) (by omega) (by omega)) ?_
 rintro r3 w6 ⟨rfl,hs6,hW6,ho6⟩
 (repeat(first|with_reducible(first|refine nx ?_|refine r_6 rfl ?_)|simp only[go_sem]))
 have hM:killM (some s) ((2*i:Nat):Int)=some {s with W:=wipeW s.W (2*i) (s.size (2*i)).toNat,st:=s.st.set i 0,pn:=s.pn.set i 0,pl:=delM s.pl (s.W.getD (2*i) 0)}:=by
  unfold killM
  simp only[he,if_true,Int.toNat_natCast,Nat.mul_div_cancel_left i (show 0<2 by omega)]
 rw[hM,he]
 subst h2
 have hin:2*i+(s.size (2*i)).toNat≤s.W.length:=by omega
 refine⟨rfl,HR.intro (yB:=yB) (yW:=yW) (cW:=cW) ⟨h3.ok.kill hi (by simpa using h3.ok.pl),?_,?_,?_,h3.cB,?_,?_,?_,?_,?_,h3.nd⟩,?_⟩
 ·simp only[wipeW_len hin]
  exact(hb4.keep0 ho5).keep ho6 (off1 n2)
 ·exact((((h4.hB.keep ho2 (off1 m7)).keep ho3 (off2 m3 m4)).keep ho4 (off2 m5 m6)).keep0 ho5).keep ho6 (off1 m2)
 ·exact hW6
 ·simp only[wipeW_len hin];exact h3.cW
 ·simp only[List.length_set]
  exact((hst3.keep ho4 (off2 r5 r6) (off2 t5 t6)).keep ho5 (by simp) (by simp)).keep ho6 (off1 p3.symm) (off1 p4.symm)
 ·simp only[List.length_set]
  exact(hp4.keep ho5 (by simp) (by simp)).keep ho6 (off1 p5.symm) (off1 p6.symm)
 ·exact(((hl2.keep ho3 (off2 r7.symm t7.symm)).keep ho4 (off2 u7.symm v7.symm)).keep0 ho5).keep ho6 (off1 p7.symm)
 ·exact((((h4.hf.keep ho2 (off1 y8.symm)).keep ho3 (off2 r8.symm t8.symm)).keep ho4 (off2 u8.symm v8.symm)).keep0 ho5).keep ho6 (off1 p8.symm)
 ·have o2:Only [b,gB,gW,sb,sg,pb,pg,bl,bf] w w2:=((ho1.nil (Only.drew [] w1)).of_nil (T:=[b,gB,gW,sb,sg,pb,pg,bl,bf])).trans ho2 fun z hz=>.inl (by simp only[List.mem_cons,List.not_mem_nil,or_false]at hz⊢;omega)
  have o3:=o2.trans ho3 fun z hz=>.inl (by simp only[List.mem_cons,List.not_mem_nil,or_false]at hz⊢;omega)
  have o4:=o3.trans ho4 fun z hz=>.inl (by simp only[List.mem_cons,List.not_mem_nil,or_false]at hz⊢;omega)
  exact(o4.nil ho5).trans ho6 fun z hz=>.inl (by simp only[List.mem_cons,List.not_mem_nil,or_false]at hz⊢;omega)
end Go.Proofs.YtgcofabdialaaaaGreat
end
section
namespace Go.Proofs.YtgcofabdialaaaaGreat
set_option maxRecDepth 8000
def slLeft (n:Nat) (t:Nat) (g:Env):Nat:=match g t with|.slice _ l _=>n-l|_=>0
theorem slLeft_s {n t:Nat} {g:Env} {a:Option Addr} {l c:Nat} (h:g t=.slice a l c):slLeft n t g=n-l:=by unfold slLeft;rw[h]
def objsB (l:List Nat) (lo hi:Nat):List Nat:=(List.range hi).filter fun j=>decide (lo≤j)&&decide (l.getD j 0=1)
theorem objsB_succ (l:List Nat) (lo k:Nat):objsB l lo (k+1)=objsB l lo k++(if lo≤k∧l.getD k 0=1 then [k]else []):=by
 unfold objsB
 rw[List.range_succ,List.filter_append]
 congr 1
 by_cases h:lo≤k∧l.getD k 0=1
 ·rw[if_pos h];simp[h.1]
  simpa using h.2
 ·rw[if_neg h];simp
  intro h1;simpa using fun h2=>h ⟨h1,by simpa using h2⟩
theorem objsB_gap {l:List Nat} {lo k i:Nat} (hk:k≤i) (h: ∀j,k≤j→j<i→l.getD j 0≠1):objsB l lo i=objsB l lo k:=by
 obtain⟨d,rfl⟩: ∃d,i=k+d:=⟨i-k,by omega⟩
 induction d with
 |zero=>rfl
 |succ d ih=>
  rw[show k+(d+1)=k+d+1 by omega,objsB_succ,if_neg,List.append_nil]
  ·exact ih (by omega) fun j h1 h2=>h j h1 (by omega)
  ·intro h1;exact h (k+d) (by omega) (by omega) h1.2
theorem objsB_len (l:List Nat) (lo hi:Nat):(objsB l lo hi).length≤hi:=by
 unfold objsB
 have:=List.length_filter_le (fun j=>decide (lo≤j)&&decide (l.getD j 0=1)) (List.range hi)
 simpa using this
theorem objsB_self (l:List Nat) (lo:Nat):objsB l lo lo=[]:=by
 unfold objsB
 rw[List.filter_eq_nil_iff]
 intro j hj
 have:=List.mem_range.1 hj
 simp;omega
theorem mem_objsB {l:List Nat} {lo hi j:Nat}:j∈objsB l lo hi↔(lo≤j∧j<hi)∧l.getD j 0=1:=by
 unfold objsB
 simp only[List.mem_filter,List.mem_range,Bool.and_eq_true,decide_eq_true_eq]
 omega
def adrs (l:List Nat):List Int:=l.map fun i=>((2*i:Nat):Int)
theorem adrs_len (l:List Nat):(adrs l).length=l.length:=by simp[adrs]
def HL.objs (s:HL):List Nat:=objsB s.st 0 s.st.length
def allH (m:HO):List Int:=match m with|none=>[]|some s=>adrs s.objs
theorem next_cases {l:List Nat} (k:Nat):(MT.nextO (some (1,l)) (k:Int) 1=none∧ ∀j,k≤j→l.getD j 0≠1)∨
  ∃i,MT.nextO (some (1,l)) (k:Int) 1=some i∧k≤i∧i<l.length∧l.getD i 0=1∧ ∀j,k≤j→j<i→l.getD j 0≠1:=by
 by_cases h: ∃j,k≤j∧l.getD j 0=1
 ·obtain⟨i,⟨h1,h2⟩,h3⟩: ∃i,(k≤i∧l.getD i 0=1)∧ ∀j,j<i→ ¬(k≤j∧l.getD j 0=1):=by
   obtain⟨j,hj⟩:=h
   induction j using Nat.strongRecOn with
   |_ j ih=>
    by_cases hm: ∃m,m<j∧(k≤m∧l.getD m 0=1)
    ·obtain⟨m,h1,h2⟩:=hm;exact ih m h1 h2
    ·exact⟨j,hj,fun m h1 h2=>hm ⟨m,h1,h2⟩⟩
  have hlt:i<l.length:=by
   rcases Nat.lt_or_ge i l.length with h'|h'
   ·exact h'
   ·rw[List.getD_eq_getElem?_getD,List.getElem?_eq_none h']at h2;simp at h2
  refine .inr ⟨i,?_,h1,hlt,h2,fun j h4 h5 h6=>h3 j h5 ⟨h4,h6⟩⟩
  unfold MT.nextO
  simp only
  refine firstI_some ?_ hlt fun j hj=>?_
  ·simp only[Bool.and_eq_true,decide_eq_true_eq];omega
  ·have:=h3 j hj
   simp only[Bool.and_eq_false_iff,decide_eq_false_iff_not]
   by_cases hkj:k≤j
   ·right;intro e;exact this ⟨hkj,by omega⟩
   ·left;omega
 ·refine .inl ⟨?_,fun j h1 h2=>h ⟨j,h1,h2⟩⟩
  unfold MT.nextO
  simp only
  refine firstI_none fun j hj=>?_
  simp only[Bool.and_eq_false_iff,decide_eq_false_iff_not]
  by_cases hkj:k≤j
  ·right;intro e;exact h ⟨j,hkj,by omega⟩
  ·left;omega
theorem hBetween {w:World} {b:Nat} {s:HL} {gB gW cB cW:Nat} {yB yW:List Value} {sb sg pb pg bl bf:Nat} (h:HMs w b s gB gW cB cW yB yW sb sg pb pg bl bf) (lo hi:Nat) (hle:lo≤hi) (hhi:hi≤4096):
  Cs Tryz.prog 136 [.pointer (some ⟨b,0,none⟩),.int .i64 ((2*lo:Nat):Int),.int .i64 ((2*hi:Nat):Int)] w fun v w'=>Only [] w w'∧ ∃fq,Sl w' 1 v (objsB s.st lo hi).length (ints (adrs (objsB s.st lo hi))) fq∧ ∀y,y∈fq→w.heap.size≤y:=by
 have e3:IntKind.i64.wrap (((2*lo:Nat):Int).tdiv 2)=(lo:Int):=by rw[tdiv2 _ (by omega)];omega
 have hsl:=h.ok.sl
 have hB:=h.ok.b64
 refine enter_heap_Heap_between rfl ?_
 unfold x_heap_Heap_between
 (repeat(first|with_reducible(first|refine nx ?_|refine r_6 rfl ?_)|simp only[go_sem,h.hb.cell,e3]))
 refine callT1 (Next_m (Tab.mk h.hs) (lo:Int) 1) fun w1 ho1=>?_
 (repeat(first|with_reducible(first|refine nx ?_|refine r_6 rfl ?_)|simp only[go_sem]))
 refine run_loop (7::8::9::20::21::22::23::24::25::26::27::28::29::30::31::32::33::34::35::36::37::38::39::40::41::42::[]) (fun g w'=> ∃k fq,lo≤k∧k≤hi∧g 8=.int .i64 (optR (MT.nextO (some (1,s.st)) (k:Int) 1))∧g 9=.int .i64 (MT.err (some (1,s.st)) (MT.nextO (some (1,s.st)) (k:Int) 1))∧
   Sl w' 1 (g 7) (objsB s.st lo k).length (ints (adrs (objsB s.st lo k))) fq∧(∀y,y∈fq→w.heap.size≤y)∧Only [] w w') (fun g _=>slLeft (hi+1) 7 g)
  ⟨lo,[],Nat.le_refl _,hle,by simp only[go_sem],by simp only[go_sem],by simp only[go_sem];rw[objsB_self];exact Sl.nil1 _,by simp,ho1⟩ fun g w2 hI hnext=>?_
 obtain⟨k,fq,hk1,hk2,h8,h9,h7,hfq,ho2⟩:=hI
 rcases next_cases (l:=s.st) k with⟨e1,hno⟩|⟨i,e1,hki,hil,hi1,hno⟩
 ·have e9:MT.err (some (1,s.st)) none=4:=rfl
  rw[e1,e9]at h9
  (repeat(first|with_reducible(first|refine nx ?_|refine r_6 rfl ?_)|simp only[go_sem,h9,beq_int_false (show¬(4:Int)=0 by omega)]))
  refine⟨ho2,fq,?_,hfq⟩
  rw[objsB_gap hk2 fun j h1 _=>hno j h1]
  exact h7
 ·have e9:MT.err (some (1,s.st)) (some i)=0:=rfl
  have e8:optR (some i)=(i:Int):=rfl
  rw[e1,e9]at h9
  rw[e1,e8]at h8
  have em:IntKind.i64.wrap (2*(i:Int))=((2*i:Nat):Int):=by rw[IntWalk.i64_in _ (by omega)];omega
  (repeat(first|with_reducible(first|refine nx ?_|refine r_6 rfl ?_)|simp only[go_sem,h9,h8,beq_int_true (rfl:(0:Int)=0),em]))
  refine condT (fun hlt=>?_) (fun hge=>?_)
  ·have hlt:i<hi:=by
    have:((2*i:Nat):Int)<((2*hi:Nat):Int):=by simpa using hlt
    omega
   (repeat(first|with_reducible(first|refine nx ?_|refine r_6 rfl ?_)|simp only[go_sem,h8,em]))
   rw[fillL_one rfl rfl]
   (repeat(first|with_reducible(first|refine nx ?_|refine r_6 rfl ?_)|simp only[go_sem]))
   refine bslT fun q w3 hq hs3 hat3 ho3=>?_
   (repeat(first|with_reducible(first|refine nx ?_|refine r_6 rfl ?_)|simp only[go_sem]))
   have hl:=objsB_len s.st lo k
   refine appT (h7.keep0 ho3) (SrcIs.at hat3 rfl) (by simp[oneC]) (by omega) (by omega) ?_
   intro v4 w4 f4 hs4 hf4 ho4 _
   have o4:Only [] w w4:=(ho2.nil ho3).trans ho4 fun y hy=>.inr (hfq y hy)
   have ei:IntKind.i64.wrap ((i:Int)+1)=((i+1:Nat):Int):=i64_succ i (by omega)
   have h4:=h.keep0 o4
   (repeat(first|with_reducible(first|refine nx ?_|refine r_6 rfl ?_)|simp only[go_sem,h4.hb.cell,h8,ei]))
   refine callT1 (Next_m (Tab.mk h4.hs) ((i+1:Nat):Int) 1) fun w5 ho5=>?_
   have eo:objsB s.st lo (i+1)=objsB s.st lo k++[i]:=by
    rw[objsB_succ,if_pos ⟨by omega,hi1⟩,objsB_gap hki hno]
   (repeat(first|with_reducible(first|refine nx ?_|refine r_6 rfl ?_)|simp only[go_sem]))
   refine hnext _ w5 ?_ ⟨i+1,f4,by omega,hlt,?_,?_,?_,?_,o4.nil ho5⟩ ?_
   ·(repeat(first|with_reducible exact k_1|with_reducible exact Keeps.ovr _ _ _|refine Keeps.put ?_ rfl _|exact k_1|exact Keeps.ovr _ _ _|refine Keeps.ovr2 ?_ rfl _))
   ·simp only[go_sem]
   ·simp only[go_sem]
   ·simp only[go_sem]
    rw[eo]
    have:=hs4.keep0 ho5
    simpa[adrs,ints]using this
   ·intro y hy
    have:=ho2.size
    have:=ho3.size
    rcases hf4 with rfl|rfl
    ·exact hfq y hy
    ·simp only[List.mem_singleton]at hy;omega
   ·obtain⟨a7,c7,e7⟩:=h7.val
    obtain⟨a4,c4,rfl⟩:=hs4.val
    rw[slLeft_s e7,slLeft_s (a:=a4) (c:=c4) (by simp only[go_sem];rfl)]
    omega
  ·have hge: ¬i<hi:=by
    have: ¬((2*i:Nat):Int)<((2*hi:Nat):Int):=by simpa using hge
    omega
   (repeat(first|with_reducible(first|refine nx ?_|refine r_6 rfl ?_)|simp only[go_sem]))
   refine⟨ho2,fq,?_,hfq⟩
   rw[objsB_gap hk2 fun j h1 h2=>hno j h1 (by omega)]
   exact h7
theorem hAll {w:World} {a:Option Addr} {fp:List Nat} {m:HO} (h:HR w a fp m):Cs Tryz.prog 66 [.pointer a] w fun v w'=>Only [] w w'∧ ∃fq,Sl w' 1 v (allH m).length (ints (allH m)) fq∧ ∀y,y∈fq→w.heap.size≤y:=by
 refine enter_heap_Heap_All rfl ?_
 unfold x_heap_Heap_All
 (repeat(first|with_reducible(first|refine nx ?_|refine r_6 rfl ?_)|simp only[go_sem]))
 refine callT0 (hMade h) ?_
 match m,h with
 |none,h=>(repeat(first|with_reducible(first|refine nx ?_|refine r_6 rfl ?_)|simp only[go_sem]));exact⟨Only.refl _ _,[],Sl.nil1 _,by simp⟩
 |some s,⟨b,h1,gB,gW,cB,cW,yB,yW,sb,sg,pb,pg,bl,bf,h2,h3⟩=>
  subst h1
  have hsl:=h3.ok.sl
  have hwl:=h3.ok.wl
  have hB:=h3.ok.b64
  have e1:((s.W.length:Nat):Int)=((2*s.st.length:Nat):Int):=by omega
  (repeat(first|with_reducible(first|refine nx ?_|refine r_6 rfl ?_)|simp only[go_sem,h3.hb.cell,e1]))
  refine callT (hBetween h3 0 s.st.length (by omega) (by omega)) ?_
  rintro v w' ⟨ho,fq,hs,hf⟩
  (repeat(first|with_reducible(first|refine nx ?_|refine r_6 rfl ?_)|simp only[go_sem]))
  exact⟨ho,fq,by simpa[allH,adrs_len,HL.objs]using hs,hf⟩
end Go.Proofs.YtgcofabdialaaaaGreat
end
section
namespace Go.Proofs.YtgcofabdialaaaaGreat
set_option maxRecDepth 8000
structure Ob where
 a:Int
 id:Int
 sh:Sh
 rf:List Int
 dt:List Int
 pin:Bool
instance:Inhabited Ob:=⟨⟨0,0,(0,0,0),[],[],false⟩⟩
structure RL where
 B:List (Int×Int)
 O:List Ob
 F:List (Int×Int)
 born:Nat
structure Ob.Ok (n:Nat) (o:Ob):Prop where
 v:validS o.sh=true
 r:(o.rf.length:Int)=o.sh.1
 d:(o.dt.length:Int)=o.sh.2.1
 a0:0≤o.a
 a1:o.a+wordsS o.sh≤((64*n:Nat):Int)
structure RL.Ok (s:RL):Prop where
 b2:2≤s.B.length
 b64:s.B.length≤64
 ol:s.O.length≤2048
 ob: ∀o,o∈s.O→o.Ok s.B.length
def ixO:List Ob→Int→Option Nat
 | [],_=>none
 |o::O,a=>if o.a=a then some 0 else(ixO O a).map (· +1)
theorem ixO_none {O:List Ob} {a:Int} (h: ∀j,j<O.length→(O.getD j default).a≠a):ixO O a=none:=by
 induction O with
 |nil=>rfl
 |cons o O ih=>
  have h0:=h 0 (by simp)
  simp only[List.getD_cons_zero]at h0
  unfold ixO
  rw[if_neg h0,ih fun j hj=>by have:=h (j+1) (by simpa using hj);simpa using this]
  rfl
theorem ixO_some {O:List Ob} {a:Int} {i:Nat} (hi:i<O.length) (e:(O.getD i default).a=a) (h: ∀j,j<i→(O.getD j default).a≠a):ixO O a=some i:=by
 induction O generalizing i with
 |nil=>simp at hi
 |cons o O ih=>
  unfold ixO
  cases i with
  |zero=>simp only[List.getD_cons_zero]at e;rw[if_pos e]
  |succ i=>
   have h0:=h 0 (by omega)
   simp only[List.getD_cons_zero]at h0
   rw[if_neg h0,ih (i:=i) (by simpa using hi) (by simpa using e) fun j hj=>by have:=h (j+1) (by omega);simpa using this]
   rfl
theorem ixO_spec {O:List Ob} {a:Int} {i:Nat} (h:ixO O a=some i):i<O.length∧(O.getD i default).a=a∧ ∀j,j<i→(O.getD j default).a≠a:=by
 induction O generalizing i with
 |nil=>cases h
 |cons o O ih=>
  unfold ixO at h
  split at h
  ·rename_i e
   cases h
   exact⟨by simp,by simpa using e,fun j hj=>absurd hj (by omega)⟩
  ·rename_i e
   obtain⟨k,hk,rfl⟩:=Option.map_eq_some_iff.1 h
   obtain⟨h1,h2,h3⟩:=ih hk
   refine⟨by simpa using h1,by simpa using h2,fun j hj=>?_⟩
   cases j with
   |zero=>simpa using e
   |succ j=>have:=h3 j (by omega);simpa using this
def ixI (o:Option Nat):Int:=match o with|some i=>i|none=> -1
def RL.ob (s:RL) (a:Int):Option Ob:=(ixO s.O a).map fun i=>s.O.getD i default
def RL.has (s:RL) (a:Int):Bool:=(ixO s.O a).isSome
def RL.lacks (s:RL) (a:Int):Int:=if s.has a then 0 else 4
def RL.shapeR (s:RL) (a:Int):Sh×Int:=match s.ob a with|some o=>(o.sh,0)|none=>((0,0,0),4)
def RL.stateR (s:RL) (b:Int):Int:=if 0≤b∧b<s.B.length then(s.B.getD b.toNat (0,0)).1 else-1
def RL.spaceR (s:RL) (b:Int):Int:=if 0≤b∧b<s.B.length then(s.B.getD b.toNat (0,0)).2 else-1
structure OM where
 o:Ob
 vr:Value
 vd:Value
 fr:List Nat
 fd:List Nat
instance:Inhabited OM:=⟨⟨default,.slice none 0 0,.slice none 0 0,[],[]⟩⟩
def obV (o:Ob) (vr vd:Value):List Value:=[.int .i64 o.a,.int .i64 o.id,.int .i64 o.sh.1,.int .i64 o.sh.2.1,.int .i64 o.sh.2.2,vr,vd,.bool o.pin]
def OM.V (m:OM):List Value:=obV m.o m.vr m.vd
theorem OM.V_len (m:OM):m.V.length=8:=rfl
def omV (L:List OM):List Value:=L.flatMap OM.V
theorem omV_len (L:List OM):(omV L).length=L.length*8:=by
 induction L with
 |nil=>rfl
 |cons m L ih=>simp only[omV,List.flatMap_cons,List.length_append,List.length_cons,OM.V_len]at ih⊢;omega
theorem omV_append (L M:List OM):omV (L++M)=omV L++omV M:=by simp[omV]
theorem omV_drop (L:List OM) (i:Nat):(omV L).drop (i*8)=omV (L.drop i):=by
 induction L generalizing i with
 |nil=>simp[omV]
 |cons m L ih=>
  cases i with
  |zero=>simp
  |succ i=>
   have:omV (m::L)=m.V++omV L:=rfl
   rw[this,show(i+1)*8=m.V.length+i*8 by rw[OM.V_len];omega,List.drop_append]
   simp[ih]
theorem omV_take (L:List OM) (i:Nat):(omV L).take (i*8)=omV (L.take i):=by
 induction L generalizing i with
 |nil=>simp[omV]
 |cons m L ih=>
  cases i with
  |zero=>simp[omV]
  |succ i=>
   have:omV (m::L)=m.V++omV L:=rfl
   have e2:omV ((m::L).take (i+1))=m.V++omV (L.take i):=rfl
   rw[this,show(i+1)*8=m.V.length+i*8 by rw[OM.V_len];omega,List.take_append,List.take_of_length_le (by omega),e2,←ih]
   simp
theorem omV_at {L:List OM} {i:Nat} (ys:List Value) (h:i<L.length):((omV L++ys).drop (i*8)).take 8=(L.getD i default).V:=by
 rw[List.drop_append_of_le_length (by rw[omV_len];omega),omV_drop]
 have:L.drop i=L.getD i default::L.drop (i+1):=by
  rw[List.drop_eq_getElem_cons h];simp[h]
 rw[this]
 have e:omV (L.getD i default::L.drop (i+1))=(L.getD i default).V++omV (L.drop (i+1)):=rfl
 rw[e,List.append_assoc,List.take_append_of_le_length (by rw[OM.V_len];omega),List.take_of_length_le (by rw[OM.V_len];omega)]
theorem omV_cell {L:List OM} {i j:Nat} (ys:List Value) (h:i<L.length) (hj:j<8):(omV L++ys)[i*8+j]? =(L.getD i default).V[j]? :=by
 have:=omV_at ys h
 rw[←this,List.getElem?_take,if_pos hj,List.getElem?_drop]
theorem omV_one {L:List OM} (h: ∀m,m∈L→oneC m.vr=true∧oneC m.vd=true): ∀u,u∈omV L→oneC u=true:=by
 intro u hu
 simp only[omV,List.mem_flatMap]at hu
 obtain⟨m,hm,hu⟩:=hu
 obtain⟨h1,h2⟩:=h m hm
 simp only[OM.V,obV,List.mem_cons,List.not_mem_nil,or_false]at hu
 rcases hu with rfl|rfl|rfl|rfl|rfl|rfl|rfl|rfl<;>first|rfl|exact h1|exact h2
def omF (L:List OM):List Nat:=L.flatMap fun m=>m.fr++m.fd
theorem omF_append (L M:List OM):omF (L++M)=omF L++omF M:=by simp[omF]
theorem mem_omF {L:List OM} {m:OM} {x:Nat} (hm:m∈L) (hx:x∈m.fr∨x∈m.fd):x∈omF L:=by
 simp only[omF,List.mem_flatMap,List.mem_append]
 exact⟨m,hm,hx⟩
structure OM.ok (w:World) (m:OM):Prop where
 r:Sl w 1 m.vr m.o.rf.length (ints m.o.rf) m.fr
 d:Sl w 1 m.vd m.o.dt.length (ints m.o.dt) m.fd
theorem OM.ok.keep {w w':World} {m:OM} {S:List Nat} (h:m.ok w) (k:Only S w w') (hd: ∀x,x∈m.fr∨x∈m.fd→x∉S):m.ok w':=⟨h.r.keep k fun x hx=>hd x (.inl hx),h.d.keep k fun x hx=>hd x (.inr hx)⟩
theorem OM.ok.keep0 {w w':World} {m:OM} (h:m.ok w) (k:Only [] w w'):m.ok w':=h.keep k fun _ _=>by simp
theorem OM.ok.one {w:World} {m:OM} (h:m.ok w):oneC m.vr=true∧oneC m.vd=true:=⟨h.r.oneC',h.d.oneC'⟩
structure FMs (w:World) (b:Nat) (s:RL) (vB vO vF:Value) (fB fO fF:List Nat) (L:List OM):Prop where
 ok:s.Ok
 hb:At w b [vB,vO,vF,.int .i64 s.born]
 hB:Sl w 2 vB s.B.length (blkV s.B) fB
 hO:Sl w 8 vO L.length (omV L) fO
 hF:Sl w 2 vF s.F.length (blkV s.F) fF
 eq:s.O=L.map OM.o
 om: ∀m,m∈L→m.ok w
 nd:(b::(fB++(fO++(fF++omF L)))).Nodup
def FM (w:World) (b:Nat) (s:RL) (fp:List Nat):Prop:= ∃vB vO vF fB fO fF L,fp=b::(fB++(fO++(fF++omF L)))∧FMs w b s vB vO vF fB fO fF L
theorem FMs.keep {w w':World} {b:Nat} {s:RL} {vB vO vF:Value} {fB fO fF S:List Nat} {L:List OM} (h:FMs w b s vB vO vF fB fO fF L) (k:Only S w w') (hd: ∀x,x∈b::(fB++(fO++(fF++omF L)))→x∉S):FMs w' b s vB vO vF fB fO fF L:=
 ⟨h.ok,h.hb.keep k (hd b (by simp)),h.hB.keep k fun x hx=>hd x (by simp[hx]),h.hO.keep k fun x hx=>hd x (by simp[hx]),h.hF.keep k fun x hx=>hd x (by simp[hx]),h.eq,
  fun m hm=>(h.om m hm).keep k fun x hx=>hd x (by have:=mem_omF hm hx;simp[this]),h.nd⟩
theorem FMs.keep0 {w w':World} {b:Nat} {s:RL} {vB vO vF:Value} {fB fO fF:List Nat} {L:List OM} (h:FMs w b s vB vO vF fB fO fF L) (k:Only [] w w'):FMs w' b s vB vO vF fB fO fF L:=h.keep k fun _ _=>by simp
theorem FM.keep {w w':World} {b:Nat} {s:RL} {fp S:List Nat} (h:FM w b s fp) (k:Only S w w') (hd: ∀x,x∈fp→x∉S):FM w' b s fp:=by
 obtain⟨vB,vO,vF,fB,fO,fF,L,rfl,h⟩:=h
 exact⟨vB,vO,vF,fB,fO,fF,L,rfl,h.keep k hd⟩
theorem FM.keep0 {w w':World} {b:Nat} {s:RL} {fp:List Nat} (h:FM w b s fp) (k:Only [] w w'):FM w' b s fp:=h.keep k fun _ _=>by simp
theorem FMs.lt {w:World} {b:Nat} {s:RL} {vB vO vF:Value} {fB fO fF:List Nat} {L:List OM} (h:FMs w b s vB vO vF fB fO fF L): ∀x,x∈b::(fB++(fO++(fF++omF L)))→x<w.heap.size:=by
 intro x hx
 simp only[List.mem_cons,List.mem_append]at hx
 rcases hx with rfl|hx|hx|hx|hx
 ·exact h.hb.lt
 ·exact h.hB.lt x hx
 ·exact h.hO.lt x hx
 ·exact h.hF.lt x hx
 ·simp only[omF,List.mem_flatMap,List.mem_append]at hx
  obtain⟨m,hm,hx⟩:=hx
  rcases hx with hx|hx
  ·exact(h.om m hm).r.lt x hx
  ·exact(h.om m hm).d.lt x hx
theorem FM.lt {w:World} {b:Nat} {s:RL} {fp:List Nat} (h:FM w b s fp): ∀x,x∈fp→x<w.heap.size:=by
 obtain⟨vB,vO,vF,fB,fO,fF,L,rfl,h⟩:=h
 exact h.lt
theorem FM.ok {w:World} {b:Nat} {s:RL} {fp:List Nat} (h:FM w b s fp):s.Ok:=by
 obtain⟨vB,vO,vF,fB,fO,fF,L,rfl,h⟩:=h
 exact h.ok
theorem FMs.len {w:World} {b:Nat} {s:RL} {vB vO vF:Value} {fB fO fF:List Nat} {L:List OM} (h:FMs w b s vB vO vF fB fO fF L):L.length=s.O.length:=by rw[h.eq,List.length_map]
theorem FMs.getO {w:World} {b:Nat} {s:RL} {vB vO vF:Value} {fB fO fF:List Nat} {L:List OM} (h:FMs w b s vB vO vF fB fO fF L) {i:Nat} (hi:i<L.length):s.O.getD i default=(L.getD i default).o:=by
 rw[h.eq];simp[hi]
theorem FMs.blk {w:World} {b:Nat} {s:RL} {vB vO vF:Value} {fB fO fF:List Nat} {L:List OM} (h:FMs w b s vB vO vF fB fO fF L): ∃g cap ys,vB=.slice (some ⟨g,0,none⟩) s.B.length cap∧At w g (blkV s.B++ys)∧fB=[g]∧s.B.length≤cap:=by
 rcases h.hB.2 with⟨_,h0,_⟩|⟨g,cap,ys,T,h1,h2,h3,h4,h5⟩
 ·have:=h.ok.b2;omega
 ·exact⟨g,cap,ys,h1,⟨T,h3⟩,h2,h5⟩
theorem FMs.row {w:World} {b:Nat} {s:RL} {vB vO vF:Value} {fB fO fF:List Nat} {L:List OM} (h:FMs w b s vB vO vF fB fO fF L) (hn:0<L.length): ∃g cap ys,vO=.slice (some ⟨g,0,none⟩) L.length cap∧At w g (omV L++ys)∧fO=[g]∧L.length≤cap:=by
 rcases h.hO.2 with⟨_,h0,_⟩|⟨g,cap,ys,T,h1,h2,h3,h4,h5⟩
 ·omega
 ·exact⟨g,cap,ys,h1,⟨T,h3⟩,h2,h5⟩
theorem FMs.valO {w:World} {b:Nat} {s:RL} {vB vO vF:Value} {fB fO fF:List Nat} {L:List OM} (h:FMs w b s vB vO vF fB fO fF L): ∃(a:Option Addr) (cap:Nat),vO=.slice a L.length cap:=h.hO.val
theorem blk_at {B:List (Int×Int)} {i:Nat} (ys:List Value) (h:i<B.length):(blkV B++ys)[i*2]? =some (.int .i64 (B.getD i (0,0)).1)∧(blkV B++ys)[i*2+1]? =some (.int .i64 (B.getD i (0,0)).2):=by
 rw[List.getElem?_append_left (by rw[blkV_len];omega),List.getElem?_append_left (by rw[blkV_len];omega),Nat.mul_comm]
 exact blkV_get h
end Go.Proofs.YtgcofabdialaaaaGreat
end
section
namespace Go.Proofs.YtgcofabdialaaaaGreat
set_option maxRecDepth 8000
theorem fMade {w:World} {b:Nat} {s:RL} {fp:List Nat} (h:FM w b s fp):Cs Tryz.prog 55 [.pointer (some ⟨b,0,none⟩)] w fun v w'=>v=.bool true∧w'=w:=by
 obtain⟨vB,vO,vF,fB,fO,fF,L,_,h⟩:=h
 have hb2:=h.ok.b2
 obtain⟨g,cap,ys,rfl,hat,_,_⟩:=h.blk
 refine enter_ref02_Heap_Made rfl ?_
 unfold x_ref02_Heap_Made
 (repeat(first|with_reducible(first|refine nx ?_|refine r_6 rfl ?_)|simp only[go_sem,h.hb.cell,decide_eq_true (show(0:Int)<(s.B.length:Int) by omega)]))
theorem fBlocks {w:World} {b:Nat} {s:RL} {fp:List Nat} (h:FM w b s fp):Cs Tryz.prog 232 [.pointer (some ⟨b,0,none⟩)] w fun v w'=>v=.int .i64 (s.B.length:Nat)∧w'=w:=by
 have h0:=h
 obtain⟨vB,vO,vF,fB,fO,fF,L,_,h⟩:=h
 obtain⟨g,cap,ys,rfl,hat,_,_⟩:=h.blk
 refine enter_ref02_Heap_Blocks rfl ?_
 unfold x_ref02_Heap_Blocks
 (repeat(first|with_reducible(first|refine nx ?_|refine r_6 rfl ?_)|simp only[go_sem]))
 refine callT0 (fMade h0) ?_
 (repeat(first|with_reducible(first|refine nx ?_|refine r_6 rfl ?_)|simp only[go_sem,h.hb.cell]))
theorem fState {w:World} {b:Nat} {s:RL} {fp:List Nat} (h:FM w b s fp) (k:Int):Cs Tryz.prog 128 [.pointer (some ⟨b,0,none⟩),.int .i64 k] w fun v w'=>v=.int .i64 (s.stateR k)∧w'=w:=by
 have h0:=h
 obtain⟨vB,vO,vF,fB,fO,fF,L,_,h⟩:=h
 obtain⟨g,cap,ys,rfl,hat,_,_⟩:=h.blk
 refine enter_ref02_Heap_State rfl ?_
 unfold x_ref02_Heap_State
 (repeat(first|with_reducible(first|refine nx ?_|refine r_6 rfl ?_)|simp only[go_sem]))
 refine callT0 (fMade h0) ?_
 by_cases c1:k<0
 ·(repeat(first|with_reducible(first|refine nx ?_|refine r_6 rfl ?_)|simp only[go_sem,decide_eq_true c1]))
  simp[RL.stateR];omega
 obtain⟨i,rfl⟩: ∃i:Nat,k=i:=⟨k.toNat,by omega⟩
 by_cases c2:(s.B.length:Int)≤(i:Int)
 ·(repeat(first|with_reducible(first|refine nx ?_|refine r_6 rfl ?_)|simp only[go_sem,decide_eq_false c1,h.hb.cell,decide_eq_true c2]))
  simp[RL.stateR];omega
 have hi:i<s.B.length:=by omega
 have e1:(0:Int)≤(i:Int)∧(i:Int)<(s.B.length:Int):=⟨by omega,by omega⟩
 (repeat(first|with_reducible(first|refine nx ?_|refine r_6 rfl ?_)|simp only[go_sem,decide_eq_false c1,h.hb.cell,decide_eq_false c2,if_pos e1,Int.toNat_natCast,hat.cell,(blk_at ys hi).1]))
 simp only[RL.stateR,if_pos e1,Int.toNat_natCast]
theorem fSpace {w:World} {b:Nat} {s:RL} {fp:List Nat} (h:FM w b s fp) (k:Int):Cs Tryz.prog 129 [.pointer (some ⟨b,0,none⟩),.int .i64 k] w fun v w'=>v=.int .i64 (s.spaceR k)∧w'=w:=by
 have h0:=h
 obtain⟨vB,vO,vF,fB,fO,fF,L,_,h⟩:=h
 obtain⟨g,cap,ys,rfl,hat,_,_⟩:=h.blk
 refine enter_ref02_Heap_Space rfl ?_
 unfold x_ref02_Heap_Space
 (repeat(first|with_reducible(first|refine nx ?_|refine r_6 rfl ?_)|simp only[go_sem]))
 refine callT0 (fMade h0) ?_
 by_cases c1:k<0
 ·(repeat(first|with_reducible(first|refine nx ?_|refine r_6 rfl ?_)|simp only[go_sem,decide_eq_true c1]))
  simp[RL.spaceR];omega
 obtain⟨i,rfl⟩: ∃i:Nat,k=i:=⟨k.toNat,by omega⟩
 by_cases c2:(s.B.length:Int)≤(i:Int)
 ·(repeat(first|with_reducible(first|refine nx ?_|refine r_6 rfl ?_)|simp only[go_sem,decide_eq_false c1,h.hb.cell,decide_eq_true c2]))
  simp[RL.spaceR];omega
 have hi:i<s.B.length:=by omega
 have e1:(0:Int)≤(i:Int)∧(i:Int)<(s.B.length:Int):=⟨by omega,by omega⟩
 (repeat(first|with_reducible(first|refine nx ?_|refine r_6 rfl ?_)|simp only[go_sem,decide_eq_false c1,h.hb.cell,decide_eq_false c2,if_pos e1,Int.toNat_natCast,hat.cell,(blk_at ys hi).2]))
 simp only[RL.spaceR,if_pos e1,Int.toNat_natCast]
theorem fBlock {w:World} {b:Nat} {s:RL} {fp:List Nat} (h:FM w b s fp) (k:Int):Cs Tryz.prog 233 [.pointer (some ⟨b,0,none⟩),.int .i64 k] w fun v w'=>v=.bool (decide (1≤k)&&decide (k<s.B.length))∧w'=w:=by
 obtain⟨vB,vO,vF,fB,fO,fF,L,_,h⟩:=h
 obtain⟨g,cap,ys,rfl,hat,_,_⟩:=h.blk
 refine enter_ref02_Heap_block rfl ?_
 unfold x_ref02_Heap_block
 by_cases c1:1≤k
 ·(repeat(first|with_reducible(first|refine nx ?_|refine r_6 rfl ?_)|simp only[go_sem,decide_eq_true c1,h.hb.cell]))
  simp[c1]
 ·(repeat(first|with_reducible(first|refine nx ?_|refine r_6 rfl ?_)|simp only[go_sem,decide_eq_false c1,h.hb.cell]))
  simp[c1]
theorem fSpaceB (w:World) (n:Int):Cs Tryz.prog 234 [.int .i64 n] w fun v w'=>v=.bool (spaceB n)∧w'=w:=by
 refine enter_ref02_space rfl ?_
 unfold x_ref02_space
 by_cases c1:0≤n
 ·(repeat(first|with_reducible(first|refine nx ?_|refine r_6 rfl ?_)|simp only[go_sem,decide_eq_true c1]))
  simp[spaceB,c1]
 ·(repeat(first|with_reducible(first|refine nx ?_|refine r_6 rfl ?_)|simp only[go_sem,decide_eq_false c1]))
  simp[spaceB,c1]
theorem fValid (w:World) (s:Sh):Cs Tryz.prog 208 [.agg ⟨shV s⟩] w fun v w'=>v=.bool (validS s)∧Only [] w w':=by
 obtain⟨r,d,k⟩:=s
 refine enter_ref02_Valid rfl ?_
 unfold x_ref02_Valid
 (repeat(first|with_reducible(first|refine nx ?_|refine r_6 rfl ?_)|simp only[go_sem]))
 refine boxT fun q w1 hq hs1 hat ho=>?_
 have hat':At w1 q [.int .i64 r,.int .i64 d,.int .i64 k]:=hat
 (repeat' (first|with_reducible(first|refine nx ?_|refine r_6 rfl ?_)|simp only[go_sem,hat'.cell]|(with_reducible(first|refine gd_b (fun hb=>?_) (fun hb=>?_)|refine cd_b (fun hb=>?_) (fun hb=>?_)|refine gs_b (fun hb=>?_) (fun hb=>?_)|refine ga_b (fun hb=>?_) (fun hb=>?_)))<;>try simp only[hb]))
 all_goals(refine⟨?_,ho⟩;simp only[decide_eq_true_eq,decide_eq_false_iff_not,beq_iff_eq,beq_eq_false_iff_ne,Int.not_lt,ne_eq]at*)
 all_goals(refine congrArg Value.bool ?_;rw[Bool.eq_iff_iff];simp[validS]<;>omega)
end Go.Proofs.YtgcofabdialaaaaGreat
end
section
namespace Go.Proofs.YtgcofabdialaaaaGreat
set_option maxRecDepth 8000
theorem fWords (w:World) (s:Sh):Cs Tryz.prog 207 [.agg ⟨shV s⟩] w fun v w'=>v=.int .i64 (wordsS s)∧Only [] w w':=by
 refine enter_ref02_Words rfl ?_
 unfold x_ref02_Words
 (repeat(first|with_reducible(first|refine nx ?_|refine r_6 rfl ?_)|simp only[go_sem]))
 refine boxT fun q w1 hq hs1 hat ho=>?_
 have hc:cellsAt w1 ⟨q,0,none⟩ 3=some (shV s):=cellsAt_at hat 0 3 (by simp[shV])
 (repeat(first|with_reducible(first|refine nx ?_|refine r_6 rfl ?_)|simp only[go_sem,hc]))
 refine callT1 (fValid w1 s) fun w2 ho2=>?_
 have hat2:At w2 q [.int .i64 s.1,.int .i64 s.2.1,.int .i64 s.2.2]:=hat.keep0 ho2
 cases hv:validS s with
 |false=>
  (repeat(first|with_reducible(first|refine nx ?_|refine r_6 rfl ?_)|simp only[go_sem]))
  exact⟨by simp[wordsS,hv],ho.nil ho2⟩
 |true=>
  have hv':=hv
  simp only[validS,Bool.and_eq_true,decide_eq_true_eq]at hv'
  obtain⟨n,hn⟩: ∃n:Nat,2+s.1+s.2.1=n:=⟨(2+s.1+s.2.1).toNat,by omega⟩
  have e1:IntKind.i64.wrap (IntKind.i64.wrap (2+s.1)+s.2.1)=(n:Int):=by rw[IntWalk.i64_in (2+s.1) (by omega),IntWalk.i64_in _ (by omega)];omega
  have e2:IntKind.i64.wrap ((n:Int)+((n%2:Nat):Int))=((n+n%2:Nat):Int):=by rw[IntWalk.i64_in _ (by omega)];omega
  (repeat(first|with_reducible(first|refine nx ?_|refine r_6 rfl ?_)|simp only[go_sem,hat2.cell,e1,tmod2 n,e2]))
  refine⟨?_,ho.nil ho2⟩
  unfold wordsS
  rw[if_pos hv]
  congr 1;omega
theorem fLarge (w:World) (s:Sh):Cs Tryz.prog 147 [.agg ⟨shV s⟩] w fun v w'=>v=.bool (decide (32<wordsS s))∧Only [] w w':=by
 refine enter_ref02_Large rfl ?_
 unfold x_ref02_Large
 (repeat(first|with_reducible(first|refine nx ?_|refine r_6 rfl ?_)|simp only[go_sem]))
 refine boxT fun q w1 hq hs1 hat ho=>?_
 have hc:cellsAt w1 ⟨q,0,none⟩ 3=some (shV s):=cellsAt_at hat 0 3 (by simp[shV])
 (repeat(first|with_reducible(first|refine nx ?_|refine r_6 rfl ?_)|simp only[go_sem,hc]))
 refine callT1 (fWords w1 s) fun w2 ho2=>?_
 (repeat(first|with_reducible(first|refine nx ?_|refine r_6 rfl ?_)|simp only[go_sem]))
 exact ho.nil ho2
theorem fNeed (w:World) (s:Sh):Cs Tryz.prog 149 [.agg ⟨shV s⟩] w fun v w'=>v=.int .i64 ((wordsS s+63)/64)∧Only [] w w':=by
 have hw:=words_any s
 obtain⟨n,hn⟩: ∃n:Nat,wordsS s=n:=⟨(wordsS s).toNat,by omega⟩
 refine enter_ref02_Need rfl ?_
 unfold x_ref02_Need
 (repeat(first|with_reducible(first|refine nx ?_|refine r_6 rfl ?_)|simp only[go_sem]))
 refine boxT fun q w1 hq hs1 hat ho=>?_
 have hc:cellsAt w1 ⟨q,0,none⟩ 3=some (shV s):=cellsAt_at hat 0 3 (by simp[shV])
 (repeat(first|with_reducible(first|refine nx ?_|refine r_6 rfl ?_)|simp only[go_sem,hc]))
 refine callT1 (fWords w1 s) fun w2 ho2=>?_
 rw[hn]
 have e1:IntKind.i64.wrap (IntKind.i64.wrap ((n:Int)+64)-1)=((n+63:Nat):Int):=by rw[IntWalk.i64_in ((n:Int)+64) (by omega),IntWalk.i64_in _ (by omega)];omega
 (repeat(first|with_reducible(first|refine nx ?_|refine r_6 rfl ?_)|simp only[go_sem,e1,tdiv64 (n+63) (by omega)]))
 exact⟨by congr 1,ho.nil ho2⟩
theorem fIndex {w:World} {b:Nat} {s:RL} {fp:List Nat} (h:FM w b s fp) (x:Int):Cs Tryz.prog 23 [.pointer (some ⟨b,0,none⟩),.int .i64 x] w fun v w'=>v=.int .i64 (ixI (ixO s.O x))∧w'=w:=by
 have h0:=h
 obtain⟨vB,vO,vF,fB,fO,fF,L,_,h⟩:=h
 have hl:=h.len
 have hol:=h.ok.ol
 obtain⟨ao,co,hvO⟩:=h.valO
 refine enter_ref02_Heap_Index rfl ?_
 unfold x_ref02_Heap_Index
 (repeat(first|with_reducible(first|refine nx ?_|refine r_6 rfl ?_)|simp only[go_sem]))
 refine callT0 (fMade h0) ?_
 (repeat(first|with_reducible(first|refine nx ?_|refine r_6 rfl ?_)|simp only[go_sem]))
 refine run_loop (5::9::10::11::12::13::14::15::16::17::18::19::20::21::22::23::24::25::26::27::28::[]) (fun g w'=> ∃i:Nat,g 5=.int .i64 (i:Int)∧i≤L.length∧(∀j,j<i→(s.O.getD j default).a≠x)∧w'=w) (fun g _=>upTo L.length 5 g)
  ⟨0,by simp only[go_sem];rfl,by omega,fun j hj=>absurd hj (by omega),rfl⟩ fun g w1 hI hnext=>?_
 obtain⟨i,h5,hi,hno,rfl⟩:=hI
 (repeat(first|with_reducible(first|refine nx ?_|refine r_6 rfl ?_)|simp only[go_sem,h.hb.cell,hvO,h5]))
 refine condT (fun hlt=>?_) (fun hge=>?_)
 ·have hlt:i<L.length:=by simpa using hlt
  obtain⟨g8,cap,ys,e1,hat,_,_⟩:=h.row (by omega)
  have e2:(0:Int)≤(i:Int)∧(i:Int)<(L.length:Int):=⟨by omega,by omega⟩
  have hc:w1.cell? ⟨g8,i*8,none⟩=some (.int .i64 (s.O.getD i default).a):=by
   have:=omV_cell (j:=0) ys hlt (by omega)
   rw[hat.cell,←Nat.add_zero (i*8),this,h.getO hlt];rfl
  by_cases c1:(s.O.getD i default).a=x
  ·(repeat(first|with_reducible(first|refine nx ?_|refine r_6 rfl ?_)|simp only[go_sem,h5,h.hb.cell,e1,if_pos e2,Int.toNat_natCast,hc,beq_int_true c1]))
   rw[ixO_some (by omega) c1 hno];rfl
  ·(repeat(first|with_reducible(first|refine nx ?_|refine r_6 rfl ?_)|simp only[go_sem,h5,h.hb.cell,e1,if_pos e2,Int.toNat_natCast,hc,beq_int_false c1,i64_succ i (by omega)]))
   refine hnext _ w1 ?_ ⟨i+1,?_,by omega,fun j hj=>?_,rfl⟩ ?_
   ·(repeat(first|with_reducible exact k_1|with_reducible exact Keeps.ovr _ _ _|refine Keeps.put ?_ rfl _|exact k_1|exact Keeps.ovr _ _ _|refine Keeps.ovr2 ?_ rfl _))
   ·simp only[go_sem]
   ·by_cases e:j=i
    ·subst e;exact c1
    ·exact hno j (by omega)
   ·rw[upTo_int h5,upTo_int (k:=.i64) (i:=i+1) (by simp only[go_sem])];omega
 ·have hge: ¬i<L.length:=by simpa using hge
  (repeat(first|with_reducible(first|refine nx ?_|refine r_6 rfl ?_)|simp only[go_sem]))
  rw[ixO_none fun j hj=>hno j (by omega)];rfl
theorem fLacks {w:World} {b:Nat} {s:RL} {fp:List Nat} (h:FM w b s fp) (x:Int):Cs Tryz.prog 152 [.pointer (some ⟨b,0,none⟩),.int .i64 x] w fun v w'=>v=.int .i64 (s.lacks x)∧w'=w:=by
 refine enter_ref02_Heap_lacks rfl ?_
 unfold x_ref02_Heap_lacks
 (repeat(first|with_reducible(first|refine nx ?_|refine r_6 rfl ?_)|simp only[go_sem]))
 refine callT0 (fMade h) ?_
 (repeat(first|with_reducible(first|refine nx ?_|refine r_6 rfl ?_)|simp only[go_sem]))
 refine callT0 (fIndex h x) ?_
 unfold RL.lacks RL.has
 cases e:ixO s.O x with
 |none=>(repeat(first|with_reducible(first|refine nx ?_|refine r_6 rfl ?_)|simp only[go_sem,decide_eq_true (show ixI none<0 from by decide)]))
 |some i=>(repeat(first|with_reducible(first|refine nx ?_|refine r_6 rfl ?_)|simp only[go_sem,decide_eq_false (show¬ixI (some i)<0 from by simp[ixI])]))
theorem fHas {w:World} {b:Nat} {s:RL} {fp:List Nat} (h:FM w b s fp) (x:Int):Cs Tryz.prog 53 [.pointer (some ⟨b,0,none⟩),.int .i64 x] w fun v w'=>v=.bool (s.has x)∧w'=w:=by
 refine enter_ref02_Heap_Has rfl ?_
 unfold x_ref02_Heap_Has
 (repeat(first|with_reducible(first|refine nx ?_|refine r_6 rfl ?_)|simp only[go_sem]))
 refine callT0 (fIndex h x) ?_
 (repeat(first|with_reducible(first|refine nx ?_|refine r_6 rfl ?_)|simp only[go_sem]))
 unfold RL.has
 cases e:ixO s.O x with
 |none=>rfl
 |some i=>simp[ixI]
theorem lacks0 {s:RL} {x:Int} (h:s.lacks x=0): ∃i,ixO s.O x=some i:=by
 unfold RL.lacks RL.has at h
 cases e:ixO s.O x with
 |none=>rw[e]at h;simp at h
 |some i=>exact⟨i,rfl⟩
end Go.Proofs.YtgcofabdialaaaaGreat
end
section
namespace Go.Proofs.YtgcofabdialaaaaGreat
set_option maxRecDepth 8000
theorem lacks4 {s:RL} {x:Int} (h:s.lacks x≠0):ixO s.O x=none∧s.lacks x=4:=by
 unfold RL.lacks RL.has at h⊢
 cases e:ixO s.O x with
 |none=>exact⟨rfl,rfl⟩
 |some i=>rw[e]at h;simp at h
theorem FMs.all {w:World} {b:Nat} {s:RL} {vB vO vF:Value} {fB fO fF:List Nat} {L:List OM} (h:FMs w b s vB vO vF fB fO fF L) {g cap i:Nat} {ys:List Value} (hat:At w g (omV L++ys)) (hi:i<L.length):
  cellsAt w ⟨g,i*8,none⟩ 8=some (L.getD i default).V∧cellsAt w ⟨g,i*8+2,none⟩ 3=some (shV (L.getD i default).o.sh):=by
 have hl:=omV_len L
 refine⟨?_,?_⟩
 ·rw[cellsAt_at hat _ _ (by rw[List.length_append];omega),omV_at ys hi]
 ·rw[cellsAt_at hat _ _ (by rw[List.length_append];omega),←List.drop_drop]
  congr 1
  have e:((omV L++ys).drop (i*8)).drop 2=(((omV L++ys).drop (i*8)).take 8).drop 2++((omV L++ys).drop (i*8)).drop 8:=by
   conv=>lhs;rw[←List.take_append_drop 8 ((omV L++ys).drop (i*8))]
   rw[List.drop_append_of_le_length]
   rw[List.length_take,List.length_drop,List.length_append];omega
  rw[e,omV_at ys hi]
  rfl
theorem fShape {w:World} {b:Nat} {s:RL} {fp:List Nat} (h:FM w b s fp) (x:Int):Cs Tryz.prog 95 [.pointer (some ⟨b,0,none⟩),.int .i64 x] w fun v w'=>v=.tuple #[.agg ⟨shV (s.shapeR x).1⟩,.int .i64 (s.shapeR x).2]∧Only [] w w':=by
 refine enter_ref02_Heap_Shape rfl ?_
 unfold x_ref02_Heap_Shape
 (repeat(first|with_reducible(first|refine nx ?_|refine r_6 rfl ?_)|simp only[go_sem]))
 refine boxT fun q w1 hq hs1 hat1 ho1=>?_
 (repeat(first|with_reducible(first|refine nx ?_|refine r_6 rfl ?_)|simp only[go_sem]))
 refine callT0 (fLacks (h.keep0 ho1) x) ?_
 by_cases he:s.lacks x=0
 rotate_left
 ·(repeat(first|with_reducible(first|refine nx ?_|refine r_6 rfl ?_)|simp only[go_sem,bne_int_true he]))
  refine stNT (cs:=[.int .i64 0,.int .i64 0,.int .i64 0]) hat1 rfl (by simp) (by simp[oneC]) fun w2 hs2 hat2 ho2=>?_
  rw[show setL [Value.int .i64 0,.int .i64 0,.int .i64 0] 0 [.int .i64 0,.int .i64 0,.int .i64 0]=shV (0,0,0)from rfl]at hat2
  have hc:cellsAt w2 ⟨q,0,none⟩ 3=some (shV (0,0,0)):=cellsAt_at hat2 0 3 (by simp[shV])
  (repeat(first|with_reducible(first|refine nx ?_|refine r_6 rfl ?_)|simp only[go_sem,hc]))
  refine⟨?_,ho1.trans ho2 fun y hy=>by simp only[List.mem_singleton]at hy;subst hy;exact .inr (by omega)⟩
  obtain⟨e,e4⟩:=lacks4 he
  unfold RL.shapeR RL.ob
  rw[e,e4];rfl
 ·obtain⟨i,hi⟩:=lacks0 he
  obtain⟨h1,h2,h3⟩:=ixO_spec hi
  have hb':=h.lt
  have hk:=h.keep0 ho1
  have hd:=(hk.keep0 (Only.drew [] w1))
  obtain⟨vB,vO,vF,fB,fO,fF,L,hfp,hm⟩:=hk.keep0 (Only.drew [] w1)
  have hl:=hm.len
  obtain⟨g,cap,ys,rfl,hat,hfO,_⟩:=hm.row (by omega)
  obtain⟨_,hc3⟩:=hm.all (cap:=0) hat (show i<L.length by omega)
  have e2:(0:Int)≤(i:Int)∧(i:Int)<(L.length:Int):=⟨by omega,by omega⟩
  have hq1: ∀z,z∈[b,g]→z<w1.drew.heap.size∧z∉ [q]:=fun z hz=>by
   have hz':z∈fp:=by rw[hfp,hfO];simp only[List.mem_cons,List.not_mem_nil,or_false]at hz;rcases hz with rfl|rfl<;>simp
   have:=hb' z hz'
   have:=ho1.size
   exact⟨by show z<w1.heap.size;omega,by simp;omega⟩
  (repeat(first|with_reducible(first|refine nx ?_|refine r_6 rfl ?_)|simp only[go_sem,bne_int_false he]))
  refine run_drt [b,g] ?_
  (repeat(first|with_reducible(first|refine nx ?_|refine r_6 rfl ?_)|simp only[go_sem,hm.hb.cell]))
  refine callS0 (fIndex hd x) (.inr (SB.refl _ _)) ?_
  rw[hi]
  (repeat(first|with_reducible(first|refine nx ?_|refine r_6 rfl ?_)|simp only[go_sem,show ixI (some i)=(i:Int)from rfl,if_pos e2,Int.toNat_natCast,hc3]))
  refine stNS (cs:=shV (L.getD i default).o.sh) hat1.drew rfl (by simp) (shV_one _) fun w2 hs2 hat2 ho2=>⟨.inl rfl,?_⟩
  rw[setL_sh]at hat2
  have hc:cellsAt w2 ⟨q,0,none⟩ 3=some (shV (L.getD i default).o.sh):=cellsAt_at hat2 0 3 (by simp[shV])
  (repeat(first|with_reducible(first|refine nx ?_|refine r_6 rfl ?_)|simp only[go_sem,hc]))
  refine⟨?_,(ho1.nil (Only.drew [] w1)).trans ho2 fun y hy=>by simp only[List.mem_singleton]at hy;subst hy;exact .inr (by omega)⟩
  unfold RL.shapeR RL.ob
  rw[hi,Option.map_some,hm.getO (by omega)]
theorem omF_cons (m:OM) (L:List OM):omF (m::L)=(m.fr++m.fd)++omF L:=rfl
theorem omV_cons (m:OM) (L:List OM):omV (m::L)=m.V++omV L:=rfl
theorem omF_set {L:List OM} {k:Nat} {m:OM} (h1:m.fr=(L.getD k default).fr) (h2:m.fd=(L.getD k default).fd):omF (L.set k m)=omF L:=by
 induction L generalizing k with
 |nil=>rfl
 |cons a L ih=>
  cases k with
  |zero=>
   simp only[List.getD_cons_zero]at h1 h2
   rw[List.set_cons_zero,omF_cons,omF_cons,h1,h2]
  |succ k=>
   rw[List.set_cons_succ,omF_cons,omF_cons,ih (by simpa using h1) (by simpa using h2)]
theorem omV_set {L:List OM} {k j:Nat} {m:OM} {v:Value} (ys:List Value) (hk:k<L.length) (hj:j<8) (hm:m.V=(L.getD k default).V.set j v):(omV L++ys).set (k*8+j) v=omV (L.set k m)++ys:=by
 induction L generalizing k with
 |nil=>simp at hk
 |cons a L ih=>
  cases k with
  |zero=>
   simp only[List.getD_cons_zero]at hm
   rw[List.set_cons_zero,omV_cons,omV_cons,hm,List.append_assoc,List.append_assoc,List.set_append_left _ _ (by rw[OM.V_len];omega),Nat.zero_mul,Nat.zero_add]
  |succ k=>
   rw[List.set_cons_succ,omV_cons,omV_cons,List.append_assoc,List.append_assoc,List.set_append_right _ _ (by rw[OM.V_len];omega),OM.V_len,show(k+1)*8+j-8=k*8+j by omega,ih (by simpa using hk) (by simpa using hm)]
theorem omV_setV {L:List OM} {k:Nat} {m:OM} (hm:m.V=(L.getD k default).V):omV (L.set k m)=omV L:=by
 induction L generalizing k with
 |nil=>rfl
 |cons a L ih=>
  cases k with
  |zero=>
   simp only[List.getD_cons_zero]at hm
   rw[List.set_cons_zero,omV_cons,omV_cons,hm]
  |succ k=>rw[List.set_cons_succ,omV_cons,omV_cons,ih (by simpa using hm)]
theorem omF_disj {L:List OM} (h:(omF L).Nodup) {i j x:Nat} (hi:i<L.length) (hj:j<L.length) (hij:i≠j) (hx:x∈(L.getD i default).fr∨x∈(L.getD i default).fd): ¬(x∈(L.getD j default).fr∨x∈(L.getD j default).fd):=by
 intro hy
 induction L generalizing i j with
 |nil=>simp at hi
 |cons a L ih=>
  rw[omF_cons,List.nodup_append]at h
  obtain⟨h1,h2,h3⟩:=h
  have mem: ∀k,k<L.length→(x∈(L.getD k default).fr∨x∈(L.getD k default).fd)→x∈omF L:=fun k hk hm=>mem_omF (m:=L.getD k default) (by simp[hk]) hm
  cases i with
  |zero=>
   cases j with
   |zero=>exact hij rfl
   |succ j=>
    simp only[List.getD_cons_zero]at hx
    simp only[List.getD_cons_succ]at hy
    exact h3 x (by simpa using hx) x (mem j (by simpa using hj) hy) rfl
  |succ i=>
   cases j with
   |zero=>
    simp only[List.getD_cons_zero]at hy
    simp only[List.getD_cons_succ]at hx
    exact h3 x (by simpa using hy) x (mem i (by simpa using hi) hx) rfl
   |succ j=>
    simp only[List.getD_cons_succ]at hx hy
    exact ih h2 (by simpa using hi) (by simpa using hj) (by omega) hx hy
theorem omF_own {L:List OM} (h:(omF L).Nodup) {i:Nat} (hi:i<L.length):((L.getD i default).fr++(L.getD i default).fd).Nodup:=by
 induction L generalizing i with
 |nil=>simp at hi
 |cons a L ih=>
  rw[omF_cons,List.nodup_append]at h
  cases i with
  |zero=>exact h.1
  |succ i=>exact ih h.2.1 (by simpa using hi)
theorem getD_set_eq {α:Type} {l:List α} {k:Nat} {x d:α} (h:k<l.length):(l.set k x).getD k d=x:=by simp[h]
theorem getD_set_ne' {α:Type} {l:List α} {j k:Nat} {x d:α} (h:k≠j):(l.set k x).getD j d=l.getD j d:=by
 simp only[List.getD_eq_getElem?_getD,List.getElem?_set_ne h]
theorem nd4 {b:Nat} {fB fO fF F:List Nat} (h:(b::(fB++(fO++(fF++F)))).Nodup):(∀x,x∈fB∨x∈fO∨x∈fF∨x∈F→x≠b)∧(∀x,x∈fB→x∉fO∧x∉fF∧x∉F)∧(∀x,x∈fO→x∉fF∧x∉F)∧(∀x,x∈fF→x∉F)∧F.Nodup∧fO.Nodup∧fB.Nodup∧fF.Nodup:=by
 simp only[List.nodup_cons,List.nodup_append,List.mem_append,not_or]at h
 obtain⟨⟨h1,h2,h3,h4⟩,h5,⟨h6,⟨h7,h8,h9⟩,h10⟩,h11⟩:=h
 refine⟨fun x hx e=>?_,fun x hx=>⟨fun hy=>h11 x hx x (.inl hy) rfl,fun hy=>h11 x hx x (.inr (.inl hy)) rfl,fun hy=>h11 x hx x (.inr (.inr hy)) rfl⟩,fun x hx=>⟨fun hy=>h10 x hx x (.inl hy) rfl,fun hy=>h10 x hx x (.inr hy) rfl⟩,fun x hx hy=>h9 x hx x hy rfl,h8,h6,h5,h7⟩
 subst e
 rcases hx with hx|hx|hx|hx
 ·exact h1 hx
 ·exact h2 hx
 ·exact h3 hx
 ·exact h4 hx
end Go.Proofs.YtgcofabdialaaaaGreat
end
section
namespace Go.Proofs.YtgcofabdialaaaaGreat
set_option maxRecDepth 8000
def RL.setRefR (s:RL) (x i to:Int):Int:=match s.ob x with
 |none=>4
 |some o=>if i<0∨(o.rf.length:Int)≤i then 1 else if to≠0∧s.has to=false then 1 else 0
def RL.upd (s:RL) (x:Int) (f:Ob→Ob):RL:=match ixO s.O x with
 |none=>s
 |some k=> {s with O:=s.O.set k (f (s.O.getD k default))}
def RL.setRefM (s:RL) (x i to:Int):RL:=if s.setRefR x i to=0 then s.upd x fun o=> {o with rf:=o.rf.set i.toNat to}else s
def RL.pinM (s:RL) (x:Int) (p:Bool):RL:=s.upd x fun o=> {o with pin:=p}
def RL.killM (s:RL) (x:Int):RL:=match ixO s.O x with
 |none=>s
 |some k=> {s with O:=s.O.eraseIdx k}
theorem RL.Ok.upd {s:RL} (h:s.Ok) {x:Int} {f:Ob→Ob} (hf: ∀o,o.Ok s.B.length→(f o).Ok s.B.length):(s.upd x f).Ok:=by
 unfold RL.upd
 cases e:ixO s.O x with
 |none=>exact h
 |some k=>
  obtain⟨h1,_,_⟩:=ixO_spec e
  refine⟨h.b2,h.b64,by simpa using h.ol,fun o ho=>?_⟩
  rcases List.mem_or_eq_of_mem_set ho with ho|rfl
  ·exact h.ob o ho
  ·refine hf _ (h.ob _ ?_)
   simp[h1]
theorem RL.Ok.kill {s:RL} (h:s.Ok) {x:Int}:(s.killM x).Ok:=by
 unfold RL.killM
 cases e:ixO s.O x with
 |none=>exact h
 |some k=>
  refine⟨h.b2,h.b64,?_,fun o ho=>h.ob o (List.mem_of_mem_eraseIdx ho)⟩
  have:=List.length_eraseIdx_le s.O k
  have:=h.ol
  simp only;omega
theorem setL_8 (a b c d e f g h:Value) (m:OM):setL [a,b,c,d,e,f,g,h] 0 m.V=m.V:=rfl
theorem V_one {w:World} {m:OM} (h:m.ok w): ∀u,u∈m.V→oneC u=true:=by
 have:=omV_one (L:=[m]) (fun m' hm=>by simp only[List.mem_singleton]at hm;subst hm;exact h.one)
 simpa[omV]using this
end Go.Proofs.YtgcofabdialaaaaGreat
end
section
namespace Go.Proofs.YtgcofabdialaaaaGreat
set_option maxRecDepth 8000
theorem Sl.setI {w w':World} {g n cap j:Nat} {xs:List Int} {ys:List Value} {v:Int} (hl:xs.length=n) (hat:At w g (ints xs++ys)) (hc:(ints xs++ys).length=cap) (hj:j<xs.length) (h:At w' g ((ints xs++ys).set j (.int .i64 v))):Sl w' 1 (.slice (some ⟨g,0,none⟩) n cap) n (ints (xs.set j v)) [g]:=by
 rw[ints_set ys hj]at h
 refine Sl.mk1 h (by rw[ints_length,List.length_set];exact hl) ?_
 rw[←hc];simp[ints]
def OM.withO (m:OM) (o:Ob):OM:=⟨o,m.vr,m.vd,m.fr,m.fd⟩
theorem omF_withO (L:List OM) (k:Nat) (o:Ob):omF (L.set k ((L.getD k default).withO o))=omF L:=omF_set rfl rfl
theorem FMs.updR {w w':World} {b:Nat} {s:RL} {vB vO vF:Value} {fB fO fF:List Nat} {L:List OM} (h:FMs w b s vB vO vF fB fO fF L) {k:Nat} (hk:k<L.length) {x:Int} (hx:ixO s.O x=some k) {f:Ob→Ob} {m':OM} (hm':m'.o=f (L.getD k default).o) (hV:m'.V=(L.getD k default).V) (h1:m'.fr=(L.getD k default).fr) (h2:m'.fd=(L.getD k default).fd)
  (hf: ∀o,o.Ok s.B.length→(f o).Ok s.B.length) (hok:m'.ok w') (ho:Only (L.getD k default).fr w w'):FMs w' b (s.upd x f) vB vO vF fB fO fF (L.set k m'):=by
 obtain⟨n1,n2,n3,n4,n5,n6,n7,n8⟩:=nd4 h.nd
 have hin: ∀y,y∈(L.getD k default).fr→y∈omF L:=fun y hy=>mem_omF (m:=L.getD k default) (by simp[hk]) (.inl hy)
 have hu:s.upd x f= {s with O:=s.O.set k (f (s.O.getD k default))}:=by unfold RL.upd;rw[hx]
 refine⟨h.ok.upd hf,?_,?_,?_,?_,?_,fun m hm=>?_,?_⟩
 ·rw[hu];exact h.hb.keep ho fun hy=>n1 b (.inr (.inr (.inr (hin b hy)))) rfl
 ·rw[hu];exact h.hB.keep ho fun y hy hy2=>(n2 y hy).2.2 (hin y hy2)
 ·rw[List.length_set,omV_setV hV];exact h.hO.keep ho fun y hy hy2=>(n3 y hy).2 (hin y hy2)
 ·rw[hu];exact h.hF.keep ho fun y hy hy2=>n4 y hy (hin y hy2)
 ·rw[hu,List.map_set,hm',←h.getO hk,←h.eq]
 ·obtain⟨j,hj,rfl⟩:=List.mem_iff_getElem.1 hm
  have hj':j<L.length:=by simpa using hj
  rw[List.getElem_set]
  split
  ·exact hok
  ·rename_i hne
   have e:L[j]=L.getD j default:=by simp[hj']
   rw[e]
   refine(h.om _ (by simp[hj'])).keep ho fun y hy hy2=>?_
   exact omF_disj n5 hj' hk (Ne.symm hne) hy (.inl hy2)
 ·rw[omF_set h1 h2];exact h.nd
theorem fSetRef {w:World} {b:Nat} {s:RL} {fp:List Nat} (h:FM w b s fp) (x i to:Int):Cs Tryz.prog 156 [.pointer (some ⟨b,0,none⟩),.int .i64 x,.int .i64 i,.int .i64 to] w fun v w'=>v=.int .i64 (s.setRefR x i to)∧FM w' b (s.setRefM x i to) fp∧Only fp w w':=by
 have bad: ∀e:Int,e≠0→s.setRefR x i to=e→(Value.int .i64 e=.int .i64 (s.setRefR x i to)∧FM w b (s.setRefM x i to) fp∧Only fp w w):=fun e he h1=>by
  refine⟨by rw[h1],?_,Only.refl _ _⟩
  unfold RL.setRefM
  rw[if_neg (by rw[h1];exact he)];exact h
 refine enter_ref02_Heap_SetRef rfl ?_
 unfold x_ref02_Heap_SetRef
 (repeat(first|with_reducible(first|refine nx ?_|refine r_6 rfl ?_)|simp only[go_sem]))
 refine callT0 (fLacks h x) ?_
 by_cases he:s.lacks x=0
 rotate_left
 ·obtain⟨e,e4⟩:=lacks4 he
  (repeat(first|with_reducible(first|refine nx ?_|refine r_6 rfl ?_)|simp only[go_sem,bne_int_true he]))
  have h1:s.setRefR x i to=4:=by unfold RL.setRefR RL.ob;rw[e];rfl
  have:=bad 4 (by omega) h1
  rw[e4]
  simpa using this
 obtain⟨k,hk⟩:=lacks0 he
 obtain⟨k1,k2,k3⟩:=ixO_spec hk
 obtain⟨vB,vO,vF,fB,fO,fF,L,hfp,hm⟩:=id h
 have hl:=hm.len
 obtain⟨g,cap,ys,rfl,hat,hfO,_⟩:=hm.row (by omega)
 have hkL:k<L.length:=by omega
 have hok:=hm.om (L.getD k default) (by simp[hkL])
 have e2:(0:Int)≤(k:Int)∧(k:Int)<(L.length:Int):=⟨by omega,by omega⟩
 have hob:s.ob x=some (L.getD k default).o:=by unfold RL.ob;rw[hk,Option.map_some,hm.getO hkL]
 have c5:w.cell? ⟨g,k*8+5,none⟩=some (L.getD k default).vr:=by
  rw[hat.cell,omV_cell (j:=5) ys hkL (by omega)];rfl
 obtain⟨ar,cr,hvr⟩:=hok.r.rd.val
 have hset:s.setRefR x i to=if i<0∨((L.getD k default).o.rf.length:Int)≤i then 1 else if to≠0∧s.has to=false then 1 else 0:=by unfold RL.setRefR;rw[hob]
 (repeat(first|with_reducible(first|refine nx ?_|refine r_6 rfl ?_)|simp only[go_sem,bne_int_false he]))
 refine callT0 (fIndex h x) ?_
 rw[hk]
 by_cases c1:i<0
 ·(repeat(first|with_reducible(first|refine nx ?_|refine r_6 rfl ?_)|simp only[go_sem,show ixI (some k)=(k:Int)from rfl,decide_eq_true c1]))
  have h1:s.setRefR x i to=1:=by rw[hset,if_pos (.inl c1)]
  have:=bad 1 (by omega) h1
  simpa using this
 by_cases c2:((L.getD k default).o.rf.length:Int)≤i
 ·(repeat(first|with_reducible(first|refine nx ?_|refine r_6 rfl ?_)|simp only[go_sem,show ixI (some k)=(k:Int)from rfl,decide_eq_false c1,hm.hb.cell,if_pos e2,Int.toNat_natCast,c5,hvr,decide_eq_true c2]))
  have h1:s.setRefR x i to=1:=by rw[hset,if_pos (.inr c2)]
  have:=bad 1 (by omega) h1
  simpa using this
 rw[if_neg (by omega)]at hset
 obtain⟨j,rfl⟩: ∃j:Nat,i=j:=⟨i.toNat,by omega⟩
 have hj:j<(L.getD k default).o.rf.length:=by omega
 obtain⟨g2,cap2,ys2,hv2,hat2,hf2,_⟩:=hok.r.pos (by omega)
 have hcap2:(ints (L.getD k default).o.rf++ys2).length=cap2:=by
  have:=hok.r
  rw[hv2]at this
  exact Sl.cap this hat2
 have hv2':=hv2
 rw[hvr]at hv2'
 cases hv2'
 have e3:(0:Int)≤(j:Int)∧(j:Int)<((L.getD k default).o.rf.length:Int):=⟨by omega,by omega⟩
 have fin:s.setRefR x (j:Int) to=0→ ∀w2,Only [g2] w w2→At w2 g2 ((ints (L.getD k default).o.rf++ys2).set j (.int .i64 to))→FM w2 b (s.setRefM x (j:Int) to) fp∧Only fp w w2:=by
  intro h0 w2 ho2 h2
  have hM:s.setRefM x (j:Int) to=s.upd x fun o=> {o with rf:=o.rf.set j to}:=by unfold RL.setRefM;rw[if_pos h0];rfl
  rw[hM]
  have hmem: ∀y,y∈[g2]→y∈fp:=fun y hy=>by
   rw[hfp]
   have:=mem_omF (L:=L) (m:=L.getD k default) (x:=y) (by simp[hkL]) (.inl (by rw[hf2];exact hy))
   simp[this]
  have hown:=omF_own (nd4 hm.nd).2.2.2.2.1 hkL
  rw[hf2]at hown
  refine⟨⟨_,_,_,fB,fO,fF,L.set k ((L.getD k default).withO {(L.getD k default).o with rf:=(L.getD k default).o.rf.set j to}),?_,hm.updR hkL hk (f:=fun o=> {o with rf:=o.rf.set j to}) rfl rfl rfl rfl (fun o h=>⟨h.v,by simpa using h.r,h.d,h.a0,h.a1⟩) ⟨?_,?_⟩ (by rw[hf2];exact ho2)⟩,ho2.mono fun y hy=>.inl (hmem y hy)⟩
  ·rw[omF_withO];exact hfp
  ·show Sl w2 1 (L.getD k default).vr ((L.getD k default).o.rf.set j to).length (ints ((L.getD k default).o.rf.set j to)) (L.getD k default).fr
   rw[List.length_set,hv2,hf2]
   exact Sl.setI rfl hat2 hcap2 hj h2
  ·refine hok.d.keep ho2 fun y hy hy2=>?_
   simp only[List.mem_singleton]at hy2
   subst hy2
   simp only[List.singleton_append,List.nodup_cons]at hown
   exact hown.1 hy
 by_cases c3:to=0
 ·have h0:s.setRefR x (j:Int) to=0:=by rw[hset,if_neg (by simp[c3])]
  (repeat(first|with_reducible(first|refine nx ?_|refine r_6 rfl ?_)|simp only[go_sem,show ixI (some k)=(k:Int)from rfl,decide_eq_false c1,hm.hb.cell,if_pos e2,if_pos e3,Int.toNat_natCast,Nat.mul_one,c5,hvr,decide_eq_false c2,bne_int_false c3]))
  refine stT hat2 (by rw[List.length_append,ints_length];omega) rfl fun w2 hs2 h2 ho2=>?_
  (repeat(first|with_reducible(first|refine nx ?_|refine r_6 rfl ?_)|simp only[go_sem]))
  rw[h0]
  exact⟨rfl,fin h0 w2 ho2 h2⟩
 ·(repeat(first|with_reducible(first|refine nx ?_|refine r_6 rfl ?_)|simp only[go_sem,show ixI (some k)=(k:Int)from rfl,decide_eq_false c1,hm.hb.cell,if_pos e2,if_pos e3,Int.toNat_natCast,Nat.mul_one,c5,hvr,decide_eq_false c2,bne_int_true c3]))
  refine callT0 (fHas h to) ?_
  cases hh:s.has to with
  |false=>
   (repeat(first|with_reducible(first|refine nx ?_|refine r_6 rfl ?_)|simp only[go_sem]))
   have h1:s.setRefR x (j:Int) to=1:=by rw[hset,if_pos ⟨c3,hh⟩]
   have:=bad 1 (by omega) h1
   simpa using this
  |true=>
   have h0:s.setRefR x (j:Int) to=0:=by rw[hset,if_neg (by simp[hh])]
   (repeat(first|with_reducible(first|refine nx ?_|refine r_6 rfl ?_)|simp only[go_sem,hm.hb.cell,if_pos e2,if_pos e3,Int.toNat_natCast,Nat.mul_one,c5,hvr]))
   refine stT hat2 (by rw[List.length_append,ints_length];omega) rfl fun w2 hs2 h2 ho2=>?_
   (repeat(first|with_reducible(first|refine nx ?_|refine r_6 rfl ?_)|simp only[go_sem]))
   rw[h0]
   exact⟨rfl,fin h0 w2 ho2 h2⟩
theorem fPinV {w:World} {b:Nat} {s:RL} {fp:List Nat} (h:FM w b s fp) (x:Int) (p:Bool):Cs Tryz.prog 163 [.pointer (some ⟨b,0,none⟩),.int .i64 x,.bool p] w fun v w'=>v=.int .i64 (s.lacks x)∧FM w' b (s.pinM x p) fp∧Only fp w w':=by
 refine enter_ref02_Heap_pin rfl ?_
 unfold x_ref02_Heap_pin
 (repeat(first|with_reducible(first|refine nx ?_|refine r_6 rfl ?_)|simp only[go_sem]))
 refine callT0 (fLacks h x) ?_
 by_cases he:s.lacks x=0
 rotate_left
 ·obtain⟨e,e4⟩:=lacks4 he
  (repeat(first|with_reducible(first|refine nx ?_|refine r_6 rfl ?_)|simp only[go_sem,bne_int_true he]))
  have:s.pinM x p=s:=by unfold RL.pinM RL.upd;rw[e]
  rw[this]
  exact⟨h,Only.refl _ _⟩
 obtain⟨k,hk⟩:=lacks0 he
 obtain⟨k1,k2,k3⟩:=ixO_spec hk
 have hd:=h.keep0 (Only.drew [] w)
 obtain⟨vB,vO,vF,fB,fO,fF,L,hfp,hm⟩:=h.keep0 (Only.drew [] w)
 have hl:=hm.len
 obtain⟨g,cap,ys,rfl,hat,hfO,_⟩:=hm.row (by omega)
 have hkL:k<L.length:=by omega
 have e2:(0:Int)≤(k:Int)∧(k:Int)<(L.length:Int):=⟨by omega,by omega⟩
 (repeat(first|with_reducible(first|refine nx ?_|refine r_6 rfl ?_)|simp only[go_sem,bne_int_false he]))
 refine run_drt [b,g] ?_
 (repeat(first|with_reducible(first|refine nx ?_|refine r_6 rfl ?_)|simp only[go_sem,hm.hb.cell]))
 refine callS0 (fIndex hd x) (.inr (SB.refl _ _)) ?_
 rw[hk]
 (repeat(first|with_reducible(first|refine nx ?_|refine r_6 rfl ?_)|simp only[go_sem,show ixI (some k)=(k:Int)from rfl,if_pos e2,Int.toNat_natCast]))
 refine stS hat (by rw[List.length_append,omV_len];omega) rfl fun w2 hs2 hat2 ho2=>⟨.inl rfl,?_⟩
 (repeat(first|with_reducible(first|refine nx ?_|refine r_6 rfl ?_)|simp only[go_sem]))
 obtain⟨n1,n2,n3,n4,n5,n6,n7,n8⟩:=nd4 hm.nd
 have hM:s.pinM x p= {s with O:=s.O.set k {(s.O.getD k default)with pin:=p}}:=by unfold RL.pinM RL.upd;rw[hk]
 have hg: ∀y,y∈[g]→y∈fO:=fun y hy=>by rw[hfO];exact hy
 have hcap:(omV L++ys).length=cap*8:=by
  rcases hm.hO.2 with⟨h0,_,_⟩|⟨g',cap',ys',T,q1,q2,q3,q4,q5⟩
  ·cases h0
  ·cases q1
   have:=hat.inj ⟨T,q3⟩
   rw[this];exact q4
 refine⟨by rw[he],⟨vB,.slice (some ⟨g,0,none⟩) L.length cap,vF,fB,fO,fF,L.set k ((L.getD k default).withO {(L.getD k default).o with pin:=p}),by rw[omF_withO];exact hfp,?_⟩,(Only.drew [] w).of_nil.same (ho2.mono fun y hy=>.inl (by rw[hfp];simp[hg y hy]))⟩
 rw[hM]
 refine⟨?_,hm.hb.keep ho2 fun hy=>n1 b (.inr (.inl (hg b hy))) rfl,hm.hB.keep ho2 fun y hy hy2=>(n2 y hy).1 (hg y hy2),?_,hm.hF.keep ho2 fun y hy hy2=>(n3 y (hg y hy2)).1 hy,?_,fun m hm'=>?_,by rw[omF_withO];exact hm.nd⟩
 ·have:=(hm.ok.upd (x:=x) (f:=fun o=> {o with pin:=p}) fun o h=>⟨h.v,h.r,h.d,h.a0,h.a1⟩)
  unfold RL.upd at this
  rw[hk]at this
  exact this
 ·rw[omV_set (v:=.bool p) (m:=(L.getD k default).withO {(L.getD k default).o with pin:=p}) ys hkL (show 7<8 by omega) rfl]at hat2
  rw[List.length_set]
  obtain⟨T,hT⟩:=hat2
  refine⟨by rw[omV_len,List.length_set],.inr ⟨g,cap,ys,T,rfl,hfO,hT,?_,by omega⟩⟩
  rw[←hcap,List.length_append,List.length_append,omV_len,omV_len,List.length_set]
 ·rw[List.map_set,←hm.eq]
  show s.O.set k _=s.O.set k _
  rw[hm.getO hkL];rfl
 ·obtain⟨j,hj,rfl⟩:=List.mem_iff_getElem.1 hm'
  have hj':j<L.length:=by simpa using hj
  have key: ∀i,i<L.length→(L.getD i default).ok w2:=fun i hi=>(hm.om (L.getD i default) (by simp[hi])).keep ho2 fun y hy hy2=>(n3 y (hg y hy2)).2 (mem_omF (m:=L.getD i default) (by simp[hi]) hy)
  rw[List.getElem_set]
  split
  ·have:=key k hkL
   exact⟨this.r,this.d⟩
  ·have:=key j hj'
   simpa[hj']using this
theorem fPin {w:World} {b:Nat} {s:RL} {fp:List Nat} (h:FM w b s fp) (x:Int):Cs Tryz.prog 98 [.pointer (some ⟨b,0,none⟩),.int .i64 x] w fun v w'=>v=.int .i64 (s.lacks x)∧FM w' b (s.pinM x true) fp∧Only fp w w':=by
 refine enter_ref02_Heap_Pin rfl ?_
 unfold x_ref02_Heap_Pin
 (repeat(first|with_reducible(first|refine nx ?_|refine r_6 rfl ?_)|simp only[go_sem]))
 refine callT (fPinV h x true) ?_
 rintro r w1 ⟨rfl,h1,ho1⟩
 (repeat(first|with_reducible(first|refine nx ?_|refine r_6 rfl ?_)|simp only[go_sem]))
 exact⟨h1,ho1⟩
end Go.Proofs.YtgcofabdialaaaaGreat
end
section
namespace Go.Proofs.YtgcofabdialaaaaGreat
set_option maxRecDepth 8000
theorem addr_add0 (g o:Nat):(⟨g,o,none⟩:Addr).add 0=⟨g,o,none⟩:=by rw[addr_add,Nat.add_zero]
theorem slc_head {w:World} {g n cap h sz:Nat} {k:IntKind} {xs ys:List Value} (hat:At w g (xs++ys)) (hx:xs.length=n*sz) (hh:h≤n) (hc:n≤cap):
  ∃v',slcO sz (.slice (some ⟨g,0,none⟩) n cap) none (some (.int k (h:Int)))=some v'∧SrcIs w sz v' h (xs.take (h*sz)):=by
 refine⟨.slice (some ⟨g,0,none⟩) h cap,?_,?_,.inr ⟨⟨g,0,none⟩,cap,rfl,?_⟩⟩
 ·have e:(0:Int)≤(h:Int)∧(h:Int)≤(cap:Int):=⟨by omega,by omega⟩
  simp only[slcO,boundO,if_pos e,Int.toNat_natCast,Option.map_some,Nat.zero_mul,addr_add0,Nat.sub_zero,ite_self]
 ·rw[List.length_take,hx]
  have:=Nat.mul_le_mul_right sz hh
  omega
 ·have:=Nat.mul_le_mul_right sz hh
  rw[cellsAt_at hat 0 _ (by rw[List.length_append];omega),List.drop_zero,List.take_append_of_le_length (by omega)]
theorem slc_tail {w:World} {g n cap l sz:Nat} {k:IntKind} {xs ys:List Value} (hat:At w g (xs++ys)) (hx:xs.length=n*sz) (hl:l≤n) (hc:n≤cap):
  ∃v',slcO sz (.slice (some ⟨g,0,none⟩) n cap) (some (.int k (l:Int))) none=some v'∧SrcIs w sz v' (n-l) (xs.drop (l*sz)):=by
 have hm:=Nat.mul_le_mul_right sz hl
 have hlen:(xs.drop (l*sz)).length=(n-l)*sz:=by rw[List.length_drop,hx,Nat.sub_mul]
 have e:(0:Int)≤(l:Int)∧(l:Int)≤(n:Int):=⟨by omega,by omega⟩
 refine⟨.slice (if cap=l then some ⟨g,0,none⟩else(some ⟨g,0,none⟩:Option Addr).map (·.add (l*sz))) (n-l) (cap-l),by simp only[slcO,boundO,if_pos e,Int.toNat_natCast],hlen,?_⟩
 by_cases hcl:cap=l
 ·rw[if_pos hcl]
  refine .inr ⟨_,_,rfl,?_⟩
  have e0:n-l=0:=by omega
  rw[e0,Nat.zero_mul]at hlen⊢
  rw[List.eq_nil_of_length_eq_zero hlen]
  simp[cellsAt]
 ·rw[if_neg hcl]
  refine .inr ⟨_,_,rfl,?_⟩
  show cellsAt w ((⟨g,0,none⟩:Addr).add (l*sz)) _=_
  rw[addr_add,Nat.zero_add,cellsAt_at hat _ _ (by rw[List.length_append];rw[←hlen,List.length_drop];omega),List.drop_append_of_le_length (by omega),List.take_append_of_le_length (by omega),List.take_of_length_le (by omega)]
theorem nd4_mk {b:Nat} {fB fO fF F:List Nat} (n1: ∀x,x∈fB∨x∈fO∨x∈fF∨x∈F→x≠b) (n2: ∀x,x∈fB→x∉fO∧x∉fF∧x∉F) (n3: ∀x,x∈fO→x∉fF∧x∉F) (n4: ∀x,x∈fF→x∉F) (n5:F.Nodup) (n6:fO.Nodup) (n7:fB.Nodup) (n8:fF.Nodup):(b::(fB++(fO++(fF++F)))).Nodup:=by
 simp only[List.nodup_cons,List.nodup_append,List.mem_append,not_or]
 refine⟨⟨fun h=>n1 b (.inl h) rfl,fun h=>n1 b (.inr (.inl h)) rfl,fun h=>n1 b (.inr (.inr (.inl h))) rfl,fun h=>n1 b (.inr (.inr (.inr h))) rfl⟩,n7,⟨n6,⟨n8,n5,fun x hx y hy e=>?_⟩,fun x hx y hy e=>?_⟩,fun x hx y hy e=>?_⟩
 ·subst e;exact n4 x hx hy
 ·subst e
  rcases hy with hy|hy
  ·exact(n3 x hx).1 hy
  ·exact(n3 x hx).2 hy
 ·subst e
  rcases hy with hy|hy|hy
  ·exact(n2 x hx).1 hy
  ·exact(n2 x hx).2.1 hy
  ·exact(n2 x hx).2.2 hy
theorem FMs.newO {w w1 w':World} {b:Nat} {s s':RL} {vB vO vF v':Value} {fB fO fF f':List Nat} {L L':List OM} (h:FMs w b s vB vO vF fB fO fF L) (hs:s'.B=s.B∧s'.F=s.F) (hok:s'.Ok) (heq:s'.O=L'.map OM.o)
  (o1:Only [] w w1) (o2:Only [b] w1 w') (hb:At w' b [vB,v',vF,.int .i64 s'.born]) (hO:Sl w1 8 v' L'.length (omV L') f') (hf: ∀y,y∈f'→w.heap.size≤y) (hom: ∀m,m∈L'→m.ok w1)
  (hn:(omF L').Nodup) (hsub: ∀y,y∈omF L'→y∈omF L∨(w.heap.size≤y∧y∉f')):FMs w' b s' vB v' vF fB f' fF L'∧ ∀y,y∈b::(fB++(f'++(fF++omF L')))→y∈b::(fB++(fO++(fF++omF L)))∨w.heap.size≤y:=by
 obtain⟨n1,n2,n3,n4,n5,n6,n7,n8⟩:=nd4 h.nd
 have hlt:=h.lt
 have hltb:b<w.heap.size:=hlt b (by simp)
 have hltB: ∀y,y∈fB→y<w.heap.size:=fun y hy=>hlt y (by simp[hy])
 have hltF: ∀y,y∈fF→y<w.heap.size:=fun y hy=>hlt y (by simp[hy])
 have hltO: ∀y,y∈omF L→y<w.heap.size:=fun y hy=>hlt y (by simp[hy])
 have hx: ∀y,y∈omF L'→y≠b∧y∉fB∧y∉fF∧y∉f':=fun y hy=>by
  rcases hsub y hy with h1|⟨h1,h2⟩
  ·exact⟨n1 y (.inr (.inr (.inr h1))),fun h2=>(n2 y h2).2.2 h1,fun h2=>n4 y h2 h1,fun h2=>by have:=hf y h2;have:=hltO y h1;omega⟩
  ·exact⟨by omega,fun h3=>by have:=hltB y h3;omega,fun h3=>by have:=hltF y h3;omega,h2⟩
 have hf': ∀y,y∈f'→y≠b:=fun y hy=>by have:=hf y hy;omega
 refine⟨⟨hok,hb,?_,hO.keep o2 fun y hy=>off1 (hf' y hy),?_,heq,fun m hm=>(hom m hm).keep o2 fun y hy=>off1 (hx y (mem_omF hm hy)).1,nd4_mk ?_ ?_ ?_ ?_ hn (hO.nodup) n7 n8⟩,?_⟩
 ·rw[hs.1];exact(h.hB.keep0 o1).keep o2 fun y hy=>off1 (n1 y (.inl hy))
 ·rw[hs.2];exact(h.hF.keep0 o1).keep o2 fun y hy=>off1 (n1 y (.inr (.inr (.inl hy))))
 ·rintro y (hy|hy|hy|hy)
  ·exact n1 y (.inl hy)
  ·exact hf' y hy
  ·exact n1 y (.inr (.inr (.inl hy)))
  ·exact(hx y hy).1
 ·exact fun y hy=>⟨fun h2=>by have:=hf y h2;have:=hltB y hy;omega,(n2 y hy).2.1,fun h2=>(hx y h2).2.1 hy⟩
 ·exact fun y hy=>⟨fun h2=>by have:=hf y hy;have:=hltF y h2;omega,fun h2=>(hx y h2).2.2.2 hy⟩
 ·exact fun y hy h2=>(hx y h2).2.2.1 hy
 ·intro y hy
  simp only[List.mem_cons,List.mem_append]at hy⊢
  rcases hy with rfl|hy|hy|hy|hy
  ·exact .inl (.inl rfl)
  ·exact .inl (.inr (.inl hy))
  ·exact .inr (hf y hy)
  ·exact .inl (.inr (.inr (.inr (.inl hy))))
  ·rcases hsub y hy with h1|⟨h1,_⟩
   ·exact .inl (.inr (.inr (.inr (.inr h1))))
   ·exact .inr h1
theorem omF_erase: ∀(L:List OM) (k:Nat),(omF (L.eraseIdx k)).Sublist (omF L)
 | [],_=>by simp
 |a::L,0=>by rw[List.eraseIdx_cons_zero,omF_cons];exact List.sublist_append_right _ _
 |a::L,k+1=>by
  rw[List.eraseIdx_cons_succ,omF_cons,omF_cons]
  exact(List.Sublist.refl _).append (omF_erase L k)
theorem map_erase {α β:Type} (f:α→β): ∀(L:List α) (k:Nat),(L.map f).eraseIdx k=(L.eraseIdx k).map f
 | [],_=>rfl
 |a::L,0=>rfl
 |a::L,k+1=>by simp[map_erase f L k]
theorem Sl.nil8 (w:World):Sl w 8 (.slice none 0 0) 0 [] []:=⟨rfl,.inl ⟨rfl,rfl,rfl⟩⟩
theorem fCut {w:World} {b:Nat} {s:RL} {fp:List Nat} (h:FM w b s fp) (k:Nat) (hk:k<s.O.length):Cs Tryz.prog 153 [.pointer (some ⟨b,0,none⟩),.int .i64 (k:Int)] w fun v w'=>v=.tuple #[]∧Only fp w w'∧ ∃fp',FM w' b {s with O:=s.O.eraseIdx k} fp'∧ ∀y,y∈fp'→y∈fp∨w.heap.size≤y:=by
 obtain⟨vB,vO,vF,fB,fO,fF,L,hfp,hm⟩:=h
 have hl:=hm.len
 have hol:=hm.ok.ol
 obtain⟨g,cap,ys,rfl,hat,hfO,hcap⟩:=hm.row (by omega)
 have hone: ∀M:List OM,(∀m,m∈M→m∈L)→ ∀u,u∈omV M→oneC u=true:=fun M hM=>omV_one fun m hm'=>(hm.om m (hM m hm')).one
 have htl:((k+1:Nat):Int)=(k:Int)+1:=by omega
 refine enter_ref02_Heap_cut rfl ?_
 unfold x_ref02_Heap_cut
 obtain⟨v1,e1,s1⟩:=slc_head (k:=.i64) hat (omV_len L) (show k≤L.length by omega) hcap
 rw[omV_take]at s1
 (repeat(first|with_reducible(first|refine nx ?_|refine r_6 rfl ?_)|simp only[go_sem,hm.hb.cell,e1]))
 refine appT (sz:=8) (Sl.nil8 w) s1 (hone _ fun m hm'=>List.mem_of_mem_take hm') (by omega) (by omega) ?_
 intro v2 w2 f2 hs2 hf2 ho2 _
 have hf2': ∀y,y∈f2→w.heap.size≤y:=fun y hy=>by
  rcases hf2 with rfl|rfl
  ·cases hy
  ·simp only[List.mem_singleton]at hy;omega
 obtain⟨v3,e3,s3⟩:=slc_tail (k:=.i64) (hat.keep0 ho2) (omV_len L) (show k+1≤L.length by omega) hcap
 rw[omV_drop]at s3
 (repeat(first|with_reducible(first|refine nx ?_|refine r_6 rfl ?_)|simp only[go_sem,(hm.hb.keep0 ho2).cell,i64_succ k (by omega),e3]))
 refine appT (sz:=8) hs2 s3 (hone _ fun m hm'=>List.mem_of_mem_drop hm') (by omega) (by omega) ?_
 intro v4 w4 f4 hs4 hf4 ho4 _
 have o4:Only [] w w4:=ho2.trans ho4 fun y hy=>.inr (hf2' y hy)
 have hf4': ∀y,y∈f4→w.heap.size≤y:=fun y hy=>by
  have:=ho2.size
  rcases hf4 with rfl|rfl
  ·exact hf2' y hy
  ·simp only[List.mem_singleton]at hy;omega
 (repeat(first|with_reducible(first|refine nx ?_|refine r_6 rfl ?_)|simp only[go_sem]))
 refine stT (hm.hb.keep0 o4) (by simp) hs4.oneC' fun w5 hs5 hb5 ho5=>?_
 simp only[List.set_cons_zero,List.set_cons_succ]at hb5
 (repeat(first|with_reducible(first|refine nx ?_|refine r_6 rfl ?_)|simp only[go_sem]))
 have eL:L.eraseIdx k=L.take k++L.drop (k+1):=List.eraseIdx_eq_take_drop_succ L k
 have hlen:(L.eraseIdx k).length=0+k+(L.length-(k+1)):=by rw[eL,List.length_append,List.length_take,List.length_drop];omega
 have hO:Sl w4 8 v4 (L.eraseIdx k).length (omV (L.eraseIdx k)) f4:=by
  rw[hlen,eL,omV_append]
  simpa using hs4
 have hsubl:(omF (L.eraseIdx k)).Sublist (omF L):=omF_erase L k
 obtain⟨hF,hsub⟩:=hm.newO (s':= {s with O:=s.O.eraseIdx k}) ⟨rfl,rfl⟩ ⟨hm.ok.b2,hm.ok.b64,by have:=List.length_eraseIdx_le s.O k;simp only;omega,fun o ho=>hm.ok.ob o (List.mem_of_mem_eraseIdx ho)⟩ (by simp only[hm.eq];rw[map_erase]) o4 ho5 hb5 hO hf4'
  (fun m hm'=>(hm.om m (List.mem_of_mem_eraseIdx hm')).keep0 o4) (hsubl.nodup (nd4 hm.nd).2.2.2.2.1) fun y hy=>.inl (hsubl.subset hy)
 refine⟨o4.of_nil.same (ho5.mono fun y hy=>.inl (by rw[hfp];simp only[List.mem_singleton]at hy;simp[hy])),_,⟨_,_,_,_,_,_,_,rfl,hF⟩,fun y hy=>?_⟩
 rw[hfp];exact hsub y hy
theorem fKill {w:World} {b:Nat} {s:RL} {fp:List Nat} (h:FM w b s fp) (x:Int):Cs Tryz.prog 93 [.pointer (some ⟨b,0,none⟩),.int .i64 x] w fun v w'=>v=.int .i64 (s.lacks x)∧Only fp w w'∧ ∃fp',FM w' b (s.killM x) fp'∧ ∀y,y∈fp'→y∈fp∨w.heap.size≤y:=by
 refine enter_ref02_Heap_Kill rfl ?_
 unfold x_ref02_Heap_Kill
 (repeat(first|with_reducible(first|refine nx ?_|refine r_6 rfl ?_)|simp only[go_sem]))
 refine callT0 (fLacks h x) ?_
 by_cases he:s.lacks x=0
 rotate_left
 ·obtain⟨e,e4⟩:=lacks4 he
  (repeat(first|with_reducible(first|refine nx ?_|refine r_6 rfl ?_)|simp only[go_sem,bne_int_true he]))
  have:s.killM x=s:=by unfold RL.killM;rw[e]
  rw[this]
  exact⟨Only.refl _ _,fp,h,fun y hy=>.inl hy⟩
 obtain⟨k,hk⟩:=lacks0 he
 obtain⟨k1,k2,k3⟩:=ixO_spec hk
 (repeat(first|with_reducible(first|refine nx ?_|refine r_6 rfl ?_)|simp only[go_sem,bne_int_false he]))
 refine callT0 (fIndex h x) ?_
 rw[hk]
 (repeat(first|with_reducible(first|refine nx ?_|refine r_6 rfl ?_)|simp only[go_sem,show ixI (some k)=(k:Int)from rfl]))
 refine callT (fCut h k k1) ?_
 rintro r w1 ⟨rfl,ho1,fp',h1,hsub⟩
 (repeat(first|with_reducible(first|refine nx ?_|refine r_6 rfl ?_)|simp only[go_sem]))
 have:s.killM x= {s with O:=s.O.eraseIdx k}:=by unfold RL.killM;rw[hk]
 rw[this]
 exact⟨by rw[he],ho1,fp',h1,hsub⟩
end Go.Proofs.YtgcofabdialaaaaGreat
end
section
namespace Go.Proofs.YtgcofabdialaaaaGreat
set_option maxRecDepth 8000
theorem Only.weakT {S T:List Nat} {a b:World} (h:Only S a b) (hs: ∀x,x∈S→x∈T):Only T a b:=h.mono fun x hx=>.inl (hs x hx)
structure LM where
 o:Int
 r:List Int
 v:Value
 f:List Nat
instance:Inhabited LM:=⟨⟨0,[],.slice none 0 0,[]⟩⟩
def LM.V (m:LM):List Value:=[.int .i64 m.o,m.v]
def lgV (M:List LM):List Value:=M.flatMap LM.V
def lgF (M:List LM):List Nat:=M.flatMap LM.f
theorem lgV_len (M:List LM):(lgV M).length=M.length*2:=by
 induction M with
 |nil=>rfl
 |cons m M ih=>
  have:lgV (m::M)=m.V++lgV M:=rfl
  rw[this,List.length_append,ih];simp[LM.V];omega
theorem lgV_append (L M:List LM):lgV (L++M)=lgV L++lgV M:=by simp[lgV]
theorem lgF_append (L M:List LM):lgF (L++M)=lgF L++lgF M:=by simp[lgF]
theorem lgV_at {M:List LM} {i:Nat} (ys:List Value) (h:i<M.length):((lgV M++ys).drop (i*2)).take 2=(M.getD i default).V:=by
 induction M generalizing i with
 |nil=>simp at h
 |cons m M ih=>
  have e:lgV (m::M)=m.V++lgV M:=rfl
  cases i with
  |zero=>rw[e];simp[LM.V]
  |succ i=>
   rw[e,show(i+1)*2=m.V.length+i*2 by simp[LM.V];omega,List.append_assoc,List.drop_append,List.drop_of_length_le (by omega),List.nil_append,Nat.add_sub_cancel_left]
   have:=ih (i:=i) (by simpa using h)
   rw[this];simp
theorem mem_lgF {M:List LM} {m:LM} {x:Nat} (hm:m∈M) (hx:x∈m.f):x∈lgF M:=by
 simp only[lgF,List.mem_flatMap];exact⟨m,hm,hx⟩
def LM.ok (w:World) (m:LM):Prop:=Sl w 1 m.v m.r.length (ints m.r) m.f
structure BS where
 kinds:Int
 young:Int
 D:IM
 O:IM
 S:List Int
 L:List (Int×List Int)
def LM.im (m:LM):Int×List Int:=(m.o,m.r)
structure BMs (w:World) (b:Nat) (hp:Addr) (t:BS) (bd bo:Nat) (vs vl:Value) (fs fl:List Nat) (M:List LM):Prop where
 hb:At w b [.pointer (some hp),.int .i64 t.kinds,.int .i64 t.young,.map (some bd),.map (some bo),vs,vl]
 hd:MpAt w bd t.D
 ho:MpAt w bo t.O
 hs:Sl w 1 vs t.S.length (ints t.S) fs
 hl:Sl w 2 vl M.length (lgV M) fl
 eq:t.L=M.map LM.im
 om: ∀m,m∈M→m.ok w
 nd:(b::bd::bo::(fs++(fl++lgF M))).Nodup
def BM (w:World) (b:Nat) (hp:Addr) (t:BS) (fp:List Nat):Prop:= ∃bd bo vs vl fs fl M,fp=b::bd::bo::(fs++(fl++lgF M))∧BMs w b hp t bd bo vs vl fs fl M
section
variable {w w':World} {b:Nat} {hp:Addr} {t:BS} {bd bo:Nat} {vs vl:Value} {fs fl S fp:List Nat} {M:List LM}
theorem BMs.keep (h:BMs w b hp t bd bo vs vl fs fl M) (k:Only S w w') (hd: ∀x,x∈b::bd::bo::(fs++(fl++lgF M))→x∉S):BMs w' b hp t bd bo vs vl fs fl M:=
 ⟨h.hb.keep k (hd b (by simp)),h.hd.keep k (hd bd (by simp)),h.ho.keep k (hd bo (by simp)),h.hs.keep k fun x hx=>hd x (by simp[hx]),h.hl.keep k fun x hx=>hd x (by simp[hx]),h.eq,fun m hm=>Sl.keep (h.om m hm) k fun x hx=>hd x (by simp[mem_lgF hm hx]),h.nd⟩
theorem BMs.keep0 (h:BMs w b hp t bd bo vs vl fs fl M) (k:Only [] w w'):BMs w' b hp t bd bo vs vl fs fl M:=h.keep k fun _ _=>by simp
theorem BM.keep (h:BM w b hp t fp) (k:Only S w w') (hd: ∀x,x∈fp→x∉S):BM w' b hp t fp:=by
 obtain⟨bd,bo,vs,vl,fs,fl,M,rfl,h⟩:=h
 exact⟨bd,bo,vs,vl,fs,fl,M,rfl,h.keep k hd⟩
theorem BM.keep0 (h:BM w b hp t fp) (k:Only [] w w'):BM w' b hp t fp:=h.keep k fun _ _=>by simp
theorem BMs.lt (h:BMs w b hp t bd bo vs vl fs fl M): ∀x,x∈b::bd::bo::(fs++(fl++lgF M))→x<w.heap.size:=by
 intro x hx
 simp only[List.mem_cons,List.mem_append]at hx
 rcases hx with rfl|rfl|rfl|hx|hx|hx
 ·exact h.hb.lt
 ·exact h.hd.lt
 ·exact h.ho.lt
 ·exact h.hs.lt x hx
 ·exact h.hl.lt x hx
 ·simp only[lgF,List.mem_flatMap]at hx
  obtain⟨m,hm,hx⟩:=hx
  exact Sl.lt (h.om m hm) x hx
theorem BM.lt (h:BM w b hp t fp): ∀x,x∈fp→x<w.heap.size:=by
 obtain⟨bd,bo,vs,vl,fs,fl,M,rfl,h⟩:=h
 exact h.lt
theorem BMs.len (h:BMs w b hp t bd bo vs vl fs fl M):M.length=t.L.length:=by rw[h.eq,List.length_map]
structure BNd (b bd bo:Nat) (fs fl F:List Nat):Prop where
 b1:b≠bd
 b2:b≠bo
 d1:bd≠bo
 b3: ∀x,x∈fs∨x∈fl∨x∈F→x≠b∧x≠bd∧x≠bo
 s: ∀x,x∈fs→x∉fl∧x∉F
 l: ∀x,x∈fl→x∉F
 n1:fs.Nodup
 n2:fl.Nodup
 n3:F.Nodup
theorem BNd.of {F:List Nat} (h:(b::bd::bo::(fs++(fl++F))).Nodup):BNd b bd bo fs fl F:=by
 simp only[List.nodup_cons,List.mem_cons,List.mem_append,not_or,List.nodup_append]at h
 obtain⟨⟨h1,h2,h3,h4,h5⟩,⟨h6,h7,h8,h9⟩,⟨h10,h11,h12⟩,h13,⟨h14,h15,h16⟩,h17⟩:=h
 refine⟨h1,h2,h6,fun x hx=>?_,fun x hx=>⟨fun h=>h17 x hx x (.inl h) rfl,fun h=>h17 x hx x (.inr h) rfl⟩,fun x hx h=>h16 x hx x h rfl,h13,h14,h15⟩
 rcases hx with hx|hx|hx
 ·exact⟨fun e=>h3 (e▸hx),fun e=>h7 (e▸hx),fun e=>h10 (e▸hx)⟩
 ·exact⟨fun e=>h4 (e▸hx),fun e=>h8 (e▸hx),fun e=>h11 (e▸hx)⟩
 ·exact⟨fun e=>h5 (e▸hx),fun e=>h9 (e▸hx),fun e=>h12 (e▸hx)⟩
theorem BNd.mk' {F:List Nat} (h:BNd b bd bo fs fl F):(b::bd::bo::(fs++(fl++F))).Nodup:=by
 obtain⟨h1,h2,h6,h3,h4,h5,h13,h14,h15⟩:=h
 simp only[List.nodup_cons,List.mem_cons,List.mem_append,not_or,List.nodup_append]
 exact⟨⟨h1,h2,fun h=>(h3 b (.inl h)).1 rfl,fun h=>(h3 b (.inr (.inl h))).1 rfl,fun h=>(h3 b (.inr (.inr h))).1 rfl⟩,⟨h6,fun h=>(h3 bd (.inl h)).2.1 rfl,fun h=>(h3 bd (.inr (.inl h))).2.1 rfl,fun h=>(h3 bd (.inr (.inr h))).2.1 rfl⟩,
  ⟨fun h=>(h3 bo (.inl h)).2.2 rfl,fun h=>(h3 bo (.inr (.inl h))).2.2 rfl,fun h=>(h3 bo (.inr (.inr h))).2.2 rfl⟩,h13,⟨h14,h15,fun x hx y hy e=>h5 x hx (e▸hy)⟩,fun x hx y hy e=>by
   subst e
   rcases hy with hy|hy
   ·exact(h4 x hx).1 hy
   ·exact(h4 x hx).2 hy⟩
end
def shadeL (S:List Int) (x:Int):List Int:=if x≠0∧S.contains x=false then S++[x]else S
def BS.shade (t:BS) (x:Int):BS:= {t with S:=shadeL t.S x}
def imgO:List (Int×List Int)→Int→Option Nat
 | [],_=>none
 |p::L,x=>if p.1=x then some 0 else(imgO L x).map (· +1)
theorem imgO_none {L:List (Int×List Int)} {x:Int} (h: ∀j,j<L.length→(L.getD j default).1≠x):imgO L x=none:=by
 induction L with
 |nil=>rfl
 |cons o L ih=>
  have h0:=h 0 (by simp)
  simp only[List.getD_cons_zero]at h0
  unfold imgO
  rw[if_neg h0,ih fun j hj=>by have:=h (j+1) (by simpa using hj);simpa using this]
  rfl
theorem imgO_some {L:List (Int×List Int)} {x:Int} {i:Nat} (hi:i<L.length) (e:(L.getD i default).1=x) (h: ∀j,j<i→(L.getD j default).1≠x):imgO L x=some i:=by
 induction L generalizing i with
 |nil=>simp at hi
 |cons o L ih=>
  unfold imgO
  cases i with
  |zero=>simp only[List.getD_cons_zero]at e;rw[if_pos e]
  |succ i=>
   have h0:=h 0 (by omega)
   simp only[List.getD_cons_zero]at h0
   rw[if_neg h0,ih (i:=i) (by simpa using hi) (by simpa using e) fun j hj=>by have:=h (j+1) (by omega);simpa using this]
   rfl
theorem BM.shade {w:World} {b:Nat} {hp:Addr} {t:BS} {fp:List Nat} (h:BM w b hp t fp) (hl:t.S.length≤100000) (x:Int):Cs Tryz.prog 80 [.pointer (some ⟨b,0,none⟩),.int .i64 x] w fun v w'=>v=.tuple #[]∧Only fp w w'∧ ∃fp',BM w' b hp (t.shade x) fp'∧ ∀y,y∈fp'→y∈fp∨w.heap.size≤y:=by
 have h0:=h
 obtain⟨bd,bo,vs,vl,fs,fl,M,hfp,hm⟩:=h
 have nd:=BNd.of hm.nd
 have same:shadeL t.S x=t.S→ ∃fp',BM w b hp (t.shade x) fp'∧ ∀y,y∈fp'→y∈fp∨w.heap.size≤y:=fun e=>⟨fp,by unfold BS.shade;rw[e];exact h0,fun y hy=>.inl hy⟩
 refine enter_barrier_Barrier_shade rfl ?_
 unfold x_barrier_Barrier_shade
 by_cases c0:x=0
 ·(repeat(first|with_reducible(first|refine nx ?_|refine r_6 rfl ?_)|simp only[go_sem,bne_int_false c0]))
  exact⟨Only.refl _ _,same (by unfold shadeL;rw[if_neg (fun h=>h.1 c0)])⟩
 (repeat(first|with_reducible(first|refine nx ?_|refine r_6 rfl ?_)|simp only[go_sem,bne_int_true c0,hm.hb.cell]))
 refine callT0 (Contains_m hm.hs.rd hl x) ?_
 cases hc:t.S.contains x with
 |true=>
  (repeat(first|with_reducible(first|refine nx ?_|refine r_6 rfl ?_)|simp only[go_sem]))
  exact⟨Only.refl _ _,same (by unfold shadeL;rw[hc,if_neg (fun h=>by cases h.2)])⟩
 |false=>
  (repeat(first|with_reducible(first|refine nx ?_|refine r_6 rfl ?_)|simp only[go_sem,hm.hb.cell]))
  rw[fillL_one rfl rfl]
  (repeat(first|with_reducible(first|refine nx ?_|refine r_6 rfl ?_)|simp only[go_sem]))
  refine bslT fun q w1 hq hs1 hat1 ho1=>?_
  (repeat(first|with_reducible(first|refine nx ?_|refine r_6 rfl ?_)|simp only[go_sem]))
  refine appT (m:=1) (us:=[.int .i64 x]) (hm.hs.keep0 ho1) (SrcIs.at hat1 rfl) (by simp[oneC]) (by omega) (by omega) ?_
  intro v2 w2 f2 hs2 hf2 ho2 _
  have hz1:=ho1.size
  have hlt:=hm.lt
  have hb2:=(hm.hb.keep0 ho1).keep ho2 fun e=>(nd.b3 b (.inl e)).1 rfl
  have hf2': ∀y,y∈f2→y∈fs∨w.heap.size≤y:=fun y hy=>by
   rcases hf2 with rfl|rfl
   ·exact .inl hy
   ·simp only[List.mem_singleton]at hy;exact .inr (by omega)
  (repeat(first|with_reducible(first|refine nx ?_|refine r_6 rfl ?_)|simp only[go_sem]))
  refine stT hb2 (by simp) hs2.oneC' fun w3 hs3 hb3 ho3=>?_
  simp only[List.set_cons_zero,List.set_cons_succ]at hb3
  (repeat(first|with_reducible(first|refine nx ?_|refine r_6 rfl ?_)|simp only[go_sem]))
  have nb: ∀y,y∈f2→y≠b∧y≠bd∧y≠bo∧y∉fl∧y∉lgF M:=fun y hy=>by
   rcases hf2' y hy with h|h
   ·have:=nd.b3 y (.inl h);exact⟨this.1,this.2.1,this.2.2,(nd.s y h).1,(nd.s y h).2⟩
   ·have g: ∀z,z∈b::bd::bo::(fs++(fl++lgF M))→y≠z:=fun z hz=>by have:=hlt z hz;omega
    exact⟨g b (by simp),g bd (by simp),g bo (by simp),fun h=>g y (by simp[h]) rfl,fun h=>g y (by simp[h]) rfl⟩
  have ofs:Only (b::fs) w w3:=((ho1.of_nil (T:=b::fs)).same (ho2.weakT fun y hy=>by simp[hy])).same (ho3.weakT fun y hy=>by simp only[List.mem_singleton]at hy;simp[hy])
  have off: ∀y,y≠b→y∉fs→y∉b::fs:=fun y h1 h2 h3=>by simp only[List.mem_cons]at h3;exact h3.elim h1 h2
  refine⟨ofs.weakT fun y hy=>by rw[hfp];simp only[List.mem_cons]at hy;rcases hy with rfl|hy<;>simp[*],b::bd::bo::(f2++(fl++lgF M)),⟨bd,bo,v2,vl,f2,fl,M,rfl,?_⟩,fun y hy=>?_⟩
  ·have e:(t.shade x).S=t.S++[x]:=by show shadeL t.S x=_;unfold shadeL;rw[if_pos ⟨c0,hc⟩]
   refine⟨hb3,hm.hd.keep ofs (off bd nd.b1.symm fun h=>(nd.b3 bd (.inl h)).2.1 rfl),hm.ho.keep ofs (off bo nd.b2.symm fun h=>(nd.b3 bo (.inl h)).2.2 rfl),?_,hm.hl.keep ofs fun y hy=>off y (nd.b3 y (.inr (.inl hy))).1 fun h=>(nd.s y h).1 hy,hm.eq,fun m hm'=>Sl.keep (hm.om m hm') ofs fun y hy=>off y (nd.b3 y (.inr (.inr (mem_lgF hm' hy)))).1 fun h=>(nd.s y h).2 (mem_lgF hm' hy),BNd.mk' ⟨nd.b1,nd.b2,nd.d1,?_,fun y hy=>⟨(nb y hy).2.2.2.1,(nb y hy).2.2.2.2⟩,nd.l,hs2.nodup,nd.n2,nd.n3⟩⟩
   ·rw[e]
    have:=hs2.keep ho3 fun y hy=>off1 (nb y hy).1
    simpa[ints]using this
   ·rintro y (hy|hy)
    ·exact⟨(nb y hy).1,(nb y hy).2.1,(nb y hy).2.2.1⟩
    ·exact nd.b3 y (.inr hy)
  ·rw[hfp]
   simp only[List.mem_cons,List.mem_append]at hy⊢
   rcases hy with hy|hy|hy|hy|hy|hy
   ·simp[hy]
   ·simp[hy]
   ·simp[hy]
   ·rcases hf2' y hy with h|h
    ·simp[h]
    ·exact .inr h
   ·simp[hy]
   ·simp[hy]
end Go.Proofs.YtgcofabdialaaaaGreat
end
section
namespace Go.Proofs.YtgcofabdialaaaaGreat
set_option maxRecDepth 8000
theorem Sl.posZ {w:World} {sz n:Nat} {v:Value} {xs:List Value} {fp:List Nat} (h:Sl w sz v n xs fp) (hn:0<n): ∃g cap ys,v=.slice (some ⟨g,0,none⟩) n cap∧At w g (xs++ys)∧fp=[g]:=by
 rcases h.2 with⟨_,h0,_⟩|⟨g,cap,ys,T,rfl,h2,h3,_⟩
 ·omega
 ·exact⟨g,cap,ys,rfl,⟨T,h3⟩,h2⟩
theorem bLog {w:World} {b:Nat} {p:Addr} {c1 c2 c3 c4 c5 vl:Value} {M:List LM} {fl:List Nat} (hb:At w b [.pointer (some p),c1,c2,c3,c4,c5,vl]) (hl:Sl w 2 vl M.length (lgV M) fl) (om: ∀m,m∈M→m.ok w) (hM:M.length≤1000) (hr: ∀m,m∈M→m.r.length≤1000):
  Cs Tryz.prog 22 [.pointer (some ⟨b,0,none⟩)] w fun v w'=>Only [] w w'∧ ∃M' fp',Sl w' 2 v M'.length (lgV M') fp'∧M'.map LM.im=M.map LM.im∧(∀m,m∈M'→m.ok w')∧ ∀y,y∈fp'++lgF M'→w.heap.size≤y:=by
 obtain⟨al,cl,rfl⟩:=hl.val
 refine enter_barrier_Barrier_Log rfl ?_
 unfold x_barrier_Barrier_Log
 (repeat(first|with_reducible(first|refine nx ?_|refine r_6 rfl ?_)|simp only[go_sem]))
 refine callT0 (bMadeS hb) ?_
 (repeat(first|with_reducible(first|refine nx ?_|refine r_6 rfl ?_)|simp only[go_sem,hb.cell]))
 refine run_loop (3::5::14::15::16::17::18::19::20::21::22::23::24::25::26::27::[]) (fun g w'=> ∃(i:Nat) (M':List LM) (fp':List Nat),g 14=.int .i64 (i:Int)∧i≤M.length∧M'.length=i∧Only [] w w'∧Sl w' 2 (g 3) i (lgV M') fp'∧M'.map LM.im=(M.take i).map LM.im∧(∀m,m∈M'→m.ok w')∧(∀y,y∈fp'→y∉lgF M')∧ ∀y,y∈fp'++lgF M'→w.heap.size≤y)
  (fun g _=>upTo M.length 14 g) ⟨0,[],[],by simp only[go_sem];rfl,by omega,rfl,Only.refl _ _,by simp only[go_sem];exact⟨rfl,.inl ⟨rfl,rfl,rfl⟩⟩,rfl,fun m hm=>absurd hm (by simp),fun y hy=>absurd hy (by simp),fun y hy=>absurd hy (by simp[lgF])⟩ fun g w1 hI hnext=>?_
 obtain⟨i,M',fp',h14,hi,hMl,ho,hs,him,hok,hdj,hge⟩:=hI
 by_cases c1:i<M.length
 rotate_left
 ·(repeat(first|with_reducible(first|refine nx ?_|refine r_6 rfl ?_)|simp only[go_sem,h14,decide_eq_false (show¬(i:Int)<(M.length:Int) by omega)]))
  refine⟨ho,M',fp',by rw[hMl];exact hs,by rw[him,List.take_of_length_le (by omega)],hok,hge⟩
 obtain⟨gl,cap,ys,e,hat,_⟩:=hl.posZ (by omega)
 cases e
 have ci:(0:Int)≤(i:Int)∧(i:Int)<(M.length:Int):=by omega
 have hmem:M.getD i default∈M:=by simp[c1]
 obtain⟨m,hm⟩: ∃m,m=M.getD i default:=⟨_,rfl⟩
 rw[←hm]at hmem
 have hc:cellsAt w1 ⟨gl,i*2,none⟩ 2=some [.int .i64 m.o,m.v]:=by
  have hlen:=lgV_len M
  rw[cellsAt_at (hat.keep0 ho) (i*2) 2 (by rw[List.length_append];omega),lgV_at ys c1,←hm];rfl
 (repeat(first|with_reducible(first|refine nx ?_|refine r_6 rfl ?_)|simp only[go_sem,h14,decide_eq_true ci.2,if_pos ci,Int.toNat_natCast,hc]))
 refine boxT fun q w2 hq hs2 hat2 ho2=>?_
 (repeat(first|with_reducible(first|refine nx ?_|refine r_6 rfl ?_)|simp only[go_sem]))
 have hrm:=Sl.keep0 (om m hmem) (ho.nil ho2)
 have hrl:=hr m hmem
 obtain⟨am,cm,hmv⟩:=hrm.val
 refine stNT (cs:=[.int .i64 m.o,m.v]) hat2 rfl (by simp) (by rw[hmv];simp[oneC]) fun w3 hs3 hat3 ho3=>?_
 have hat3':At w3 q [.int .i64 m.o,m.v]:=hat3
 have o3:Only [] w1 w3:=ho2.trans ho3 fun y hy=>by simp only[List.mem_singleton]at hy;subst hy;exact .inr (by omega)
 have hrm3:=Sl.keep0 (om m hmem) (ho.nil o3)
 (repeat(first|with_reducible(first|refine nx ?_|refine r_6 rfl ?_)|simp only[go_sem]))
 refine run_drt [q] ?_
 (repeat(first|with_reducible(first|refine nx ?_|refine r_6 rfl ?_)|simp only[go_sem,hat3'.drew.cell,hat3'.cell]))
 have hql:=hat3'.lt
 refine callS (sclone (hrm3.keep0 (Only.drew [] w3)).src ints_one (by omega)) ?_
 rintro v w4 ⟨ho4,fp,hs4,hfp4⟩
 refine⟨.inr ((SB.refl _ _).only ho4 fun z hz=>⟨by simp only[List.mem_singleton]at hz;rw[hz];exact hql,by simp⟩),?_⟩
 obtain⟨a4,c4',rfl⟩:=hs4.val
 (repeat(first|with_reducible(first|refine nx ?_|refine r_6 rfl ?_)|simp only[go_sem]))
 rw[fillL_one rfl rfl,fillL_one rfl rfl]
 (repeat(first|with_reducible(first|refine nx ?_|refine r_6 rfl ?_)|simp only[go_sem]))
 rw[fillL_ag (n:=2) rfl rfl]
 (repeat(first|with_reducible(first|refine nx ?_|refine r_6 rfl ?_)|simp only[go_sem]))
 refine bslS fun q5 w5 hq5 hs5 hat5 ho5=>⟨.inl rfl,?_⟩
 (repeat(first|with_reducible(first|refine nx ?_|refine r_6 rfl ?_)|simp only[go_sem]))
 have o5:Only [] w1 w5:=((o3.nil (Only.drew [] w3)).nil ho4).nil ho5
 refine appS (sz:=2) (n:=i) (m:=1) (us:=[.int .i64 m.o,.slice a4 m.r.length c4']) (hs.keep0 o5) (SrcIs.at (us:=[.int .i64 m.o,.slice a4 m.r.length c4']) hat5 rfl) (by simp[oneC]) (by omega) (by omega) ?_
 intro v6 w6 f6 hs6 hf6 ho6 _
 refine⟨.inl rfl,?_⟩
 have z1:=i64_succ i (by omega)
 have zo:=ho.size
 have zz:=o5.size
 have g6: ∀y,y∈fp'→w.heap.size≤y:=fun y hy=>hge y (by simp[hy])
 have o6:Only [] w w6:=(ho.nil o5).trans ho6 fun y hy=>.inr (g6 y hy)
 have o16:Only fp' w1 w6:=o5.of_nil.same ho6
 have z3:=o3.size
 have d6: ∀y,y∈fp→y∉fp':=fun y hy h=>by
  have h1:=hfp4 y hy
  have h2:=hs.lt y h
  have:w3.drew.heap.size=w3.heap.size:=rfl
  omega
 have z4:=ho4.size
 (repeat(first|with_reducible(first|refine nx ?_|refine r_6 rfl ?_)|simp only[go_sem,h14,z1]))
 refine hnext _ w6 ?_ ⟨i+1,M'++[⟨m.o,m.r,.slice a4 m.r.length c4',fp⟩],f6,?_,by omega,by simp[hMl],o6,?_,?_,fun m' hm'=>?_,fun y hy hy2=>?_,fun y hy=>?_⟩ ?_
 ·(repeat(first|with_reducible exact k_1|with_reducible exact Keeps.ovr _ _ _|refine Keeps.put ?_ rfl _|exact k_1|exact Keeps.ovr _ _ _|refine Keeps.ovr2 ?_ rfl _))
 ·simp only[go_sem]
 ·simp only[go_sem];rw[lgV_append];exact hs6
 ·rw[List.map_append,him,List.take_succ_eq_append_getElem c1,List.map_append]
  have:M[i]=m:=by rw[hm];simp[c1]
  rw[this];rfl
 ·rcases List.mem_append.1 hm' with h|h
  ·exact Sl.keep (hok m' h) o16 fun x hx h2=>hdj x h2 (mem_lgF h hx)
  ·simp only[List.mem_singleton]at h
   subst h
   exact Sl.keep (hs4.keep0 ho5) ho6 d6
 ·rw[lgF_append,List.mem_append]at hy2
  have hfl:lgF [⟨m.o,m.r,.slice a4 m.r.length c4',fp⟩]=fp:=by simp[lgF]
  rw[hfl]at hy2
  have l4:=hs4.lt
  have z5:=ho5.size
  rcases hf6 with e|e<;>rw[e]at hy
  ·rcases hy2 with h|h
   ·exact hdj y hy h
   ·exact d6 y h hy
  ·simp only[List.mem_singleton]at hy
   rcases hy2 with h|h
   ·have: ∃m',m'∈M'∧y∈m'.f:=by simpa[lgF]using h
    obtain⟨m',h1,h2⟩:=this
    have:=Sl.lt (hok m' h1) y h2
    omega
   ·have:=l4 y h;omega
 ·rw[lgF_append,List.mem_append,List.mem_append]at hy
  have hfl:lgF [⟨m.o,m.r,.slice a4 m.r.length c4',fp⟩]=fp:=by simp[lgF]
  rw[hfl]at hy
  rcases hy with hy|hy|hy
  ·rcases hf6 with e|e<;>rw[e]at hy
   ·exact g6 y hy
   ·simp only[List.mem_singleton]at hy;omega
  ·exact hge y (by simp[hy])
  ·have:=hfp4 y hy
   have:w3.drew.heap.size=w3.heap.size:=rfl
   omega
 ·rw[upTo_int (i:=i) h14,upTo_int (k:=.i64) (i:=i+1) (by simp only[go_sem])];omega
end Go.Proofs.YtgcofabdialaaaaGreat
end
