/- The law FinalOrder: whatever comes in, it returns true, and what came in reads as it did. -/
import Derived.Test.YteiildhelefodaaGreatZPk4
import Derived.ProofKit
import Derived.Deep.Slices
import Derived.Lib.SmallJoins
import Derived.Test.YteiildhelefodaaGreatRows
import Derived.OpenShut
import Derived.Deep.Strs
set_option linter.unusedSimpArgs false
set_option linter.unusedVariables false
section
namespace Go.Proofs.YteiildhelefodaaGreat
set_option maxRecDepth 20000
def rep0 (sc cl:Nat):List Value:=[.int .i64 0,.int .i64 0,.int .i64 0,.int .i64 0,.int .i64 0,.int .i64 0,.int .i64 (sc:Int),.int .i64 (cl:Int)]
theorem setL_rep0 (a0 a1 a2 a3 a4 a5 a6 a7:Value):setL (rep0 0 0) 0 [a0,a1,a2,a3,a4,a5,a6,a7]=[a0,a1,a2,a3,a4,a5,a6,a7]:=rfl
set_option maxHeartbeats 4000000 in
theorem gCollect {w:World} {b:Nat} {hp:Addr} {ar:Option Addr} {L:List Int} {fl fp fr:List Nat} {s:HL} {R:Rt.MS} (h:RG w b hp ar L fl) (hl:L.length≤500) (hr:HR w (some hp) fp (some s)) (hi:s.Inv) (hR:Rt.PR w ar fr (some R)) (hsn:Snd true s R) (h40:s.objs.length≤2000) (hll:(Rt.leadsO (some R)).length≤500) (hrf:RfOk s.abs) (hbp:b∉fp) (hbr:b∉fr) (hpr: ∀y,y∈fp→y∉fr):
  Cs Tryz.prog 14 [.pointer (some ⟨b,0,none⟩)] w fun v w'=> ∃s4 R' L' ids rep K S o s1 s2 s3 n pv fpv fl' fr',ColX s R L s4 R' L' ids rep K S o s1 s2 s3 n∧v=.tuple #[.agg ⟨ints rep⟩,pv,.int .i64 0]∧
   HR w' (some hp) fp (some s4)∧Rt.PR w' ar fr' (some R')∧RG w' b hp ar L' fl'∧Sl w' 1 pv ids.length (ints ids) fpv∧Only (b::(fp++fr)) w w'∧(∀y,y∈fr'→y∈fr∨w.heap.size≤y)∧(∀y,y∈fl'→w.heap.size≤y)∧(∀y,y∈fl'→y∉fr')∧(∀y,y∈fpv→w.heap.size≤y):=by
 obtain⟨v0,g1,g2,g3⟩:=id h
 have hbw:=g1.lt
 have hRok:R.Ok:=by
  obtain⟨_,_,_,_,_,_,_,_,_,hpm⟩:=hR
  exact hpm.ok
 refine enter_final_Registry_Collect rfl ?_
 unfold x_final_Registry_Collect
 refine gO ?_
 refine boxT fun rt w1 hrt hs1 hat1 ho1=>?_
 refine gO ?_
 refine callT (gView (h.keep0 ho1) hl (hr.keep0 ho1) hi (hR.keep0 ho1) hsn h40 hll hrf) ?_
 rintro _ w2 ⟨ho2,vb,mk,ms,vd,fd,K,S,rfl,hv2,hK2,hS2,hd2,kpt,kpt2,gvb,gmk,gms,gfd,nvk,nvs,nks,nvd,nkd,nsd⟩
 obtain⟨sv,hsv⟩: ∃sv,sv=savL K S:=⟨_,rfl⟩
 have hS2':MB w2 ms sv:=by rw[hsv];exact hS2
 have z1:=ho1.size
 have z2:=ho2.size
 refine gO ?_
 refine boxT fun q w3 hq hs3 hat3 ho3=>?_
 refine gO ?_
 refine stT hat3 (by simp) rfl fun w4 hs4 hat4 ho4=>?_
 have o2:Only [] w w2:=ho1.nil ho2
 have o3:Only [] w w3:=o2.nil ho3
 have o4:Only [] w w4:=o3.trans ho4 fun y hy=>by simp only[List.mem_singleton]at hy;exact .inr (by omega)
 have hvb2:=hv2.lt
 have hmk2:=MpAt.lt hK2
 have hms2:=MpAt.lt hS2
 have kp4:Kp w4 q vb mk ms hp vd K sv:=by
  refine⟨hat4,(hv2.keep0 ho3).keep ho4 ?_,(hK2.keep0 ho3).keep ho4 ?_,(hS2'.keep0 ho3).keep ho4 ?_⟩<;>simp<;>omega
 have hd4: ∀y,y∈[q,vb,mk,ms]→w.heap.size≤y∧y<w4.heap.size:=fun y hy=>⟨by
  simp only[List.mem_cons,List.not_mem_nil,or_false]at hy
  rcases hy with rfl|rfl|rfl|rfl<;>omega,kp4.lt y hy⟩
 have hD4:Sl w4 1 vd (deadL s L K).length (ints (deadL s L K)) fd:=(hd2.keep0 ho3).keep ho4 fun z hz e=>by
  simp only[List.mem_singleton]at e;have:=hd2.lt z hz;omega
 have hrt4:At w4 rt (rep0 0 0):=(((hat1.keep0 ho2).keep0 ho3).keep ho4 (by simp;omega))
 have hrtl:w.heap.size≤rt∧rt<w4.heap.size:=⟨by omega,hrt4.lt⟩
 refine gO ?_
 refine callT (gTidy (h.keep0 o4) (by omega) (hr.keep0 o4) hi hbp) ?_
 rintro _ w5 ⟨fl1,hg5,ho5,gfl1⟩
 have z5:=ho5.size
 have z4:=o4.size
 have nb4: ∀y,w.heap.size≤y→y∉ [b]:=fun y hy=>by simp only[List.mem_singleton];omega
 have kp5:=kp4.keep ho5 fun y hy=>nb4 y (hd4 y hy).1
 have o5:Only (b::(fp++fr)) w w5:=(o4.of_nil).trans ho5 fun y hy=>.inl (by simp only[List.mem_singleton]at hy;rw[hy];simp)
 have hr5:=(hr.keep0 o4).keep ho5 fun y hy e=>hbp (by simp only[List.mem_singleton]at e;exact e▸hy)
 have hR5:=(hR.keep0 o4).keep ho5 fun y hy e=>hbr (by simp only[List.mem_singleton]at e;exact e▸hy)
 have hD5:=hD4.keep ho5 fun y hy=>nb4 y (by have:=gfd y hy;omega)
 have hrt5:=hrt4.keep ho5 (nb4 rt hrtl.1)
 have hLl:=listA_len s L
 have hdl:(deadL s L K).length≤500:=Nat.le_trans (List.length_filter_le _ _) (Nat.le_trans hLl hl)
 have hKl:K.length≤2000:=Nat.le_trans (nodup_le kpt.nd kpt.liv) h40
 have hSl:S.length≤2000:=Nat.le_trans (nodup_le kpt2.nd kpt2.liv) h40
 have hsvl:sv.length≤2000:=by rw[hsv];exact Nat.le_trans (List.length_filter_le _ _) hSl
 have hsvn:sv.Nodup:=by rw[hsv];exact List.Nodup.sublist List.filter_sublist kpt2.nd
 have hsvv: ∀x,x∈sv→Liv s x:=fun x hx=>by rw[hsv]at hx;exact kpt2.liv x (List.mem_filter.1 hx).1
 have esc:IntKind.i64.wrap ((K.length:Int)+(sv.length:Int))=((K.length+sv.length:Nat):Int):=by rw[IntWalk.i64_in _ (by omega)];omega
 refine gO ?_
 refine run_cut (9::31::32::33::34::35::36::37::38::39::40::41::42::[]) (fun g w'=> ∃rb,g 9=.pointer (some ⟨rb,0,none⟩)∧w5.heap.size≤rb∧At w' rb (rep0 (K.length+sv.length) 0)∧Only [] w5 w') (fun kk hkk=>?_) (fun g6 w6 hJ=>?_)
 ·refine run_drt [q,vb] ?_
  have od:=Only.drew [] w5
  have kpd:=kp5.keep0 od
  have lts: ∀z,z∈[q,vb]→z<w5.drew.heap.size∧z∉([]:List Nat):=fun z hz=>⟨kpd.lt z (by simp only[List.mem_cons,List.not_mem_nil,or_false]at hz⊢;omega),by simp⟩
  refine gO2 kpd.q.cell kpd.v.cell ?_
  have sb0:SB [q,vb] w5.drew w5.drew:=SB.refl _ _
  refine⟨mlenS Tryz.underlying115 kpd.k (.inr sb0) ?_,boxS fun rb w6 hrb hs6 hat6 ho6=>?_⟩
  ·refine gO ?_
   refine⟨mlenS Tryz.underlying115 kpd.s (.inl rfl) ?_,boxS fun rb w6 hrb hs6 hat6 ho6=>?_⟩
   ·(repeat(first|with_reducible(first|refine nx ?_|refine r_6 rfl ?_)|simp only[go_sem,setM_len,esc]))
    rw[fillL_one rfl rfl]
    refine gO ?_
    refine boxS fun rb w6 hrb hs6 hat6 ho6=>⟨.inr (sb0.only ho6 lts),?_⟩
    refine gO ?_
    refine stNS (cs:=rep0 (K.length+sv.length) 0) hat6 rfl (by simp[rep0]) (by simp[rep0,oneC]) fun w7 hs7 hat7 ho7=>⟨.inl rfl,?_⟩
    refine gO ?_
    refine hkk _ w7 ?_ ⟨rb,?_,by have:=od.size;omega,hat7,(od.nil ho6).trans ho7 fun y hy=>by simp only[List.mem_singleton]at hy;have:=od.size;exact .inr (by omega)⟩
    ·(repeat(first|with_reducible exact k_1|with_reducible exact Keeps.ovr _ _ _|refine Keeps.put ?_ rfl _|exact k_1|exact Keeps.ovr _ _ _|refine Keeps.ovr2 ?_ rfl _))
    ·simp only[go_sem]
   ·refine⟨.inr (sb0.only ho6 lts),?_⟩
    refine gO ?_
    refine mlenS Tryz.underlying115 (kpd.keep0 ho6).s (.inl rfl) ?_
    (repeat(first|with_reducible(first|refine nx ?_|refine r_6 rfl ?_)|simp only[go_sem,setM_len,esc]))
    rw[fillL_one rfl rfl]
    refine gO ?_
    refine stNS (cs:=rep0 (K.length+sv.length) 0) hat6 rfl (by simp[rep0]) (by simp[rep0,oneC]) fun w7 hs7 hat7 ho7=>⟨.inl rfl,?_⟩
    refine gO ?_
    refine hkk _ w7 ?_ ⟨rb,?_,by have:=od.size;omega,hat7,(od.nil ho6).trans ho7 fun y hy=>by simp only[List.mem_singleton]at hy;have:=od.size;exact .inr (by omega)⟩
    ·(repeat(first|with_reducible exact k_1|with_reducible exact Keeps.ovr _ _ _|refine Keeps.put ?_ rfl _|exact k_1|exact Keeps.ovr _ _ _|refine Keeps.ovr2 ?_ rfl _))
    ·simp only[go_sem]
  ·refine⟨.inr (sb0.only ho6 lts),?_⟩
   refine gO ?_
   refine mlenS Tryz.underlying115 (kpd.keep0 ho6).k (.inr (sb0.only ho6 lts)) ?_
   refine gO ?_
   refine mlenS Tryz.underlying115 (kpd.keep0 ho6).s (.inl rfl) ?_
   (repeat(first|with_reducible(first|refine nx ?_|refine r_6 rfl ?_)|simp only[go_sem,setM_len,esc]))
   rw[fillL_one rfl rfl]
   refine gO ?_
   refine stNS (cs:=rep0 (K.length+sv.length) 0) hat6 rfl (by simp[rep0]) (by simp[rep0,oneC]) fun w7 hs7 hat7 ho7=>⟨.inl rfl,?_⟩
   refine gO ?_
   refine hkk _ w7 ?_ ⟨rb,?_,by have:=od.size;omega,hat7,(od.nil ho6).trans ho7 fun y hy=>by simp only[List.mem_singleton]at hy;have:=od.size;exact .inr (by omega)⟩
   ·(repeat(first|with_reducible exact k_1|with_reducible exact Keeps.ovr _ _ _|refine Keeps.put ?_ rfl _|exact k_1|exact Keeps.ovr _ _ _|refine Keeps.ovr2 ?_ rfl _))
   ·simp only[go_sem]
 obtain⟨rb,h9,grb,hrb6,ho6⟩:=hJ
 have kp6:=kp5.keep0 ho6
 have z6:=ho6.size
 have o6:=o5.nil ho6
 refine gO1 kp6.q.cell ?_
 refine callT (vOrder kp6.v (hD5.keep0 ho6) hdl (fun x hx=>listA_live hi (List.mem_filter.1 hx).1) (hr5.keep0 ho6) hi.ok hsn h40) ?_
 rintro vo w7 ⟨ho7,o,fo,hO,hs7,gfo⟩
 obtain⟨ao,co,rfl⟩:=hs7.val
 have z7:=ho7.size
 have o7:=o6.nil ho7
 have kp7:=kp6.keep0 ho7
 have hol:o.length≤500:=by rw[(ordr_mem hO).length_eq];exact hdl
 have hov: ∀x,x∈o→Liv s x:=fun x hx=>listA_live hi (List.mem_filter.1 ((ordr_mem hO).mem_iff.1 hx)).1
 refine gO2 kp7.q.cell kp7.v.cell ?_
 refine rangeT Tryz.underlying115 kp7.k fun r w8 hr8 hs8 hit8 ho8=>?_
 have z8:=ho8.size
 have o8:=o7.nil ho8
 have kp8:=kp7.keep0 ho8
 have hg8:=((hg5.keep0 ho6).keep0 ho7).keep0 ho8
 have hrb8:=(hrb6.keep0 ho7).keep0 ho8
 have hrh8:=((hr5.keep0 ho6).keep0 ho7).keep0 ho8
 have nrb:rb∉fp:=fun e=>by have:=hr.lt rb e;omega
 have bd: ∀y,y∈[q,vb,mk,ms]→y∉rb::fp:=fun y hy e=>by
  have:=hd4 y hy
  rcases List.mem_cons.1 e with e|e
  ·omega
  ·have:=hr.lt y e;omega
 have bnr:b∉rb::fp:=fun e=>by
  rcases List.mem_cons.1 e with e|e
  ·omega
  ·exact hbp e
 refine gO ?_
 refine run_loop (11::50::51::52::53::54::55::56::57::58::59::60::61::62::63::64::[]) (fun _ w'=> ∃(T:List Int) (s1:HL),ItAt w' r mk (setM K) (setM T)∧(∀x,x∈T→x∈K)∧Clrd s s1 (K.filter fun y=>!decide (y∈T)) (inB K)∧HR w' (some hp) fp (some s1)∧At w' rb (rep0 (K.length+sv.length) (clrC s (inB K) (K.filter fun y=>!decide (y∈T))))∧Only (rb::fp) w7 w') (fun _ w'=>itLeft w' r mk)
  ⟨K,s,hit8,fun _ h=>h,?_,hrh8,?_,ho8.of_nil⟩ fun g9 w9 hI hnext=>?_
 ·rw[left_all];exact Clrd.none hi _
 ·rw[left_all];exact hrb8
 obtain⟨T,s1,hit,hTK,hC,hr9,hrb9,ho9⟩:=hI
 obtain⟨vg,gb7,gl7,gn7⟩:=id ((hg5.keep0 ho6).keep0 ho7)
 have gb9:=gb7.keep ho9 bnr
 have hl9:=hit.left
 refine gO ?_
 refine nextT hit (fun h0=>?_) (fun e w10 hp10 hs10 ho10 hit10 hen10=>?_)
 rotate_left
 ·obtain⟨hx,he⟩:=mem_setM hp10
  obtain⟨x,v⟩:=e
  simp only at hx he
  obtain rfl:v=.bool true:=(Prod.mk.inj he).2
  rw[setM_filter]at hit10
  have hxK:=hTK x hx
  have hxv:=kpt.liv x hxK
  have rr: ∀y,y∈[r]→y∈rb::fp∨w7.heap.size≤y:=fun y hy=>by simp only[List.mem_singleton]at hy;exact .inr (by omega)
  have nr: ∀y,y<w7.heap.size→y∉ [r]:=fun y hy=>by simp only[List.mem_singleton];omega
  have ltT:(setM (T.filter (·!=x))).length<(setM T).length:=by
   rw[setM_len,setM_len]
   rcases Nat.lt_or_ge (T.filter (·!=x)).length T.length with h'|h'
   ·exact h'
   ·have:=List.filter_eq_self.1 (List.Sublist.eq_of_length_le List.filter_sublist h') x hx
    simp at this
  have sT: ∀y,y∈T.filter (·!=x)→y∈K:=fun y hy=>hTK y (List.mem_filter.1 hy).1
  obtain⟨s2,k,rfl,hk,e2,hC2,n2⟩:=hC.step (C':=K.filter fun y=>!decide (y∈T.filter (·!=x))) hxv (by simp[hx]) fun y=>mem_left hxK hx
  have hr10:=hr9.keep ho10 fun y hy=>nr y (by have:=hr.lt y hy;omega)
  have hrb10:=hrb9.keep ho10 (nr rb (by have:=hrb6.lt;omega))
  have gb10:=gb9.keep ho10 (nr b (by omega))
  have kp9:=kp7.keep ho9 bd
  have kp10:=kp9.keep ho10 fun y hy=>nr y (by have:=hd4 y hy;omega)
  have hx62:((2*k:Nat):Int)≤4611686018427387904:=by have:=live_le hi.ok hk;omega
  have hk1:s1.st.getD k 0=1:=by rw[hC.sam.st];exact hk
  obtain⟨l1,_,_⟩:=obAt_len hC.inv.ok hk1
  have hl15:=rf_le hC.inv.ok hk1
  refine gO ?_
  refine entryT hen10 ?_
  refine gO1 gb10.cell ?_
  refine callT (cClear (n:=(s1.obAt k).rf.length) (kept:=inB K) (F:=54) (caps:=#[.pointer (some ⟨q,0,none⟩)]) hr10 ((2*k:Nat):Int) hx62 (by rw[at_shape hC.inv.ok hk1];exact l1.symm) hl15 (by kernel_rfl) fun w' y ho=>?_) ?_
  ·exact vKept1 (kp10.keep0 ho).q (kp10.keep0 ho).v (kp10.keep0 ho).k y
  rintro _ w11 ⟨rfl,hr11,ho11⟩
  rw[e2]at hr11
  rw[n2]
  have hrb11:=hrb10.keep ho11 nrb
  have ofp: ∀y,y∈fp→y∈rb::fp∨w7.heap.size≤y:=fun y hy=>.inl (List.mem_cons_of_mem _ hy)
  have o11:Only (rb::fp) w7 w11:=(ho9.trans ho10 rr).trans ho11 ofp
  have hit11:ItAt w11 r mk (setM K) (setM (T.filter (·!=((2*k:Nat):Int)))):=hit10.keep ho11 (fun e=>by have:=hr.lt r e;omega) (fun e=>by have:=hr.lt mk e;omega)
  have hcs:=clrC_step (s:=s) (keep:=inB K) kpt.nd hxK hx
  rw[obX_at]at hcs
  by_cases cn:0<clrN (inB K) (s.obAt k)
  ·rw[if_pos cn]at hcs
   have hcl:=clrC_le s (inB K) (K.filter fun y=>!decide (y∈T))
   have hcl2:=List.length_filter_le (fun y=>!decide (y∈T)) K
   have c7:w11.cell? ⟨rb,7,none⟩=some (.int .i64 (clrC s (inB K) (K.filter fun y=>!decide (y∈T)):Nat)):=by rw[hrb11.cell];rfl
   refine gO4 h9 (decide_eq_true cn) c7 (i64_succ (clrC s (inB K) (K.filter fun y=>!decide (y∈T))) (by omega)) ?_
   refine stT (i:=7) hrb11 (by simp[rep0]) rfl fun w12 hs12 hat12 ho12=>?_
   have hrb12:At w12 rb (rep0 (K.length+sv.length) (clrC s (inB K) (K.filter fun y=>!decide (y∈T.filter (·!=((2*k:Nat):Int)))))):=by rw[hcs];exact hat12
   refine gO ?_
   have n1: ∀y,y∈fp→y∉ [rb]:=fun y hy e=>nrb (by simp only[List.mem_singleton]at e;exact e▸hy)
   have hit12:ItAt w12 r mk (setM K) (setM (T.filter (·!=((2*k:Nat):Int)))):=hit11.keep ho12 (by simp only[List.mem_singleton];have:=hrb6.lt;omega) (by simp only[List.mem_singleton];have:=(hd4 mk (by simp)).2;omega)
   refine hnext _ w12 ?_ ⟨T.filter (·!=((2*k:Nat):Int)),s2,hit12,sT,hC2,hr11.keep ho12 n1,hrb12,o11.trans ho12 fun y hy=>by simp only[List.mem_singleton]at hy;exact .inl (by rw[hy];simp)⟩ ?_
   ·(repeat(first|with_reducible exact k_1|with_reducible exact Keeps.ovr _ _ _|refine Keeps.put ?_ rfl _|exact k_1|exact Keeps.ovr _ _ _|refine Keeps.ovr2 ?_ rfl _))
   ·rw[hl9,hit12.left];exact ltT
  ·rw[if_neg cn,Nat.add_zero]at hcs
   rw[decide_eq_false cn]
   refine gO ?_
   refine hnext _ w11 ?_ ⟨T.filter (·!=((2*k:Nat):Int)),s2,hit11,sT,hC2,hr11,by rw[hcs];exact hrb11,o11⟩ ?_
   ·(repeat(first|with_reducible exact k_1|with_reducible exact Keeps.ovr _ _ _|refine Keeps.put ?_ rfl _|exact k_1|exact Keeps.ovr _ _ _|refine Keeps.ovr2 ?_ rfl _))
   ·rw[hl9,hit11.left];exact ltT
 ·have hT:T=[]:=by cases T with
   |nil=>rfl
   |cons a T=>cases h0
  subst hT
  rw[left_none]at hC hrb9
  have z9:=ho9.size
  have o9:Only (b::(fp++fr)) w w9:=o7.trans ho9 fun y hy=>by
   rcases List.mem_cons.1 hy with rfl|hy
   ·exact .inr (by omega)
   ·exact .inl (by simp[hy])
  have kp9:=kp7.keep ho9 bd
  have fl5: ∀y,y∈fl1→w.heap.size≤y∧y<w5.heap.size:=fun y hy=>by
   obtain⟨_,_,gl,_⟩:=hg5
   exact⟨by have:=gfl1 y hy;omega,gl.lt y hy⟩
  have nfp: ∀y,y∈fl1→y∉rb::fp:=fun y hy e=>by
   have:=fl5 y hy
   rcases List.mem_cons.1 e with e|e
   ·omega
   ·have:=hr.lt y e;omega
  have hg9:RG w9 b hp ar (tidyL s L) fl1:=((hg5.keep0 ho6).keep0 ho7).keep ho9 bnr nfp
  have hR9:Rt.PR w9 ar fr (some R):=((hR5.keep0 ho6).keep0 ho7).keep ho9 fun y hy e=>by
   have:=hR.lt y hy
   rcases List.mem_cons.1 e with e|e
   ·omega
   ·exact hpr y e hy
  have hvo9:Sl w9 1 (.slice ao o.length co) o.length (ints o) fo:=hs7.keep ho9 fun y hy e=>by
   have:=gfo y hy
   rcases List.mem_cons.1 e with e|e
   ·have:=hrb6.lt;omega
   ·have:=hr.lt y e;omega
  have hro:=hR9.lt
  have hLt:(tidyL s L).length≤500:=Nat.le_trans (List.length_filter_le _ _) hl
  have hX: ∀y,w.heap.size≤y→y∉fl1→y∉b::(fl1++fr):=fun y h1 h2 e=>by
   rcases List.mem_cons.1 e with e|e
   ·omega
   ·rcases List.mem_append.1 e with e|e
    ·exact h2 e
    ·have:=hR.lt y e;omega
  have hX5: ∀y,w5.heap.size≤y→y∉b::(fl1++fr):=fun y h1=>hX y (by omega) fun e=>by have:=fl5 y e;omega
  obtain⟨Qn,hQn⟩: ∃Qn,Qn=R.Q.length:=⟨_,rfl⟩
  obtain⟨idl,hidl⟩: ∃idl:Nat→List Int,idl=fun n=>(o.take n).map (idA s):=⟨_,rfl⟩
  obtain⟨Lf,hLf⟩: ∃Lf:Nat→List Int,Lf=fun n=>(tidyL s L).filter fun x=>!decide (x∈idl n):=⟨_,rfl⟩
  (repeat(first|with_reducible(first|refine r_1 ?_|refine r_2 ?_|refine r_4 ?_|refine r_5 ?_|refine r_6 rfl ?_|refine r_7 ?_|refine r_8 ?_|refine r_9 ?_|refine r_0 ?_)|simp only[go_sem]))
  refine run_cut (12::14::15::16::67::68::69::70::71::72::73::74::75::76::77::78::79::80::81::82::83::84::85::86::87::88::89::90::91::92::93::94::95::96::97::98::99::100::[]) (fun g w'=> ∃n fr1 fpv,n=min o.length (64-R.Q.length)∧Rt.PR w' ar fr1 (some {R with Q:=R.Q++o.take n})∧(∀y,y∈fr1→y∈fr∨w9.heap.size≤y)∧RG w' b hp ar (Lf n) fl1∧Sl w' 1 (g 12) n (ints (idl n)) fpv∧(∀y,y∈fpv→w9.heap.size≤y)∧Only (b::(fl1++fr)) w9 w') (fun kk hkk=>?_) (fun g13 w13 hJ=>?_)
  ·refine gO ?_
   refine run_loop (12::14::15::16::67::68::69::70::71::72::73::74::75::76::77::78::79::80::81::82::83::84::85::86::87::88::89::90::91::92::93::94::95::96::97::98::99::100::[]) (fun g w'=> ∃i fr1 fpv,g 67=.int .i64 ((i:Nat):Int)∧i≤o.length∧R.Q.length+i≤64∧Rt.PR w' ar fr1 (some {R with Q:=R.Q++o.take i})∧(∀y,y∈fr1→y∈fr∨w9.heap.size≤y)∧RG w' b hp ar (Lf i) fl1∧Sl w' 1 (g 12) i (ints (idl i)) fpv∧(∀y,y∈fpv→w9.heap.size≤y∧y∉fr1)∧Only (b::(fl1++fr)) w9 w') (fun g _=>upTo o.length 67 g)
    ⟨0,fr,[],by simp only[go_sem];rfl,by omega,?_,?_,fun y hy=>.inl hy,?_,?_,by simp,Only.refl _ _⟩ fun g10 w10 hI hnext=>?_
   ·have:=hRok.lq;omega
   ·rw[List.take_zero,List.append_nil];exact hR9
   ·have:Lf 0=tidyL s L:=by rw[hLf];exact List.filter_eq_self.2 fun x _=>by simp[hidl]
    rw[this];exact hg9
   ·have:idl 0=[]:=by rw[hidl];rfl
    rw[this];simp only[go_sem];exact Sl.nil1 _
   obtain⟨i,fr1,fpv,h67,hi1,hi2,hRi,gfr1,hgi,hvi,gvi,ho10⟩:=hI
   have z10:=ho10.size
   by_cases c:i<o.length
   rotate_left
   ·refine gO2 h67 (decide_eq_false (show¬(i:Int)<(o.length:Int) by omega)) ?_
    refine hkk _ w10 ?_ ⟨i,fr1,fpv,by omega,hRi,gfr1,hgi,?_,fun y hy=>(gvi y hy).1,ho10⟩
    ·(repeat(first|with_reducible exact k_1|with_reducible exact Keeps.ovr _ _ _|refine Keeps.put ?_ rfl _|exact k_1|exact Keeps.ovr _ _ _|refine Keeps.ovr2 ?_ rfl _))
    ·simp only[go_sem];exact hvi
   obtain⟨go,_,yo,eo,hato,_,_⟩:=(hvo9.keep ho10 fun y hy=>hX5 y (by have:=gfo y hy;omega)).pos (by omega)
   cases eo
   have ci:(0:Int)≤(i:Int)∧(i:Int)<(o.length:Int):=by omega
   have vr:w10.cell? ⟨go,i,none⟩=some (.int .i64 (o.getD i 0)):=by rw[hato.cell];exact ints_append_get yo c
   obtain⟨k,hok,hk⟩:=hov (o.getD i 0) (by simp[c])
   have hk0:k≠0:=fun e=>hi.z0 (e▸hk)
   have hkl:=live_le hi.ok hk
   obtain⟨vgi,gbi,gli,gni⟩:=id hgi
   obtain⟨agi,cgi,rfl⟩:=gli.val
   have hfr1: ∀y,y∈fr1→y∉fl1:=fun y hy e=>by
    have:=fl5 y e
    rcases gfr1 y hy with h'|h'
    ·have:=hR.lt y h';omega
    ·omega
   have hbf1:b∉fr1:=fun e=>(gfr1 b e).elim hbr fun h'=>by omega
   rw[hok]at vr
   refine gJ5 h67 (decide_eq_true ci.2) (eq_true ci) vr gbi.cell ?_
   refine callT (Rt.Push_m hRi ((2*k:Nat):Int)) ?_
   rintro _ w11 ⟨rfl,ho11,ho11',fr2,hR11,gfr2⟩
   by_cases c64:R.Q.length+i=64
   ·have e6:Rt.pushO (some {R with Q:=R.Q++o.take i}) ((2*k:Nat):Int)=(6,some {R with Q:=R.Q++o.take i}):=by
     unfold Rt.pushO
     simp only
     rw[if_neg (by omega),if_pos (by rw[List.length_append,List.length_take];omega)]
    rw[e6]at ho11' hR11⊢
    have ho0:=ho11' (by simp)
    refine gO ?_
    refine hkk _ w11 ?_ ⟨i,fr1,fpv,by omega,hRi.keep0 ho0,gfr1,hgi.keep0 ho0,?_,fun y hy=>(gvi y hy).1,ho10.nil ho0⟩
    ·(repeat(first|with_reducible exact k_1|with_reducible exact Keeps.ovr _ _ _|refine Keeps.put ?_ rfl _|exact k_1|exact Keeps.ovr _ _ _|refine Keeps.ovr2 ?_ rfl _))
    ·simp only[go_sem];exact hvi.keep0 ho0
   have e0:Rt.pushO (some {R with Q:=R.Q++o.take i}) ((2*k:Nat):Int)=(0,some {R with Q:=R.Q++o.take (i+1)}):=by
    unfold Rt.pushO
    simp only
    rw[if_neg (by omega),if_neg (by rw[List.length_append,List.length_take];omega),List.take_succ_eq_append_getElem c,List.append_assoc]
    have:o[i]=((2*k:Nat):Int):=by rw[←hok];simp[c]
    rw[this]
   rw[e0]at hR11⊢
   have gfr2': ∀y,y∈fr2→y∈fr∨w9.heap.size≤y:=fun y hy=>(gfr2 y hy).elim (gfr1 y) fun h'=>.inr (by omega)
   have hg11:=hgi.keep ho11 hbf1 fun y hy e=>hfr1 y e hy
   have hv11:=hvi.keep ho11 fun y hy=>(gvi y hy).2
   have z11:=ho11.size
   have gb11:=gbi.keep ho11 hbf1
   have gl11:=gli.keep ho11 fun y hy e=>hfr1 y e hy
   have o11:Only (b::(fl1++fr)) w9 w11:=ho10.trans ho11 fun y hy=>(gfr1 y hy).imp (fun h'=>by simp[h']) fun h'=>h'
   have hr11:HR w11 (some hp) fp (some s1):=hr9.keep o11 fun y hy e=>by
    have:=hr.lt y hy
    rcases List.mem_cons.1 e with e|e
    ·exact hbp (e▸hy)
    ·rcases List.mem_append.1 e with e|e
     ·have:=fl5 y e;omega
     ·exact hpr y hy e
   have hid:identO (some s1) ((2*k:Nat):Int)=(idA s ((2*k:Nat):Int),0):=ident_clrd hi hC ⟨k,rfl,hk⟩
   refine gO2 h67 gb11.cell ?_
   refine callT (hIdent hr11 ((2*k:Nat):Int) (by omega)) ?_
   rintro _ w12 ⟨rfl,ho12⟩
   rw[hid]
   refine gO ?_
   refine boxT fun q2 w13 hq2 hs13 hat13 ho13=>?_
   refine gO ?_
   refine stT hat13 (by simp) rfl fun w14 hs14 hat14 ho14=>?_
   have o14:Only [] w11 w14:=(ho12.nil ho13).trans ho14 fun y hy=>by simp only[List.mem_singleton]at hy;have:=ho12.size;exact .inr (by omega)
   have hat14':At w14 q2 [.int .i64 (idA s ((2*k:Nat):Int))]:=hat14
   refine gO1 hat14'.cell ?_
   rw[fillL_one rfl rfl]
   refine gO ?_
   refine bslT fun q3 w15 hq3 hs15 hat15 ho15=>?_
   refine gO ?_
   have o15:=o14.nil ho15
   refine appT (hv11.keep0 o15) (SrcIs.at (us:=[.int .i64 (idA s ((2*k:Nat):Int))]) hat15 rfl) (by simp[oneC]) (by omega) (by omega) ?_
   intro v16 w16 fp16 hs16 hfp16 ho16 _
   have z12:=ho12.size
   have g16: ∀y,y∈fp16→y∈fpv∨w15.heap.size≤y:=fun y hy=>by
    rcases hfp16 with rfl|rfl
    ·exact .inl hy
    ·simp only[List.mem_singleton]at hy;exact .inr (by omega)
   have nfl: ∀y,y∈fl1→y∉fpv:=fun y hy e=>by have:=fl5 y hy;have:=(gvi y e).1;omega
   have gb16:=(gb11.keep0 o15).keep ho16 (fun e=>by have:=(gvi b e).1;omega)
   have gl16:=(gl11.keep0 o15).keep ho16 nfl
   have hq16:=(hat14'.keep0 ho15).keep ho16 (fun e=>by have:=hvi.lt q2 e;omega)
   refine gO1 gb16.cell ?_
   refine callT (deleteFunc (p:=fun x=>x==idA s ((2*k:Nat):Int)) (F:=60) (caps:=#[.pointer (some ⟨q2,0,none⟩)]) gl16 (by kernel_rfl) (Nat.le_trans (by rw[hLf];exact List.length_filter_le _ _) (Nat.le_trans hLt (by omega))) fun w' x ho hx=>vSame3 (hq16.keep ho fun e=>by have:=fl5 q2 e;omega) x) ?_
   rintro vD w17 ⟨ho17,hD17⟩
   have bfl:b∉fl1:=fun e=>by have:=fl5 b e;omega
   have gb17:=gb16.keep ho17 bfl
   refine gO ?_
   refine stT (i:=2) gb17 (by simp) hD17.oneC' fun w18 hs18 hat18 ho18=>?_
   have hidS:idl (i+1)=idl i++[idA s ((2*k:Nat):Int)]:=by
    rw[hidl]
    simp only
    rw[List.take_succ_eq_append_getElem c,List.map_append]
    have:o[i]=((2*k:Nat):Int):=by rw[←hok];simp[c]
    rw[this];rfl
   have hLS:(Lf i).filter (fun x=>!(x==idA s ((2*k:Nat):Int)))=Lf (i+1):=by
    rw[hLf]
    simp only
    rw[List.filter_filter,hidS]
    refine List.filter_congr fun x _=>?_
    by_cases cx:x=idA s ((2*k:Nat):Int)
    ·simp[cx]
    ·simp only[beq_int_false cx,Bool.not_false,Bool.true_and,List.mem_append,List.mem_singleton,cx,or_false]
   rw[hLS]at hD17
   have hD18:=hD17.keep ho18 fun y hy e=>bfl (by simp only[List.mem_singleton]at e;exact e▸hy)
   have hg18:RG w18 b hp ar (Lf (i+1)) fl1:=⟨vD,hat18,hD18,bfl⟩
   have z15:=o15.size
   have z16:=ho16.size
   have z17:=ho17.size
   have f2lt:=hR11.lt
   have n16: ∀y,y∈fr2→y∉fpv:=fun y hy e=>by
    have:=hvi.lt y e
    rcases gfr2 y hy with h'|h'
    ·exact(gvi y e).2 h'
    ·omega
   have nl2: ∀y,y∈fr2→y∉fl1:=fun y hy e=>by
    have:=fl5 y e
    rcases gfr2' y hy with h'|h'
    ·have:=hR.lt y h';omega
    ·omega
   have nb2:b∉fr2:=fun e=>(gfr2' b e).elim hbr fun h'=>by omega
   have hR18:=(((hR11.keep0 o15).keep ho16 n16).keep ho17 nl2).keep ho18 fun y hy e=>nb2 (by simp only[List.mem_singleton]at e;exact e▸hy)
   have nv1: ∀y,y∈fp16→y∉fl1:=fun y hy e=>by
    have:=fl5 y e
    rcases g16 y hy with h'|h'
    ·have:=(gvi y h').1;omega
    ·omega
   have nv2: ∀y,y∈fp16→w9.heap.size≤y∧y∉fr2:=fun y hy=>by
    rcases g16 y hy with h'|h'
    ·exact⟨(gvi y h').1,fun e=>n16 y e h'⟩
    ·exact⟨by omega,fun e=>by have:=f2lt y e;omega⟩
   have hv18:=(hs16.keep ho17 nv1).keep ho18 fun y hy e=>by simp only[List.mem_singleton]at e;have:=(nv2 y hy).1;omega
   have ei:ints (idl i)++[Value.int .i64 (idA s ((2*k:Nat):Int))]=ints (idl (i+1)):=by rw[hidS,ints_append];rfl
   rw[ei]at hv18
   have o18:Only (b::(fl1++fr)) w9 w18:=(((o11.nil o15).trans ho16 fun y hy=>.inr (gvi y hy).1).trans ho17 fun y hy=>.inl (by simp[hy])).trans ho18 fun y hy=>.inl (by simp only[List.mem_singleton]at hy;rw[hy];simp)
   refine gO2 h67 (i64_succ i (by omega)) ?_
   refine hnext _ w18 ?_ ⟨i+1,fr2,fp16,?_,by omega,by omega,hR18,gfr2',hg18,?_,nv2,o18⟩ ?_
   ·(repeat(first|with_reducible exact k_1|with_reducible exact Keeps.ovr _ _ _|refine Keeps.put ?_ rfl _|exact k_1|exact Keeps.ovr _ _ _|refine Keeps.ovr2 ?_ rfl _))
   ·simp only[go_sem]
   ·simp only[go_sem];exact hv18
   ·rw[upTo_int (i:=i) h67,upTo_int (k:=.i64) (i:=i+1) (by simp only[go_sem])];omega
  obtain⟨n,fr1,fpv,hn,hR13,gfr1,hg13,hv13,gv13,ho13⟩:=hJ
  have z13:=ho13.size
  have kp13:=kp9.keep ho13 fun y hy=>hX y (hd4 y hy).1 fun e=>by have:=gfl1 y e;have:=(hd4 y hy).2;omega
  have hrb13:=hrb9.keep ho13 (hX5 rb grb)
  have hrt9:=((hrt5.keep0 ho6).keep0 ho7).keep ho9 fun e=>by
   rcases List.mem_cons.1 e with e|e
   ·have:=hrtl.2;omega
   ·have:=hr.lt rt e;have:=hrtl.1;omega
  have hrt13:=hrt9.keep ho13 (hX rt hrtl.1 fun e=>by have:=gfl1 rt e;have:=hrtl.2;omega)
  have hr13:HR w13 (some hp) fp (some s1):=hr9.keep ho13 fun y hy e=>by
   have:=hr.lt y hy
   rcases List.mem_cons.1 e with e|e
   ·exact hbp (e▸hy)
   ·rcases List.mem_append.1 e with e|e
    ·have:=fl5 y e;omega
    ·exact hpr y hy e
  have o13:Only (b::(fp++fr)) w w13:=o9.trans ho13 fun y hy=>by
   rcases List.mem_cons.1 hy with e|e
   ·exact .inl (by rw[e];simp)
   ·rcases List.mem_append.1 e with e|e
    ·exact .inr (fl5 y e).1
    ·exact .inl (by simp[e])
  obtain⟨vg13,gb13,gl13,gn13⟩:=id hg13
  have hheld: ∀x,heldB K S x=(decide (x∈K)||decide (x∈sv)):=fun x=>by rw[hsv];rfl
  obtain⟨N1,hN1⟩: ∃N1,N1=clrC s (inB K) K:=⟨_,rfl⟩
  rw[←hN1]at hrb13
  have hN1l:N1≤2000:=by rw[hN1];exact Nat.le_trans (clrC_le _ _ _) hKl
  refine gO2 kp13.q.cell kp13.v.cell ?_
  refine rangeT Tryz.underlying115 kp13.s fun r2 w14 hr2 hs14 hit14 ho14=>?_
  have z14:=ho14.size
  refine gO ?_
  refine run_loop (17::106::107::108::109::110::111::112::113::114::115::116::117::118::119::120::[]) (fun _ w'=> ∃(T:List Int) (s2:HL),ItAt w' r2 ms (setM sv) (setM T)∧(∀x,x∈T→x∈sv)∧Clrd s1 s2 (sv.filter fun y=>!decide (y∈T)) (heldB K S)∧HR w' (some hp) fp (some s2)∧At w' rb (rep0 (K.length+sv.length) (N1+clrC s1 (heldB K S) (sv.filter fun y=>!decide (y∈T))))∧Only (rb::fp) w13 w') (fun _ w'=>itLeft w' r2 ms)
   ⟨sv,s1,hit14,fun _ h=>h,?_,hr13.keep0 ho14,?_,ho14.of_nil⟩ fun g15 w15 hI hnext=>?_
  ·rw[left_all];exact Clrd.none hC.inv _
  ·rw[left_all];exact hrb13.keep0 ho14
  obtain⟨T,s2,hit,hTK,hC2,hr15,hrb15,ho15⟩:=hI
  have gb15:=gb13.keep ho15 bnr
  have hl15:=hit.left
  refine gO ?_
  refine nextT hit (fun h0=>?_) (fun e w16 hp16 hs16 ho16 hit16 hen16=>?_)
  rotate_left
  ·obtain⟨hx,he⟩:=mem_setM hp16
   obtain⟨x,v⟩:=e
   simp only at hx he
   obtain rfl:v=.bool true:=(Prod.mk.inj he).2
   rw[setM_filter]at hit16
   have hxK:=hTK x hx
   have hxv:=hC.live (hsvv x hxK)
   have rr: ∀y,y∈[r2]→y∈rb::fp∨w13.heap.size≤y:=fun y hy=>by simp only[List.mem_singleton]at hy;exact .inr (by omega)
   have nr: ∀y,y<w13.heap.size→y∉ [r2]:=fun y hy=>by simp only[List.mem_singleton];omega
   have ltT:(setM (T.filter (·!=x))).length<(setM T).length:=by
    rw[setM_len,setM_len]
    rcases Nat.lt_or_ge (T.filter (·!=x)).length T.length with h'|h'
    ·exact h'
    ·have:=List.filter_eq_self.1 (List.Sublist.eq_of_length_le List.filter_sublist h') x hx
     simp at this
   have sT: ∀y,y∈T.filter (·!=x)→y∈sv:=fun y hy=>hTK y (List.mem_filter.1 hy).1
   obtain⟨s3,k,rfl,hk,e2,hC3,n2⟩:=hC2.step (C':=sv.filter fun y=>!decide (y∈T.filter (·!=x))) hxv (by simp[hx]) fun y=>mem_left hxK hx
   have hr16:=hr15.keep ho16 fun y hy=>nr y (by have:=hr.lt y hy;omega)
   have hrb16:=hrb15.keep ho16 (nr rb (hrb13.lt))
   have gb16:=gb15.keep ho16 (nr b (by omega))
   have kp15:=kp13.keep ho15 bd
   have kp16:=kp15.keep ho16 fun y hy=>nr y (by have:=hd4 y hy;omega)
   have hx62:((2*k:Nat):Int)≤4611686018427387904:=by have:=live_le hC.inv.ok hk;omega
   have hk1:s2.st.getD k 0=1:=by rw[hC2.sam.st];exact hk
   obtain⟨l1,_,_⟩:=obAt_len hC2.inv.ok hk1
   have hl15':=rf_le hC2.inv.ok hk1
   refine gO ?_
   refine entryT hen16 ?_
   refine gO1 gb16.cell ?_
   refine callT (cClear (n:=(s2.obAt k).rf.length) (kept:=heldB K S) (F:=55) (caps:=#[.pointer (some ⟨q,0,none⟩)]) hr16 ((2*k:Nat):Int) hx62 (by rw[at_shape hC2.inv.ok hk1];exact l1.symm) hl15' (by kernel_rfl) fun w' y ho=>?_) ?_
   ·rw[hheld];exact vHeld2 (kp16.keep0 ho).q (kp16.keep0 ho).v (kp16.keep0 ho).k (kp16.keep0 ho).s y
   rintro _ w17 ⟨rfl,hr17,ho17⟩
   rw[e2]at hr17
   rw[n2]
   have hrb17:=hrb16.keep ho17 nrb
   have ofp: ∀y,y∈fp→y∈rb::fp∨w13.heap.size≤y:=fun y hy=>.inl (List.mem_cons_of_mem _ hy)
   have o17:Only (rb::fp) w13 w17:=(ho15.trans ho16 rr).trans ho17 ofp
   have hit17:ItAt w17 r2 ms (setM sv) (setM (T.filter (·!=((2*k:Nat):Int)))):=hit16.keep ho17 (fun e=>by have:=hr.lt r2 e;omega) (fun e=>by have:=hr.lt ms e;omega)
   have hcs:=clrC_step (s:=s1) (keep:=heldB K S) hsvn hxK hx
   rw[obX_at]at hcs
   by_cases cn:0<clrN (heldB K S) (s1.obAt k)
   ·rw[if_pos cn]at hcs
    have hcl:=clrC_le s1 (heldB K S) (sv.filter fun y=>!decide (y∈T))
    have hcl2:=List.length_filter_le (fun y=>!decide (y∈T)) sv
    have c7:w17.cell? ⟨rb,7,none⟩=some (.int .i64 (N1+clrC s1 (heldB K S) (sv.filter fun y=>!decide (y∈T)):Nat)):=by rw[hrb17.cell];rfl
    refine gO4 h9 (decide_eq_true cn) c7 (i64_succ (N1+clrC s1 (heldB K S) (sv.filter fun y=>!decide (y∈T))) (by omega)) ?_
    refine stT (i:=7) hrb17 (by simp[rep0]) rfl fun w18 hs18 hat18 ho18=>?_
    have hrb18:At w18 rb (rep0 (K.length+sv.length) (N1+clrC s1 (heldB K S) (sv.filter fun y=>!decide (y∈T.filter (·!=((2*k:Nat):Int)))))):=by rw[hcs,←Nat.add_assoc];exact hat18
    refine gO ?_
    have n1: ∀y,y∈fp→y∉ [rb]:=fun y hy e=>nrb (by simp only[List.mem_singleton]at e;exact e▸hy)
    have hit18:ItAt w18 r2 ms (setM sv) (setM (T.filter (·!=((2*k:Nat):Int)))):=hit17.keep ho18 (by simp only[List.mem_singleton];have:=hrb13.lt;omega) (by simp only[List.mem_singleton];have:=(hd4 ms (by simp)).2;omega)
    refine hnext _ w18 ?_ ⟨T.filter (·!=((2*k:Nat):Int)),s3,hit18,sT,hC3,hr17.keep ho18 n1,hrb18,o17.trans ho18 fun y hy=>by simp only[List.mem_singleton]at hy;exact .inl (by rw[hy];simp)⟩ ?_
    ·(repeat(first|with_reducible exact k_1|with_reducible exact Keeps.ovr _ _ _|refine Keeps.put ?_ rfl _|exact k_1|exact Keeps.ovr _ _ _|refine Keeps.ovr2 ?_ rfl _))
    ·rw[hl15,hit18.left];exact ltT
   ·rw[if_neg cn,Nat.add_zero]at hcs
    rw[decide_eq_false cn]
    refine gO ?_
    refine hnext _ w17 ?_ ⟨T.filter (·!=((2*k:Nat):Int)),s3,hit17,sT,hC3,hr17,by rw[hcs];exact hrb17,o17⟩ ?_
    ·(repeat(first|with_reducible exact k_1|with_reducible exact Keeps.ovr _ _ _|refine Keeps.put ?_ rfl _|exact k_1|exact Keeps.ovr _ _ _|refine Keeps.ovr2 ?_ rfl _))
    ·rw[hl15,hit17.left];exact ltT
  have hT:T=[]:=by cases T with
   |nil=>rfl
   |cons a T=>cases h0
  subst hT
  rw[left_none]at hC2 hrb15
  have z15:=ho15.size
  have o15:Only (b::(fp++fr)) w w15:=o13.trans ho15 fun y hy=>by
   rcases List.mem_cons.1 hy with rfl|hy
   ·exact .inr (by omega)
   ·exact .inl (by simp[hy])
  have kp15:=kp13.keep ho15 bd
  have hB64:=hi.ok.b64
  have hob2:s2.objs=s.objs:=by rw[hC2.sam.objs,hC.sam.objs]
  obtain⟨s3,hkf,hK3⟩:=kill_all hC2.inv (heldB K S)
  have hall:(allH (some s2)).length≤5000:=by rw[allH_len,hob2];omega
  refine gO2 gb15.cell h9 ?_
  refine callT (cKill (keep:=heldB K S) (F:=55) (caps:=#[.pointer (some ⟨q,0,none⟩)]) hr15 (fun x hx=>by have:=(allH_mem.1 hx).le hC2.inv.ok;omega) hall hrb15 nrb (by kernel_rfl) fun w' y ho=>?_) ?_
  ·rw[hheld];exact vHeld2 (kp15.keep ho bd).q (kp15.keep ho bd).v (kp15.keep ho bd).k (kp15.keep ho bd).s y
  rintro _ w16 ⟨hrb16,hr16,ho16⟩
  rw[hkf]at hrb16 hr16
  simp only at hrb16 hr16
  have gb16:=gb15.keep ho16 bnr
  refine gO2 gb16.cell h9 ?_
  refine callT (cRelease hr16 (by rw[hK3.B,hC2.sam.B,hC.sam.B];exact hB64)) ?_
  rintro _ w17 ⟨hr17,ho17⟩
  have hrb17:=hrb16.keep ho17 nrb
  have gb17:=gb16.keep ho17 hbp
  obtain⟨⟨B4,e4⟩,i4⟩:=relAll_spec hK3.inv s3.B.length (Nat.le_refl _)
  obtain⟨s4,hs4'⟩: ∃s4,s4=relAll s3 s3.B.length:=⟨_,rfl⟩
  rw[←hs4']at hr17 i4 e4
  have hob4:s4.objs=s3.objs:=by rw[e4];rfl
  have hl4:s4.objs.length≤5000:=by rw[hob4,hK3.objs,hob2];exact Nat.le_trans (List.length_filter_le _ _) (by omega)
  refine gO2 gb17.cell h9 ?_
  refine callT (cDone hr17 hl4 hrb17) ?_
  rintro _ w18 ⟨hrb18,ho18⟩
  rw[used_fold i4]at hrb18
  have z16:=ho16.size
  have z17:=ho17.size
  have z18:=ho18.size
  have o3w:Only (rb::fp) w15 w18:=((ho16.trans ho17 fun y hy=>.inl (by simp[hy])).trans ho18 fun y hy=>.inl (by simp only[List.mem_singleton]at hy;rw[hy];simp))
  have o18:Only (b::(fp++fr)) w w18:=o15.trans o3w fun y hy=>by
   rcases List.mem_cons.1 hy with rfl|hy
   ·exact .inr (by omega)
   ·exact .inl (by simp[hy])
  have o13w:Only (rb::fp) w13 w18:=ho15.same o3w
  have rtn:rt∉rb::fp:=fun e=>by
   rcases List.mem_cons.1 e with e|e
   ·have:=hrtl.2;omega
   ·have:=hr.lt rt e;have:=hrtl.1;omega
  have hrt18:=hrt13.keep o13w rtn
  have hc18:cellsAt w18 ⟨rb,0,none⟩ 8=some [.int .i64 (s4.objs.length:Int),.int .i64 (wSum s4 s4.objs),.int .i64 ((s2.objs.filter fun i=>!heldB K S ((2*i:Nat):Int)).length:Int),.int .i64 (wSum s2 (s2.objs.filter fun i=>!heldB K S ((2*i:Nat):Int))),.int .i64 0,.int .i64 0,.int .i64 ((K.length+sv.length:Nat):Int),.int .i64 ((N1+clrC s1 (heldB K S) sv:Nat):Int)]:=by
   rw[cellsAt_at hrb18 0 8 (by simp)];rfl
  refine gO2 h9 hc18 ?_
  refine stNT (n:=8) (i:=0) hrt18 rfl (by simp[rep0]) (by simp[oneC]) fun w19 hs19 hat19 ho19=>?_
  rw[setL_rep0]at hat19
  have hc19:cellsAt w19 ⟨rt,0,none⟩ 8=some [.int .i64 (s4.objs.length:Int),.int .i64 (wSum s4 s4.objs),.int .i64 ((s2.objs.filter fun i=>!heldB K S ((2*i:Nat):Int)).length:Int),.int .i64 (wSum s2 (s2.objs.filter fun i=>!heldB K S ((2*i:Nat):Int))),.int .i64 0,.int .i64 0,.int .i64 ((K.length+sv.length:Nat):Int),.int .i64 ((N1+clrC s1 (heldB K S) sv:Nat):Int)]:=by
   rw[cellsAt_at hat19 0 8 (by simp)];rfl
  refine gO1 hc19 ?_
  have nrt: ∀y,y≠rt→y∉ [rt]:=fun y hy=>by simpa using hy
  have f13: ∀y,y∈fl1→y∉rb::fp:=nfp
  have frn: ∀y,y∈fr1→y∉rb::fp:=fun y hy e=>by
   rcases List.mem_cons.1 e with e|e
   ·rcases gfr1 y hy with h'|h'
    ·have:=hR.lt y h';omega
    ·have:=hrb9.lt;omega
   ·rcases gfr1 y hy with h'|h'
    ·exact hpr y e h'
    ·have:=hr.lt y e;omega
  have frt: ∀y,y∈fr1→y≠rt:=fun y hy e=>by
   have:=hrtl
   rcases gfr1 y hy with h'|h'
   ·have:=hR.lt y h';omega
   ·omega
  have fvn: ∀y,y∈fpv→y∉rb::fp∧y≠rt:=fun y hy=>⟨fun e=>by
   have:=gv13 y hy
   rcases List.mem_cons.1 e with e|e
   ·have:=hrb9.lt;omega
   ·have:=hr.lt y e;omega,by have:=gv13 y hy;have:=hrtl.2;omega⟩
  have hidn:(idl n).length=n:=by
   rw[hidl]
   simp only[List.length_map,List.length_take]
   omega
  refine⟨s4,{R with Q:=R.Q++o.take n},Lf n,idl n,[(s4.objs.length:Int),wSum s4 s4.objs,((s2.objs.filter fun i=>!heldB K S ((2*i:Nat):Int)).length:Int),wSum s2 (s2.objs.filter fun i=>!heldB K S ((2*i:Nat):Int)),0,0,((K.length+sv.length:Nat):Int),((N1+clrC s1 (heldB K S) sv:Nat):Int)],K,S,o,s1,s2,s3,n,g13 12,fpv,fl1,fr1,
   ⟨kpt,kpt2,hO,hn,hC,by rw[←hsv];exact hC2,hK3,hs4',rfl,by rw[hidl],by rw[hLf],by rw[hN1,hsv]⟩,rfl,?_,?_,?_,?_,?_,?_,?_,?_,?_⟩
  ·exact(hr17.keep ho18 fun y hy e=>nrb (by simp only[List.mem_singleton]at e;exact e▸hy)).keep ho19 fun y hy=>nrt y (by have:=hr.lt y hy;have:=hrtl.1;omega)
  ·exact(hR13.keep o13w frn).keep ho19 fun y hy=>nrt y (frt y hy)
  ·exact(hg13.keep o13w bnr nfp).keep ho19 (nrt b (by have:=hrtl.1;omega)) fun y hy=>nrt y (by have:=gfl1 y hy;have:=hrtl.2;omega)
  ·rw[hidn]
   exact(hv13.keep o13w fun y hy=>(fvn y hy).1).keep ho19 fun y hy=>nrt y (fvn y hy).2
  ·exact o18.trans ho19 fun y hy=>by simp only[List.mem_singleton]at hy;exact .inr (by have:=hrtl.1;omega)
  ·intro y hy
   exact(gfr1 y hy).imp id fun h'=>by omega
  ·exact fun y hy=>(fl5 y hy).1
  ·intro y hy e
   have:=fl5 y hy
   rcases gfr1 y e with h'|h'
   ·have:=hR.lt y h';omega
   ·omega
  ·intro y hy;have:=gv13 y hy;omega
end Go.Proofs.YteiildhelefodaaGreat
end
section
namespace Go.Proofs.YteiildhelefodaaGreat
set_option maxRecDepth 8000
def eA0:HO:=newH 4
def eA1:HO:=claimM eA0 1 1 (1,0) (0,0)
def eA2:HO:=placeM eA1 64 (0,0,0)
def eA3:HO:=placeM eA2 66 (1,0,0)
def eA4:HO:=setRefM eA3 66 0 64
def rA:Rt.MS:=⟨1,List.replicate 16 0,List.replicate 16 0,[]⟩
theorem eA_f1:claimE eA0 1 1 (1,0)=0∧(placeR eA1 64 (0,0,0)).2=0∧(placeR eA2 66 (1,0,0)).2=0∧setRefE eA3 66 0 64=0∧eA1.map HL.born=some 0∧eA2.map HL.born=some 1:=by decide+kernel
theorem eA_f2:eA4.map (fun s=>(s.objs,adO s 1,adO s 2,idA s 64,idA s 66))=some ([32,33],some 64,some 66,1,2):=by decide+kernel
theorem eA_f3:eA4.map (fun s=>(regE s [] 64,regL s [] 64,regE s [1] 66,regL s [1] 66,tidyL s [1,2]))=some (0,[1],0,[1,2],[1,2]):=by decide+kernel
theorem eA_f4:eA4.map (fun s=>((s.obAt 32).rf,(s.obAt 33).rf,strongO (some s) 64,strongO (some s) 66))=some ([],[64],[],[64]):=by decide+kernel
theorem eA_f5:eA4.map (fun s=>s.B.length)=some 4:=by decide+kernel
theorem rA_leads:Rt.leadsO (some rA)=[]:=by decide+kernel
theorem eA_inv: ∃s,eA4=some s∧s.Inv:=by
 obtain⟨s0,e0,i0,_⟩:=new_inv (n:=4) (by omega) (by omega)
 have e0:eA0=some s0:=e0
 obtain⟨s1,e1,_,i1,_⟩:=(abs_claim i0 1 0).2
 have e1':eA1=some s1:=by unfold eA1;rw[e0];exact e1
 obtain⟨s2,e2,_,i2,_⟩:=abs_place i1 64 (0,0,0)
 have e2':eA2=some s2:=by unfold eA2;rw[e1'];exact e2
 obtain⟨s3,e3,_,i3,_⟩:=abs_place i2 66 (1,0,0)
 have e3':eA3=some s3:=by unfold eA3;rw[e2'];exact e3
 obtain⟨s4,e4,_⟩:=abs_setRef i3.ok 66 0 64
 refine⟨s4,by unfold eA4;rw[e3'];exact e4,i3.setRef e4 (setRef_Ok i3.ok e4)⟩
structure ExA (s:HL):Prop where
 inv:s.Inv
 objs:s.objs=[32,33]
 ad1:adO s 1=some 64
 ad2:adO s 2=some 66
 id1:idA s 64=1
 id2:idA s 66=2
 rf1:(s.obAt 32).rf=[]
 rf2:(s.obAt 33).rf=[64]
 st1:strongO (some s) 64=[]
 st2:strongO (some s) 66=[64]
 reg1:regE s [] 64=0∧regL s [] 64=[1]
 reg2:regE s [1] 66=0∧regL s [1] 66=[1,2]
 td:tidyL s [1,2]=[1,2]
 B:s.B.length=4
theorem exA: ∃s,eA4=some s∧ExA s:=by
 obtain⟨s,e,hi⟩:=eA_inv
 have f1:=eA_f2
 have f2:=eA_f3
 have f3:=eA_f4
 have f4:=eA_f5
 rw[e]at f1 f2 f3 f4
 simp only[Option.map_some,Option.some.injEq,Prod.mk.injEq]at f1 f2 f3 f4
 exact⟨s,e,hi,f1.1,f1.2.1,f1.2.2.1,f1.2.2.2.1,f1.2.2.2.2,f3.1,f3.2.1,f3.2.2.1,f3.2.2.2,⟨f2.1,f2.2.1⟩,⟨f2.2.2.1,f2.2.2.2.1⟩,f2.2.2.2.2,f4⟩
theorem rA_zero {P:Int→Prop} (h0:P 0):RtP P rA:=⟨fun x hx=>by rw[(List.mem_replicate.1 hx).2];exact h0,fun x hx=>by rw[(List.mem_replicate.1 hx).2];exact h0,fun x hx=>absurd hx (by simp[rA])⟩
theorem ExA.snd {s:HL} (h:ExA s):Snd true s rA:=by
 refine⟨fun ob hob r hr=>?_,rA_zero (.inl rfl)⟩
 obtain⟨i,hio,rfl⟩:=List.mem_map.1 hob
 rw[h.objs]at hio
 simp only[List.mem_cons,List.not_mem_nil,or_false]at hio
 rcases hio with rfl|rfl
 ·rw[h.rf1]at hr;simp at hr
 ·rw[h.rf2]at hr
  simp only[List.mem_singleton]at hr
  subst hr
  exact .inr ⟨rfl,32,rfl,mem_objs.1 (by rw[h.objs];simp)⟩
theorem kpt_none {s:HL} {F K:List Int} (h:Kpt s F K) (hF: ∀x,x∈F→ ¬Liv s x):K=[]:=by
 have: ∀x,x∈K→False:=h.ind (fun _=>False) ⟨fun x hx hl=>hF x hx hl,fun _ _ _ hp _ _=>hp,fun _ _ hp _ _ _=>hp⟩
 cases K with
 |nil=>rfl
 |cons x K=>exact absurd (List.mem_cons_self) (this x)
theorem rs_none {s:HL} {x y:Int} (h:strongO (some s) x=[]): ¬Rs s x y:=by
 intro e
 induction e with
 |one e=>rw[h]at e;simp at e
 |more _ _ ih=>exact ih
theorem ordr_one {s:HL} {x:Int} {o:List Int} (h:Ordr s [x] o):o=[x]:=by
 have:=ordr_mem h
 exact List.perm_singleton.1 this
theorem ExA.first {s:HL} (h:ExA s) {s4:HL} {R':Rt.MS} {L' ids rep K S o:List Int} {s1 s2 s3:HL} {n:Nat} (c:ColX s rA [1,2] s4 R' L' ids rep K S o s1 s2 s3 n):
  s4.objs.length=2∧L'=[]∧ids=[2,1]∧R'= {rA with Q:=[66,64]}∧rep.getD 0 0=2:=by
 have hl:=rA_leads
 have l64:Liv s 64:=⟨32,rfl,mem_objs.1 (by rw[h.objs];simp)⟩
 have l66:Liv s 66:=⟨33,rfl,mem_objs.1 (by rw[h.objs];simp)⟩
 have hK:K=[]:=kpt_none c.kpt fun x hx=>by rw[hl]at hx;simp at hx
 subst hK
 have hD:deadL s [1,2] []=[64,66]:=by
  unfold deadL listA
  simp[h.ad1,h.ad2]
 have hk2:=c.kpt2
 rw[hl,hD]at hk2
 have hSl:S.length=2:=by
  have h1:=nodup_le hk2.nd hk2.liv
  rw[h.objs]at h1
  have h2:([64,66]:List Int).length≤S.length:=nodup_sub (by decide) fun x hx=>hk2.cls.f x (by simpa using hx) (by
   simp only[List.mem_cons,List.not_mem_nil,or_false]at hx
   rcases hx with rfl|rfl
   ·exact l64
   ·exact l66)
  simp only[List.length_cons,List.length_nil]at h1 h2
  omega
 have b1:bef s 66 64=true:=bef_iff.2 ⟨.one (by rw[h.st2];simp),rs_none h.st1⟩
 have b2:bef s 64 66=false:=by
  rw[Bool.eq_false_iff]
  exact fun e=>rs_none h.st1 (bef_iff.1 e).1
 have ho:o=[66,64]:=by
  have:=c.ord
  rw[hD]at this
  cases this with
  |@cons _ o' i hi h1 h2 h3=>
   have hi2:i<2:=hi
   have:i=1:=by
    have:i=0∨i=1:=by omega
    rcases this with rfl|rfl
    ·simp[b1]at h2
    ·rfl
   subst this
   have e:([64,66]:List Int).eraseIdx 1=[64]:=rfl
   rw[e]at h3
   rw[ordr_one h3];rfl
 have hn:n=2:=by rw[c.nn,ho];rfl
 have hids:ids=[2,1]:=by rw[c.ii,ho,hn];simp[h.id1,h.id2]
 have hlen:=c.len.trans hSl
 refine⟨hlen,?_,hids,?_,?_⟩
 ·rw[c.LL,h.td,hids];decide
 ·rw[c.RR,ho,hn];rfl
 ·rw[c.rp,hlen];rfl
theorem ColX.none (s:HL) {R:Rt.MS} {s4:HL} {R':Rt.MS} {L' ids rep K S o:List Int} {s1 s2 s3:HL} {n:Nat} (c:ColX s R [] s4 R' L' ids rep K S o s1 s2 s3 n) (hl:Rt.leadsO (some R)=[]):rep.getD 2 0=(s.objs.length:Int):=by
 have hK:K=[]:=kpt_none c.kpt fun x hx=>by rw[hl]at hx;simp at hx
 have hS:S=[]:=kpt_none c.kpt2 fun x hx=>by
  rw[hl]at hx
  unfold deadL listA at hx
  simp at hx
 subst hK hS
 rw[c.rp]
 show((s2.objs.filter fun i=>!heldB [] [] ((2*i:Nat):Int)).length:Int)=_
 rw[show(fun i:Nat=>!heldB [] [] ((2*i:Nat):Int))=fun _=>true from funext fun i=>by simp[heldB,savL],List.filter_eq_self.2 fun _ _=>rfl,c.c2.sam.objs,c.c1.sam.objs]
end Go.Proofs.YteiildhelefodaaGreat
end
section
namespace Go.Proofs.YteiildhelefodaaGreat
set_option maxRecDepth 20000
theorem cKept {w:World} {b hb rb:Nat} {p2 p3:Value} {s:HL} {R:Rt.MS} {fh fr:List Nat} (hat:At w b [.pointer (some ⟨hb,0,none⟩),.pointer (some ⟨rb,0,none⟩),p2,p3]) (hi:s.Inv) (hn:s.objs.length≤2000) (hh:HR w (some ⟨hb,0,none⟩) fh (some s)) (hr:Rt.PR w (some ⟨rb,0,none⟩) fr (some R)) (hp: ∀x,x∈R.V→0≤x):
  Cs Tryz.prog 18 [.pointer (some ⟨b,0,none⟩)] w fun v w'=>Only [] w w'∧ ∃K fK,Sl w' 1 v K.length (ints K) fK∧(∀y,y∈fK→w.heap.size≤y)∧KptT s true (Rt.leadsO (some R)) K:=by
 have hRok:R.Ok:=by obtain⟨_,_,_,_,_,_,_,_,_,hpm⟩:=hr;exact hpm.ok
 refine enter_law12_Scene_Kept rfl ?_
 unfold x_law12_Scene_Kept
 refine gO ?_
 refine run_drt [b] ?_
 have od:=Only.drew [] w
 have hd:=hat.keep0 od
 have lts: ∀z,z∈[b]→z<w.drew.heap.size∧z∉([]:List Nat):=fun z hz=>by simp only[List.mem_singleton]at hz;subst hz;exact⟨hd.lt,by simp⟩
 have sb0:SB [b] w.drew w.drew:=SB.refl _ _
 refine gO1 hd.cell ?_
 refine callS (cRead (hh.keep0 od) hi) ?_
 rintro _ w1 ⟨ho1,q1,f1,rfl,hf1,g1⟩
 refine⟨.inr (sb0.only ho1 lts),?_⟩
 refine gO ?_
 refine callS (cReadRoots (hr.keep0 (od.nil ho1)) hp) ?_
 rintro _ w2 ⟨ho2,q2,f2,rfl,hf2,g2⟩
 refine⟨.inl rfl,?_⟩
 refine gO ?_
 refine callS (Rt.rLeads hf2) ?_
 rintro vl w3 ⟨ho3,f3,hs3,g3⟩
 refine⟨.inl rfl,?_⟩
 have hll:(Rt.leadsO (some R)).length≤5000:=by
  have h1:=Rt.foldl_addNew_length ((Rt.filled R).map (·.2)) []
  have h2:(Rt.filled R).length≤R.V.length:=by
   rw[Rt.filled_idx hRok,List.length_map,Rt.V_length hRok]
   exact Rt.idx_length
  have:=Rt.V_le hRok
  have e:Rt.leadsO (some R)=((Rt.filled R).map (·.2)).foldl Rt.addNew []:=rfl
  rw[e]
  simp only[List.length_nil,List.length_map]at h1
  omega
 refine gO ?_
 refine callS (cReach (tb:=true) hi hn ((hf1.keep0 ho2).keep0 ho3) hs3 hll) ?_
 rintro vK w4 ⟨ho4,K,fK,hK,gK,kpt⟩
 refine⟨.inl rfl,?_⟩
 have o3:=((od.nil ho1).nil ho2).nil ho3
 refine gO ?_
 exact⟨o3.nil ho4,K,fK,hK,fun y hy=>by have:=gK y hy;have:=o3.size;omega,kpt⟩
theorem fAt {w:World} {b:Nat} {s:HL} {fp:List Nat} (hi:s.Inv) (h:FM w b s.abs fp) (x:Int):Cs Tryz.prog 21 [.pointer (some ⟨b,0,none⟩),.int .i64 x] w fun v w'=>v=.tuple #[.int .i64 (adE s x).1,.int .i64 (adE s x).2]∧w'=w:=by
 obtain⟨_,vO,_,_,_,_,L,hfpe,hm⟩:=id h
 obtain⟨lL,lob⟩:=hm.ob (s0:=s) rfl
 obtain⟨av,cv,rfl⟩:=hm.valO
 have hB:=hi.ok.b64
 have hol:=hm.ok.ol
 have hol2:s.abs.O.length=s.objs.length:=abs_len s
 refine enter_ref02_Heap_At rfl ?_
 unfold x_ref02_Heap_At
 refine gO ?_
 refine callT0 (fMade h) ?_
 refine gO ?_
 refine run_loop (6::10::11::12::13::14::15::16::17::18::19::20::21::22::23::24::25::26::27::28::29::30::31::32::33::34::35::36::[]) (fun g w'=> ∃i:Nat,g 6=.int .i64 (i:Int)∧i≤L.length∧(∀j,j<i→(L.getD j default).o.id≠x)∧w'=w) (fun g _=>upTo L.length 6 g)
  ⟨0,by simp only[go_sem];rfl,by omega,fun j hj=>absurd hj (by omega),rfl⟩ fun g w1 hI hnext=>?_
 obtain⟨i,h6,hil,hno,rfl⟩:=hI
 by_cases c:i<L.length
 rotate_left
 ·have en:adO s x=none:=by
   cases e:adO s x with
   |none=>rfl
   |some a=>
    unfold adO at e
    cases e2:getM s.pl x with
    |none=>rw[e2]at e;cases e
    |some v=>
     obtain⟨k,hk,_,hw⟩:=hi.pm.b x v e2
     obtain⟨j,hj,hje⟩:=objs_index hk
     have:=hno j (by omega)
     rw[(lob j hj).1,hje]at this
     exact absurd hw this
  refine gO3 h6 hm.hb.cell (decide_eq_false (show¬(i:Int)<(L.length:Int) by omega)) ?_
  unfold adE
  rw[en]
 have ci:(0:Int)≤(i:Int)∧(i:Int)<(L.length:Int):=by omega
 obtain⟨gc,cc,ys,e1,rowc,_,_⟩:=hm.row (by omega)
 cases e1
 have c1:w1.cell? ⟨gc,i*8+1,none⟩=some (.int .i64 (L.getD i default).o.id):=by rw[rowc.cell,omV_cell ys c (by omega)];rfl
 have c0:w1.cell? ⟨gc,i*8,none⟩=some (.int .i64 (L.getD i default).o.a):=by
  have:=omV_cell (j:=0) ys c (by omega)
  rw[Nat.add_zero]at this
  rw[rowc.cell,this];rfl
 by_cases cx:(L.getD i default).o.id=x
 ·have hk:=mem_objs.1 (show s.objs.getD i 0∈s.objs by simp[show i<s.objs.length by omega])
  have eo:=(lob i (by omega)).1
  have ea:adO s x=some (L.getD i default).o.a:=by
   rw[←cx,eo]
   unfold adO
   have:=hi.pm.a _ hk
   rw[show(s.obAt (s.objs.getD i 0)).id=s.W.getD (2*s.objs.getD i 0) 0 from rfl,this];rfl
  refine gJ7 h6 hm.hb.cell (decide_eq_true ci.2) (eq_true ci) c1 c0 (beq_int_true cx) ?_
  unfold adE
  rw[ea]
 ·(repeat(first|with_reducible(first|refine nx ?_|refine r_6 rfl ?_)|simp only[go_sem,h6,hm.hb.cell,decide_eq_true ci.2,if_pos ci,Int.toNat_natCast,c1,c0,beq_int_false cx,i64_succ i (by omega)]))
  refine hnext _ w1 ?_ ⟨i+1,?_,by omega,fun j hj=>?_,rfl⟩ ?_
  ·(repeat(first|with_reducible exact k_1|with_reducible exact Keeps.ovr _ _ _|refine Keeps.put ?_ rfl _|exact k_1|exact Keeps.ovr _ _ _|refine Keeps.ovr2 ?_ rfl _))
  ·simp only[go_sem]
  ·by_cases e:j=i
   ·subst e;exact cx
   ·exact hno j (by omega)
  ·rw[upTo_int (i:=i) h6,upTo_int (k:=.i64) (i:=i+1) (by simp only[go_sem])];omega
theorem RT0 {s:HL} {R:Rt.MS} (h:Snd true s R) (hs:s.Ok): ∀x,x∈R.V→0≤x:=fun x hx=>by
 unfold Rt.MS.V at hx
 rcases List.mem_append.1 hx with hx|hx
 ·rcases List.mem_append.1 hx with hx|hx
  ·exact((h.2.1 x hx).le hs).1
  ·exact((h.2.2.1 x hx).le hs).1
 ·exact((h.2.2.2 x hx).le hs).1
structure RgA (s:HL) (L A:List Int):Prop where
 e:L=A.map (idA s)
 nd:A.Nodup
 liv: ∀a,a∈A→Liv s a
theorem adO_id {s:HL} (hi:s.Inv) {a:Int} (h:Liv s a):adO s (idA s a)=some a:=by
 obtain⟨k,rfl,hk⟩:=h
 have h1:=hi.pm.a _ hk
 have e:idA s ((2*k:Nat):Int)=s.W.getD (2*k) 0:=by
  unfold idA;rw[at_ident hi.ok hk];rfl
 rw[e]
 unfold adO
 rw[h1]
theorem idA_inj {s:HL} (hi:s.Inv) {a c:Int} (ha:Liv s a) (hc:Liv s c) (e:idA s a=idA s c):a=c:=by
 have h1:=adO_id hi ha
 rw[e,adO_id hi hc]at h1
 exact(Option.some.inj h1).symm
theorem RgA.list {s:HL} (hi:s.Inv) {L A:List Int} (h:RgA s L A):listA s L=A:=by
 rw[h.e]
 unfold listA
 rw[List.filterMap_map]
 have: ∀l:List Int,(∀a,a∈l→Liv s a)→l.filterMap (adO s∘idA s)=l:=fun l=>by
  induction l with
  |nil=>intro _;rfl
  |cons a l ih=>
   intro hl
   rw[List.filterMap_cons_some (show(adO s∘idA s) a=some a from adO_id hi (hl a (by simp))),ih fun b hb=>hl b (by simp[hb])]
 exact this A h.liv
theorem RgA.tidy {s:HL} (hi:s.Inv) {L A:List Int} (h:RgA s L A):tidyL s L=L:=by
 unfold tidyL
 refine List.filter_eq_self.2 fun x hx=>?_
 rw[h.e]at hx
 obtain⟨a,ha,rfl⟩:=List.mem_map.1 hx
 rw[adO_id hi (h.liv a ha)];rfl
theorem RgA.mem {s:HL} (hi:s.Inv) {L A:List Int} (h:RgA s L A) {a:Int} (ha:Liv s a):idA s a∈L↔a∈A:=by
 rw[h.e,List.mem_map]
 constructor
 ·rintro⟨c,hc,e⟩
  rw[←idA_inj hi (h.liv c hc) ha e];exact hc
 ·intro hc;exact⟨a,hc,rfl⟩
theorem identO_live {s:HL} (hi:s.Inv) {a:Int} (h:Liv s a):identO (some s) a=(idA s a,0):=by
 obtain⟨k,rfl,hk⟩:=h
 unfold idA
 rw[at_ident hi.ok hk]
theorem RgA.reg {s:HL} (hi:s.Inv) {L A:List Int} (h:RgA s L A) (hl:A.length<64) {a:Int} (ha:Liv s a):regE s L a=(if a∈A then 8 else 0)∧regL s L a=(if a∈A then L else L++[idA s a]):=by
 have hL:L.length=A.length:=by rw[h.e,List.length_map]
 unfold regE regL
 rw[identO_live hi ha,h.tidy hi]
 simp only[ne_eq,not_true_eq_false,if_false]
 by_cases c:a∈A
 ·rw[if_pos c,if_pos c,if_pos ((h.mem hi ha).2 c),if_pos ((h.mem hi ha).2 c)]
  exact⟨rfl,rfl⟩
 ·have c':=fun e=>c ((h.mem hi ha).1 e)
  rw[if_neg c,if_neg c,if_neg c',if_neg c',if_neg (by omega),if_neg (by omega)]
  exact⟨rfl,rfl⟩
theorem RgA.add {s:HL} {L A:List Int} (h:RgA s L A) {a:Int} (ha:Liv s a) (hn:a∉A):RgA s (L++[idA s a]) (A++[a]):=by
 refine⟨by rw[h.e,List.map_append];rfl,?_,fun c hc=>?_⟩
 ·rw[List.nodup_append]
  refine⟨h.nd,List.pairwise_singleton _ _,fun x hx y hy e=>?_⟩
  simp only[List.mem_singleton]at hy
  exact hn (by rw[←hy,←e];exact hx)
 ·rcases List.mem_append.1 hc with hc|hc
  ·exact h.liv c hc
  ·simp only[List.mem_singleton]at hc;rw[hc];exact ha
end Go.Proofs.YteiildhelefodaaGreat
end
section
namespace Go.Proofs.YteiildhelefodaaGreat
set_option maxRecDepth 8000
theorem cInts {w:World} {va vb:Value} {xs ys:List Int} {fa fb:List Nat} (ha:Sl w 1 va xs.length (ints xs) fa) (hb:Sl w 1 vb ys.length (ints ys) fb) (hl:xs.length≤100000):
  Cs Tryz.prog 15 [va,vb] w fun v w'=>v=.bool (decide (xs=ys))∧Only [] w w':=by
 obtain⟨aa,ca,rfl⟩:=ha.val
 obtain⟨ab,cb,rfl⟩:=hb.val
 refine enter_law12_Ints rfl ?_
 unfold x_law12_Ints
 by_cases c0:xs.length=ys.length
 rotate_left
 ·refine gO1 (bne_int_true (show¬(xs.length:Int)=(ys.length:Int) by omega)) ?_
  exact⟨by rw[decide_eq_false (fun e=>c0 (by rw[e]))],Only.refl _ _⟩
 refine gO1 (bne_int_false (show(xs.length:Int)=(ys.length:Int) by omega)) ?_
 refine run_loop (5::11::12::13::14::15::16::17::18::19::20::21::22::23::24::25::[]) (fun g w'=> ∃i:Nat,g 5=.int .i64 (i:Int)∧i≤xs.length∧(∀j,j<i→xs.getD j 0=ys.getD j 0)∧Only [] w w') (fun g _=>upTo xs.length 5 g) ⟨0,by simp only[go_sem];rfl,by omega,fun j hj=>absurd hj (by omega),Only.refl _ _⟩ fun g w1 hI hnext=>?_
 obtain⟨i,h5,hi,heq,ho⟩:=hI
 by_cases c1:i<xs.length
 rotate_left
 ·refine gO2 h5 (decide_eq_false (show¬(i:Int)<(xs.length:Int) by omega)) ?_
  refine⟨?_,ho⟩
  rw[decide_eq_true]
  refine List.ext_getElem c0 fun j h1 h2=>?_
  have:=heq j (by omega)
  simpa[List.getD_eq_getElem?_getD,h1,h2]using this
 obtain⟨ga,_,ya,ea,hata,_,_⟩:=(ha.keep0 ho).pos (by omega)
 obtain⟨gb,_,yb,eb,hatb,_,_⟩:=(hb.keep0 ho).pos (by omega)
 cases ea
 cases eb
 have ci:(0:Int)≤(i:Int)∧(i:Int)<(xs.length:Int):=by omega
 have ci':(0:Int)≤(i:Int)∧(i:Int)<(ys.length:Int):=by omega
 have da:w1.drew.cell? ⟨ga,i,none⟩=some (.int .i64 (xs.getD i 0)):=by rw[hata.drew.cell];exact ints_append_get ya (by omega)
 have db:w1.drew.cell? ⟨gb,i,none⟩=some (.int .i64 (ys.getD i 0)):=by rw[hatb.drew.cell];exact ints_append_get yb (by omega)
 have od:=ho.nil (Only.drew [] w1)
 by_cases c2:xs.getD i 0=ys.getD i 0
 ·(repeat(first|with_reducible(first|refine nx ?_|refine r_6 rfl ?_)|simp only[go_sem,h5,decide_eq_true ci.2,if_pos ci,if_pos ci',Int.toNat_natCast,Nat.mul_one,da,db,bne_int_false c2,i64_succ i (by omega)]))
  refine hnext _ _ ?_ ⟨i+1,?_,by omega,fun j hj=>?_,od⟩ ?_
  ·(repeat(first|with_reducible exact k_1|with_reducible exact Keeps.ovr _ _ _|refine Keeps.put ?_ rfl _|exact k_1|exact Keeps.ovr _ _ _|refine Keeps.ovr2 ?_ rfl _))
  ·simp only[go_sem]
  ·by_cases e:j=i
   ·rw[e];exact c2
   ·exact heq j (by omega)
  ·rw[upTo_int (i:=i) h5,upTo_int (k:=.i64) (i:=i+1) (by simp only[go_sem])];omega
 ·refine gJ7 h5 (decide_eq_true ci.2) (eq_true ci) (eq_true ci') da db (bne_int_true c2) ?_
  exact⟨by rw[decide_eq_false (fun e=>c2 (by rw[e]))],od⟩
theorem U8At.up {h0 h1:Nat} {w:World} {v:Value} {n sz:Nat} {f:Nat→Nat→Nat} (h:U8At h0 w v n sz f) (hh:h0≤h1):U8At h1 w v n sz f:=by
 obtain⟨a,c,e,hf,hc⟩:=h
 exact⟨a,c,e,hf,fun i hi=>by obtain⟨p,e1,e2,e3⟩:=hc i hi;exact⟨p,e1,by omega,e3⟩⟩
theorem BegAt.keep0 {h0 h1:Nat} {w w':World} {cs:List Value} {g:BG} {vO vD vL vP vN:Value} (h:BegAt h0 w cs g vO vD vL vP vN) (hz:h0≤w.heap.size) (hh:h0≤h1) (o:Only [] w w'):BegAt h1 w' cs g vO vD vL vP vN:=
 ⟨h.e,h.l0,h.l1,(h.o.keep hz o (by simp)).up hh,(h.d.keep hz o (by simp)).up hh,(h.l.keep hz o (by simp)).up hh,(h.p.keep hz o (by simp)).up hh,(h.n.keep hz o (by simp)).up hh⟩
end Go.Proofs.YteiildhelefodaaGreat
end
section
namespace Go.Proofs.YteiildhelefodaaGreat
set_option maxRecDepth 20000
structure Bgn (g:BG) (w0 w:World) (nl b hb rb qb kb:Nat) (s:HL) (R:Rt.MS) (fh fr ff fk:List Nat) (gb:Nat) (L A:List Int) (flr:List Nat):Prop where
 sc:SCs w b hb rb qb kb s R fh fr ff fk
 rg:RG w gb ⟨hb,0,none⟩ (some ⟨rb,0,none⟩) L flr
 ra:RgA s L A
 n1:A.length≤nl
 n2:A.length≤40
 sz:Sz s 40 (2+g.bl%23)
 sn:Snd true s R
 op:OpenR g (s,R)
 ge: ∀y,y∈b::(fh++(fr++(ff++fk)))→w0.heap.size≤y
 gg:w0.heap.size≤gb
 ng:gb∉b::(fh++(fr++(ff++fk)))
 nl: ∀y,y∈flr→y∉b::(fh++(fr++(ff++fk)))
 gl: ∀y,y∈flr→w0.heap.size≤y
theorem atS_live {s:HL} {n:Nat} (h:atS s n≠0):Liv s (atS s n):=((atS_ph s n).resolve_left h).2
set_option maxHeartbeats 1000000 in
theorem cBegun {w:World} {cs:List Value} {g:BG} {vO vD vL vP vN vl:Value} {nl:Nat} {fl:Nat→Nat→Nat} (h:BegAt w.heap.size w cs g vO vD vL vP vN) (hl:U8At w.heap.size w vl nl 1 fl):
  Cs Tryz.prog 9 [.agg ⟨cs⟩,vl] w fun v w'=>Only [] w w'∧ ∃b hb rb qb kb s R fh fr ff fk gb L A flr,v=.tuple #[.pointer (some ⟨b,0,none⟩),.pointer (some ⟨gb,0,none⟩)]∧Bgn g w w' nl b hb rb qb kb s R fh fr ff fk gb L A flr:=by
 have hcs:=h.e
 refine enter_law20_begun rfl ?_
 unfold x_law20_begun
 refine gO ?_
 refine boxT fun q w1 hq hs1 hat1 ho1=>?_
 have hz1:=ho1.size
 have hc1:cellsAt w1 ⟨q,0,none⟩ 7=some cs:=by rw[cellsAt_at hat1 0 7 (by rw[hcs];simp),hcs];rfl
 have hg1:=h.keep0 (Nat.le_refl _) hz1 ho1
 refine gO1 hc1 ?_
 refine callT (cOpen1 hg1) ?_
 rintro _ w2 ⟨b,rfl,s,R,fp,⟨hb,rb,qb,kb,fh,fr,ff,fk,rfl,sc⟩,gfp,ho2,sz,sn,op⟩
 have z2:=ho2.size
 have o2:=ho1.nil ho2
 refine gO ?_
 refine run_drt [b] ?_
 have od:=Only.drew [] w2
 have scd:=sc.keep0 od
 refine gO1 scd.at_.cell ?_
 have hRok:=sc.Rok
 have hmu:Rt.mutO (some R)≠0:=by
  have:=hRok.m1
  show(R.M:Int)≠0
  omega
 refine callS (gNew scd.h sc.inv.ok scd.r hmu) ?_
 rintro _ w3 ⟨ho3,gb,rfl,hg3,ggb⟩
 refine⟨.inl rfl,?_⟩
 have o23:=od.nil ho3
 have o3:=o2.nil o23
 have z3:=o23.size
 have sc3:=sc.keep0 o23
 have ggb2:w2.heap.size≤gb:=ggb
 obtain⟨al,cl,rfl,fb,hcl⟩:=id hl
 have flt:=sc.lt
 have ngb:gb∉b::(fh++(fr++(ff++fk))):=fun e=>by have:=flt gb e;omega
 have hbfh:gb∉fh:=fun e=>ngb (by simp[e])
 refine gO1 (bne_int_false (rfl:(0:Int)=0)) ?_
 refine run_loop (9::10::11::34::35::36::37::38::39::40::41::42::43::44::45::46::47::48::49::50::51::52::53::54::55::56::57::58::59::60::61::62::[]) (fun g' w'=> ∃(i:Nat) (L A:List Int) (flr:List Nat),g' 9=.int .i64 (i:Int)∧i≤40∧i≤nl∧RgA s L A∧A.length≤i∧RG w' gb ⟨hb,0,none⟩ (some ⟨rb,0,none⟩) L flr∧(∀y,y∈flr→w3.heap.size≤y)∧Only [gb] w3 w') (fun g' _=>upTo 40 9 g')
  ⟨0,[],[],[],by simp only[go_sem];rfl,by omega,by omega,⟨rfl,List.nodup_nil,by simp⟩,by simp,hg3,by simp,Only.refl _ _⟩ fun g4 w4 hI hnext=>?_
 obtain⟨i,L,A,flr,h9,hi40,hinl,ra,hA,hg4,gfl,ho4⟩:=hI
 have z4:=ho4.size
 have keepF: ∀ {S:List Nat},(∀x,x∈S→x∈b::(fh++(fr++(ff++fk))))→ ∀x,x∈S→x∉ [gb]:=fun hS x hx e=>by
  simp only[List.mem_singleton]at e
  exact ngb (e▸hS x hx)
 have sc4:SCs w4 b hb rb qb kb s R fh fr ff fk:=sc3.keep ho4 (keepF fun _ h=>h)
 have o4:Only [] w w4:=o3.trans ho4 fun y hy=>by simp only[List.mem_singleton]at hy;exact .inr (by omega)
 have bgn:Bgn g w w4 nl b hb rb qb kb s R fh fr ff fk gb L A flr:=⟨sc4,hg4,ra,by omega,by omega,sz,sn,op,fun y hy=>by have:=gfp y hy;omega,by omega,ngb,fun y hy e=>by have:=gfl y hy;have:=flt y e;omega,fun y hy=>by have:=gfl y hy;have:=o3.size;omega⟩
 by_cases c1:i<nl
 rotate_left
 ·refine gO2 h9 (decide_eq_false (show¬(i:Int)<(nl:Int) by omega)) ?_
  exact⟨o4,b,hb,rb,qb,kb,s,R,fh,fr,ff,fk,gb,L,A,flr,rfl,bgn⟩
 by_cases c2:i<40
 rotate_left
 ·refine gO3 h9 (decide_eq_true (show(i:Int)<(nl:Int) by omega)) (decide_eq_false (show¬(i:Int)<40 by omega)) ?_
  exact⟨o4,b,hb,rb,qb,kb,s,R,fh,fr,ff,fk,gb,L,A,flr,rfl,bgn⟩
 have ci:(0:Int)≤(i:Int)∧(i:Int)<(nl:Int):=by omega
 obtain⟨p,rfl,hp1,hp2⟩:=hcl i c1
 have m100:((fl i 0:Nat):Int).tmod 100=((fl i 0%100:Nat):Int):=tmodN _ 100
 have hc0:w4.cell? (p.add i)=some (u8V (fl i 0)):=by
  have:=hp2 0 (by omega)
  rw[Nat.mul_one]at this
  rw[cell_of_heap (w:=w) (w':=w4) (by rw[add_block];exact o4.block _ hp1 (by simp))]
  exact this
 have z1:=i64_succ i (by omega)
 have hA64:A.length<64:=by omega
 (repeat(first|with_reducible(first|refine nx ?_|refine r_6 rfl ?_)|simp only[go_sem,h9,decide_eq_true ci.2,decide_eq_true (show(i:Int)<40 by omega),if_pos ci,Int.toNat_natCast,Nat.mul_one,hc0,u8V,conv_u8 (fl i 0) (fb i 0),m100]))
 refine callT (cAt sc4 (fl i 0%100) (by omega)) ?_
 rintro _ w5 ⟨rfl,ho5⟩
 obtain⟨y,hy⟩: ∃y,y=atS s (fl i 0%100):=⟨_,rfl⟩
 have hyle:=atS_le sc.inv.ok (fl i 0%100)
 rw[←hy]at hyle⊢
 by_cases c0:y=0
 ·refine gO3 (bne_int_false c0) h9 z1 ?_
  refine hnext _ w5 ?_ ⟨i+1,L,A,flr,?_,by omega,by omega,ra,by omega,hg4.keep0 ho5,gfl,ho4.nil ho5⟩ ?_
  ·(repeat(first|with_reducible exact k_1|with_reducible exact Keeps.ovr _ _ _|refine Keeps.put ?_ rfl _|exact k_1|exact Keeps.ovr _ _ _|refine Keeps.ovr2 ?_ rfl _))
  ·simp only[go_sem]
  ·rw[upTo_int (i:=i) h9,upTo_int (k:=.i64) (i:=i+1) (by simp only[go_sem])];omega
 have hlv:Liv s y:=by rw[hy]at c0⊢;exact atS_live c0
 refine gO1 (bne_int_true c0) ?_
 refine callT (gRegister (hg4.keep0 ho5) (by rw[ra.e,List.length_map];omega) (sc4.h.keep0 ho5) sc.inv hbfh y (by omega)) ?_
 rintro _ w6 ⟨rfl,f6,hg6,ho6,gf6⟩
 obtain⟨r1,r2⟩:=ra.reg sc.inv hA64 hlv
 rw[r2]at hg6
 rw[r1]
 have z5:=ho5.size
 have gf6': ∀y,y∈f6→w3.heap.size≤y:=fun y hy=>(gf6 y hy).elim (gfl y) fun h'=>by omega
 by_cases cm:y∈A
 ·rw[if_pos cm]at hg6
  rw[if_pos cm]
  refine gO4 (bne_int_true (show¬(8:Int)=0 by omega)) (bne_int_false (rfl:(8:Int)=8)) h9 z1 ?_
  refine hnext _ w6 ?_ ⟨i+1,L,A,f6,?_,by omega,by omega,ra,by omega,hg6,gf6',(ho4.nil ho5).same ho6⟩ ?_
  ·(repeat(first|with_reducible exact k_1|with_reducible exact Keeps.ovr _ _ _|refine Keeps.put ?_ rfl _|exact k_1|exact Keeps.ovr _ _ _|refine Keeps.ovr2 ?_ rfl _))
  ·simp only[go_sem]
  ·rw[upTo_int (i:=i) h9,upTo_int (k:=.i64) (i:=i+1) (by simp only[go_sem])];omega
 ·rw[if_neg cm]at hg6
  rw[if_neg cm]
  refine gO3 (bne_int_false (rfl:(0:Int)=0)) h9 z1 ?_
  refine hnext _ w6 ?_ ⟨i+1,L++[idA s y],A++[y],f6,?_,by omega,by omega,ra.add hlv cm,by rw[List.length_append,List.length_singleton];omega,hg6,gf6',(ho4.nil ho5).same ho6⟩ ?_
  ·(repeat(first|with_reducible exact k_1|with_reducible exact Keeps.ovr _ _ _|refine Keeps.put ?_ rfl _|exact k_1|exact Keeps.ovr _ _ _|refine Keeps.ovr2 ?_ rfl _))
  ·simp only[go_sem]
  ·rw[upTo_int (i:=i) h9,upTo_int (k:=.i64) (i:=i+1) (by simp only[go_sem])];omega
end Go.Proofs.YteiildhelefodaaGreat
end
section
namespace Go.Proofs.YteiildhelefodaaGreat
set_option maxRecDepth 20000
theorem cFaint (w:World) (sh:Sh) (i:Nat):Cs Tryz.prog 80 [.agg ⟨shV sh⟩,.int .i64 (i:Int)] w fun v w'=>v=.bool (softI sh.2.2 i)∧Only [] w w':=by
 refine enter_ref12_Faint rfl ?_
 unfold x_ref12_Faint
 refine gO ?_
 refine boxT fun q w1 hq hs1 hat1 ho1=>?_
 have hc1:cellsAt w1 ⟨q,0,none⟩ 3=some (shV sh):=by rw[cellsAt_at hat1 0 3 (by simp[shV])];rfl
 refine gO1 hc1 ?_
 refine callT (fStrong w1 sh i) ?_
 rintro _ w2 ⟨rfl,ho2⟩
 refine gO ?_
 exact⟨by rw[Bool.not_not],ho1.nil ho2⟩
def nxt (s:HL) (k:Nat):Nat→List Int
 |0=>[]
 |j+1=>nxt s k j++(if softI (s.obAt k).sh.2.2 j=true then []else [s.RF k j])
theorem nxt_len (s:HL) (k:Nat): ∀j,(nxt s k j).length≤j
 |0=>Nat.le_refl _
 |j+1=>by
  have:=nxt_len s k j
  unfold nxt
  rw[List.length_append]
  split<;>simp<;>omega
theorem mem_nxt {s:HL} {k:Nat} {z:Int}: ∀ {j:Nat},z∈nxt s k j↔ ∃i,i<j∧z=s.RF k i∧softI (s.obAt k).sh.2.2 i=false
 |0=>by simp[nxt]
 |j+1=>by
  unfold nxt
  rw[List.mem_append,mem_nxt]
  constructor
  ·rintro(⟨i,h1,h2,h3⟩|h)
   ·exact⟨i,by omega,h2,h3⟩
   ·split at h
    ·simp at h
    ·rename_i hs
     simp only[List.mem_singleton]at h
     exact⟨j,by omega,h,by simpa using hs⟩
  ·rintro⟨i,h1,h2,h3⟩
   by_cases c:i=j
   ·subst c
    rw[h3]
    exact .inr (by simpa using h2)
   ·exact .inl ⟨i,by omega,h2,h3⟩
open Classical in
noncomputable def rsB (s:HL) (x y:Int):Bool:=decide (Rs s x y)
theorem rsB_iff {s:HL} {x y:Int}:rsB s x y=true↔Rs s x y:=by simp[rsB]
theorem bef_rs (s:HL) (x y:Int):bef s x y=(rsB s x y&&!rsB s y x):=rfl
theorem reach_rs {s:HL} {R:Rt.MS} (hi:s.Inv) (hsn:Snd true s R) {k:Nat} (hk:s.st.getD k 0=1) {K:List Int} (h:KptT s false (nxt s k (s.obAt k).rf.length) K) (y:Int):K.contains y=rsB s ((2*k:Nat):Int) y:=by
 have e:y∈K↔Rs s ((2*k:Nat):Int) y:=by
  constructor
  ·refine h.ind (Rs s ((2*k:Nat):Int)) ⟨fun z hz hl=>?_,fun x z _ hx hz _=>.more hx hz,fun e=>by cases e⟩ y
   obtain⟨i,h1,h2,h3⟩:=mem_nxt.1 hz
   exact .one ((mem_strongO hi.ok hk).2 ⟨i,h1,h2,liv_ne0 hi hl,h3⟩)
  ·intro hr
   have key:y∈K∧Liv s y:=by
    induction hr with
    |one e=>
     have hl:=strong_live hi.ok hsn e
     obtain⟨i,h1,h2,h3,h4⟩:=(mem_strongO hi.ok hk).1 e
     exact⟨h.cls.f _ (mem_nxt.2 ⟨i,h1,h2,h4⟩) hl,hl⟩
    |more _ e ih=>
     have hl:=strong_live hi.ok hsn e
     exact⟨h.cls.g _ _ ih.2 ih.1 e hl,hl⟩
   exact key.1
 rw[Bool.eq_iff_iff,List.contains_iff_mem,rsB_iff]
 exact e
set_option maxHeartbeats 1000000 in
theorem cLeads {w:World} {b:Nat} {s:HL} {R:Rt.MS} {fp:List Nat} (hi:s.Inv) (hsn:Snd true s R) (hn:s.objs.length≤2000) (h:FM w b s.abs fp) (x y:Int) (hx:Liv s x):
  Cs Tryz.prog 22 [.pointer (some ⟨b,0,none⟩),.int .i64 x,.int .i64 y] w fun v w'=>v=.bool (rsB s x y)∧Only [] w w':=by
 obtain⟨_,vO,_,_,_,_,L,hfpe,hm⟩:=h
 have hfm:FM w b s.abs fp:=⟨_,_,_,_,_,_,_,hfpe,hm⟩
 obtain⟨lL,_⟩:=hm.ob (s0:=s) rfl
 obtain⟨av,cv,rfl⟩:=hm.valO
 have hok:=hi.ok
 obtain⟨k,rfl,hk0⟩:=hx
 obtain⟨q',hq',hqe⟩:=objs_index hk0
 obtain⟨gc,cr,cp,gr,vd,e1,e2,ovd,see⟩:=hm.see8 hq'
 cases e1
 rw[hqe]at e2 see
 have cq:(0:Int)≤(q':Int)∧(q':Int)<(L.length:Int):=by omega
 have rk15:=rf_le hok hk0
 have obl: ∀u,u∈obV (s.obAt k) (.slice cr (s.obAt k).rf.length cp) vd→oneC u=true:=by
  intro u hu
  simp only[obV,List.mem_cons,List.not_mem_nil,or_false]at hu
  rcases hu with rfl|rfl|rfl|rfl|rfl|rfl|rfl|rfl<;>first|rfl|exact ovd
 refine enter_law20_leads rfl ?_
 unfold x_law20_leads
 refine gO ?_
 refine bslT fun qn w1 hqn hs1 hat1 ho1=>?_
 refine gO ?_
 have o1d:=ho1.nil (Only.drew [] w1)
 have hm1:=hm.keep0 o1d
 obtain⟨s1c,_⟩:=see _ o1d
 refine run_cut (8::11::12::13::14::15::16::17::18::19::[]) (fun g w'=> ∃q,g 8=.pointer (some ⟨q,0,none⟩)∧At w' q (obV (s.obAt k) (.slice cr (s.obAt k).rf.length cp) vd)∧w1.heap.size≤q∧Only [] w1 w') (fun kk hkk=>?_) (fun g2 w2 hJ=>?_)
 ·refine run_drt [b,gc] ?_
  have blt:=hm1.hb.lt
  have ltz: ∀z,z∈[b,gc]→z<w1.drew.heap.size∧z∉([]:List Nat):=fun z hz=>by
   refine⟨?_,by simp⟩
   simp only[List.mem_cons,List.not_mem_nil,or_false]at hz
   rcases hz with rfl|rfl
   ·exact blt
   ·obtain⟨g',_,_,e',rowc,_,_⟩:=hm1.row (by omega)
    cases e'
    exact rowc.lt
  have sb0:SB [b,gc] w1.drew w1.drew:=SB.refl _ _
  have z6:w1.drew.heap.size=w1.heap.size:=rfl
  refine gO1 hm1.hb.cell ?_
  refine⟨?_,?_⟩
  ·refine callS0 (fIndex (hfm.keep0 o1d) ((2*k:Nat):Int)) (.inr sb0) ?_
   rw[abs_ix hq' hqe]
   (repeat(first|with_reducible(first|refine nx ?_|refine r_6 rfl ?_)|simp only[go_sem,show ixI (some q')=(q':Int)from rfl,if_pos cq,Int.toNat_natCast,s1c]))
   refine boxS fun q w7 hq hs7 hat7 ho7=>⟨.inr (sb0.only ho7 ltz),?_⟩
   refine gO ?_
   refine stNS hat7 rfl (by simp) obl fun w8 hs8 hat8 ho8=>⟨.inl rfl,?_⟩
   refine gO ?_
   refine hkk _ w8 ?_ ⟨q,?_,hat8,by omega,((Only.drew [] w1).nil ho7).trans ho8 fun y hy=>by simp only[List.mem_singleton]at hy;exact .inr (by omega)⟩
   ·(repeat(first|with_reducible exact k_1|with_reducible exact Keeps.ovr _ _ _|refine Keeps.put ?_ rfl _|exact k_1|exact Keeps.ovr _ _ _|refine Keeps.ovr2 ?_ rfl _))
   ·simp only[go_sem]
  ·refine boxS fun q w7 hq hs7 hat7 ho7=>⟨.inr (sb0.only ho7 ltz),?_⟩
   refine gO ?_
   refine callS0 (fIndex (hfm.keep0 (o1d.nil ho7)) ((2*k:Nat):Int)) (.inr (sb0.only ho7 ltz)) ?_
   rw[abs_ix hq' hqe]
   obtain⟨s7c,_⟩:=see _ (o1d.nil ho7)
   (repeat(first|with_reducible(first|refine nx ?_|refine r_6 rfl ?_)|simp only[go_sem,show ixI (some q')=(q':Int)from rfl,if_pos cq,Int.toNat_natCast,s1c,s7c]))
   refine stNS hat7 rfl (by simp) obl fun w8 hs8 hat8 ho8=>⟨.inl rfl,?_⟩
   refine gO ?_
   refine hkk _ w8 ?_ ⟨q,?_,hat8,by omega,((Only.drew [] w1).nil ho7).trans ho8 fun y hy=>by simp only[List.mem_singleton]at hy;exact .inr (by omega)⟩
   ·(repeat(first|with_reducible exact k_1|with_reducible exact Keeps.ovr _ _ _|refine Keeps.put ?_ rfl _|exact k_1|exact Keeps.ovr _ _ _|refine Keeps.ovr2 ?_ rfl _))
   ·simp only[go_sem]
 obtain⟨q,h8,hatq,gq,ho2⟩:=hJ
 have z1:=ho1.size
 have c5: ∀w' S,Only S w2 w'→q∉S→w'.cell? ⟨q,5,none⟩=some (.slice cr (s.obAt k).rf.length cp):=fun w' S o hn=>by rw[(hatq.keep o hn).cell];rfl
 have c2s: ∀w' S,Only S w2 w'→q∉S→cellsAt w' ⟨q,2,none⟩ 3=some (shV (s.obAt k).sh):=fun w' S o hn=>by rw[cellsAt_at (hatq.keep o hn) 2 3 (by simp[obV])];rfl
 have hqlt:=hatq.lt
 refine gO ?_
 refine run_loop (7::9::20::21::22::23::24::25::26::27::28::29::30::31::32::33::34::35::36::37::38::39::[]) (fun g w'=> ∃(j:Nat) (fn:List Nat),g 9=.int .i64 (j:Int)∧j≤(s.obAt k).rf.length∧Sl w' 1 (g 7) (nxt s k j).length (ints (nxt s k j)) fn∧(∀y,y∈fn→w.heap.size≤y∧y≠q)∧Only [] w w'∧(∀S,w2=w2→S=[q]→w'.heap[q]? =w2.heap[q]?)) (fun g _=>upTo (s.obAt k).rf.length 9 g)
  ⟨0,[qn],by simp only[go_sem];rfl,by omega,by simp only[go_sem];exact Sl.empty1 (hat1.keep0 ho2),fun y hy=>by simp only[List.mem_singleton]at hy;have:=hat1.lt;omega,ho1.nil ho2,fun _ _ _=>rfl⟩ fun g3 w3 hI hnext=>?_
 obtain⟨j,fn,h9,hj,hsn3,gfn,ho3,hq3⟩:=hI
 have hat3:At w3 q (obV (s.obAt k) (.slice cr (s.obAt k).rf.length cp) vd):=hatq.heap (hq3 [q] rfl rfl)
 have d5:w3.cell? ⟨q,5,none⟩=some (.slice cr (s.obAt k).rf.length cp):=by rw[hat3.cell];rfl
 have d2:cellsAt w3 ⟨q,2,none⟩ 3=some (shV (s.obAt k).sh):=by rw[cellsAt_at hat3 2 3 (by simp[obV])];rfl
 by_cases c2:j<(s.obAt k).rf.length
 rotate_left
 ·have jn:j=(s.obAt k).rf.length:=by omega
  subst jn
  refine gO4 h9 h8 d5 (decide_eq_false (show¬((s.obAt k).rf.length:Int)<((s.obAt k).rf.length:Int) by omega)) ?_
  have hl:=nxt_len s k (s.obAt k).rf.length
  refine callT (cReach (tb:=false) hi hn (hfm.keep0 ho3) hsn3 (by omega)) ?_
  rintro vK w4 ⟨ho4,K,fK,hK,gK,kpt⟩
  refine gO ?_
  refine callT0 (hHas12 hK.rd (by have:=kpt.up.le_objs kpt.liv;omega) y) ?_
  rw[reach_rs hi hsn hk0 kpt]
  refine gO ?_
  exact ho3.nil ho4
 have cj:(0:Int)≤(j:Int)∧(j:Int)<((s.obAt k).rf.length:Int):=by omega
 obtain rfl:=e2 (by omega)
 have z3:=i64_succ j (by omega)
 have hl:=nxt_len s k j
 have hst:nxt s k (j+1)=nxt s k j++(if softI (s.obAt k).sh.2.2 j=true then []else [s.RF k j]):=rfl
 refine gO5 h9 h8 d5 (decide_eq_true cj.2) d2 ?_
 refine callT (cFaint w3 (s.obAt k).sh j) ?_
 rintro _ w4 ⟨rfl,ho4⟩
 have hat4:=hat3.keep0 ho4
 have d54:w4.cell? ⟨q,5,none⟩=some (.slice (some ⟨gr,0,none⟩) (s.obAt k).rf.length cp):=by rw[hat4.cell];rfl
 have tj:w4.cell? ⟨gr,j,none⟩=some (.int .i64 (s.RF k j)):=(see w4 (ho3.nil ho4)).2 j c2
 cases hsf:softI (s.obAt k).sh.2.2 j with
 |true=>
  rw[hsf,if_pos rfl,List.append_nil]at hst
  refine gO2 h9 z3 ?_
  refine hnext _ w4 ?_ ⟨j+1,fn,?_,by omega,?_,gfn,ho3.nil ho4,fun S e1 e2=>(ho4.block q hat3.lt (by simp)).trans (hq3 S e1 e2)⟩ ?_
  ·(repeat(first|with_reducible exact k_1|with_reducible exact Keeps.ovr _ _ _|refine Keeps.put ?_ rfl _|exact k_1|exact Keeps.ovr _ _ _|refine Keeps.ovr2 ?_ rfl _))
  ·simp only[go_sem]
  ·simp only[go_sem];rw[hst];exact hsn3.keep0 ho4
  ·rw[upTo_int (i:=j) h9,upTo_int (k:=.i64) (i:=j+1) (by simp only[go_sem])];omega
 |false=>
  rw[hsf,if_neg (by simp)]at hst
  refine gJ5 h9 h8 d54 (eq_true cj) tj ?_
  rw[fillL_one rfl rfl]
  refine gO ?_
  refine bslT fun q5 w5 hq5 hs5 hat5 ho5=>?_
  refine gO ?_
  refine appT ((hsn3.keep0 ho4).keep0 ho5) (SrcIs.at (us:=[.int .i64 (s.RF k j)]) hat5 rfl) (by simp[oneC]) (by omega) (by omega) ?_
  intro v6 w6 f6 hs6 hf6 ho6 _
  have z4:=ho4.size
  have z5:=ho5.size
  have zz3:=ho3.size
  have hqlt3:=hat3.lt
  have g6: ∀y,y∈f6→w.heap.size≤y∧y≠q:=fun y hy=>by
   rcases hf6 with e|e
   ·rw[e]at hy;exact gfn y hy
   ·rw[e]at hy;simp only[List.mem_singleton]at hy;omega
  refine gO2 h9 z3 ?_
  refine hnext _ w6 ?_ ⟨j+1,f6,?_,by omega,?_,g6,((ho3.nil ho4).nil ho5).trans ho6 fun y hy=>.inr (gfn y hy).1,fun S e1 e2=>?_⟩ ?_
  ·(repeat(first|with_reducible exact k_1|with_reducible exact Keeps.ovr _ _ _|refine Keeps.put ?_ rfl _|exact k_1|exact Keeps.ovr _ _ _|refine Keeps.ovr2 ?_ rfl _))
  ·simp only[go_sem]
  ·simp only[go_sem]
   rw[hst,List.length_append,ints_append];exact hs6
  ·rw[ho6.block q (by omega) (fun e=>(gfn q e).2 rfl),ho5.block q (by omega) (by simp),ho4.block q hqlt3 (by simp)]
   exact hq3 S e1 e2
  ·rw[upTo_int (i:=j) h9,upTo_int (k:=.i64) (i:=j+1) (by simp only[go_sem])];omega
end Go.Proofs.YteiildhelefodaaGreat
end
section
namespace Go.Proofs.YteiildhelefodaaGreat
set_option maxRecDepth 8000
theorem ordr_bef {s:HL} {D o:List Int} (h:Ordr s D o): ∀i k,k<i→i<o.length→bef s (o.getD i 0) (o.getD k 0)=false:=by
 induction h with
 |nil=>intro i k _ hi;simp at hi
 |@cons l o i0 hi0 h1 h2 h3 ih=>
  intro i k hk hi
  obtain⟨i',rfl⟩: ∃i',i=i'+1:=⟨i-1,by omega⟩
  have hi':i'<o.length:=by simpa using hi
  rw[List.getD_cons_succ]
  cases k with
  |succ k=>rw[List.getD_cons_succ];exact ih i' k (by omega) hi'
  |zero=>
   rw[List.getD_cons_zero]
   have hm:o.getD i' 0∈l:=by
    have h4:o.getD i' 0∈o:=by simp[hi']
    exact List.mem_of_mem_eraseIdx ((ordr_mem h3).mem_iff.1 h4)
   rw[List.any_eq_false]at h2
   simpa using h2 _ hm
section
variable {s:HL} {R:Rt.MS} {L A:List Int} {s4:HL} {R':Rt.MS} {L' ids rep K S o:List Int} {s1 s2 s3:HL} {n:Nat}
theorem ColX.dead (h:ColX s R L s4 R' L' ids rep K S o s1 s2 s3 n) (hi:s.Inv) (ra:RgA s L A):o.Perm (A.filter fun x=>!decide (x∈K)):=by
 have:=ordr_mem h.ord
 unfold deadL at this
 rwa[ra.list hi]at this
theorem ColX.nodup (h:ColX s R L s4 R' L' ids rep K S o s1 s2 s3 n) (hi:s.Inv) (ra:RgA s L A):o.Nodup:=(h.dead hi ra).nodup_iff.2 (List.Nodup.sublist List.filter_sublist ra.nd)
theorem ColX.mem (h:ColX s R L s4 R' L' ids rep K S o s1 s2 s3 n) (hi:s.Inv) (ra:RgA s L A) {x:Int}:x∈o↔x∈A∧x∉K:=by
 rw[(h.dead hi ra).mem_iff,List.mem_filter]
 simp
theorem ColX.idA4 (h:ColX s R L s4 R' L' ids rep K S o s1 s2 s3 n) (hi:s.Inv) {a:Int} (ha:a∈S):idA s4 a=idA s a:=by
 obtain⟨k,rfl,hk⟩:=h.kpt2.liv a ha
 have hk4:=(h.st k).2 ha
 unfold idA
 rw[at_ident h.four.2.ok hk4,at_ident hi.ok hk,h.ob ha]
 split<;>(unfold clrOb;split<;>rfl)
theorem ColX.oS (h:ColX s R L s4 R' L' ids rep K S o s1 s2 s3 n) (hi:s.Inv) {x:Int} (hx:x∈o):x∈S:=by
 have hD:=(ordr_mem h.ord).mem_iff.1 hx
 exact h.kpt2.cls.f x (List.mem_append.2 (.inr hD)) (listA_live hi (List.mem_filter.1 hD).1)
theorem ColX.nle (h:ColX s R L s4 R' L' ids rep K S o s1 s2 s3 n):n≤o.length:=by have:=h.nn;omega
theorem ColX.idl (h:ColX s R L s4 R' L' ids rep K S o s1 s2 s3 n):ids.length=n:=by
 have:=h.nle
 rw[h.ii,List.length_map,List.length_take];omega
theorem ColX.rga (h:ColX s R L s4 R' L' ids rep K S o s1 s2 s3 n) (hi:s.Inv) (ra:RgA s L A):RgA s4 L' (A.filter fun a=>!decide (a∈o.take n))∧(A.filter fun a=>!decide (a∈o.take n)).length+n=A.length:=by
 have hAS: ∀a,a∈A→a∈S:=fun a ha=>by
  by_cases c:a∈K
  ·exact h.sub a c
  ·exact h.oS hi ((h.mem hi ra).2 ⟨ha,c⟩)
 have hid: ∀a,a∈A→(idA s a∈ids↔a∈o.take n):=fun a ha=>by
  rw[h.ii,List.mem_map]
  constructor
  ·rintro⟨c,hc,e⟩
   have hc':c∈A:=((h.mem hi ra).1 (List.mem_of_mem_take hc)).1
   rw[←idA_inj hi (ra.liv c hc') (ra.liv a ha) e];exact hc
  ·intro hc;exact⟨a,hc,rfl⟩
 refine⟨⟨?_,List.Nodup.sublist List.filter_sublist ra.nd,fun a ha=>(h.live a).2 (hAS a (List.mem_filter.1 ha).1)⟩,?_⟩
 ·rw[h.LL,ra.tidy hi,ra.e,List.filter_map]
  have e1:A.filter ((fun x=>!decide (x∈ids))∘idA s)=A.filter fun a=>!decide (a∈o.take n):=by
   refine List.filter_congr fun a ha=>?_
   show(!decide (idA s a∈ids))=_
   rw[decide_eq_decide.2 (hid a ha)]
  rw[e1]
  refine List.map_congr_left fun a ha=>?_
  rw[h.idA4 hi (hAS a (List.mem_filter.1 ha).1)]
 ·have e1:=List.length_eq_countP_add_countP (l:=A) (p:=fun a=>decide (a∈o.take n))
  rw[List.countP_eq_length_filter,List.countP_eq_length_filter]at e1
  have hsub: ∀x,x∈o.take n→x∈A.filter fun a=>decide (a∈o.take n):=fun x hx=>List.mem_filter.2 ⟨((h.mem hi ra).1 (List.mem_of_mem_take hx)).1,by simpa using hx⟩
  have hnd:(o.take n).Nodup:=List.Nodup.sublist (List.take_sublist _ _) (h.nodup hi ra)
  have l1:=nodup_sub hnd hsub
  have l2:=nodup_sub (List.Nodup.sublist List.filter_sublist ra.nd) fun x (hx:x∈A.filter fun a=>decide (a∈o.take n))=>(by simpa using(List.mem_filter.1 hx).2:x∈o.take n)
  have l3:(o.take n).length=n:=by rw[List.length_take];have:=h.nle;omega
  have e2:(A.filter fun a=>!decide (a∈o.take n))=A.filter fun a=>decide (¬(decide (a∈o.take n))=true):=by
   refine List.filter_congr fun a _=>?_
   by_cases c:a∈o.take n<;>simp[c]
  rw[e2]
  omega
end
end Go.Proofs.YteiildhelefodaaGreat
end
section
namespace Go.Proofs.YteiildhelefodaaGreat
set_option maxRecDepth 20000
set_option maxHeartbeats 2000000 in
theorem fin_awake (w:World):Cs Tryz.prog 16 [] w fun v w'=>v=.bool true∧Only [] w w':=by
 obtain⟨f1,f2,f3,f4,f5,f6⟩:=eA_f1
 obtain⟨s,es,hx⟩:=exA
 have hi:=hx.inv
 refine enter_law20_awake rfl ?_
 unfold x_law20_awake
 refine gO ?_
 refine callT (hNew w 4) ?_
 rintro r w1 ⟨a,fp,rfl,h1,_,hfp1,ho1⟩
 have hs0:(newH 4).isSome=true:=rfl
 have h1':HR w1 a fp eA0:=h1
 obtain⟨hb,rfl,_⟩:=h1
 refine gO1 hs0 ?_
 refine callT (Rt.New_m w1 1) ?_
 rintro r w2 ⟨ho2,ar,fr,rfl,hR2,_,gfr⟩
 have er:Rt.newO 1=some rA:=rfl
 rw[er]at hR2
 have hro:(Rt.newO 1).isSome=true:=rfl
 obtain⟨rb,era,_⟩:=id hR2
 subst era
 have z1:=ho1.size
 have z2:=ho2.size
 refine gO1 hro ?_
 refine callT (hClaim (h1'.keep0 ho2) 1 0 (by omega)) ?_
 rintro r w3 ⟨rfl,h3,ho3⟩
 rw[f1]
 have hlt:=h1'.lt
 have hrl:=hR2.lt
 have hpr: ∀y,y∈fp→y∉fr:=fun y hy e=>by have:=hlt y hy;have:=gfr y e;omega
 have hrp: ∀y,y∈fr→y∉fp:=fun y hy e=>hpr y e hy
 refine gO1 (bne_int_false (rfl:(0:Int)=0)) ?_
 have b1: ∀s,eA1=some s→s.born≤4611686018427387900:=fun s h=>by rw[h]at f5;simp only[Option.map_some,Option.some.injEq]at f5;omega
 have b2: ∀s,eA2=some s→s.born≤4611686018427387900:=fun s h=>by rw[h]at f6;simp only[Option.map_some,Option.some.injEq]at f6;omega
 refine callT (hPlace (m:=eA1) h3 64 (0,0,0) (by omega) (by decide) b1) ?_
 rintro r w4 ⟨rfl,h4,ho4⟩
 rw[f2]
 refine gO1 (bne_int_false (rfl:(0:Int)=0)) ?_
 rw[fillL_one rfl rfl]
 refine gO ?_
 refine callT (hPlace (m:=eA2) h4 66 (1,0,0) (by omega) (by decide) b2) ?_
 rintro r w5 ⟨rfl,h5,ho5⟩
 rw[f3]
 refine gO1 (bne_int_false (rfl:(0:Int)=0)) ?_
 refine callT (hSetRef (m:=eA3) h5 66 0 64 (by omega) (by omega)) ?_
 rintro r w6 ⟨rfl,h6,ho6⟩
 rw[f4]
 have h6':HR w6 (some ⟨hb,0,none⟩) fp (some s):=by rw[←es];exact h6
 have o26:Only fp w2 w6:=((ho3.same ho4).same ho5).same ho6
 have hR6:=hR2.keep o26 hrp
 have o06:Only [] w w6:=(ho1.nil ho2).trans o26 fun x hx=>.inr (hfp1 x hx)
 refine gO1 (bne_int_false (rfl:(0:Int)=0)) ?_
 refine callT (gNew h6' hi.ok hR6 (by decide)) ?_
 rintro r w7 ⟨ho7,b,rfl,hg7,gb⟩
 have z26:=o26.size
 have z7:=ho7.size
 have hbp:b∉fp:=fun e=>by have:=hlt b e;omega
 have hbr:b∉fr:=fun e=>by have:=hrl b e;omega
 refine gO ?_
 refine callT (gRegister hg7 (by simp) (h6'.keep0 ho7) hi hbp 64 (by omega)) ?_
 rintro _ w8 ⟨rfl,f8,hg8,ho8,gf8⟩
 rw[hx.reg1.2]at hg8
 rw[hx.reg1.1]
 have z8:=ho8.size
 have nbp: ∀y,y∈fp→y∉ [b]:=fun y hy e=>hbp (by simp only[List.mem_singleton]at e;exact e▸hy)
 have nbr: ∀y,y∈fr→y∉ [b]:=fun y hy e=>hbr (by simp only[List.mem_singleton]at e;exact e▸hy)
 have h8:=(h6'.keep0 ho7).keep ho8 nbp
 have hR8:=(hR6.keep0 ho7).keep ho8 nbr
 refine gO1 (bne_int_false (rfl:(0:Int)=0)) ?_
 refine callT (gRegister hg8 (by simp) h8 hi hbp 66 (by omega)) ?_
 rintro _ w9 ⟨rfl,f9,hg9,ho9,gf9⟩
 rw[hx.reg2.2]at hg9
 rw[hx.reg2.1]
 have h9:=h8.keep ho9 nbp
 have hR9:=hR8.keep ho9 nbr
 have z9:=ho9.size
 have gbw:w.heap.size≤b:=by omega
 have ob: ∀y,y∈[b]→y∈([]:List Nat)∨w.heap.size≤y:=fun y hy=>by simp only[List.mem_singleton]at hy;exact .inr (by omega)
 have o09:Only [] w w9:=((o06.nil ho7).trans ho8 ob).trans ho9 ob
 refine gO1 (bne_int_false (rfl:(0:Int)=0)) ?_
 refine callT (gCollect hg9 (by simp) h9 hi hR9 hx.snd (by rw[hx.objs];simp) (by rw[rA_leads];simp) (hx.snd.rfok hi.ok) hbp hbr hpr) ?_
 rintro _ w10 ⟨s4,R',L',ids,rep,K,S,o,s1,s2,s3,n,pv,fpv,fl',fr',col,rfl,h10,hR10,hg10,hp10,ho10,gr10,gl10,nlr10,gp10⟩
 obtain⟨c1,c2,c3,c4,c5⟩:=hx.first col
 have hsn4:=col.snd hi hx.snd (Rt.newO_ok er)
 have i4:=col.four.2
 have er8: ∃a b c d e f g i,rep=[a,b,c,d,e,f,g,i]:=⟨_,_,_,_,_,_,_,_,col.rp⟩
 obtain⟨p0,p1,p2,p3,p4,p5,p6,p7,erep⟩:=er8
 subst c2 c3 c4
 have z10:=ho10.size
 have e0:p0=2:=by rw[erep]at c5;exact c5
 have o010:Only [] w w10:=o09.trans ho10 fun y hy=>by
  rcases List.mem_cons.1 hy with rfl|hy
  ·exact .inr gbw
  ·rcases List.mem_append.1 hy with hy|hy
   ·exact .inr (hfp1 y hy)
   ·exact .inr (by have:=gfr y hy;omega)
 rw[erep]
 refine gO ?_
 refine boxT fun tb w11 htb hs11 hat11 ho11=>?_
 refine gO ?_
 refine stNT (n:=8) (i:=0) hat11 (by rfl) (by simp) ints_one fun w12 hs12 hat12 ho12=>?_
 have e12:setL [Value.int .i64 0,.int .i64 0,.int .i64 0,.int .i64 0,.int .i64 0,.int .i64 0,.int .i64 0,.int .i64 0] 0 (ints [p0,p1,p2,p3,p4,p5,p6,p7])=ints [p0,p1,p2,p3,p4,p5,p6,p7]:=rfl
 rw[e12,e0]at hat12
 have ct12:w12.cell? ⟨tb,0,none⟩=some (.int .i64 2):=by rw[hat12.cell];rfl
 have o1012:Only [] w10 w12:=ho11.trans ho12 fun y hy=>by simp only[List.mem_singleton]at hy;exact .inr (by omega)
 have hp12:=hp10.keep0 o1012
 refine gO3 ct12 (bne_int_false (rfl:(0:Int)=0)) (bne_int_false (rfl:(2:Int)=2)) ?_
 rw[fillL_one rfl rfl,fillL_one rfl rfl]
 refine gO ?_
 refine bslT fun q w13 hq hs13 hat13 ho13=>?_
 refine gO ?_
 have hs13':Sl w13 1 (.slice (some ⟨q,0,none⟩) 2 2) ([2,1]:List Int).length (ints [2,1]) [q]:=by
  have e:ints [2,1]++[]=[Value.int .i64 2,.int .i64 1]:=rfl
  rw[←e]at hat13
  exact Sl.mk1 hat13 rfl rfl
 refine callT (cInts (hp12.keep0 ho13) hs13' (by simp)) ?_
 rintro _ w14 ⟨rfl,ho14⟩
 have o1014:Only [] w10 w14:=(o1012.nil ho13).nil ho14
 have hg14:=hg10.keep0 o1014
 have hR14:=hR10.keep0 o1014
 refine gO1 (decide_eq_true (rfl:([2,1]:List Int)=[2,1])) ?_
 refine callT (gNext hg14 hR14) ?_
 rintro _ w15 ⟨rfl,ho15,_,fr15,hR15,gr15⟩
 have ep1:Rt.popO (some {rA with Q:=[66,64]})=((66,0),some {rA with Q:=[64]}):=rfl
 rw[ep1]at hR15⊢
 have hbl:b<w9.heap.size:=by obtain⟨_,h',_⟩:=hg9;exact h'.lt
 have bfr':b∉fr':=fun e=>(gr10 b e).elim hbr fun h'=>by omega
 have nlr: ∀y,y∈fl'→y∉fr':=nlr10
 have hg15:=hg14.keep ho15 bfr' nlr
 refine gO ?_
 refine callT (gNext hg15 hR15) ?_
 rintro _ w16 ⟨rfl,ho16,_,fr16,hR16,gr16⟩
 have ep2:Rt.popO (some {rA with Q:=[64]})=((64,0),some rA):=rfl
 rw[ep2]at hR16⊢
 have z15:=ho15.size
 have z16:=ho16.size
 have z1014:=o1014.size
 have flt: ∀y,y∈fl'→y<w10.heap.size:=fun y hy=>by obtain⟨_,_,h',_⟩:=hg10;exact h'.lt y hy
 have bfr15:b∉fr15:=fun e=>(gr15 b e).elim bfr' fun h'=>by omega
 have nlr15: ∀y,y∈fl'→y∉fr15:=fun y hy e=>(gr15 y e).elim (nlr y hy) fun h'=>by have:=flt y hy;omega
 have hg16:=hg15.keep ho16 bfr15 nlr15
 have bfr16:b∉fr16:=fun e=>(gr16 b e).elim bfr15 fun h'=>by omega
 have old: ∀y,y∈fp→y∉fr':=fun y hy e=>(gr10 y e).elim (hpr y hy) fun h'=>by have:=hlt y hy;omega
 have old15: ∀y,y∈fp→y∉fr15:=fun y hy e=>(gr15 y e).elim (old y hy) fun h'=>by have:=hlt y hy;omega
 have old16: ∀y,y∈fp→y∉fr16:=fun y hy e=>(gr16 y e).elim (old15 y hy) fun h'=>by have:=hlt y hy;omega
 have h14:=h10.keep0 o1014
 have h16:=(h14.keep ho15 old).keep ho16 old15
 have tbl:w10.heap.size≤tb∧tb<w12.heap.size:=⟨by omega,hat12.lt⟩
 have f14: ∀y,y∈fr'→y<w10.heap.size:=hR10.lt
 have tb15:tb∉fr':=fun e=>by have:=f14 tb e;omega
 have tb16:tb∉fr15:=fun e=>(gr15 tb e).elim tb15 fun h'=>by have:=ho13.size;have:=ho14.size;omega
 have hat14:=(hat12.keep0 ho13).keep0 ho14
 have hat16:=(hat14.keep ho15 tb15).keep ho16 tb16
 have hsn4':Snd true s4 rA:=⟨hsn4.1,rA_zero (.inl rfl)⟩
 have frw: ∀y,y∈fr'→w.heap.size≤y:=fun y hy=>(gr10 y hy).elim (fun h'=>by have:=gfr y h';omega) fun h'=>by omega
 have frw15: ∀y,y∈fr15→w.heap.size≤y:=fun y hy=>(gr15 y hy).elim (frw y) fun h'=>by omega
 have frw16: ∀y,y∈fr16→w.heap.size≤y:=fun y hy=>(gr16 y hy).elim (frw15 y) fun h'=>by omega
 have o016:Only [] w w16:=((o010.nil o1014).trans ho15 fun y hy=>.inr (frw y hy)).trans ho16 fun y hy=>.inr (frw15 y hy)
 refine gO ?_
 refine callT (gCollect hg16 (by simp) h16 i4 hR16 hsn4' (by rw[c1];omega) (by rw[rA_leads];simp) (hsn4'.rfok i4.ok) hbp bfr16 old16) ?_
 rintro _ w17 ⟨s5,R5,L5,ids5,rep5,K5,S5,o5,t1,t2,t3,n5,pv5,fpv5,fl5,fr5,col5,rfl,h17,hR17,hg17,hp17,ho17,_,_,_,_⟩
 have e5:=ColX.none s4 col5 rA_leads
 rw[c1]at e5
 have er8: ∃a b c d e f g i,rep5=[a,b,c,d,e,f,g,i]:=⟨_,_,_,_,_,_,_,_,col5.rp⟩
 obtain⟨q0,q1,q2,q3,q4,q5,q6,q7,erep5⟩:=er8
 have eq2:q2=2:=by rw[erep5]at e5;exact e5
 have z1014:=o1014.size
 have z12:=o1012.size
 have hat17:=hat16.keep ho17 fun e=>by
  rcases List.mem_cons.1 e with e|e
  ·omega
  ·rcases List.mem_append.1 e with e|e
   ·have:=hlt tb e;omega
   ·exact(gr16 tb e).elim tb16 fun h'=>by have:=ho13.size;have:=ho14.size;omega
 rw[erep5]
 refine gO ?_
 refine stNT (n:=8) (i:=0) hat17 (by rfl) (by simp[ints]) ints_one fun w18 hs18 hat18 ho18=>?_
 have e18:setL (ints [2,p1,p2,p3,p4,p5,p6,p7]) 0 (ints [q0,q1,q2,q3,q4,q5,q6,q7])=ints [q0,q1,q2,q3,q4,q5,q6,q7]:=rfl
 rw[e18,eq2]at hat18
 have ct18:w18.cell? ⟨tb,2,none⟩=some (.int .i64 2):=by rw[hat18.cell];rfl
 refine gO5 ct18 (beq_int_true (rfl:(0:Int)=0)) (beq_int_true (rfl:(66:Int)=66)) (beq_int_true (rfl:(64:Int)=64)) (beq_int_true (rfl:(2:Int)=2)) ?_
 refine(o016.trans ho17 fun y hy=>?_).trans ho18 fun y hy=>by simp only[List.mem_singleton]at hy;exact .inr (by omega)
 rcases List.mem_cons.1 hy with rfl|hy
 ·exact .inr gbw
 ·rcases List.mem_append.1 hy with hy|hy
  ·exact .inr (hfp1 y hy)
  ·exact .inr (frw16 y hy)
end Go.Proofs.YteiildhelefodaaGreat
end
section
namespace Go.Proofs.YteiildhelefodaaGreat
set_option maxRecDepth 20000
theorem leads_len {R:Rt.MS} (h:R.Ok):(Rt.leadsO (some R)).length≤144:=by
 have h1:=Rt.foldl_addNew_length ((Rt.filled R).map (·.2)) []
 have h2:(Rt.filled R).length≤R.V.length:=by
  rw[Rt.filled_idx h,List.length_map,Rt.V_length h]
  exact Rt.idx_length
 have:=Rt.V_le h
 have e:Rt.leadsO (some R)=((Rt.filled R).map (·.2)).foldl Rt.addNew []:=rfl
 rw[e]
 simp only[List.length_nil,List.length_map]at h1
 omega
theorem filt_take {l:List Int} {p:Int→Bool} {i:Nat} (h:i<l.length):((l.take (i+1)).filter p).length=((l.take i).filter p).length+if p (l.getD i 0)=true then 1 else 0:=by
 rw[filt_succ h,List.length_append]
 split<;>simp
set_option maxHeartbeats 4000000 in
theorem fin_order {w:World} {cs:List Value} {g:BG} {vO vD vL vP vN vl:Value} {nl:Nat} {fl:Nat→Nat→Nat} (hb:BegAt w.heap.size w cs g vO vD vL vP vN) (hl:U8At w.heap.size w vl nl 1 fl):
  Cs Tryz.prog 4 [.agg ⟨cs⟩,vl] w fun v w'=>v=.bool true∧Only [] w w':=by
 have hcs:=hb.e
 refine enter_law20_FinalOrder rfl ?_
 unfold x_law20_FinalOrder
 refine gO ?_
 refine boxT fun q w1 hq hs1 hat1 ho1=>?_
 have hz1:=ho1.size
 have hc1:cellsAt w1 ⟨q,0,none⟩ 7=some cs:=by rw[cellsAt_at hat1 0 7 (by rw[hcs];simp),hcs];rfl
 refine gO1 hc1 ?_
 refine callT (cBegun (hb.keep0 (Nat.le_refl _) hz1 ho1) ((hl.keep (Nat.le_refl _) ho1 (by simp)).up hz1)) ?_
 rintro _ w2 ⟨ho2,b,hpb,rb,qb,kb,s,R,fh,fr,ff,fk,gb,L,A,flr,rfl,bg⟩
 have o2:=ho1.nil ho2
 have hi:=bg.sc.inv
 have hRok:=bg.sc.Rok
 have hsz:=bg.sz.2.1
 have hLl:L.length=A.length:=by rw[bg.ra.e,List.length_map]
 have hA40:=bg.n2
 have hll:=leads_len hRok
 have hQ:=hRok.lq
 refine gO ?_
 refine run_drt [b] ?_
 have od:=Only.drew [] w2
 have sc:=bg.sc.keep0 od
 have rg:=bg.rg.keep0 od
 have lts: ∀z,z∈[b]→z<w2.drew.heap.size∧z∉([]:List Nat):=fun z hz=>by simp only[List.mem_singleton]at hz;subst hz;exact⟨sc.at_.lt,by simp⟩
 have sb0:SB [b] w2.drew w2.drew:=SB.refl _ _
 refine gO1 sc.at_.cell ?_
 refine callS (cRead sc.h hi) ?_
 rintro _ w3 ⟨ho3,q3,f3,rfl,hf3,g3⟩
 have sb3:=sb0.only ho3 lts
 refine⟨.inr sb3,?_⟩
 have sc3:=sc.keep0 ho3
 refine gO ?_
 refine callS (cKept sc3.at_ hi (by omega) sc3.h sc3.r (RT0 bg.sn hi.ok)) ?_
 rintro vK w4 ⟨ho4,Kq,fK,hK4,gK,kq⟩
 have sb4:=sb3.only ho4 fun z hz=>⟨Nat.lt_of_lt_of_le (lts z hz).1 ho3.size,by simp⟩
 refine⟨.inr sb4,?_⟩
 have o24:=(od.nil ho3).nil ho4
 refine gO ?_
 refine callS (gList (bg.rg.keep0 o24) (by omega) (bg.sc.h.keep0 o24) hi) ?_
 rintro vA w5 ⟨ho5,fA,hA5,gA⟩
 rw[bg.ra.list hi]at hA5
 have sb5:=sb4.only ho5 fun z hz=>⟨Nat.lt_of_lt_of_le (lts z hz).1 (Nat.le_trans ho3.size ho4.size),by simp⟩
 refine⟨.inr sb5,?_⟩
 have o25:=o24.nil ho5
 refine gO ?_
 refine callS (Rt.Queue_m (bg.sc.r.keep0 o25)) ?_
 rintro vQ w6 ⟨ho6,f6,hq6,g6⟩
 refine⟨.inl rfl,?_⟩
 have eq:Rt.queueO (some R)=R.Q:=rfl
 rw[eq]at hq6
 obtain⟨aQ,cQ,rfl⟩:=hq6.val
 have o26:=o25.nil ho6
 have o6:=o2.nil o26
 have eroom:IntKind.i64.wrap (64-(R.Q.length:Int))=((64-R.Q.length:Nat):Int):=by rw[IntWalk.i64_in _ (by omega)];omega
 have rg6:=bg.rg.keep0 o26
 have sc6:=bg.sc.keep0 o26
 have gfh:gb∉fh:=fun e=>bg.ng (by simp[e])
 have gfr:gb∉fr:=fun e=>bg.ng (by simp[e])
 refine gO1 eroom ?_
 refine callT (gCollect rg6 (by omega) sc6.h hi sc6.r bg.sn (by omega) (by omega) (bg.sn.rfok hi.ok) gfh gfr fun y hy=>(bg.sc.d2 y hy).1) ?_
 rintro _ w7 ⟨s4,R',L',ids,rep,K,S,o,s1,s2,s3,n,pv,fpv,fl',fr',col,rfl,h7,hR7,hg7,hp7,ho7,gr7,gl7,nlr7,gp7⟩
 have er8: ∃a b c d e f g i,rep=[a,b,c,d,e,f,g,i]:=⟨_,_,_,_,_,_,_,_,col.rp⟩
 obtain⟨p0,p1,p2,p3,p4,p5,p6,p7,erep⟩:=er8
 rw[erep]
 have z6:=o6.size
 have z26:=o26.size
 have z2:=o2.size
 have z7:=ho7.size
 have hX7: ∀y,w2.heap.size≤y→y∉gb::(fh++fr):=fun y hy e=>by
  have l1:=sc6.lt
  have l2:=bg.sc.lt
  rcases List.mem_cons.1 e with e|e
  ·obtain⟨_,hgb,_⟩:=bg.rg
   have:=hgb.lt
   omega
  ·have:=l2 y (by rcases List.mem_append.1 e with e|e<;>simp[e])
   omega
 have zd:w2.drew.heap.size=w2.heap.size:=rfl
 have z3:=ho3.size
 have z4:=ho4.size
 have z5:=ho5.size
 have hf7:FM w7 q3 s.abs f3:=(((hf3.keep0 ho4).keep0 ho5).keep0 ho6).keep ho7 fun y hy=>hX7 y (by have:=g3 y hy;omega)
 have hK7:=((hK4.keep0 ho5).keep0 ho6).keep ho7 fun y hy=>hX7 y (by have:=gK y hy;omega)
 have hA7:=(hA5.keep0 ho6).keep ho7 fun y hy=>hX7 y (by have:=gA y hy;omega)
 have o7:Only [] w w7:=o6.trans ho7 fun y hy=>by
  refine .inr ?_
  rcases List.mem_cons.1 hy with e|e
  ·have:=bg.gg;omega
  ·have:=bg.ge y (by rcases List.mem_append.1 e with e|e<;>simp[e])
   omega
 have kset: ∀x,x∈Kq↔x∈K:=fun x=>⟨kpt_mono kq.kpt col.kpt (fun _ h=>h) x,kpt_mono col.kpt kq.kpt (fun _ h=>h) x⟩
 have onle:=col.nle
 have hidl:=col.idl
 have odead:=col.dead hi bg.ra
 have ond:=col.nodup hi bg.ra
 have hol:o.length≤40:=by rw[odead.length_eq];exact Nat.le_trans (List.length_filter_le _ _) hA40
 have hKl:Kq.length≤2000:=Nat.le_trans (kq.up.le_objs kq.liv) (by omega)
 obtain⟨ap,cp,rfl⟩:=hp7.val
 obtain⟨aA,cA,rfl⟩:=hA7.val
 refine gO ?_
 refine boxT fun tb w8 htb hs8 hat8 ho8=>?_
 refine gO ?_
 refine stNT (n:=8) (i:=0) hat8 (by rfl) (by simp) ints_one fun w9 hs9 hat9 ho9=>?_
 have o79:Only [] w7 w9:=ho8.trans ho9 fun y hy=>by simp only[List.mem_singleton]at hy;exact .inr (by omega)
 refine gO1 (bne_int_false (rfl:(0:Int)=0)) ?_
 refine bslT fun qn w10 hqn hs10 hat10 ho10=>?_
 have o710:=o79.nil ho10
 refine gO ?_
 refine run_loop (14::15::16::17::18::54::55::56::57::58::59::60::61::62::63::64::65::66::67::68::69::70::71::72::73::74::75::76::77::78::79::80::81::82::83::84::85::86::87::88::89::90::91::92::93::94::95::96::97::98::99::100::101::102::103::104::105::106::107::108::109::110::111::112::113::[]) (fun g' w'=> ∃(i:Nat) (fn:List Nat),g' 15=.int .i64 (i:Int)∧i≤n∧Sl w' 1 (g' 14) (o.take i).length (ints (o.take i)) fn∧(∀y,y∈fn→w7.heap.size≤y)∧Only [] w7 w') (fun g' _=>upTo n 15 g')
  ⟨0,[qn],by simp only[go_sem];rfl,by omega,by simp only[go_sem];exact Sl.empty1 hat10,fun y hy=>by simp only[List.mem_singleton]at hy;have:=o79.size;omega,o710⟩ fun g11 w11 hI hnext=>?_
 obtain⟨i,fn,h15,hin,hat,gfn,ho11⟩:=hI
 by_cases c1:i<n
 ·have ci:(0:Int)≤(i:Int)∧(i:Int)<(ids.length:Int):=by omega
  have hio:i<o.length:=by omega
  obtain⟨gp,_,yp,ep,hatp,_,_⟩:=(hp7.keep0 ho11).pos (by omega)
  cases ep
  obtain⟨a,ha⟩: ∃a,a=o.getD i 0:=⟨_,rfl⟩
  have hao:a∈o:=by rw[ha];simp[hio]
  have hal:Liv s a:=by
   have:=((col.mem hi bg.ra).1 hao).1
   exact bg.ra.liv a this
  have hamem:=(col.mem hi bg.ra).1 hao
  have eid:ids.getD i 0=idA s a:=by
   rw[col.ii,ha]
   simp[hio,c1]
  have vr:w11.cell? ⟨gp,i,none⟩=some (.int .i64 (idA s a)):=by rw[hatp.cell,←eid];exact ints_append_get yp (by omega)
  have ead:adE s (idA s a)=(a,0):=by unfold adE;rw[adO_id hi hal]
  obtain⟨at_,ct,eat⟩:=hat.val
  have htl:(o.take i).length=i:=by rw[List.length_take];omega
  rw[htl]at eat
  have hat':=hat
  rw[eat,htl]at hat'
  refine gJ5 h15 eat (decide_eq_true ci.2) (eq_true ci) vr ?_
  refine callT0 (fAt hi (hf7.keep0 ho11) (idA s a)) ?_
  rw[ead]
  refine gO1 (bne_int_false (rfl:(0:Int)=0)) ?_
  refine callT0 (hHas12 (hK7.keep0 ho11).rd (by omega) a) ?_
  have e1:Kq.contains a=false:=by rw[Bool.eq_false_iff];exact fun e=>hamem.2 ((kset a).1 (List.contains_iff_mem.1 e))
  rw[e1]
  refine gO ?_
  refine callT0 (hHas12 (hA7.keep0 ho11).rd (by omega) a) ?_
  have e2:A.contains a=true:=List.contains_iff_mem.2 hamem.1
  rw[e2]
  refine gO1 eat ?_
  refine callT0 (hHas12 (xs:=o.take i) (by have:=hat.rd;rw[eat]at this;exact this) (by omega) a) ?_
  have e3:(o.take i).contains a=false:=by
   rw[Bool.eq_false_iff]
   intro e
   have e:=List.contains_iff_mem.1 e
   obtain⟨j,hj,hje⟩:=List.mem_iff_getElem.1 e
   rw[List.length_take]at hj
   rw[List.getElem_take]at hje
   exact List.pairwise_iff_getElem.1 ond j i (by omega) hio (by omega) (by rw[hje,ha];simp[hio])
  rw[e3]
  refine gO ?_
  refine run_loop (18::87::88::89::90::91::92::93::94::95::96::97::98::99::100::101::102::103::104::105::106::107::108::109::[]) (fun g' w'=> ∃(k:Nat),g' 18=.int .i64 (k:Int)∧k≤i∧Only [] w11 w') (fun g' _=>upTo i 18 g')
   ⟨0,by simp only[go_sem];rfl,by omega,Only.refl _ _⟩ fun g12 w12 hI hnext2=>?_
  obtain⟨k,h18,hki,ho12⟩:=hI
  have ho712:=ho11.nil ho12
  by_cases c2:k<i
  ·have ck:(0:Int)≤(k:Int)∧(k:Int)<(i:Int):=by omega
   obtain⟨gt,_,yt,et,hatt,_,_⟩:=(hat'.keep0 ho12).pos (by omega)
   cases et
   have hk40:k<(o.take i).length:=by omega
   obtain⟨c,hc⟩: ∃c,c=o.getD k 0:=⟨_,rfl⟩
   have hco:c∈o:=by rw[hc];simp[show k<o.length by omega]
   have hcl:Liv s c:=bg.ra.liv c ((col.mem hi bg.ra).1 hco).1
   have vt: ∀w',Only [] w12 w'→w'.cell? ⟨gt,k,none⟩=some (.int .i64 c):=fun w' ho=>by
    rw[(hatt.keep0 ho).cell,hc]
    have:=ints_append_get yt hk40
    rw[this]
    simp[show k<o.length by omega,c2]
   have hbf:=ordr_bef col.ord i k c2 hio
   rw[←ha,←hc,bef_rs]at hbf
   (repeat(first|with_reducible(first|refine nx ?_|refine r_6 rfl ?_)|simp only[go_sem,h18,eat,decide_eq_true ck.2,if_pos ck,Int.toNat_natCast,Nat.mul_one,vt w12 (Only.refl _ _)]))
   refine callT (cLeads hi bg.sn (by omega) (hf7.keep0 ho712) a c hal) ?_
   rintro _ w13 ⟨rfl,ho13⟩
   cases r1:rsB s a c with
   |false=>
    refine gO2 h18 (i64_succ k (by omega)) ?_
    refine hnext2 _ w13 ?_ ⟨k+1,?_,by omega,ho12.nil ho13⟩ ?_
    ·(repeat(first|with_reducible exact k_1|with_reducible exact Keeps.ovr _ _ _|refine Keeps.put ?_ rfl _|exact k_1|exact Keeps.ovr _ _ _|refine Keeps.ovr2 ?_ rfl _))
    ·simp only[go_sem]
    ·rw[upTo_int (i:=k) h18,upTo_int (k:=.i64) (i:=k+1) (by simp only[go_sem])];omega
   |true=>
    rw[r1,Bool.true_and]at hbf
    have r2:rsB s c a=true:=by simpa using hbf
    (repeat(first|with_reducible(first|refine nx ?_|refine r_6 rfl ?_)|simp only[go_sem,h18,eat,if_pos ck,Int.toNat_natCast,Nat.mul_one,vt w13 ho13]))
    refine callT (cLeads hi bg.sn (by omega) (hf7.keep0 (ho712.nil ho13)) c a hcl) ?_
    rintro _ w14 ⟨rfl,ho14⟩
    rw[r2]
    refine gO2 h18 (i64_succ k (by omega)) ?_
    refine hnext2 _ w14 ?_ ⟨k+1,?_,by omega,(ho12.nil ho13).nil ho14⟩ ?_
    ·(repeat(first|with_reducible exact k_1|with_reducible exact Keeps.ovr _ _ _|refine Keeps.put ?_ rfl _|exact k_1|exact Keeps.ovr _ _ _|refine Keeps.ovr2 ?_ rfl _))
    ·simp only[go_sem]
    ·rw[upTo_int (i:=k) h18,upTo_int (k:=.i64) (i:=k+1) (by simp only[go_sem])];omega
  have hke:k=i:=by omega
  subst hke
  refine gO3 h18 eat (decide_eq_false (show¬(k:Int)<(k:Int) by omega)) ?_
  rw[fillL_one rfl rfl]
  refine gO ?_
  refine bslT fun q13 w13 hq13 hs13 hat13 ho13=>?_
  refine gO ?_
  have hat12:=(hat'.keep0 ho12).keep0 ho13
  refine appT hat12 (SrcIs.at (us:=[.int .i64 a]) hat13 rfl) (by simp[oneC]) (by omega) (by omega) ?_
  intro v14 w14 f14 hs14 hf14 ho14 _
  have z11:=ho712.size
  have z13:=ho13.size
  have g14: ∀y,y∈f14→w7.heap.size≤y:=fun y hy=>by
   rcases hf14 with e|e
   ·rw[e]at hy;exact gfn y hy
   ·rw[e]at hy;simp only[List.mem_singleton]at hy;omega
  have etk:o.take (k+1)=o.take k++[a]:=by
   rw[List.take_succ_eq_append_getElem hio,ha];simp[hio]
  refine gO2 h15 (i64_succ k (by omega)) ?_
  refine hnext _ w14 ?_ ⟨k+1,f14,?_,by omega,?_,g14,(ho712.nil ho13).trans ho14 fun y hy=>.inr (gfn y hy)⟩ ?_
  ·(repeat(first|with_reducible exact k_1|with_reducible exact Keeps.ovr _ _ _|refine Keeps.put ?_ rfl _|exact k_1|exact Keeps.ovr _ _ _|refine Keeps.ovr2 ?_ rfl _))
  ·simp only[go_sem]
  ·simp only[go_sem]
   rw[etk,List.length_append,ints_append,htl];exact hs14
  ·rw[upTo_int (i:=k) h15,upTo_int (k:=.i64) (i:=k+1) (by simp only[go_sem])];omega
 clear hnext
 have hie:i=n:=by omega
 subst hie
 refine gO2 h15 (decide_eq_false (show¬(i:Int)<(ids.length:Int) by omega)) ?_
 have hp11:=fun x:Int=>(show(!Kq.contains x)=!decide (x∈K)from by
  rw[show Kq.contains x=decide (x∈K)from by rw[Bool.eq_iff_iff,List.contains_iff_mem,decide_eq_true_iff];exact kset x])
 refine run_loop (19::20::114::115::116::117::118::119::120::121::122::123::124::125::126::127::128::[]) (fun g' w'=> ∃(j:Nat),g' 20=.int .i64 (j:Int)∧j≤A.length∧g' 19=.int .i64 (((A.take j).filter fun x=>!decide (x∈K)).length:Nat)∧Only [] w11 w') (fun g' _=>upTo A.length 20 g')
  ⟨0,by simp only[go_sem];rfl,by omega,by simp only[go_sem];rfl,Only.refl _ _⟩ fun g12 w12 hI hnext=>?_
 obtain⟨j,h20,hj,h19,ho12⟩:=hI
 have ho712:=ho11.nil ho12
 by_cases c2:j<A.length
 ·have cj:(0:Int)≤(j:Int)∧(j:Int)<(A.length:Int):=by omega
  obtain⟨ga,_,ya,ea,hata,_,_⟩:=(hA7.keep0 ho712).pos (by omega)
  cases ea
  have va:w12.cell? ⟨ga,j,none⟩=some (.int .i64 (A.getD j 0)):=by rw[hata.cell];exact ints_append_get ya c2
  have hft:=filt_take (l:=A) (p:=fun x=>!decide (x∈K)) c2
  have hfl:=List.length_filter_le (fun x=>!decide (x∈K)) (A.take j)
  rw[List.length_take]at hfl
  refine gJ4 h20 (decide_eq_true cj.2) (eq_true cj) va ?_
  refine callT0 (hHas12 (hK7.keep0 ho712).rd (by omega) (A.getD j 0)) ?_
  by_cases cm:A.getD j 0∈K
  ·have e1:Kq.contains (A.getD j 0)=true:=List.contains_iff_mem.2 ((kset _).2 cm)
   rw[e1]
   simp only[cm,decide_true,Bool.not_true,Bool.false_eq_true,if_false,Nat.add_zero]at hft
   refine gO2 h20 (i64_succ j (by omega)) ?_
   refine hnext _ w12 ?_ ⟨j+1,?_,by omega,?_,ho12⟩ ?_
   ·(repeat(first|with_reducible exact k_1|with_reducible exact Keeps.ovr _ _ _|refine Keeps.put ?_ rfl _|exact k_1|exact Keeps.ovr _ _ _|refine Keeps.ovr2 ?_ rfl _))
   ·simp only[go_sem]
   ·simp only[go_sem,h19];rw[hft]
   ·rw[upTo_int (i:=j) h20,upTo_int (k:=.i64) (i:=j+1) (by simp only[go_sem])];omega
  ·have e1:Kq.contains (A.getD j 0)=false:=by rw[Bool.eq_false_iff];exact fun e=>cm ((kset _).1 (List.contains_iff_mem.1 e))
   rw[e1]
   simp only[cm,decide_false,Bool.not_false,if_true]at hft
   refine gO4 h20 h19 (i64_succ j (by omega)) (i64_succ ((A.take j).filter fun x=>!decide (x∈K)).length (by omega)) ?_
   refine hnext _ w12 ?_ ⟨j+1,?_,by omega,?_,ho12⟩ ?_
   ·(repeat(first|with_reducible exact k_1|with_reducible exact Keeps.ovr _ _ _|refine Keeps.put ?_ rfl _|exact k_1|exact Keeps.ovr _ _ _|refine Keeps.ovr2 ?_ rfl _))
   ·simp only[go_sem]
   ·simp only[go_sem];rw[hft]
   ·rw[upTo_int (i:=j) h20,upTo_int (k:=.i64) (i:=j+1) (by simp only[go_sem])];omega
 clear hnext
 have hje:j=A.length:=by omega
 subst hje
 rw[List.take_length,←odead.length_eq]at h19
 obtain⟨ra4,hA4⟩:=col.rga hi bg.ra
 have i4:=col.four.2
 have hLn:L'.length≤4000:=by rw[ra4.e,List.length_map];omega
 have emin:((ids.length:Nat):Int)=min (o.length:Int) ((64-R.Q.length:Nat):Int):=by rw[hidl,col.nn];omega
 have esub:IntKind.i64.wrap ((A.length:Int)-(ids.length:Int))=((A.filter fun a=>!decide (a∈o.take i)).length:Int):=by rw[IntWalk.i64_in _ (by omega)];omega
 refine gO4 h20 h19 (decide_eq_false (show¬(A.length:Int)<(A.length:Int) by omega)) (beq_int_true emin) ?_
 refine callT (gList (hg7.keep0 ho712) hLn (h7.keep0 ho712) i4) ?_
 rintro vB w13 ⟨ho13,fB,hB13,_⟩
 rw[ra4.list i4]at hB13
 obtain⟨aB,cB,rfl⟩:=hB13.val
 refine gO2 esub (beq_int_true (show((A.filter fun a=>!decide (a∈o.take i)).length:Int)=((A.filter fun a=>!decide (a∈o.take i)).length:Int)from rfl)) ?_
 refine callT1 (fin_awake w13) fun w14 ho14=>?_
 refine gO ?_
 exact((o7.nil ho712).nil ho13).nil ho14
end Go.Proofs.YteiildhelefodaaGreat
end
section
namespace Go.Proofs.YteiildhelefodaaGreat
open Go.ChangeShapes Go.WideShapes Go.ChangeAt Go.RowKit
section
variable {H:Type} {enc:TypeId×Value→H} {P:Program}
theorem trodAll_below (hl:laidOutB P=true) {W W':World} (hb:Below W.heap.size W W'): ∀(ts:List TypeId) (vs:List Value) (ds:List (DataW H)) (ps:List MemPlace),(ts.all fun t=>P.readableRec t&&decide (t<P.types.size))=true→
  DataW.TrodAll enc P W 0 (fun _=>true) true ts vs ds ps→(∀x∈ps,x.block<W.heap.size)→DataW.TrodAll enc P W' 0 (fun b=>decide (b<W.heap.size)) true ts vs ds ps
 | [],[],[],_,_,h,_=>h
 | [],_::_,_,_,_,h,_=>h.elim
 | [],[],_::_,_,_,h,_=>h.elim
 |_::_,[],_,_,_,h,_=>by cases h
 |_::_,_::_,[],_,_,h,_=>by cases h
 |t::ts,v::vs,d::ds,ps,hc,h,hlt=>by
  obtain⟨p,q,h1,h2,rfl⟩:=h
  simp only[List.all_cons,Bool.and_eq_true,decide_eq_true_eq]at hc
  exact⟨p,q,Below.trod hl hc.1.1 hc.1.2 h1 hb (fun x hx=>hlt x (List.mem_append_left _ hx)),trodAll_below hl hb ts vs ds q hc.2 h2 (fun x hx=>hlt x (List.mem_append_right _ hx)),rfl⟩
theorem law_post {f:Func} {s:ChangeSpec} {W W':World} {args:Array Value} {ds:List (DataW H)} {p:List MemPlace} {b:TypeId} (hl:laidOutB P=true) (hc:(f.params.toList.all fun t=>P.readableRec t&&decide (t<P.types.size))=true)
  (hv:s.vars=[]) (hW:DataW.Whole enc P f.params.toList s.vars false W args.toList ds [] (p++[])) (hA:DataW.TrodAll enc P W 0 (fun _=>true) true f.params.toList args.toList ds p)
  (hs:s.fn H (ds++[])= {results:=[.lit (.bool true)],args:=ds}) (hr:f.resultTypes=#[b]) (hbt:P.underlying b=some .bool) (hb:Below W.heap.size W W'):
  s.post enc P f false true false false W args (.bool true) W':=by
 have hlt: ∀x∈p,x.block<W.heap.size:=fun x hx=>hW.lt x (List.mem_append_left _ hx)
 refine⟨ds,[],p++[],[],p,[],hW,?_,?_,?_,hb.frame _,fun h=>by cases h⟩
 ·rw[hs,hr]
  exact trodAll_mk1 (shut_bool hbt true)
 ·rw[hs]
  exact trodAll_below hl hb _ _ _ _ hc hA hlt
 ·rw[hs,hv];rfl
end
theorem law_end {P:Program} {f:FuncId} {args:List Value} {W:World} {Q:Value→World→Prop} (h:Cs P f args W fun r W'=>r=.bool true∧Only [] W W') (hq: ∀W',Below W.heap.size W W'→Q (.bool true) W'):
  Cs P f args W Q:=h.mono fun r W' ⟨e,ho⟩=>by rw[e];exact hq W' (ho.below (by simp))
end Go.Proofs.YteiildhelefodaaGreat
end
section
namespace Go.Proofs.YteiildhelefodaaGreat
open Go.ChangeShapes Go.WideShapes Go.ChangeAt Go.RowKit Go.Deep
theorem Tryz.own:ownKnob Tryz.prog.godebug=none:=by kernel_rfl
theorem Tryz.laidOut:laidOutB Tryz.prog=true:=by kernel_rfl
end Go.Proofs.YteiildhelefodaaGreat
end
section
namespace Go.Proofs.YteiildhelefodaaGreat
open Go.ChangeShapes Go.WideShapes Go.ChangeAt Go.RowKit Go.Deep
set_option maxRecDepth 100000
theorem cellsAt_of12 {w:World} {base:Nat} {a:Addr} {n:Nat} {cs:List Value} (h:w.cells? base a n=some cs):cs.length=n∧ ∀i,i<n→w.cell? (a.add i)=cs[i]? :=by
 obtain⟨_,hl,hc⟩:=World.cells?_some h
 exact⟨hl,fun i hi=>by rw[hc i hi]⟩
theorem choose_lt12 {α:Type} [Inhabited α] {n:Nat} {p:Nat→α→Prop} (h: ∀i,i<n→ ∃x,p i x): ∃F:Nat→α,∀i,i<n→p i (F i):=by
 refine⟨fun i=>if hi:i<n then Classical.choose (h i hi)else default,fun i hi=>?_⟩
 simp only[hi,dif_pos]
 exact Classical.choose_spec (h i hi)
theorem open_u8 {H:Type} {enc:TypeId×Value→H} {w:World} {base:Nat} {spare:Nat→Bool} {held:Bool} {n:Nat} {cs:List Value} {x:DataW H×List MemPlace} (h:DataW.trod enc Tryz.prog w base spare held n 5 cs=some x): ∃k:Nat,cs=[u8V k]∧k<256:=by
 obtain⟨k,e,_,hw⟩:=DataW.trod_int Tryz.underlying5 h
 have hb:=bounds_u8 hw
 exact⟨k.toNat,by rw[e];unfold u8V;rw[Int.toNat_of_nonneg hb.1],by omega⟩
theorem Tryz.cells12u8:Tryz.prog.cellsOf 5=1:=by kernel_rfl
theorem open_u8a {H:Type} {enc:TypeId×Value→H} {w:World} {base:Nat} {spare:Nat→Bool} {held:Bool} {m n:Nat} {ty:TypeId} {cs:List Value} {x:DataW H×List MemPlace} (ha:Tryz.prog.underlying ty=some (.array n 5)) (h:DataW.trod enc Tryz.prog w base spare held m ty cs=some x):
  ∃f:Nat→Nat,∀j,j<n→cs[j]? =some (u8V (f j))∧f j<256:=by
 obtain⟨xs,m',_,_,_,hxl,hx⟩:=DataW.trod_array ha h
 refine choose_lt12 (p:=fun j k=>cs[j]? =some (u8V k)∧k<256) fun j hj=>?_
 have h1:=hx j hj
 rw[Tryz.cells12u8,List.getElem?_eq_getElem (by omega),Nat.mul_one]at h1
 obtain⟨k,e,hk⟩:=open_u8 h1
 refine⟨k,?_,hk⟩
 have:((cs.drop j).take 1)[0]? =some (u8V k):=by rw[e];rfl
 rw[List.getElem?_take,if_pos (by omega),List.getElem?_drop]at this
 simpa using this
theorem open_u8s {H:Type} {enc:TypeId×Value→H} {W:World} {m n:Nat} {st ty:TypeId} {cs:List Value} {x:DataW H×List MemPlace} (hs:Tryz.prog.underlying st=some (.slice ty)) (ha:Tryz.prog.underlying ty=some (.array n 5)) (hn:Tryz.prog.cellsOf ty=n) (hn0:0<n) (h:DataW.trod enc Tryz.prog W 0 (fun _=>true) true m st cs=some x):
  ∃(v:Value) (len:Nat) (f:Nat→Nat→Nat),cs=[v]∧U8At W.heap.size W v len n f:=by
 rcases open_slice hs h with⟨e,_⟩|⟨a,len,cap,m',n',D,Pl,e,_,hle,hcap,hm,_,hel⟩
 ·exact⟨_,0,fun _ _=>0,e,none,0,rfl,fun _ _=>by dsimp only;omega,fun i hi=>by omega⟩
 ·rw[if_pos rfl]at hm
  obtain⟨F,hF⟩:=choose_lt12 (α:=Nat→Nat) (n:=len) (p:=fun i f=> ∀j,j<n→W.cell? ((a.add (i*n)).add j)=some (u8V (f j))∧f j<256) fun i hi=>by
   obtain⟨cs',h1,h2⟩:=hel i (by omega)
   rw[hn]at h1
   obtain⟨hl1,hc1⟩:=cellsAt_of12 h1
   obtain⟨f,hf⟩:=open_u8a ha h2
   exact⟨f,fun j hj=>by rw[hc1 j hj];exact hf j hj⟩
  refine⟨_,len,fun i j=>if i<len∧j<n then F i j else 0,e,some a,cap,rfl,fun i j=>?_,fun i hi=>⟨a,rfl,?_,fun j hj=>?_⟩⟩
  ·dsimp only
   split
   ·rename_i hc;exact(hF i hc.1 j hc.2).2
   ·omega
  ·have:=cell_lt (hF i hi 0 hn0).1
   rwa[add_block,add_block]at this
  ·dsimp only;rw[if_pos ⟨hi,hj⟩];exact(hF i hi j hj).1
theorem open_u8l {H:Type} {enc:TypeId×Value→H} {W:World} {m:Nat} {st:TypeId} {cs:List Value} {x:DataW H×List MemPlace} (hs:Tryz.prog.underlying st=some (.slice 5)) (h:DataW.trod enc Tryz.prog W 0 (fun _=>true) true m st cs=some x):
  ∃(v:Value) (len:Nat) (f:Nat→Nat→Nat),cs=[v]∧U8At W.heap.size W v len 1 f:=by
 rcases open_slice1 hs Tryz.cells12u8 h with⟨e,_⟩|⟨a,len,cap,m',n',V,D,Pl,e,_,hle,hcap,hm,_,hel⟩
 ·exact⟨_,0,fun _ _=>0,e,none,0,rfl,fun _ _=>by dsimp only;omega,fun i hi=>by omega⟩
 ·rw[if_pos rfl]at hm
  obtain⟨F,hF⟩:=choose_lt12 (α:=Nat) (n:=len) (p:=fun i k=>W.cell? (a.add i)=some (u8V k)∧k<256) fun i hi=>by
   obtain⟨h1,h2⟩:=hel i (by omega)
   obtain⟨k,e2,hk⟩:=open_u8 h2
   simp only[List.cons.injEq,and_true]at e2
   exact⟨k,by rw[h1,e2],hk⟩
  refine⟨_,len,fun i _=>if i<len then F i else 0,e,some a,cap,rfl,fun i j=>?_,fun i hi=>⟨a,rfl,?_,fun j hj=>?_⟩⟩
  ·dsimp only
   split
   ·rename_i hc;exact(hF i hc).2
   ·omega
  ·have:=cell_lt (hF i hi).1
   rwa[add_block]at this
  ·obtain rfl:j=0:=by omega
   dsimp only;rw[if_pos hi,Nat.mul_one];exact(hF i hi).1
theorem Tryz.cells12b:Tryz.prog.cellsOf 27=7:=by kernel_rfl
theorem Tryz.cells12o:Tryz.prog.cellsOf 23=1:=by kernel_rfl
theorem Tryz.cells12d:Tryz.prog.cellsOf 22=1:=by kernel_rfl
theorem Tryz.cells12l:Tryz.prog.cellsOf 24=1:=by kernel_rfl
theorem Tryz.cells12p:Tryz.prog.cellsOf 25=1:=by kernel_rfl
theorem open_begin {H:Type} {enc:TypeId×Value→H} {W:World} {v:Value} {d:DataW H} {ps:List MemPlace} {r:Reach} {b0:Nat} (hval:Value.okWide Tryz.prog W r b0 27 v) (h:DataW.Trod enc Tryz.prog W 0 (fun _=>true) true 27 v d ps):
  ∃(cs:List Value) (g:BG) (vO vD vL vP vN:Value),v=.agg ⟨cs⟩∧BegAt W.heap.size W cs g vO vD vL vP vN:=by
 obtain⟨⟨cs⟩,rfl,_⟩:=okWide_struct Tryz.underlying27 hval
 obtain⟨fuel,h⟩:=h
 obtain⟨xs,n,_,_,hl,hlen,hf⟩:=DataW.trod_struct Tryz.underlying27 h
 rw[Tryz.cells12b]at hl
 match xs,hlen with
 | [y0,y1,y2,y3,y4,y5,y6],_=>
 have g0:=by simpa using hf 0 _ rfl
 have g1:=by simpa using hf 1 _ rfl
 have g2:=by simpa using hf 2 _ rfl
 have g3:=by simpa using hf 3 _ rfl
 have g4:=by simpa using hf 4 _ rfl
 have g5:=by simpa using hf 5 _ rfl
 have g6:=by simpa using hf 6 _ rfl
 match cs,hl with
 | [c0,c1,c2,c3,c4,c5,c6],_=>
  obtain⟨k0,e0,l0⟩:=open_u8 g0
  obtain⟨k1,e1,l1⟩:=open_u8 g1
  obtain⟨vO,nO,fO,e2,hO⟩:=open_u8s Tryz.underlying23 Tryz.underlying28 (by kernel_rfl) (by omega) g2
  obtain⟨vD,nD,fD,e3,hD⟩:=open_u8l Tryz.underlying22 g3
  obtain⟨vL,nL,fL,e4,hL⟩:=open_u8s Tryz.underlying24 Tryz.underlying140 (by kernel_rfl) (by omega) g4
  obtain⟨vP,nP,fP,e5,hP⟩:=open_u8s Tryz.underlying25 Tryz.underlying143 (by kernel_rfl) (by omega) g5
  obtain⟨vN,nN,fN,e6,hN⟩:=open_u8l Tryz.underlying22 g6
  simp only[Tryz.cells12u8,Tryz.cells12o,Tryz.cells12d,Tryz.cells12l,Tryz.cells12p,Value.cells,List.tail_cons,List.drop_zero,List.take_succ_cons,List.take_zero,List.drop_succ_cons,List.cons.injEq,and_true]at e0 e1 e2 e3 e4 e5 e6
  exact⟨_,⟨k0,k1,nO,nD,nL,nP,nN,fO,fD,fL,fP,fN⟩,vO,vD,vL,vP,vN,rfl,by rw[e0,e1,e2,e3,e4,e5,e6],l0,l1,hO,hD,hL,hP,hN⟩
theorem open_u8sv {H:Type} {enc:TypeId×Value→H} {W:World} {v:Value} {d:DataW H} {ps:List MemPlace} {r:Reach} {b0:Nat} (hval:Value.okWide Tryz.prog W r b0 22 v) (h:DataW.Trod enc Tryz.prog W 0 (fun _=>true) true 22 v d ps): ∃(n:Nat) (f:Nat→Nat→Nat),U8At W.heap.size W v n 1 f:=by
 obtain⟨a0,len0,cap0,rfl⟩:=okWide_slice Tryz.underlying22 hval
 obtain⟨fuel,h⟩:=h
 obtain⟨v',n,f,e,hu⟩:=open_u8l Tryz.underlying22 h
 simp only[Value.cells,List.cons.injEq,and_true]at e
 rw[←e]at hu
 exact⟨n,f,hu⟩
end Go.Proofs.YteiildhelefodaaGreat
end
section
namespace Go.Proofs.YteiildhelefodaaGreat
open Go.ChangeShapes Go.WideShapes Go.ChangeAt Go.RowKit
set_option maxRecDepth 100000 in
theorem finalOrder_lifted (os:Os) (started:os.Started) (H:Type) (enc:TypeId×Value→H):
  ReturnsInHanded {} Tryz.checked os 4 .any (Rows.finalOrderSpec.pre6 enc Tryz.prog Tryz.f4 Rows.finalOrderRow.domain false) (Rows.finalOrderSpec.post enc Tryz.prog Tryz.f4 false true false false):=by
 refine returnsInHanded_of_change (C:=Tryz.checked) Tryz.own started (by kernel_rfl) Tryz.func4
  (ChangeSpec.witness6 (enc:=enc) (C:=Tryz.checked) false ⟨#[],#[.agg #[.int .u8 0,.int .u8 0,.slice none 0 0,.slice none 0 0,.slice none 0 0,.slice none 0 0,.slice none 0 0],.slice none 0 0],[]⟩ 8 (by kernel_rfl) (by kernel_rfl) (by kernel_rfl) (by kernel_rfl)) ?_
 intro W base args ds gs before hval0 hW hcnd _
 have hval: ∀(j:Nat) t v,Tryz.f4.params[j]? =some t→args[j]? =some v→Value.okWide Tryz.prog W .any base t v:=hval0
 have hW':=hW
 obtain⟨p,q,hA0,hV,rfl,hfz,hnd⟩:=hW
 have hA:DataW.TrodAll enc Tryz.prog W 0 (fun _=>true) true Tryz.f4.params.toList args.toList ds p:=hA0
 have hA1:=hA
 obtain⟨rfl,rfl⟩:=trodVars_none hV
 rw[Tryz.params4]at hA hval
 obtain⟨v0,vs0,d0,ds0,p0,q0,hargs,rfl,rfl,h0,r0⟩:=trodAll_cons hA
 obtain⟨v1,vs1,d1,ds1,p1,q1,rfl,rfl,rfl,h1,r1⟩:=trodAll_cons r0
 obtain⟨rfl,rfl,rfl⟩:=trodAll_nil r1
 obtain⟨args⟩:=args
 simp only at hargs
 subst hargs
 obtain⟨cs0,g0,wO0,wD0,wL0,wP0,wN0,rfl,hl0⟩:=open_begin (hval 0 27 v0 rfl rfl) h0
 obtain⟨n1,f1,hl1⟩:=open_u8sv (hval 1 22 v1 rfl rfl) h1
 exact law_end (fin_order hl0 hl1) fun W' hb=>law_post (b:=4) Tryz.laidOut (by kernel_rfl) rfl hW' hA1 rfl (by kernel_rfl) Tryz.underlying4 hb
theorem YteiildhelefodaaGreatFinalOrder:Rows.FinalOrderSaid:=
 OpenClaim.holds_of_wide 4 Tryz.f4 rfl rfl rfl rfl rfl rfl rfl ⟨rfl,rfl,rfl,rfl,rfl⟩ rfl rfl rfl rfl rfl (by kernel_rfl) Tryz.func4 (by kernel_rfl)
  (of_decide_eq_true (by kernel_rfl)) (by unfold Func.isWrapper;first|(rw[if_pos (by decide+kernel)];kernel_rfl)|(rw[if_neg (by decide+kernel)];exact⟨rfl,rfl⟩))
  (fun os started H enc _=>finalOrder_lifted os started H enc)
end Go.Proofs.YteiildhelefodaaGreat
end
