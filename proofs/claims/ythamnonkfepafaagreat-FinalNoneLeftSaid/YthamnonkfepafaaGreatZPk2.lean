import Derived.Test.YthamnonkfepafaaGreatZPk1
set_option linter.unusedSimpArgs false
set_option linter.unusedVariables false
namespace Go.Proofs.YthamnonkfepafaaGreat
set_option maxRecDepth 100000
section
namespace Rt
set_option maxRecDepth 8000
variable {xs:List Int} {D:List Nat} {v:Value} {w:World}
theorem bY {i:Nat} {y:Int} (h:i<xs.length):(xs.take (i+1)).contains y=((xs.take i).contains y||decide (y=xs.getD i 0)):=by
 have e:xs.take (i+1)=xs.take i++[xs.getD i 0]:=by rw[List.take_succ_eq_append_getElem h];simp[h]
 rw[e,Bool.eq_iff_iff];simp
theorem wZ (h : DA w D v xs) (B : xs.length ≤ 100000) (y : Int) : Cs Tryz.prog 330 [v, .int .i64 y] w fun r w' => (∃ k : Int, r = .int .i64 k ∧ decide (0 ≤ k) = xs.contains y) ∧ w' = w := by
  refine en [] ?_;obtain ⟨a, cap, rfl, o⟩ := h;refine gO ?_;refine az (4 :: 5 :: 6 :: 7 :: 8 :: 9 :: 10 :: 11 :: 12 :: 13 :: 14 :: 15 :: 16 :: 17 :: 18 :: []) (fun g w' => ∃ i : Nat, g 8 = .int .i64 i ∧ g 7 = .int .i64 xs.length ∧ i ≤ xs.length ∧ (xs.take i).contains y = false ∧ w' = w) (fun g _ => bw xs.length 8 g) ⟨0, by simp only [go_sem]; rfl, by simp only [go_sem], by omega, by simp, rfl⟩ fun g w' z d => ?_;obtain ⟨i, l, m, C, j, rfl⟩ := z;refine aZ l m ?_;refine cu (fun b => ?_) (fun q => ?_)
  · have b : i < xs.length := by simpa using b
    obtain ⟨p, rfl, _, t⟩ := o i b;have u : (0 : Int) ≤ (i : Int) ∧ (i : Int) < (xs.length : Int) := ⟨by omega, by omega⟩;by_cases e : y = xs.getD i 0
    · refine k7 l m (eq_true u) @Int.toNat_natCast @Nat.mul_one t (cZ e) ?_;refine ⟨i, rfl, ?_⟩;have : xs.contains y = true := by
        rw [List.contains_iff_mem, e, List.getD_eq_getElem?_getD, List.getElem?_eq_getElem b]; simp
      rw [this]; simp
    · refine xG l m (eq_true u) @Int.toNat_natCast @Nat.mul_one t (cU e) (au i (by omega)) ?_;refine d _ w' ⟨i + 1, ?_, ?_, by omega, by rw [bY b, j]; simpa using e, rfl⟩ ?_
      · simp only [go_sem]
      · simp only [go_sem, m]
      · exact aJ l
  · have : i = xs.length := by have : ¬ (i < xs.length) := by simpa using q
                               omega
    subst this;refine gO ?_;refine ⟨-1, rfl, ?_⟩;rw [List.take_length] at j;rw [j]; rfl
theorem oE (h:DA w D v xs) (b:xs.length≤100000) (y:Int):Cs Tryz.prog 226 [v,.int .i64 y] w fun r w'=>r=.bool (xs.contains y)∧w'=w:=by
 refine en [] ?_;refine gO ?_;refine aw (wZ h b y) ?_;rintro r w' ⟨⟨k,rfl,d⟩,rfl⟩;(repeat(first|with_reducible(first|refine nx ?_|refine bA rfl ?_)|simp only[go_sem,d]))
end Rt
end
namespace Rt
def jJ (l:List Int):List Int:=l.foldl dC []
theorem uB (b:List Int) (x:Int):(dC b x).length≤b.length+1:=by unfold dC;split<;>simp
theorem dI: ∀(l b:List Int),(l.foldl dC b).length≤b.length+l.length
 | [],b=>by simp
 |x::l,b=>by
  have d:=dI l (dC b x)
  have j:=uB b x
  simp only[List.foldl_cons,List.length_cons];omega
theorem pW (l:List Int):(jJ l).length≤l.length:=by have:=dI l [];simpa[jJ]using this
theorem oH (l:List Int) (x:Int):jJ (l++[x])=dC (jJ l) x:=by simp[jJ]
theorem xe {w:World} {a:Option Addr} {fp:List Nat} {m:MO} (h:PR w a fp m):Cs Tryz.prog 224 [.pointer a] w fun v w'=>ae [] w w'∧ ∃DV,Sl w' 1 v (bz m).length (ints (bz m)) DV∧ ∀x,x∈DV→w.heap.size≤x:=by
 refine kF rfl ?_;unfold fi;refine gO ?_;refine aH (iJ h) ?_
 match m,h with
 |none,_=>
  (repeat(first|with_reducible(first|refine nx ?_|refine bA rfl ?_)|simp only[go_sem,Option.isSome_none]));exact⟨ae.refl _ _,[],Sl.iW w,by simp⟩
 |some s,⟨b,hb,vs,vg,vq,fs,fg,fq,DW,hp⟩=>
  subst hb;(repeat(first|with_reducible(first|refine nx ?_|refine bA rfl ?_)|simp only[go_sem,Option.isSome_some]));refine bp fun q w1 ZC pf gz ja=>?_;refine gO ?_;refine aw (JJ w1 _) ?_;rintro v w2 ⟨V,rb,rfl,EY,Nt⟩;refine gO ?_;refine Bn (it:=418) (caps:=[.pointer (some ⟨rb,0,none⟩)]) rfl rfl (by simp only[go_sem]) (by kernel_rfl) fun D l w3 hD hl qt W lS X=>?_;have Qb:ae [] w w3:=(ja.nil V).nil W;have Qc:=hp.ab Qb;have Vs:=hp.hb.lt;have JI:=V.size;have t: ∀x,x∈b::(fs++(fg++fq))→x<w.heap.size:=(show PM w b s (b::(fs++(fg++fq)))from⟨vs,vg,vq,fs,fg,fq,rfl,hp⟩).lt;have Jr: ∀x,x∈[q,l]→w.heap.size≤x:=by
   intro x d;simp only[List.mem_cons,List.not_mem_nil,or_false]at d;rcases d with rfl|rfl<;>omega
  refine(FO Qc (EY.ab W) id rfl
   (fun pre F w'=>ey Tryz.prog bF l w' _ _ _ _ .ready D∧w'.heap[D]? =some (.deferred (some []))∧ ∃v,At w' q [v]∧Sl w' 1 v (jJ (pre.map (·.2))).length (ints (jJ (pre.map (·.2)))) F)
   [q,l] ?_ ⟨X,lS,_,(gz.ab V).ab W,Sl.iW _⟩ ?_ ?_).mono ?_
  ·intro x d;simp only[List.mem_cons,List.not_mem_nil,or_false]at d;rcases d with rfl|rfl<;>omega
  ·rintro pre F Y w5 ⟨O,P,v,k4,k5⟩ ho;exact⟨O.keep ho (by simp),by rw[ho.block D (Array.getElem?_eq_some_iff.1 P).1 (by simp)];exact P,v,k4.ab ho,k5.ab ho⟩
  ·rintro pre F k i g xs Y hk hi ⟨O,P,v,k4,k5⟩ z H2 ND Qd hg Q B DB;have ZE:(jJ (pre.map (·.2))).length≤300:=by have:=pW (pre.map (·.2));rw[List.length_map]at this;omega
   refine Em ij O rfl ?_;refine gO ?_;have l1:=O.lt;have l2:=(Array.getElem?_eq_some_iff.1 P).1;have l4:=k4.lt;have l5:=k5.lt;have Tc:g∈b::(fs++(fg++fq)):=by have:=qL hg;simp only[List.mem_cons];exact .inr this
   have aaX:=t g Tc;have y:q≠l:=by omega
   have r: ∀x,x∈F→x≠l∧x≠q∧x≠D:=fun x d=>by have:=z x d;exact⟨by omega,by omega,by omega⟩
   refine Bm (l:=l) rfl O fun J uw L Ta=>?_;have C:At J q [v]:=k4.keep L (by simpa using y);have Z:=k5.keep L (fun x d=>by simpa using(r x d).1);have g7:At J g xs:=Q.keep L (by simp;omega);have R: ∀x,x∈b::(fs++(fg++fq))→x∉ [q,l]++F:=fun x d Tb=>by
    have:=t x d;rcases List.mem_append.1 Tb with h1|h1
    ·have:=Jr x h1;omega
    ·have:=z x h1;omega
   have fin: ∀u j K S,ae ([q,l]++F) J u→ae [l] u j→At u q [S]→Sl u 1 S (jJ ((pre++[(pl k i,(cM s k).getD i 0)]).map (·.2))).length (ints (jJ ((pre++[(pl k i,(cM s k).getD i 0)]).map (·.2)))) K→
     (∀x,x∈K→x∈F∨Y.heap.size≤x)→j.heap[D]? =some (.deferred (some []))∧At j q [S]∧Sl j 1 S (jJ ((pre++[(pl k i,(cM s k).getD i 0)]).map (·.2))).length (ints (jJ ((pre++[(pl k i,(cM s k).getD i 0)]).map (·.2)))) K∧
      ae ([q,l]++F) Y j∧At j g (xs.set i (.int .i64 (id ((cM s k).getD i 0))))∧ ∀U,U∈fs++(fg++fq)→U≠g→j.heap[U]? =Y.heap[U]? :=by
    intro u j K S Vy o a10 Zt zI;have hO:ae ([q,l]++F) Y j:=((L.mono (T:=[q,l]++F) fun x d=>by simp only[aK]at d;subst d;exact .inl (by simp)).same Vy).same (o.mono fun x d=>by simp only[aK]at d;subst d;exact .inl (by simp));have E: ∀x,x∈K→x≠l:=fun x d=>(zI x d).elim (fun h=>(r x h).1) (fun h=>by omega);refine⟨?_,a10.keep o (by simpa using y),Zt.keep o (fun x d=>by simpa using E x d),hO,?_,fun U Qe _=>?_⟩
    ·rw[hO.block D l2 (by simp only[List.mem_append,List.mem_cons,List.not_mem_nil,or_false,not_or];exact⟨⟨by omega,by omega⟩,fun d=>(r D d).2.2 rfl⟩)];exact P
    ·rw[show(id ((cM s k).getD i 0))=(cM s k).getD i 0 from rfl,yY B];exact Q.keep hO (R g Tc)
    ·exact hO.block U (by have:=t U (by simp only[List.mem_cons];exact .inr Qe);omega) (R U (by simp only[List.mem_cons];exact .inr Qe))
   refine gO ?_;refine aW [q,g] ?_;refine cT C.cell g7.cell B ?_;refine ks (oE (Z.ab (ae.drew [] J)).rd (by omega) _) (.inl rfl) ?_;cases hc:(jJ (pre.map (·.2))).contains ((cM s k).getD i 0)with
   |true=>
    refine gO ?_;refine tk (l:=l) rfl (Ta.heap (w':=J.drew) rfl) fun j uz o G=>?_;obtain⟨e1,e2,e3,e4,e5,e6⟩:=fin J.drew j F v (ae.drew _ _) o C (by
     rw[List.map_append,List.map_cons,List.map_nil,oH,dC,if_pos hc];exact Z.ab (ae.drew [] J)) (fun x d=>.inl d)
    exact⟨rfl,⟨F,⟨G,e1,v,e2,e3⟩,fun x d=>.inl d⟩,e4,e5,e6⟩
   |false=>
    refine gO ?_;refine aW [q,g] ?_;refine cT C.cell g7.cell B ?_;rw[ag rfl rfl];refine gO ?_;refine yh fun q8 w8 Ia Bu nK k9=>?_;have M:ae [] J w8:=ae.eh (ae.eh k9);refine⟨.inr ((SB.refl _ _).only k9 (fun x d=>⟨?_,by simp⟩)),?_⟩
    ·simp only[List.mem_cons,List.not_mem_nil,or_false]at d;rcases d with rfl|rfl
     ·exact C.lt
     ·exact g7.lt
    refine gO ?_;refine rN (Z.ab M) (bn.at nK rfl) (by simp[Go.Proofs.YthamnonkfepafaaGreat.bh]) (by omega) (by omega) ?_;intro S w9 K Dz zI kC _;refine⟨.inl rfl,?_⟩;have Mo:q∉F:=fun d=>(r q d).2.1 rfl;have Vu:=(C.ab M).keep kC Mo;have hd7:J.drew.drew.heap.size=J.heap.size:=rfl;refine gO ?_;refine Ee Vu (by simp) Dz.bh fun u Ah yv H=>⟨.inl rfl,?_⟩;refine gO ?_;have I: ∀x,x∈K→x∈F∨Y.heap.size≤x:=by
     intro x d;rcases zI with rfl|rfl
     ·exact .inl d
     ·simp only[aK]at d;right;omega
    have E: ∀x,x∈K→x≠q:=fun x d=>(I x d).elim (fun h=>(r x h).2.1) (fun h=>by omega);have Vv:l∉F:=fun d=>(r l d).1 rfl;refine tk (l:=l) rfl (((Ta.keep M (by simp)).keep kC Vv).keep H (by simp;omega)) fun j uz o G=>?_;obtain⟨e1,e2,e3,e4,e5,e6⟩:=fin u j K S ((M.of_nil.same (kC.mono fun x d=>.inl (by simp[d]))).same (H.mono fun x d=>.inl (by simp only[aK]at d;subst d;simp))) o yv (by
     rw[List.map_append,List.map_cons,List.map_nil,oH,dC,if_neg (by rw[hc];simp),cH,ba];exact Dz.keep H (fun x d=>by simpa using E x d)) I
    exact⟨rfl,⟨K,⟨G,e1,S,e2,e3⟩,I⟩,e4,e5,e6⟩
  ·rintro _ Y ⟨⟨F,⟨O,P,v,k4,k5⟩,z⟩,Qd,GS⟩;refine⟨O,fun w5 qm N=>?_⟩;have l1:=O.lt;have y:q≠l:=by omega
   have r: ∀x,x∈F→x≠l∧x≠q∧x≠D:=fun x d=>by have:=z x d;exact⟨by omega,by omega,by omega⟩
   have Vw:=k4.keep N (by simpa using y);have Vx:=k5.keep N (fun x d=>by simpa using(r x d).1);have Qf:w5.heap[D]? =some (.deferred (some [])):=by rw[N.block D (Array.getElem?_eq_some_iff.1 P).1 (by simp;omega)];exact P
   refine aQ Vw.cell ?_;refine uR Qf fun w6 oO lZ=>?_;refine gO ?_;have hO6:ae [] w w6:=by
    refine((Qb.trans Qd fun x d=>.inr (Jr x d)).trans N fun x d=>.inr ?_).trans lZ fun x d=>.inr ?_
    ·simp only[aK]at d;omega
    ·simp only[aK]at d;omega
   refine⟨hO6,F,?_,fun x d=>by have:=z x d;omega⟩;exact Vx.keep lZ (fun x d=>by simpa using(r x d).2.2)
end Rt
namespace Rt
end Rt
section
namespace Rt
variable {rows:List (Nat×Nat)} {S:List Int} {fg fp fq fs:List Nat} {m:MO} {s:MS} {b i t:Nat} {a:Option Addr} {vg vq vs:Value} {w w':World}
def iy (S:List Int) (t:Nat):List Int:=(S.drop (16*t)).take 16
theorem rD (h:16*t+16≤S.length):(iy S t).length=16:=by simp only[iy,List.length_take,List.length_drop];omega
theorem kX (b:i<16):(iy S t)[i]? =S[16*t+i]? :=by
 unfold iy;rw[List.getElem?_take,if_pos b,List.getElem?_drop]
theorem C3 (b:i<16):(iy S t).getD i 0=S.getD (16*t+i) 0:=by
 simp only[List.getD_eq_getElem?_getD,kX b]
theorem uC {a:Int} (j:i<16):iy (S.set (16*t+i) a) t=(iy S t).set i a:=by
 apply List.ext_getElem?;intro k;by_cases b:k<16
 ·rw[kX b,List.getElem?_set,List.getElem?_set,kX b];by_cases e:i=k
  ·subst e;rw[if_pos rfl,if_pos rfl];by_cases d:16*t+i<S.length
   ·rw[if_pos d,if_pos (by simp only[iy,List.length_take,List.length_drop];omega)]
   ·rw[if_neg d,if_neg (by simp only[iy,List.length_take,List.length_drop];omega)]
  ·rw[if_neg (by omega),if_neg e]
 ·rw[List.getElem?_eq_none (by simp only[iy,List.length_take,List.length_drop,List.length_set];omega),List.getElem?_eq_none (by simp only[iy,List.length_take,List.length_drop,List.length_set];omega)]
theorem tN {u:Nat} {a:Int} (d:i<16) (h:u≠t):iy (S.set (16*t+i) a) u=iy S u:=by
 apply List.ext_getElem?;intro k;by_cases b:k<16
 ·rw[kX b,kX b,List.getElem?_set,if_neg (by omega)]
 ·rw[List.getElem?_eq_none (by simp only[iy,List.length_take,List.length_drop,List.length_set];omega),List.getElem?_eq_none (by simp only[iy,List.length_take,List.length_drop];omega)]
def pX (rows:List (Nat×Nat)):List Value:=rows.map fun r=>.slice (some ⟨r.1,0,none⟩) 16 r.2
theorem C4 (ys:List Value) (h:t<rows.length):(pX rows++ys)[t]? =some (.slice (some ⟨(rows.getD t (0,0)).1,0,none⟩) 16 (rows.getD t (0,0)).2):=by
 rw[List.getElem?_append_left (by simpa[pX]using h)];simp[pX,h]
structure uD (w:World) (b:Nat) (s:MS) (vs vg vq:Value) (fs:List Nat) (rows:List (Nat×Nat)) (fg fq:List Nat):Prop where
 ok:s.Ok
 len:rows.length=s.M
 nd:(b::(fs++(rows.map (·.1)++(fg++fq)))).Nodup
 hb:At w b [vs,vg,vq]
 h0:Sl w 1 vs s.M (pX rows) fs
 hr: ∀t,t<s.M→ ∃ys,At w (rows.getD t (0,0)).1 (ints (iy s.S t)++ys)
 h1:Sl w 1 vg 16 (ints s.G) fg
 h2:Sl w 1 vq s.Q.length (ints s.Q) fq
def RM (w:World) (b:Nat) (s:MS) (fp:List Nat):Prop:= ∃vs vg vq fs rows fg fq,fp=b::(fs++(rows.map (·.1)++(fg++fq)))∧uD w b s vs vg vq fs rows fg fq
def RR (w:World) (a:Option Addr) (fp:List Nat) (m:MO):Prop:=match m with
 |some s=> ∃b,a=some ⟨b,0,none⟩∧RM w b s fp
 |none=>a=none∧fp=[]
theorem iz (h:t<rows.length):(rows.getD t (0,0)).1∈rows.map (·.1):=by
 rw[List.mem_map];exact⟨rows[t],List.getElem_mem h,by simp[h]⟩
theorem uD.keep {S:List Nat} (h:uD w b s vs vg vq fs rows fg fq) (k:ae S w w') (d: ∀x,x∈b::(fs++(rows.map (·.1)++(fg++fq)))→x∉S):uD w' b s vs vg vq fs rows fg fq:=
 ⟨h.ok,h.len,h.nd,h.hb.keep k (d b (by simp)),h.h0.keep k fun x j=>d x (by simp only[List.mem_cons,List.mem_append];exact .inr (.inl j)),fun t l=>let ⟨ys,m⟩:=h.hr t l;⟨ys,m.keep k (d _ (by simp only[List.mem_cons,List.mem_append];exact .inr (.inr (.inl (iz (by rw[h.len];exact l))))))⟩,
  h.h1.keep k fun x j=>d x (by simp only[List.mem_cons,List.mem_append];exact .inr (.inr (.inr (.inl j)))),h.h2.keep k fun x j=>d x (by simp only[List.mem_cons,List.mem_append];exact .inr (.inr (.inr (.inr j))))⟩
theorem uD.ab (h:uD w b s vs vg vq fs rows fg fq) (k:ae [] w w'):uD w' b s vs vg vq fs rows fg fq:=h.keep k fun _ _=>by simp
theorem RM.keep {S:List Nat} (h:RM w b s fp) (k:ae S w w') (d: ∀x,x∈fp→x∉S):RM w' b s fp:=by
 obtain⟨vs,vg,vq,fs,rows,fg,fq,rfl,h⟩:=h;exact⟨vs,vg,vq,fs,rows,fg,fq,rfl,h.keep k d⟩
theorem RM.ab (h:RM w b s fp) (k:ae [] w w'):RM w' b s fp:=h.keep k fun _ _=>by simp
theorem RM.lt (h:RM w b s fp): ∀x,x∈fp→x<w.heap.size:=by
 obtain⟨vs,vg,vq,fs,rows,fg,fq,rfl,h⟩:=h;intro x d;simp only[List.mem_cons,List.mem_append]at d;rcases d with rfl|d|d|d|d
 ·exact h.hb.lt
 ·exact h.h0.lt x d
 ·rw[List.mem_map]at d;obtain⟨r,k,rfl⟩:=d;obtain⟨t,j,rfl⟩:=List.mem_iff_getElem.1 k;obtain⟨ys,l⟩:=h.hr t (by rw[←h.len];exact j);have:=l.lt;simpa[j]using this
 ·exact h.h1.lt x d
 ·exact h.h2.lt x d
theorem RR.keep {S:List Nat} (h:RR w a fp m) (k:ae S w w') (d: ∀x,x∈fp→x∉S):RR w' a fp m:=by
 match m,h with
 |some s,⟨b,j,l⟩=>exact⟨b,j,l.keep k d⟩
 |none,h=>exact h
theorem RR.ab (h:RR w a fp m) (k:ae [] w w'):RR w' a fp m:=h.keep k fun _ _=>by simp
theorem RR.lt (h:RR w a fp m): ∀x,x∈fp→x<w.heap.size:=by
 match m,h with
 |some s,⟨b,k,d⟩=>exact d.lt
 |none,h=>rw[h.2];intro x j;cases j
theorem yZ (h:RR w a fp m):Cs Tryz.prog 160 [.pointer a] w fun v w'=>v=.bool m.isSome∧w'=w:=by
 refine en [] ?_
 match m,h with
 |none,⟨d,_⟩=>
  subst d;(repeat(first|with_reducible(first|refine nx ?_|refine bA rfl ?_)|simp only[go_sem,Option.isSome_none]))
 |some s,⟨b,d,vs,vg,vq,fs,rows,fg,fq,_,k⟩=>
  subst d;obtain⟨a,c,e⟩:=k.h0.val;subst e;have j:(0:Int)<(s.M:Int):=by have:=k.ok.m1;omega
  (repeat(first|with_reducible(first|refine nx ?_|refine bA rfl ?_)|simp only[go_sem,k.hb.cell,aU j,Option.isSome_some]))
theorem Vz (h:RM w b s fp) (p:PT):Cs Tryz.prog 346 [.pointer (some ⟨b,0,none⟩),.agg ⟨eD p⟩] w fun v w'=>v=.bool (iY s p).isSome∧ae [] w w':=by
 refine en [0,0] ?_;refine gO ?_;refine bp fun q D H E B d=>?_;obtain⟨vs,vg,vq,fs,rows,fg,fq,rfl,C⟩:=h;have u:=(C.ab d).hb;obtain⟨k,m,i⟩:=p;have y:At D q [.int .i64 k,.int .i64 m,.int .i64 i]:=B;obtain⟨I,J,F⟩:=C.h0.val;obtain⟨K,L,G⟩:=C.h2.val;subst F G;by_cases r:k=0
 ·by_cases l:0≤m
  ·by_cases j:m<(s.M:Int)
   ·by_cases t:0≤i
    ·by_cases z:i<16
     ·refine k7 y.cell u.cell (cZ r) (aU l) (aU j) (aU t) (aU z) ?_;exact⟨by simp[iY,r,l,j,t,z],d.nil (ae.drew [] _)⟩
     ·refine k7 y.cell u.cell (cZ r) (aU l) (aU j) (aU t) (aX z) ?_;exact⟨by simp[iY,r,l,j,z],d.nil (ae.drew [] _)⟩
    ·refine k0 y.cell u.cell (cZ r) (aU l) (aU j) (aX t) ?_;exact⟨by simp[iY,r,l,j,t],d.nil (ae.drew [] _)⟩
   ·refine lY y.cell u.cell (cZ r) (aU l) (aX j) ?_;exact⟨by simp[iY,r,j],d.nil (ae.drew [] _)⟩
  ·refine eZ y.cell u.cell (cZ r) (aX l) ?_;exact⟨by simp[iY,r,l],d.nil (ae.drew [] _)⟩
 ·by_cases l:k=1
  ·have n0: ¬k=0:=r;by_cases j:m=0
   ·by_cases t:0≤i
    ·by_cases z:i<16
     ·refine k7 y.cell u.cell (cU n0) (cZ l) (cZ j) (aU t) (aU z) ?_;exact⟨by simp[iY,l,j,t,z],d⟩
     ·refine k7 y.cell u.cell (cU n0) (cZ l) (cZ j) (aU t) (aX z) ?_;exact⟨by simp[iY,l,j,z],d⟩
    ·refine k0 y.cell u.cell (cU n0) (cZ l) (cZ j) (aX t) ?_;exact⟨by simp[iY,l,j,t],d⟩
   ·refine lY y.cell u.cell (cU n0) (cZ l) (cU j) ?_;exact⟨by simp[iY,l,j],d⟩
  ·by_cases o:k=2
   ·by_cases j:m=0
    ·by_cases t:0≤i
     ·by_cases z:i<(s.Q.length:Int)
      ·refine xG y.cell u.cell (cU r) (cU l) (cZ o) (cZ j) (aU t) (aU z) ?_;exact⟨by simp[iY,o,j,t,z],d.nil (ae.drew [] _)⟩
      ·refine xG y.cell u.cell (cU r) (cU l) (cZ o) (cZ j) (aU t) (aX z) ?_;exact⟨by simp[iY,o,j,z],d.nil (ae.drew [] _)⟩
     ·refine k7 y.cell u.cell (cU r) (cU l) (cZ o) (cZ j) (aX t) ?_;exact⟨by simp[iY,o,j,t],d.nil (ae.drew [] _)⟩
    ·refine k0 y.cell u.cell (cU r) (cU l) (cZ o) (cU j) ?_;exact⟨by simp[iY,o,j],d.nil (ae.drew [] _)⟩
   ·refine lY y.cell u.cell (cU r) (cU l) (cU o) ?_;exact⟨by simp[iY,r,l,o],d⟩
theorem uD.row (h:uD w b s vs vg vq fs rows fg fq) (k:t<s.M):
  ∃g cap ys d l j,vs=.slice (some ⟨g,0,none⟩) s.M cap∧At w g (pX rows++ys)∧(pX rows++ys)[t]? =some (.slice (some ⟨d,0,none⟩) 16 l)∧d=(rows.getD t (0,0)).1∧At w d (ints (iy s.S t)++j):=by
 obtain⟨g,cap,ys,h1,h2,_⟩:=h.h0.pos (by omega);obtain⟨j,m⟩:=h.hr t k;exact⟨g,cap,ys,_,_,j,h1,h2,C4 ys (by rw[h.len];exact k),rfl,m⟩
theorem Qg (h:RM w b s fp) {p:PT} {x:Nat×Nat} (M:iY s p=some x):Cs Tryz.prog 204 [.pointer (some ⟨b,0,none⟩),.agg ⟨eD p⟩] w fun v w'=>v=.int .i64 (s.rd x)∧ae [] w w':=by
 refine en [0,0,0] ?_;refine gO ?_;refine bp fun q N R O u d=>?_;obtain⟨vs,vg,vq,fs,rows,fg,fq,rfl,F⟩:=h;have r:=F.ab d;have G:=r.hb;obtain⟨k,m,i⟩:=p;have H:At N q [.int .i64 k,.int .i64 m,.int .i64 i]:=u;rcases vi r.ok M with⟨l,y,P,z,B,j,rfl,o,E⟩|⟨l,y,z,B,j,rfl,o,E⟩|⟨l,y,z,B,j,rfl,o,E⟩
 ·simp only at l y P z B o;subst l;obtain⟨m,rfl⟩: ∃n:Nat,m=n:=⟨m.toNat,by omega⟩;obtain⟨i,rfl⟩: ∃n:Nat,i=n:=⟨i.toNat,by omega⟩;obtain⟨g,cap,ys,S,T,L,rfl,C,I,_,J⟩:=r.row (t:=m) (by omega);have Q:(0:Int)≤(m:Int)∧(m:Int)<(s.M:Int):=⟨by omega,by omega⟩;have D:(0:Int)≤(i:Int)∧(i:Int)<((16:Nat):Int):=⟨by omega,by omega⟩;have K:(ints (iy s.S m)++L)[i]? =some (.int .i64 (s.S.getD j 0)):=by
   rw[jI L (by rw[rD (by have:=r.ok.ls;omega)];omega),C3 (by omega)];congr 3;omega
  refine uq H.cell G.cell (cZ (rfl:(0:Int)=0)) (eq_true Q) (eq_true D) @Int.toNat_natCast @Nat.mul_one C.cell I J.cell K ?_;exact⟨rfl,d.nil (ae.drew [] _)⟩
 ·simp only at l y z B o;subst l;obtain⟨g,cap,ys,rfl,C,_,_⟩:=r.h1.pos (by omega);have D:(0:Int)≤i∧i<((16:Nat):Int):=⟨by omega,by omega⟩;subst o;refine Dx H.cell G.cell (cZ (rfl:(1:Int)=1)) (cU (show¬(1:Int)=0 by omega)) (eq_true D) @Int.toNat_natCast @Nat.mul_one C.cell (jI ys E) ?_;exact⟨rfl,d.nil (ae.drew [] _)⟩
 ·simp only at l y z B o;subst l;obtain⟨g,cap,ys,rfl,C,_,_⟩:=r.h2.pos (by omega);have D:(0:Int)≤i∧i<(s.Q.length:Int):=⟨by omega,by omega⟩;subst o;refine Dx H.cell G.cell (cU (show¬(2:Int)=1 by omega)) (cU (show¬(2:Int)=0 by omega)) (eq_true D) @Int.toNat_natCast @Nat.mul_one C.cell (jI ys E) ?_;exact⟨rfl,d.nil (ae.drew [] _)⟩
end Rt
end
section
namespace Rt
set_option maxRecDepth 8000
variable {a:Int} {rows:List (Nat×Nat)} {fg fp fq fs:List Nat} {ys:List Value} {m:MO} {s:MS} {b g j:Nat} {vg vq vs:Value} {w w':World}
theorem Qh {l:List Nat} (h:(b::(fs++(l++(fg++fq)))).Nodup):
  b∉fs∧b∉l∧b∉fg∧b∉fq∧fs.Nodup∧l.Nodup∧fg.Nodup∧fq.Nodup∧(∀x,x∈fs→x∉l∧x∉fg∧x∉fq)∧(∀x,x∈l→x∉fg∧x∉fq)∧(∀x,x∈fg→x∉fq):=by
 simp only[List.nodup_cons,List.mem_append,not_or,List.nodup_append]at h;obtain⟨⟨o,q,r,t⟩,u,⟨w,⟨y,z,B⟩,m⟩,k⟩:=h;refine⟨o,q,r,t,u,w,y,z,fun x j=>⟨fun d=>k x j x (.inl d) rfl,fun d=>k x j x (.inr (.inl d)) rfl,fun d=>k x j x (.inr (.inr d)) rfl⟩,fun x j=>⟨fun d=>m x j x (.inl d) rfl,fun d=>m x j x (.inr d) rfl⟩,fun x j d=>B x j x d rfl⟩
theorem Iw (h:(rows.map (·.1)).Nodup) {t u:Nat} (j:t<rows.length) (k:u<rows.length) (d:t≠u):(rows.getD t (0,0)).1≠(rows.getD u (0,0)).1:=by
 intro e;apply d;have l:t<(rows.map (·.1)).length:=by simpa using j
 have m:u<(rows.map (·.1)).length:=by simpa using k
 have o:=List.pairwise_iff_getElem.1 h;have q:(rows.map (·.1))[t]=(rows.map (·.1))[u]:=by simpa[j,k]using e
 rcases Nat.lt_trichotomy t u with b|b|b
 ·exact absurd q (o t u l m b)
 ·exact b
 ·exact absurd q.symm (o u t m l b)
theorem uD.VA {m i:Nat} {q:List Value} (h:uD w b s vs vg vq fs rows fg fq) (u:m<s.M) (y:i<16) (B:j=16*m+i)
  (r:At w' (rows.getD m (0,0)).1 (ints ((iy s.S m).set i a)++q)) (k:ae [(rows.getD m (0,0)).1] w w'):uD w' b (s.wr (0,j) a) vs vg vq fs rows fg fq:=by
 have d:=iz (rows:=rows) (t:=m) (by rw[h.len];exact u);obtain⟨H,C,I,J,K,D,L,M,E,l,F⟩:=Qh h.nd;refine⟨h.ok.wr _ _,h.len,h.nd,h.hb.keep k (by simp only[aK];rintro rfl;exact C d),h.h0.keep k fun x o=>?_,fun t z=>?_,h.h1.keep k fun x o=>?_,h.h2.keep k fun x o=>?_⟩
 ·simp only[aK];rintro rfl;exact(E _ o).1 d
 ·subst B;by_cases e:t=m
  ·subst e;exact⟨q,by show At w' _ (ints (iy (s.S.set (16*t+i) a) t)++q);rw[uC y];exact r⟩
  ·obtain⟨ys,G⟩:=h.hr t z;refine⟨ys,?_⟩;show At w' _ (ints (iy (s.S.set (16*m+i) a) t)++ys);rw[tN y e];exact G.keep k (by simp only[aK];exact Iw D (by rw[h.len];exact z) (by rw[h.len];exact u) e)
 ·simp only[aK];rintro rfl;exact(l _ d).1 o
 ·simp only[aK];rintro rfl;exact(l _ d).2 o
theorem uD.VB {cap:Nat} (h:uD w b s vs vg vq fs rows [g] fq) (r:vg=.slice (some ⟨g,0,none⟩) 16 cap) (u:(ints s.G++ys).length=cap)
  (k:At w' g (ints (s.G.set j a)++ys)) (d:ae [g] w w'):uD w' b (s.wr (1,j) a) vs vg vq fs rows [g] fq:=by
 obtain⟨D,E,y,F,G,H,I,J,z,l,m⟩:=Qh h.nd;refine⟨h.ok.wr _ _,h.len,h.nd,h.hb.keep d y,h.h0.keep d fun x o=>(z x o).2.1,fun t q=>?_,?_,h.h2.keep d fun x o=>?_⟩
 ·obtain⟨B,C⟩:=h.hr t q;exact⟨B,C.keep d (l _ (iz (by rw[h.len];exact q))).1⟩
 ·rw[r];exact Sl.wH k (by have:=h.ok.lg;simpa[ax,MS.wr]using this) (by rw[←u];simp[ax,MS.wr])
 ·simp only[aK];rintro rfl;exact m _ (by simp) o
theorem uD.VC {cap:Nat} (h:uD w b s vs vg vq fs rows fg [g]) (r:vq=.slice (some ⟨g,0,none⟩) s.Q.length cap) (u:(ints s.Q++ys).length=cap)
  (k:At w' g (ints (s.Q.set j a)++ys)) (d:ae [g] w w'):uD w' b (s.wr (2,j) a) vs vg vq fs rows fg [g]:=by
 obtain⟨D,E,F,y,G,H,I,J,z,l,m⟩:=Qh h.nd;refine⟨h.ok.wr _ _,h.len,h.nd,h.hb.keep d y,h.h0.keep d fun x o=>(z x o).2.2,fun t q=>?_,h.h1.keep d fun x o=>m x o,?_⟩
 ·obtain⟨B,C⟩:=h.hr t q;exact⟨B,C.keep d (l _ (iz (by rw[h.len];exact q))).2⟩
 ·rw[r];show Sl w' 1 _ (s.Q.set j a).length _ [g];rw[List.length_set];exact Sl.wH k (by simp[ax,MS.wr]) (by rw[←u];simp[ax,MS.wr])
theorem _root_.Go.Proofs.YthamnonkfepafaaGreat.Sl.cap {n cap:Nat} {xs:List Value} (h:Sl w 1 (.slice (some ⟨g,0,none⟩) n cap) n xs fp) (b:At w g (xs++ys)):(xs++ys).length=cap:=by
 rcases h.2 with⟨d,_⟩|⟨o,k,l,T,d,q,j,m,r⟩
 ·cases d
 ·cases d;obtain⟨t,b⟩:=b;rw[b]at j;simp at j;rw[j.1];simpa using m
theorem Qi (h:RM w b s fp) {p:PT} {x:Nat×Nat} (U:iY s p=some x) (a:Int):Cs Tryz.prog 347 [.pointer (some ⟨b,0,none⟩),.agg ⟨eD p⟩,.int .i64 a] w fun v w'=>RM w' b (s.wr x a) fp∧ae fp w w':=by
 refine en [0,0,0] ?_;refine gO ?_;refine bp fun q r hq V E F=>?_;have W:=h.lt;obtain⟨vs,vg,vq,fs,rows,fg,fq,rfl,O⟩:=h;have o:=O.ab F;have P:=o.hb;obtain⟨k,m,i⟩:=p;have Q:At r q [.int .i64 k,.int .i64 m,.int .i64 i]:=E;have C: ∀g w',g∈b::(fs++(rows.map (·.1)++(fg++fq)))→ae [g] r w'→ae (b::(fs++(rows.map (·.1)++(fg++fq)))) w w':=fun g w' z X=>F.of_nil.same (X.mono fun y T=>by simp only[aK]at T;subst T;exact .inl z);rcases vi o.ok U with⟨B,G,Y,H,I,j,rfl,D,N⟩|⟨B,G,H,I,j,rfl,D,N⟩|⟨B,G,H,I,j,rfl,D,N⟩
 ·simp only at B G Y H I D;subst B;obtain⟨m,rfl⟩: ∃n:Nat,m=n:=⟨m.toNat,by omega⟩;obtain⟨i,rfl⟩: ∃n:Nat,i=n:=⟨i.toNat,by omega⟩;obtain⟨g,cap,ys,g',c',Z,rfl,z,R,J,S⟩:=o.row (t:=m) (by omega);have c1:(0:Int)≤(m:Int)∧(m:Int)<(s.M:Int):=⟨by omega,by omega⟩;have K:(0:Int)≤(i:Int)∧(i:Int)<((16:Nat):Int):=⟨by omega,by omega⟩;have hl:(iy s.S m).length=16:=rD (by have:=o.ok.ls;omega);refine Dx Q.cell P.cell (cZ (rfl:(0:Int)=0)) (eq_true c1) (eq_true K) @Int.toNat_natCast @Nat.mul_one z.cell R ?_;refine fJ (w:=r.drew) (S.ab (ae.drew [] r)) (by simp[ax,hl];omega) rfl fun L M d l=>?_;refine gO ?_;rw[ints_set Z (by omega)]at d;subst J;refine⟨⟨_,_,_,_,_,_,_,rfl,(o.ab (ae.drew [] r)).VA (by omega) (by omega) (by omega) d l⟩,C _ L ?_ (ae.eh l)⟩;simp only[List.mem_cons,List.mem_append];exact .inr (.inr (.inl (iz (by rw[o.len];omega))))
 ·simp only at B G H I D;subst B;obtain⟨g,cap,ys,rfl,z,rfl,_⟩:=o.h1.pos (by omega);have u:=o.h1.cap z;have K:(0:Int)≤i∧i<((16:Nat):Int):=⟨by omega,by omega⟩;subst D;refine k7 Q.cell P.cell (cZ (rfl:(1:Int)=1)) (cU (show¬(1:Int)=0 by omega)) (eq_true K) @Int.toNat_natCast @Nat.mul_one ?_;refine fJ (w:=r.drew) (z.ab (ae.drew [] r)) (by simp[ax];omega) rfl fun L M d l=>?_;refine gO ?_;rw[ints_set ys N]at d;exact⟨⟨_,_,_,_,_,_,_,rfl,(o.ab (ae.drew [] r)).VB rfl u d l⟩,C g L (by simp) (ae.eh l)⟩
 ·simp only at B G H I D;subst B;obtain⟨g,cap,ys,rfl,z,rfl,_⟩:=o.h2.pos (by omega);have u:=o.h2.cap z;have K:(0:Int)≤i∧i<(s.Q.length:Int):=⟨by omega,by omega⟩;subst D;refine k7 Q.cell P.cell (cU (show¬(2:Int)=1 by omega)) (cU (show¬(2:Int)=0 by omega)) (eq_true K) @Int.toNat_natCast @Nat.mul_one ?_;refine fJ (w:=r.drew) (z.ab (ae.drew [] r)) (by simp[ax];omega) rfl fun L M d l=>?_;refine gO ?_;rw[ints_set ys N]at d;exact⟨⟨_,_,_,_,_,_,_,rfl,(o.ab (ae.drew [] r)).VC rfl u d l⟩,C g L (by simp) (ae.eh l)⟩
theorem Mp {a:Option Addr} (h:RR w a fp m) (p:PT) (y:Int):Cs Tryz.prog 196 [.pointer a,.agg ⟨eD p⟩,.int .i64 y] w fun v w'=>v=.int .i64 (gm m p y).1∧RR w' a fp (gm m p y).2∧ae fp w w':=by
 refine en [] ?_;refine gO ?_;refine bp fun q I O K k j=>?_;have F:=h.ab j;have H:aC I ⟨q,0,none⟩ 3=some (eD p):=ay k 0 3 (by simp[eD]);have L:At I q [.int .i64 p.1,.int .i64 p.2.1,.int .i64 p.2.2]:=k;refine gO ?_;refine aH (yZ F) ?_
 match m,h,F with
 |none,_,F=>
  (repeat(first|with_reducible(first|refine nx ?_|refine bA rfl ?_)|simp only[go_sem,Option.isSome_none]));exact⟨rfl,F,j.of_nil⟩
 |some s,_,⟨b,C,J⟩=>
  subst C;(repeat(first|with_reducible(first|refine nx ?_|refine bA rfl ?_)|simp only[go_sem,Option.isSome_some,H]));refine aw (Vz J p) ?_;rintro v M ⟨rfl,d⟩;have l:=J.ab d;have t:=L.ab d;have o:aC M ⟨q,0,none⟩ 3=some (eD p):=ay (k.ab d) 0 3 (by simp[eD]);cases e:iY s p with
  |none=>
   (repeat(first|with_reducible(first|refine nx ?_|refine bA rfl ?_)|simp only[go_sem,Option.isSome_none]));rw[show gm (some s) p y=(1,some s) by simp only[gm,e]];exact⟨rfl,⟨b,rfl,l⟩,(j.nil d).of_nil⟩
  |some x=>
   have D:ny p y=true→(gm (some s) p y)=(1,some s):=fun C=>by simp only[gm,e,C,if_true]
   have r:ny p y=false→(gm (some s) p y)=(0,some (s.wr x y)):=fun C=>by simp only[gm,e,C,Bool.false_eq_true,if_false]
   by_cases u:y<0
   ·(repeat(first|with_reducible(first|refine nx ?_|refine bA rfl ?_)|simp only[go_sem,Option.isSome_some,aU u]));rw[D (by simp[ny,u])];exact⟨rfl,⟨b,rfl,l⟩,(j.nil d).of_nil⟩
   ·by_cases E:y=0
    ·by_cases G:p.1=2
     ·(repeat(first|with_reducible(first|refine nx ?_|refine bA rfl ?_)|simp only[go_sem,Option.isSome_some,aX u,cZ E,cZ G,t.cell]));rw[D (by simp[ny,E,G])];exact⟨rfl,⟨b,rfl,l⟩,(j.nil d).of_nil⟩
     ·(repeat(first|with_reducible(first|refine nx ?_|refine bA rfl ?_)|simp only[go_sem,Option.isSome_some,aX u,cZ E,cU G,t.cell,o]));refine aw (Qi l e y) ?_;rintro v N ⟨z,B⟩;refine gO ?_;rw[r (by simp[ny,u,G])];exact⟨rfl,⟨b,rfl,z⟩,(j.nil d).of_nil.same B⟩
    ·(repeat(first|with_reducible(first|refine nx ?_|refine bA rfl ?_)|simp only[go_sem,Option.isSome_some,aX u,cU E,t.cell,o]));refine aw (Qi l e y) ?_;rintro v N ⟨z,B⟩;refine gO ?_;rw[r (by simp[ny,u,E])];exact⟨rfl,⟨b,rfl,z⟩,(j.nil d).of_nil.same B⟩
theorem C5 {a:Option Addr} (h:RR w a fp m):Cs Tryz.prog 327 [.pointer a] w fun v w'=>v=.int .i64 (uv m)∧w'=w:=by
 refine en [] ?_;refine gO ?_;refine aH (yZ h) ?_
 match m,h with
 |none,_=>
  (repeat(first|with_reducible(first|refine nx ?_|refine bA rfl ?_)|simp only[go_sem,Option.isSome_none]));rfl
 |some s,⟨b,j,vs,vg,vq,fs,rows,fg,fq,_,d⟩=>
  subst j;obtain⟨l,o,k⟩:=d.h0.val;subst k;(repeat(first|with_reducible(first|refine nx ?_|refine bA rfl ?_)|simp only[go_sem,Option.isSome_some,d.hb.cell]));rfl
theorem _root_.Go.Proofs.YthamnonkfepafaaGreat.Sl.qM {q:Nat} (h:At w q []):Sl w 1 (.slice (some ⟨q,0,none⟩) 0 0) 0 [] [q]:=Sl.wH (ys:=[]) h rfl rfl
theorem Mq {a:Option Addr} (h:RR w a fp m):Cs Tryz.prog 257 [.pointer a] w fun v w'=>ae [] w w'∧ ∃d,Sl w' 1 v (lz m).length (ints (lz m)) d∧ ∀x,x∈d→w.heap.size≤x:=by
 refine en [] ?_;refine gO ?_;refine aH (yZ h) ?_
 match m,h with
 |none,_=>
  (repeat(first|with_reducible(first|refine nx ?_|refine bA rfl ?_)|simp only[go_sem,Option.isSome_none]));exact⟨ae.refl _ _,[],Sl.iW w,by simp⟩
 |some s,⟨b,y,vs,vg,vq,fs,rows,fg,fq,_,l⟩=>
  subst y;(repeat(first|with_reducible(first|refine nx ?_|refine bA rfl ?_)|simp only[go_sem,Option.isSome_some]));refine eJ fun q B C z k j=>?_;(repeat(first|with_reducible(first|refine nx ?_|refine bA rfl ?_)|simp only[go_sem,(l.ab j).hb.cell]));refine eM (Sl.qM k) (l.h2.src.ab j) bR (by have:=l.ok.lq;omega) (by have:=l.ok.lq;omega) ?_;intro D E d o r t _;refine gO ?_;refine⟨j.trans t fun x u=>.inr (by simp only[aK]at u;omega),d,by simpa[lz]using o,fun x u=>?_⟩;rcases r with rfl|rfl<;>simp only[aK]at u<;>omega
theorem uD.FG {vq':Value} {l:List Nat} {q:List Int} (h:uD w b s vs vg vq fs rows fg fq) (J:q.length≤64) (E:Sl w' 1 vq' q.length (ints q) l) (hb:At w' b [vs,vg,vq'])
  (B:ae (b::fq) w w') (u: ∀x,x∈l→x∈fq∨w.heap.size≤x):RM w' b {s with Q:=q} (b::(fs++(rows.map (·.1)++(fg++l)))):=by
 obtain⟨F,G,H,K,L,M,N,O,z,o,r⟩:=Qh h.nd;have m: ∀x,x∈b::(fs++(rows.map (·.1)++(fg++fq)))→x<w.heap.size:=(show RM w b s _ from⟨_,_,_,_,_,_,_,rfl,h⟩).lt;have C:b∉l:=fun k=>(u b k).elim K (fun h2=>by have:=m b (by simp);omega);refine⟨vs,vg,vq',fs,rows,fg,l,rfl,⟨⟨h.ok.m1,h.ok.m4,h.ok.ls,h.ok.lg,J⟩,h.len,?_,hb,h.h0.keep B ?_,fun t I=>?_,h.h1.keep B ?_,E⟩⟩
 ·simp only[List.nodup_cons,List.mem_append,not_or,List.nodup_append];refine⟨⟨F,G,H,C⟩,L,⟨M,⟨N,E.nodup,fun x k y j e=>?_⟩,fun x k y j e=>?_⟩,fun x k y j e=>?_⟩
  ·subst e;rcases u x j with j|j
   ·exact r x k j
   ·have:=m x (by simp[k]);omega
  ·subst e;rcases j with j|j
   ·exact(o x k).1 j
   ·rcases u x j with j|j
    ·exact(o x k).2 j
    ·have:=m x (by simp only[List.mem_cons,List.mem_append];exact .inr (.inr (.inl k)));omega
  ·subst e;rcases j with j|j|j
   ·exact(z x k).1 j
   ·exact(z x k).2.1 j
   ·rcases u x j with j|j
    ·exact(z x k).2.2 j
    ·have:=m x (by simp[k]);omega
 ·intro x k d;simp only[List.mem_cons]at d;rcases d with rfl|d
  ·exact F k
  ·exact(z x k).2.2 d
 ·obtain⟨ys,j⟩:=h.hr t I;have D:=iz (rows:=rows) (t:=t) (by rw[h.len];exact I);refine⟨ys,j.keep B fun d=>?_⟩;simp only[List.mem_cons]at d;rcases d with d|d
  ·rw[d]at D;exact G D
  ·exact(o _ D).2 d
 ·intro x k d;simp only[List.mem_cons]at d;rcases d with rfl|d
  ·exact H k
  ·exact r x k d
end Rt
end
section
namespace Rt
set_option maxRecDepth 8000
variable {rows:List (Nat×Nat)} {S:List Int} {fs:List Nat} {n0 t:Nat} {v:Value} {w w':World}
theorem Qj {a:Option Addr} {fp:List Nat} {m:MO} (h:RR w a fp m) (y:Int):Cs Tryz.prog 172 [.pointer a,.int .i64 y] w fun v w'=>v=.int .i64 (dN m y).1∧ae fp w w'∧ ∃j,RR w' a j (dN m y).2∧ ∀x,x∈j→x∈fp∨w.heap.size≤x:=by
 refine en [] ?_;refine gO ?_;refine aH (yZ h) ?_
 match m,h with
 |none,h=>
  (repeat(first|with_reducible(first|refine nx ?_|refine bA rfl ?_)|simp only[go_sem,Option.isSome_none]));exact⟨rfl,ae.refl _ _,fp,h,fun x d=>.inl d⟩
 |some s,⟨b,T,vs,U,V,fs,rows,L,F,o,l⟩=>
  subst T;subst o;have M:RR w (some ⟨b,0,none⟩) (b::(fs++(rows.map (·.1)++(L++F)))) (some s):=⟨b,rfl,vs,U,V,fs,rows,L,F,rfl,l⟩;obtain⟨aq,cq,G⟩:=l.h2.val;subst G;have N:=l.ok.lq;by_cases t:y≤0
  ·(repeat(first|with_reducible(first|refine nx ?_|refine bA rfl ?_)|simp only[go_sem,Option.isSome_some,aU t]));rw[show dN (some s) y=(1,some s) by simp[dN,t]];exact⟨rfl,ae.refl _ _,_,M,fun x d=>.inl (by simpa using d)⟩
  ·by_cases O:s.Q.length=64
   ·(repeat(first|with_reducible(first|refine nx ?_|refine bA rfl ?_)|simp only[go_sem,Option.isSome_some,aX t,l.hb.cell,aU (show(64:Int)≤(s.Q.length:Int) by omega)]));rw[show dN (some s) y=(6,some s) by simp[dN,t,O]];exact⟨rfl,ae.refl _ _,_,M,fun x d=>.inl (by simpa using d)⟩
   ·(repeat(first|with_reducible(first|refine nx ?_|refine bA rfl ?_)|simp only[go_sem,Option.isSome_some,aX t,l.hb.cell,aX (show¬(64:Int)≤(s.Q.length:Int) by omega)]));rw[ag rfl rfl];refine gO ?_;refine eJ fun q w1 hq W u r=>?_;refine gO ?_;refine eM (l.h2.ab r) (bn.at u rfl) (by simp[bh]) (by omega) (by omega) ?_;intro X w2 j z o B _;obtain⟨n1,n2,n3,P,n5,n6,n7,n8,n9,Y,Z⟩:=Qh l.nd;have H:=(l.hb.ab r).keep B P;refine gO ?_;refine fJ H (by simp) z.bh fun R qt C D=>?_;refine gO ?_;have wg:=l.hb.lt;have k: ∀x,x∈j→x∈F∨w.heap.size≤x:=by
     intro x d;rcases o with rfl|rfl
     ·exact .inl d
     ·simp only[aK]at d;right;omega
    have I:b∉j:=fun d=>(k b d).elim P (fun h=>by omega);have S:ae (b::F) w R:=(r.of_nil.same (B.mono fun x d=>.inl (by simp[d]))).same (D.mono fun x d=>.inl (by simp only[aK]at d;simp[d]));have J:Sl R 1 X (s.Q++[y]).length (ints (s.Q++[y])) j:=by
     rw[ba,cH];exact z.keep D fun x d E=>by simp only[aK]at E;subst E;exact I d
    have K:=l.FG (q:=s.Q++[y]) (by simp;omega) J C S k;rw[show dN (some s) y=(0,some {s with Q:=s.Q++[y]}) by simp[dN,t,O]];refine⟨rfl,S.mono fun x d=>.inl ?_,_,⟨b,rfl,K⟩,fun x d=>?_⟩
    ·simp only[List.mem_cons]at d;rcases d with rfl|d<;>simp_all
    ·simp only[List.mem_cons,List.mem_append]at d⊢;rcases d with rfl|d|d|d|d
     ·exact .inl (.inl rfl)
     ·exact .inl (.inr (.inl d))
     ·exact .inl (.inr (.inr (.inl d)))
     ·exact .inl (.inr (.inr (.inr (.inl d))))
     ·exact(k x d).imp (fun h=>.inr (.inr (.inr (.inr h)))) id
structure fT (w:World) (n0:Nat) (S:List Int) (t:Nat) (v:Value) (rows:List (Nat×Nat)) (fs:List Nat):Prop where
 len:rows.length=t
 nd:(fs++rows.map (·.1)).Nodup
 sl:Sl w 1 v t (pX rows) fs
 hr: ∀u,u<t→ ∃ys,At w (rows.getD u (0,0)).1 (ints (iy S u)++ys)
 new: ∀x,x∈fs++rows.map (·.1)→n0≤x
theorem fT.keep {T:List Nat} (h:fT w n0 S t v rows fs) (k:ae T w w') (b: ∀x,x∈fs++rows.map (·.1)→x∉T):fT w' n0 S t v rows fs:=
 ⟨h.len,h.nd,h.sl.keep k fun x j=>b x (by simp[j]),fun u d=>let ⟨ys,l⟩:=h.hr u d;⟨ys,l.keep k (b _ (by rw[List.mem_append];exact .inr (iz (by rw[h.len];exact d))))⟩,h.new⟩
theorem fT.ab (h:fT w n0 S t v rows fs) (k:ae [] w w'):fT w' n0 S t v rows fs:=h.keep k fun _ _=>by simp
theorem fT.zero (w:World) (n0:Nat) (S:List Int):fT w n0 S 0 (.slice none 0 0) [] []:=⟨rfl,by simp,Sl.iW w,fun u b=>absurd b (by omega),by simp⟩
theorem fT.lt (h:fT w n0 S t v rows fs): ∀x,x∈fs++rows.map (·.1)→x<w.heap.size:=by
 intro x b;rcases List.mem_append.1 b with b|b
 ·exact h.sl.lt x b
 ·rw[List.mem_map]at b;obtain⟨r,hr,rfl⟩:=b;obtain⟨u,d,rfl⟩:=List.mem_iff_getElem.1 hr;obtain⟨ys,j⟩:=h.hr u (by rw[←h.len];exact d);have:=j.lt;simpa[d]using this
theorem fT.snoc {g c:Nat} {C:Value} {j:List Nat} {ys:List Value} (h:fT w n0 S t v rows fs) (D:Sl w' 1 C (t+1) (pX rows++[.slice (some ⟨g,0,none⟩) 16 c]) j) (H:j=fs∨j=[w.heap.size])
  (E:ae fs w w') (F:At w g (ints (iy S t)++ys)) (k:g∉fs++rows.map (·.1)) (I:n0≤g) (M:n0≤w.heap.size):fT w' n0 S (t+1) C (rows++[(g,c)]) j:=by
 have r:=h.lt;have G:=F.lt;simp only[List.mem_append,not_or]at k;have m:=h.nd;rw[List.nodup_append]at m;obtain⟨J,z,o⟩:=m;have q: ∀x,x∈j→x∈fs∨x=w.heap.size:=by
  intro x b;rcases H with rfl|rfl
  ·exact .inl b
  ·simp only[aK]at b;exact .inr b
 refine⟨by simp[h.len],?_,by simpa[pX]using D,fun u N=>?_,fun x b=>?_⟩
 ·rw[List.nodup_append];refine⟨D.nodup,?_,fun x b y d e=>?_⟩
  ·rw[List.map_append,List.nodup_append];refine⟨z,by simp,fun x b y d e=>?_⟩;simp only[List.map_cons,List.map_nil,aK]at d;subst d;subst e;exact k.2 b
  ·subst e;rw[List.map_append,List.mem_append]at d;rcases q x b with l|l
   ·rcases d with d|d
    ·exact o x l x d rfl
    ·simp only[List.map_cons,List.map_nil,aK]at d;subst d;exact k.1 l
   ·rcases d with d|d
    ·have:=r x (by simp only[List.mem_append];exact .inr d);omega
    ·simp only[List.map_cons,List.map_nil,aK]at d;omega
 ·by_cases e:u<t
  ·obtain⟨K,L⟩:=h.hr u e;have B:(rows++[(g,c)]).getD u (0,0)=rows.getD u (0,0):=by simp[List.getElem?_append_left (show u<rows.length by rw[h.len];exact e)]
   rw[B];refine⟨K,L.keep E fun b=>?_⟩;exact o _ b _ (iz (by rw[h.len];exact e)) rfl
  ·have:u=t:=by omega
   subst this;have B:(rows++[(g,c)]).getD u (0,0)=(g,c):=by simp[←h.len]
   rw[B];exact⟨ys,F.keep E k.1⟩
 ·rw[List.map_append,←List.append_assoc]at b;simp only[List.mem_append,List.map_cons,List.map_nil,aK]at b;rcases b with(b|b)|b
  ·rcases q x b with l|l
   ·exact h.new x (by simp[l])
   ·omega
  ·exact h.new x (by simp only[List.mem_append];exact .inr b)
  ·omega
end Rt
end
namespace Rt
set_option maxRecDepth 8000
theorem tO {n t:Nat} (h:t<n):iy (List.replicate (16*n) 0) t=List.replicate 16 0:=by
 unfold iy;rw[List.drop_replicate,List.take_replicate];congr 1;omega
theorem Qk (w : World) (n : Int) : Cs Tryz.prog 75 [.int .i64 n] w fun v w' => ae [] w w' ∧ ∃ a fp, v = .tuple #[.pointer a, .int .i64 (if (fm n).isSome then 0 else 1)] ∧ RR w' a fp (fm n) ∧ (fm n = none → a = none) ∧ ∀ x, x ∈ fp → w.heap.size ≤ x := by
  refine en [2,5,8,11,14,18,21,25,26,29,34,0] ?_;by_cases c1 : n < 1
  · refine aQ (aU c1) ?_;have : fm n = none := by unfold fm; rw [if_neg (by omega)]
    rw [this];exact ⟨ae.refl _ _, none, [], rfl, ⟨rfl, rfl⟩, fun _ => rfl, by simp⟩
  by_cases c2 : 4 < n
  · refine aZ (aX c1) (aU c2) ?_;have : fm n = none := by unfold fm; rw [if_neg (by omega)]
    rw [this];exact ⟨ae.refl _ _, none, [], rfl, ⟨rfl, rfl⟩, fun _ => rfl, by simp⟩
  obtain ⟨k, rfl⟩ : ∃ k : Nat, n = k := ⟨n.toNat, by omega⟩;have z : fm (k : Int) = some ⟨k, List.replicate (16 * k) 0, List.replicate 16 0, []⟩ := by
    unfold fm; rw [if_pos (by omega)]; simp
  refine aZ (aX c1) (aX c2) ?_;refine Hp (n := 16) (m := 16) (Nat.le_refl _) (by omega) (by omega) fun C w1 hgg pf M ja => ?_;refine gO ?_;rw [ag rfl rfl];refine gO ?_;refine bp fun b w2 hb yJ N O => ?_;refine gO ?_;have hO2 := ja.nil O;have P := M.ab O;rw [gx] at P;refine az (5 :: 15 :: 16 :: 17 :: 18 :: 19 :: 20 :: 21 :: 22 :: 23 :: 24 :: 25 :: 26 :: 27 :: 28 :: 29 :: []) (fun g w' => ∃ (t : Nat) (v : Value) (rows : List (Nat × Nat)) (D : List Nat), g 5 = .int .i64 t ∧ t ≤ k ∧ At w' b [v, .slice (some ⟨C, 0, none⟩) 16 16, .slice none 0 0] ∧ fT w' w2.heap.size (List.replicate (16 * k) 0) t v rows D ∧ At w' C (List.replicate 16 (.int .i64 0)) ∧ ae [] w w')
    (fun g _ => bw k 5 g) ⟨0, _, [], [], by simp only [go_sem]; rfl, by omega, N, fT.zero _ _ _, P, hO2⟩ fun g E hI F => ?_
  obtain ⟨t, v, rows, D, h5, ht, o, d, hG, hO⟩ := hI;refine aQ h5 ?_;refine cu (fun G => ?_) (fun tA => ?_)
  · have G : t < k := by have : (t : Int) < (k : Int) := by simpa using G
                         omega
    refine gO ?_;refine aW [b] ?_;have SI : E.drew.heap.size = E.heap.size := rfl;have Q := o.lt;have JI := hO.size;have P5 : w2.heap.size ≤ E.heap.size := by
      have := hG.lt; omega
    have R : ∀ w', ae [] E.drew w' → SB [b] E.drew w' := fun w' ho => (SB.refl _ _).only ho fun x j => by simp only [aK] at j; subst j; exact ⟨Q, by simp⟩
    refine aQ o.cell ?_;refine th (n := 16) (m := 16) (Nat.le_refl _) (by omega) (by omega) fun g1 w4 ZF pk B H => ⟨.inr (R _ H), ?_⟩;refine gO ?_;rw [ag rfl rfl];refine gO ?_;refine yh fun q w5 hq qm S I => ⟨.inr (R _ (H.nil I)), ?_⟩;have l : ae [] E w5 := ae.eh (H.nil I);refine gO ?_;have U := d.ab l;refine rN U.sl (bn.at S rfl) (by simp [bh]) (by omega) (by omega) ?_;intro v' w6 fs' V FP r _;refine ⟨.inl rfl, ?_⟩;have W : b ∉ D := fun j => by have := d.new b (by simp [j]); omega
    have VD := (o.ab l).keep r W;refine gO ?_;refine Ee VD (by simp) V.bh fun w7 uw X J => ⟨.inl rfl, ?_⟩;refine aZ h5 (au t (by omega)) ?_;have Y := d.lt;have Z := U.snoc (g := g1) (c := 16) (ys := []) V FP r (by rw [tO G, gG, List.append_nil]; rw [gx] at B; exact B.ab I) (fun j => by have := Y g1 j; omega) (by omega) (by omega);have K : C ∉ D := fun j => by have := d.new C (by simp [j]); omega
    refine F _ w7 ⟨t + 1, v', _, fs', ?_, by omega, X, Z.keep J ?_, ((hG.ab l).keep r K).keep J (by simp only [aK]; omega), ?_⟩ ?_
    · simp only [go_sem]
    · intro x j; have := Z.new x j; simp only [aK]; omega
    · refine (hO.trans (l.of_nil.same (r.mono (T := D) fun x j => .inl j)) fun x j => .inr ?_).trans J fun x j => .inr ?_
      · have := d.new x (by simp [j]); omega
      · simp only [aK] at j; omega
    · exact aJ h5
  · have : t = k := by have : ¬ (t : Int) < (k : Int) := by simpa using tA
                       omega
    subst this;refine gO ?_;rw [z];have xH := wO z;have u := d.nd;have hG' : At E C (ints (List.replicate 16 0) ++ []) := by rw [gG, List.append_nil]; exact hG
    refine ⟨hO, some ⟨b, 0, none⟩, b :: (D ++ (rows.map (·.1) ++ ([C] ++ []))), rfl, ⟨b, rfl, v, _, _, D, rows, [C], [], rfl, ⟨xH, d.len, ?_, o, d.sl, d.hr, Sl.wH hG' (by simp [ax]) (by simp [ax]), Sl.iW _⟩⟩, (fun h => by cases h), fun x j => ?_⟩
    · have hn := d.new;rw [List.nodup_append] at u;simp only [List.append_nil, List.nodup_cons, List.mem_append, not_or, List.nodup_append, aK];refine ⟨⟨fun j => by have := hn b (by simp [j]); omega, fun j => by have := hn b (by simp only [List.mem_append]; exact .inr j); omega, by omega⟩, u.1, ⟨u.2.1, by simp, fun x j y L e => ?_⟩, fun x j y L e => ?_⟩
      · subst L; subst e; have := hn x (by simp only [List.mem_append]; exact .inr j); omega
      · subst e;rcases L with L | L
        · exact u.2.2 x j x L rfl
        · subst L; have := hn x (by simp [j]); omega
    · simp only [List.append_nil, List.mem_cons, List.mem_append, aK, List.not_mem_nil, or_false] at j;rcases j with rfl | j | j | rfl
      · omega
      · have := d.new x (by simp [j]); omega
      · have := d.new x (by simp only [List.mem_append]; exact .inr j); omega
      · omega
end Rt
section
namespace Rt
variable {s:MS} {j:Nat}
def pj (s:MS) (j:Nat):PT:=if j<16*s.M then(0,((j/16:Nat):Int),((j%16:Nat):Int))else if j<16*s.M+16 then(1,0,((j-16*s.M:Nat):Int))else(2,0,((j-16*s.M-16:Nat):Int))
def rZ (s:MS) (j:Nat):Nat×Nat:=if j<16*s.M then(0,j)else if j<16*s.M+16 then(1,j-16*s.M)else(2,j-16*s.M-16)
theorem eP (h:s.Ok):s.V.length=16*s.M+16+s.Q.length:=by simp only[MS.V,cH,h.ls,h.lg]
theorem pY (s:MS):(mJ s).length=16*s.M+16+s.Q.length:=by simp[mJ];omega
theorem y7:mJ s=(List.range (16*s.M+16+s.Q.length)).map (pj s):=by
 apply List.ext_getElem (by simp[pY]);intro j l k;have m:j<16*s.M+16+s.Q.length:=by simpa using k
 simp only[mJ,List.getElem_map,List.getElem_range];unfold pj;by_cases b:j<16*s.M
 ·rw[if_pos b,List.getElem_append_left (by simp;omega),List.getElem_append_left (by simp;omega)];simp
 ·rw[if_neg b];by_cases d:j<16*s.M+16
  ·rw[if_pos d,List.getElem_append_left (by simp;omega),List.getElem_append_right (by simp;omega)];simp
  ·rw[if_neg d,List.getElem_append_right (by simp;omega)];simp only[List.getElem_map,List.getElem_range,cH,List.length_map,List.length_range,Nat.sub_sub]
theorem xf (o:j<16*s.M+16+s.Q.length):iY s (pj s j)=some (rZ s j):=by
 unfold pj rZ;by_cases d:j<16*s.M
 ·rw[if_pos d,if_pos d];unfold iY;have l:(0:Int)≤((j/16:Nat):Int):=by omega
  have m:((j/16:Nat):Int)<(s.M:Int):=by omega
  have b:(0:Int)≤((j%16:Nat):Int)∧((j%16:Nat):Int)<16:=by omega
  rw[if_pos ⟨rfl,l,m⟩,if_pos b];simp only[Option.some.injEq,Prod.mk.injEq,true_and];omega
 ·rw[if_neg d,if_neg d];by_cases k:j<16*s.M+16
  ·rw[if_pos k,if_pos k];unfold iY;have b:(0:Int)≤((j-16*s.M:Nat):Int)∧((j-16*s.M:Nat):Int)<16:=by omega
   rw[if_neg (by simp),if_pos ⟨rfl,rfl⟩,if_pos b];simp only[Option.some.injEq,Prod.mk.injEq,true_and];omega
  ·rw[if_neg k,if_neg k];unfold iY;have b:(0:Int)≤((j-16*s.M-16:Nat):Int)∧((j-16*s.M-16:Nat):Int)<s.Q.length:=by omega
   rw[if_neg (by simp),if_neg (by simp),if_pos ⟨rfl,rfl⟩,if_pos b];simp only[Option.some.injEq,Prod.mk.injEq,true_and];omega
theorem xg (h:s.Ok) (m:j<16*s.M+16+s.Q.length):s.rd (rZ s j)=s.V.getD j 0:=by
 have b:=h.ls;have l:=h.lg;unfold rZ MS.V;simp only[List.getD_eq_getElem?_getD];by_cases d:j<16*s.M
 ·rw[if_pos d,List.getElem?_append_left (by simp;omega),List.getElem?_append_left (by omega)];simp[MS.rd]
 ·rw[if_neg d];by_cases k:j<16*s.M+16
  ·rw[if_pos k,List.getElem?_append_left (by simp;omega),List.getElem?_append_right (by omega),b];simp[MS.rd]
  ·rw[if_neg k,List.getElem?_append_right (by simp;omega),cH,b,l,show j-(16*s.M+16)=j-16*s.M-16 by omega];simp[MS.rd]
theorem Ix (h:s.Ok) (m:j<16*s.M+16+s.Q.length) (a:Int):(s.wr (rZ s j) a).V=s.V.set j a:=by
 have b:=h.ls;have l:=h.lg;unfold rZ MS.V;by_cases d:j<16*s.M
 ·rw[if_pos d,List.set_append_left _ _ (by simp;omega),List.set_append_left _ _ (by omega)];rfl
 ·rw[if_neg d];by_cases k:j<16*s.M+16
  ·rw[if_pos k,List.set_append_left _ _ (by simp;omega),List.set_append_right _ _ (by omega),b];rfl
  ·rw[if_neg k,List.set_append_right _ _ (by simp;omega),cH,b,l,show j-(16*s.M+16)=j-16*s.M-16 by omega];rfl
theorem VE (s:MS) (x:Nat×Nat) (a:Int):(s.wr x a).M=s.M:=by unfold MS.wr;split<;>rfl
theorem VF (s:MS) (x:Nat×Nat) (a:Int):(s.wr x a).Q.length=s.Q.length:=by unfold MS.wr;split<;>simp
def idx (s:MS):List Nat:=(List.range (16*s.M+16+s.Q.length)).filter fun j=>s.V.getD j 0 !=0
theorem C6 {α:Type} (n:Nat) (f:Nat→α) (V:List Int) (h:V.length=n):((List.range n).map f).zip V=(List.range n).map fun j=>(f j,V.getD j 0):=by
 apply List.ext_getElem (by simp[h]);intro j k b;have d:j<V.length:=by simp at b;omega
 simp[d]
theorem jw (h:s.Ok):filled s=(idx s).map fun j=>(pj s j,s.V.getD j 0):=by
 unfold filled idx;rw[y7,C6 _ _ _ (eP h),List.filter_map];rfl
theorem oI (h:s.Ok):eB (some s)=(idx s).map (pj s):=by
 simp only[eB,jw h,List.map_map];rfl
theorem Mr (h:j∈idx s):j<16*s.M+16+s.Q.length∧s.V.getD j 0≠0:=by
 unfold idx at h;rw[List.mem_filter]at h;exact⟨by simpa using h.1,by simpa using h.2⟩
theorem Iy (b:j<16*s.M+16+s.Q.length) (d:s.V.getD j 0≠0):j∈idx s:=by
 unfold idx;rw[List.mem_filter];exact⟨by simpa using b,by simpa using d⟩
theorem MS.Ql {t:MS} (b:s.Ok) (d:t.Ok) (j:s.M=t.M) (k:s.V=t.V):s=t:=by
 obtain⟨M,S,G,Q⟩:=s;obtain⟨z,B,C,D⟩:=t;have l:=b.ls;have m:=d.ls;have o:=b.lg;have q:=d.lg;simp only at j l m o q;subst j;simp only[MS.V]at k;obtain⟨r,u⟩:=List.append_inj k (by simp;omega);obtain⟨w,y⟩:=List.append_inj r (by omega);subst u w y;rfl
theorem H' (h:s.Ok):s.V.length≤144:=by rw[eP h];have:=h.m4;have:=h.lq;omega
end Rt
end
section
namespace Rt
set_option maxRecDepth 8000
variable {fp:List Nat} {L:List PT} {i n:Nat} {v:Value} {w:World}
theorem _root_.Go.Proofs.YthamnonkfepafaaGreat.Sl.VG {sz:Nat} {xs:List Value} (h:Sl w sz v n xs fp) (k:0<n): ∃g cap ys,v=.slice (some ⟨g,0,none⟩) n cap∧At w g (xs++ys)∧fp=[g]:=by
 rcases h.2 with⟨_,l,_⟩|⟨g,cap,ys,T,b,d,j,m,o⟩
 ·omega
 ·exact⟨g,cap,ys,b,⟨T,j⟩,d⟩
theorem vj: ∀(L:List PT) (i:Nat),(gM L).drop (i*3)=gM (L.drop i)
 |L,0=>by simp
 | [],i+1=>by simp[gM]
 |p::L,i+1=>by
  have e:gM (p::L)=eD p++gM L:=by simp[gM]
  rw[e,show(i+1)*3=(eD p).length+i*3 by simp[eD];omega,List.drop_append,Nat.add_sub_cancel_left,vj L i]
  simp
theorem AG {g:Nat} {ys:List Value} (h:At w g (gM L++ys)) (b:i<L.length):aC w ⟨g,i*3,none⟩ 3=some (eD (L.getD i (0,0,0))):=by
 have d:=rB L;rw[ay h _ _ (by rw[cH];omega),List.drop_append_of_le_length (by omega),List.take_append_of_le_length (by simp;omega),vj,List.drop_eq_getElem_cons b];simp only[gM,List.flatMap_cons];simp[eD,b]
theorem _root_.Go.Proofs.YthamnonkfepafaaGreat.Sl.place (h:Sl w 3 v n (gM L) fp) (b:i<L.length): ∃g cap,v=.slice (some ⟨g,0,none⟩) L.length cap∧aC w ⟨g,i*3,none⟩ 3=some (eD (L.getD i (0,0,0)))∧g∈fp:=by
 have d:n=L.length:=by have:=h.1;rw[rB]at this;omega
 subst d;obtain⟨g,cap,ys,j,k,l⟩:=h.VG (by omega);exact⟨g,cap,j,AG k b,by rw[l];simp⟩
theorem nj {d:World} {j:Value} {b:List Nat} {p:PT} {n0:Nat} (h:Sl d 3 j (L.length+1) (gM L++eD p) b) (l:b=fp∨b=[w.heap.size]) (m: ∀x,x∈fp→n0≤x) (o:n0≤w.heap.size):
  Sl d 3 j (L++[p]).length (gM (L++[p])) b∧ ∀x,x∈b→n0≤x:=by
 refine⟨by rw[rC,cH];simpa[gM]using h,fun x k=>?_⟩;rcases l with rfl|rfl
 ·exact m x k
 ·simp only[aK]at k;omega
def eS (n:Nat):List PT:=(List.range n).map fun j=>((0:Int),((j/16:Nat):Int),((j%16:Nat):Int))
def eG (n:Nat):List PT:=(List.range n).map fun j=>((1:Int),(0:Int),((j:Nat):Int))
def eQ (n:Nat):List PT:=(List.range n).map fun j=>((2:Int),(0:Int),((j:Nat):Int))
theorem Iz {m:Nat} (b:i<16):eS (16*m+(i+1))=eS (16*m+i)++[((0:Int),(m:Int),(i:Int))]:=by
 unfold eS;rw[show 16*m+(i+1)=(16*m+i)+1 by omega,List.range_succ,List.map_append];simp only[List.map_cons,List.map_nil];rw[show(16*m+i)/16=m by omega,show(16*m+i)%16=i by omega]
theorem IA (i:Nat):eG (i+1)=eG i++[((1:Int),(0:Int),(i:Int))]:=by unfold eG;rw[List.range_succ,List.map_append];rfl
theorem IB (i:Nat):eQ (i+1)=eQ i++[((2:Int),(0:Int),(i:Int))]:=by unfold eQ;rw[List.range_succ,List.map_append];rfl
theorem jh (n:Nat):(eS n).length=n:=by simp[eS]
theorem nm (n:Nat):(eG n).length=n:=by simp[eG]
theorem vk (n:Nat):(eQ n).length=n:=by simp[eQ]
theorem Ms {a : Option Addr} {m : MO} (h : RR w a fp m) : Cs Tryz.prog 349 [.pointer a] w fun v w' => ae [] w w' ∧ ∃ N, Sl w' 3 v (mK m).length (gM (mK m)) N ∧ ∀ x, x ∈ N → w.heap.size ≤ x := by
  refine en [] ?_;refine gO ?_;refine aH (yZ h) ?_
  match m, h with
  | none, _ =>
    (repeat (first | with_reducible (first | refine nx ?_ | refine bA rfl ?_) | simp only [go_sem, Option.isSome_none]));exact ⟨ae.refl _ _, [], Sl.C1 w, by simp⟩
  | some s, ⟨b, GQ, vs, vg, vq, fs, rows, fg, fq, _, O⟩ =>
    subst GQ;have P := O.ok;have Vg := P.m4;have hlq := P.lq;(repeat (first | with_reducible (first | refine nx ?_ | refine bA rfl ?_) | simp only [go_sem, Option.isSome_some]));refine az (3 :: 4 :: 5 :: 12 :: 13 :: 14 :: 15 :: 16 :: 17 :: 18 :: 19 :: 20 :: 21 :: 22 :: 23 :: 24 :: 25 :: 26 :: 27 :: 28 :: 29 :: 30 :: []) (fun g w' => ∃ (m : Nat) (v : Value) (f : List Nat), g 4 = .int .i64 m ∧ g 3 = v ∧ m ≤ s.M ∧ Sl w' 3 v (eS (16 * m)).length (gM (eS (16 * m))) f ∧ (∀ x, x ∈ f → w.heap.size ≤ x) ∧ ae [] w w') (fun g _ => bw s.M 4 g)
      ⟨0, _, [], by simp only [go_sem]; rfl, by simp only [go_sem], by omega, Sl.C1 w, by simp, ae.refl _ _⟩ fun g w1 J K => ?_
    obtain ⟨m, v, f, Q, h3, hm, hs, hf, ho⟩ := J;have JK := O.ab ho;obtain ⟨a0, c0, evs⟩ := O.h0.val;obtain ⟨aq, cq, evq⟩ := O.h2.val;subst evs evq;refine aZ Q JK.hb.cell ?_;refine cu (fun R => ?_) (fun tA => ?_)
    · have R : m < s.M := by have : (m : Int) < (s.M : Int) := by simpa using R
                             omega
      refine aQ Q ?_;refine az (3 :: 5 :: 21 :: 22 :: 23 :: 24 :: 25 :: 26 :: 27 :: 28 :: 29 :: 30 :: []) (fun y w' => ∃ (i : Nat) (v : Value) (f : List Nat), y 5 = .int .i64 i ∧ y 3 = v ∧ i ≤ 16 ∧ Sl w' 3 v (eS (16 * m + i)).length (gM (eS (16 * m + i))) f ∧ (∀ x, x ∈ f → w.heap.size ≤ x) ∧ ae [] w w') (fun y _ => bw 16 5 y)
        ⟨0, v, f, by simp only [go_sem]; rfl, by simp only [go_sem, h3], by omega, hs, hf, ho⟩ fun y w2 J k => ?_
      obtain ⟨i, v2, f2, X, o, hi, z, r, t⟩ := J;have e16 : ((16 : Nat) : Int) = 16 := rfl;refine aQ X ?_;refine cu (fun j => ?_) (fun B => ?_)
      · have j : i < 16 := by have : (i : Int) < 16 := by simpa using j
                              omega
        refine cT X o Q ?_;rw [ag rfl rfl];refine gO ?_;rw [ag rfl rfl];refine gO ?_;rw [ag rfl rfl];refine gO ?_;rw [kW (n := 3) rfl rfl, lE];refine gO ?_;refine eJ fun q w3 hq F C d => ?_;refine aQ o ?_;refine eM (z.ab d) (bn.at C rfl) (by simp [bh]) (by rw [jh]; omega) (by rw [jh]; omega) ?_;intro v4 Y f4 G L u _;have JI := t.size;have S := d.size;obtain ⟨D, l⟩ := nj (p := (0, (m : Int), (i : Int))) (n0 := w.heap.size) G L r (by omega);refine aZ X (au i (by omega)) ?_;refine k _ Y ⟨i + 1, v4, f4, ?_, ?_, by omega, by rw [Iz j]; exact D, l, (t.nil d).trans u fun x T => .inr (r x T)⟩ ?_
        · simp only [go_sem]
        · simp only [go_sem]
        · exact aJ X
      · have : i = 16 := by have : ¬ (i : Int) < 16 := by simpa using B
                            omega
        subst this;refine aZ Q (au m (by omega)) ?_;refine K _ w2 ⟨m + 1, v2, f2, ?_, ?_, by omega, by rw [show 16 * (m + 1) = 16 * m + 16 by omega]; exact z, r, t⟩ ?_
        · simp only [go_sem]
        · simp only [go_sem, o]
        · exact aJ Q
    · have : m = s.M := by have : ¬ (m : Int) < (s.M : Int) := by simpa using tA
                           omega
      subst this;refine gO ?_;refine az (3 :: 6 :: 31 :: 32 :: 33 :: 34 :: 35 :: 36 :: 37 :: 38 :: 39 :: []) (fun y w' => ∃ (i : Nat) (v : Value) (f : List Nat), y 6 = .int .i64 i ∧ y 3 = v ∧ i ≤ 16 ∧ Sl w' 3 v (eS (16 * s.M) ++ eG i).length (gM (eS (16 * s.M) ++ eG i)) f ∧ (∀ x, x ∈ f → w.heap.size ≤ x) ∧ ae [] w w') (fun y _ => bw 16 6 y)
        ⟨0, v, f, by simp only [go_sem]; rfl, by simp only [go_sem, h3], by omega, by simpa [eG] using hs, hf, ho⟩ fun y w2 J k => ?_
      obtain ⟨i, v2, f2, Z, o, hi, z, r, t⟩ := J;refine aQ Z ?_;refine cu (fun j => ?_) (fun B => ?_)
      · have j : i < 16 := by have : (i : Int) < 16 := by simpa using j
                              omega
        refine aZ Z o ?_;rw [ag rfl rfl];refine gO ?_;rw [ag rfl rfl];refine gO ?_;rw [kW (n := 3) rfl rfl, lE];refine gO ?_;refine eJ fun q w3 hq F C d => ?_;refine aQ o ?_;refine eM (z.ab d) (bn.at C rfl) (by simp [bh]) (by rw [cH, jh, nm]; omega) (by rw [cH, jh, nm]; omega) ?_;intro v4 Y f4 G L u _;have JI := t.size;have S := d.size;obtain ⟨D, l⟩ := nj (p := (1, 0, (i : Int))) (n0 := w.heap.size) G L r (by omega);refine aZ Z (au i (by omega)) ?_;refine k _ Y ⟨i + 1, v4, f4, ?_, ?_, by omega, by rw [IA, ← List.append_assoc]; exact D, l, (t.nil d).trans u fun x T => .inr (r x T)⟩ ?_
        · simp only [go_sem]
        · simp only [go_sem]
        · exact aJ Z
      · have : i = 16 := by have : ¬ (i : Int) < 16 := by simpa using B
                            omega
        subst this;refine gO ?_;refine az (3 :: 7 :: 40 :: 41 :: 42 :: 43 :: 44 :: 45 :: 46 :: 47 :: 48 :: 49 :: 50 :: 51 :: 52 :: 53 :: []) (fun U w' => ∃ (i : Nat) (v : Value) (f : List Nat), U 7 = .int .i64 i ∧ U 3 = v ∧ i ≤ s.Q.length ∧ Sl w' 3 v ((eS (16 * s.M) ++ eG 16) ++ eQ i).length (gM ((eS (16 * s.M) ++ eG 16) ++ eQ i)) f ∧ (∀ x, x ∈ f → w.heap.size ≤ x) ∧ ae [] w w') (fun U _ => bw s.Q.length 7 U)
          ⟨0, v2, f2, by simp only [go_sem]; rfl, by simp only [go_sem, o], by omega, by simpa [eQ] using z, r, t⟩ fun U w3 J H => ?_
        obtain ⟨i, v3, f3, h7, E, hi, F, M, d⟩ := J;have Qc := O.ab d;refine aZ h7 Qc.hb.cell ?_;refine cu (fun I => ?_) (fun V => ?_)
        · have I : i < s.Q.length := by simpa using I
          refine aZ h7 E ?_;rw [ag rfl rfl];refine gO ?_;rw [ag rfl rfl];refine gO ?_;rw [kW (n := 3) rfl rfl, lE];refine gO ?_;refine eJ fun q Y hq G W u => ?_;refine aQ E ?_;refine eM (F.ab u) (bn.at W rfl) (by simp [bh]) (by rw [cH, cH, jh, nm, vk]; omega) (by rw [cH, cH, jh, nm, vk]; omega) ?_;intro v5 w5 f5 qm JL jv _;have S := d.size;have Jw := u.size;obtain ⟨D, l⟩ := nj (p := (2, 0, (i : Int))) (n0 := w.heap.size) qm JL M (by omega);refine aZ h7 (au i (by omega)) ?_;refine H _ w5 ⟨i + 1, v5, f5, ?_, ?_, by omega, by rw [IB, ← List.append_assoc]; exact D, l, (d.nil u).trans jv fun x T => .inr (M x T)⟩ ?_
          · simp only [go_sem]
          · simp only [go_sem]
          · exact aJ h7
        · have : i = s.Q.length := by have : ¬ (i < s.Q.length) := by simpa using V
                                      omega
          subst this;refine aQ E ?_;exact ⟨d, f3, F, M⟩
end Rt
end
section
namespace Rt
set_option maxRecDepth 8000
variable {fp:List Nat} {m:MO} {s:MS} {i:Nat} {a:Option Addr} {w:World}
theorem fx:(mK (some s)).length=16*s.M+16+s.Q.length:=pY s
theorem tP (b:i<16*s.M+16+s.Q.length):(mK (some s)).getD i (0,0,0)=pj s i:=by
 show(mJ s).getD i (0,0,0)=_;rw[y7];simp[b]
def JM (s:MS) (i:Nat):List PT:=((List.range i).filter fun j=>s.V.getD j 0 !=0).map (pj s)
theorem y9 (s:MS) (i:Nat):JM s (i+1)=JM s i++(if s.V.getD i 0=0 then []else [pj s i]):=by
 unfold JM;rw[List.range_succ,List.filter_append,List.map_append];congr 1;by_cases b:s.V.getD i 0=0
 ·rw[if_pos b,List.filter_cons,if_neg (by simpa using b)];rfl
 ·rw[if_neg b,List.filter_cons,if_pos (by simpa using b)];rfl
theorem AH (s:MS) (i:Nat):(JM s i).length≤i:=by
 unfold JM;rw[List.length_map];exact Nat.le_trans (List.length_filter_le _ _) (by simp)
theorem IC (h:s.Ok):JM s (16*s.M+16+s.Q.length)=eB (some s):=by rw[oI h];rfl
theorem ID (h : RR w a fp m) : Cs Tryz.prog 201 [.pointer a] w fun v w' => ae [] w w' ∧ ∃ E, Sl w' 3 v (eB m).length (gM (eB m)) E ∧ ∀ x, x ∈ E → w.heap.size ≤ x := by
  refine en [] ?_;refine gO ?_;refine aw (Ms h) ?_;rintro v4 M ⟨o, fE, r, hfE⟩;have hEl := r.lt;obtain ⟨a4, c4, e4⟩ := r.val;subst e4;refine gO ?_
  match m, h with
  | none, _ =>
    refine az (3 :: 5 :: 8 :: 9 :: 10 :: 11 :: 12 :: 13 :: 14 :: 15 :: 16 :: 17 :: 18 :: 19 :: 20 :: 21 :: 22 :: 23 :: 24 :: 25 :: 26 :: 27 :: []) (fun g w' => ∃ i : Nat, g 5 = .int .i64 i ∧ g 3 = .slice none 0 0 ∧ ae [] w w') (fun g _ => bw 0 5 g) ⟨0, by simp only [go_sem]; rfl, by simp only [go_sem], o⟩ fun g Z Q j => ?_;obtain ⟨i, t, D, R⟩ := Q;have e0 : ¬ (i : Int) < (((mK none).length : Nat) : Int) := by show ¬ (i : Int) < ((0 : Nat) : Int); omega
    refine cT t D (aX e0) ?_;exact ⟨R, [], Sl.C1 Z, by simp⟩
  | some s, ⟨b, S, hp⟩ =>
    subst S;have u : s.Ok := by obtain ⟨_, _, _, _, _, _, _, _, k⟩ := hp; exact k.ok
    have hV := H' u;rw [eP u] at hV;refine az (3 :: 5 :: 8 :: 9 :: 10 :: 11 :: 12 :: 13 :: 14 :: 15 :: 16 :: 17 :: 18 :: 19 :: 20 :: 21 :: 22 :: 23 :: 24 :: 25 :: 26 :: 27 :: []) (fun g w' => ∃ (i : Nat) (v : Value) (f : List Nat), g 5 = .int .i64 i ∧ g 3 = v ∧ i ≤ 16 * s.M + 16 + s.Q.length ∧ Sl w' 3 v (JM s i).length (gM (JM s i)) f ∧ (∀ x, x ∈ f → M.heap.size ≤ x) ∧ ae [] M w') (fun g _ => bw (16 * s.M + 16 + s.Q.length) 5 g)
      ⟨0, _, [], by simp only [go_sem]; rfl, by simp only [go_sem], by omega, Sl.C1 M, by simp, ae.refl _ _⟩ fun g Z Q j => ?_
    obtain ⟨i, v, f, t, D, hi, N, O, z⟩ := Q;refine aQ t ?_;refine cu (fun d => ?_) (fun B => ?_)
    · have d : i < 16 * s.M + 16 + s.Q.length := by have := fx (s := s); have : (i : Int) < (((mK (some s)).length : Nat) : Int) := by simpa using d
                                                    omega
      have F := r.ab z;obtain ⟨gE, cE, T, G, hgE⟩ := F.place (i := i) (by rw [fx]; exact d);cases T;rw [tP d] at G;have c1 : (0 : Int) ≤ (i : Int) ∧ (i : Int) < (((mK (some s)).length : Nat) : Int) := ⟨by omega, by rw [fx]; omega⟩;refine eZ t (eq_true c1) @Int.toNat_natCast G ?_;refine aw (Qg ((hp.ab o).ab z) (xf d)) ?_;rintro v5 w3 ⟨rfl, l⟩;have H := (r.ab (z.nil l)).place (i := i) (by rw [fx]; exact d);obtain ⟨gE', cE', I, y, _⟩ := H;cases I;rw [tP d] at y;have J := xg u d;by_cases P : s.V.getD i 0 = 0
      · refine eZ J (dg P) t (au i (by omega)) ?_;refine j _ w3 ⟨i + 1, v, f, ?_, ?_, by omega, by rw [y9, if_pos P, List.append_nil]; exact N.ab l, O, z.nil l⟩ ?_
        · simp only [go_sem]
        · simp only [go_sem, D]
        · exact aJ t
      · refine k7 J (eE P) t D (eq_true c1) @Int.toNat_natCast y ?_;rw [kW (n := 3) rfl rfl, xd];refine gO ?_;refine eJ fun q w4 hq pk K C => ?_;have Td := AH s i;refine aQ D ?_;refine eM ((N.ab l).ab C) (bn.at K rfl) sH (by omega) (by omega) ?_;intro v5 w5 f5 U V W _;have JI := z.size;have P5 := l.size;have Jw := C.size;obtain ⟨X, L⟩ := nj (p := pj s i) (n0 := M.heap.size) U V O (by omega);refine aZ t (au i (by omega)) ?_;refine j _ w5 ⟨i + 1, v5, f5, ?_, ?_, by omega, by rw [y9, if_neg P]; exact X, L, ((z.nil l).nil C).trans W fun x Y => .inr (O x Y)⟩ ?_
        · simp only [go_sem]
        · simp only [go_sem]
        · exact aJ t
    · have B : ¬ (i : Int) < (((mK (some s)).length : Nat) : Int) := by simpa using B
      rw [fx] at B;have : i = 16 * s.M + 16 + s.Q.length := by omega
      rw [this, IC u] at N;refine aQ D ?_;exact ⟨o.nil z, f, N, fun x Y => by have := O x Y; have := o.size; omega⟩
theorem jx (h:s.Ok):(eB (some s)).length=(idx s).length:=by rw[oI h,List.length_map]
theorem j6 (h:s.Ok) (b:i<(idx s).length):(eB (some s)).getD i (0,0,0)=pj s ((idx s).getD i 0):=by
 rw[oI h];simp[b]
theorem Af (b:i<(idx s).length):(idx s).getD i 0<16*s.M+16+s.Q.length∧s.V.getD ((idx s).getD i 0) 0≠0:=by
 have:(idx s).getD i 0∈idx s:=by simp[b]
 exact Mr this
theorem jy:(idx s).length≤16*s.M+16+s.Q.length:=by
 unfold idx;exact Nat.le_trans (List.length_filter_le _ _) (by simp)
def uE (s:MS) (i:Nat):List Int:=jJ (((idx s).take i).map fun j=>s.V.getD j 0)
theorem y' (b:i<(idx s).length):uE s (i+1)=dC (uE s i) (s.V.getD ((idx s).getD i 0) 0):=by
 unfold uE;rw[List.take_succ_eq_append_getElem b,List.map_append,List.map_cons,List.map_nil,oH];simp[b]
theorem AI (s:MS) (i:Nat):(uE s i).length≤i:=by
 unfold uE;refine Nat.le_trans (pW _) ?_;rw[List.length_map,List.length_take];omega
theorem IE (h:s.Ok):uE s (idx s).length=bz (some s):=by
 show uE s (idx s).length=((filled s).map (·.2)).foldl dC [];unfold uE jJ;rw[List.take_length,jw h,List.map_map];rfl
theorem Mt (h : RR w a fp m) : Cs Tryz.prog 49 [.pointer a] w fun v w' => ae [] w w' ∧ ∃ O, Sl w' 1 v (bz m).length (ints (bz m)) O ∧ ∀ x, x ∈ O → w.heap.size ≤ x := by
  refine kE rfl ?_;unfold iM;refine gO ?_;refine aw (ID h) ?_;rintro v4 w1 ⟨C, fE, J, hfE⟩;have hEl := J.lt;obtain ⟨a4, c4, e4⟩ := J.val;subst e4;refine gO ?_
  match m, h with
  | none, _ =>
    refine az (3 :: 5 :: 6 :: 7 :: 8 :: 11 :: 12 :: 13 :: 14 :: 15 :: 16 :: 17 :: 18 :: 19 :: 20 :: 21 :: 22 :: 23 :: 24 :: 25 :: 26 :: 27 :: 28 :: 29 :: 30 :: 31 :: 32 :: 33 :: 34 :: 35 :: 36 :: 37 :: 38 :: 39 :: 40 :: 41 :: 42 :: 43 :: []) (fun g w' => ∃ i : Nat, g 5 = .int .i64 i ∧ g 3 = .slice none 0 0 ∧ ae [] w w') (fun g _ => bw 0 5 g) ⟨0, by simp only [go_sem]; rfl, by simp only [go_sem], C⟩ fun g w2 P o => ?_;obtain ⟨i, I, z, jq⟩ := P;have e0 : ¬ (i : Int) < (((eB none).length : Nat) : Int) := by show ¬ (i : Int) < ((0 : Nat) : Int); omega
    refine cT I z (aX e0) ?_;exact ⟨jq, [], Sl.iW w2, by simp⟩
  | some s, ⟨b, GQ, hp⟩ =>
    subst GQ;have t : s.Ok := by obtain ⟨_, _, _, _, _, _, _, _, k⟩ := hp; exact k.ok
    have hV := H' t;rw [eP t] at hV;have Lu := jy (s := s);have H2 := jx t;refine az (3 :: 5 :: 6 :: 7 :: 8 :: 11 :: 12 :: 13 :: 14 :: 15 :: 16 :: 17 :: 18 :: 19 :: 20 :: 21 :: 22 :: 23 :: 24 :: 25 :: 26 :: 27 :: 28 :: 29 :: 30 :: 31 :: 32 :: 33 :: 34 :: 35 :: 36 :: 37 :: 38 :: 39 :: 40 :: 41 :: 42 :: 43 :: []) (fun g w' => ∃ (i : Nat) (v : Value) (f : List Nat), g 5 = .int .i64 i ∧ g 3 = v ∧ i ≤ (idx s).length ∧ Sl w' 1 v (uE s i).length (ints (uE s i)) f ∧ (∀ x, x ∈ f → w1.heap.size ≤ x) ∧ ae [] w1 w') (fun g _ => bw (idx s).length 5 g)
      ⟨0, _, [], by simp only [go_sem]; rfl, by simp only [go_sem], by omega, Sl.iW w1, by simp, ae.refl _ _⟩ fun g w2 P o => ?_
    obtain ⟨i, v, f, I, z, hi, hs, Z, M⟩ := P;refine aQ I ?_;refine cu (fun r => ?_) (fun Q => ?_)
    · have r : i < (idx s).length := by have : (i : Int) < (((eB (some s)).length : Nat) : Int) := by simpa using r
                                        omega
      obtain ⟨hj, DB⟩ := Af r;obtain ⟨gE, cE, hvE, R, hgE⟩ := (J.ab M).place (i := i) (by rw [H2]; exact r);cases hvE;rw [j6 t r] at R;have c1 : (0 : Int) ≤ (i : Int) ∧ (i : Int) < (((eB (some s)).length : Nat) : Int) := ⟨by omega, by omega⟩;refine eZ I (eq_true c1) @Int.toNat_natCast R ?_;refine aw (Qg ((hp.ab C).ab M) (xf hj)) ?_;rintro v5 w3 ⟨rfl, D⟩;have hrd := xg t hj;generalize N : s.V.getD ((idx s).getD i 0) 0 = x at *;have Td := AI s i;have E := hs.ab D;obtain ⟨av, cv, ev⟩ := E.val;refine aQ hrd ?_;refine az (7 :: 8 :: 23 :: 24 :: 25 :: 26 :: 27 :: 28 :: 29 :: 30 :: 31 :: 32 :: 33 :: 34 :: 35 :: 36 :: 37 :: []) (fun S w' => ∃ (k : Nat), S 8 = .int .i64 k ∧ S 7 = .bool (((uE s i).take k).contains x) ∧ k ≤ (uE s i).length ∧ ae [] w3 w') (fun S _ => bw (uE s i).length 8 S)
        ⟨0, by simp only [go_sem]; rfl, by simp only [go_sem]; rfl, by omega, ae.refl _ _⟩ fun S w4 P F => ?_
      obtain ⟨k, T, B, hk, l⟩ := P;rw [ev] at z;refine aZ T z ?_;refine cu (fun j => ?_) (fun U => ?_)
      · have j : k < (uE s i).length := by simpa using j
        rw [ev] at E;obtain ⟨p0, V, W⟩ := (E.ab l).rd.get (i := k) j;have c2 : (0 : Int) ≤ (k : Int) ∧ (k : Int) < ((uE s i).length : Int) := ⟨by omega, by omega⟩;have key : ∀ bb, ((uE s i).take (k + 1)).contains x = bb → ∀ u G, cw _ _ u → u 8 = .int .i64 ((k + 1 : Nat) : Int) → u 7 = .bool bb → ae [] w3 G → dr Tryz.prog eH _ u G _ := fun bb hbb u G hK X h7' ho' => F u G ⟨k + 1, X, by rw [h7', hbb], by omega, ho'⟩ (by rw [dM T, dM X]; omega) hK;cases d : ((uE s i).take k).contains x with
        | true =>
          rw [d] at B;refine eZ T B z (au k (by omega)) ?_;refine key true ?_ _ w4 (by (repeat (first | with_reducible exact GK | with_reducible exact cw.xF _ _ _ | refine cw.put ?_ rfl _ | exact GK | exact cw.xF _ _ _ | refine cw.En ?_ rfl _))) (by simp only [go_sem]) (by simp only [go_sem]) l;rw [bY j, d]; rfl
        | false =>
          rw [d] at B;by_cases H : (uE s i).getD k 0 = x
          · refine EM T B z V (eq_true c2) @Int.toNat_natCast @Nat.mul_one W (cZ H) (au k (by omega)) ?_;refine key true ?_ _ w4 (by (repeat (first | with_reducible exact GK | with_reducible exact cw.xF _ _ _ | refine cw.put ?_ rfl _ | exact GK | exact cw.xF _ _ _ | refine cw.En ?_ rfl _))) (by simp only [go_sem]) (by simp only [go_sem]) l;rw [bY j, d, H]; simp
          · refine EM T B z V (eq_true c2) @Int.toNat_natCast @Nat.mul_one W (cU H) (au k (by omega)) ?_;refine key false ?_ _ w4 (by (repeat (first | with_reducible exact GK | with_reducible exact cw.xF _ _ _ | refine cw.put ?_ rfl _ | exact GK | exact cw.xF _ _ _ | refine cw.En ?_ rfl _))) (by simp only [go_sem]) (by simp only [go_sem]) l;rw [bY j, d]; simpa using fun e => H e.symm
      · have : k = (uE s i).length := by have : ¬ (k < (uE s i).length) := by simpa using U
                                         omega
        subst this;rw [List.take_length] at B;have K := E.ab l;cases d : (uE s i).contains x with
        | true =>
          rw [d] at B;refine cT B I (au i (by omega)) ?_;refine o _ w4 ⟨i + 1, v, f, ?_, ?_, by omega, by rw [y' r, N, dC, if_pos d]; exact K, Z, (M.nil D).nil l⟩ ?_
          · simp only [go_sem]
          · simp only [go_sem, z, ev]
          · exact aJ I
        | false =>
          rw [d] at B;rw [ev] at K;refine aZ B z ?_;rw [ag rfl rfl];refine gO ?_;refine eJ fun q w5 hq qm Y L => ?_;refine aQ z ?_;refine eM (K.ab L) (bn.at Y rfl) (by simp [bh]) (by omega) (by omega) ?_;intro v6 w6 f6 oO FP lZ _;have JI := M.size;have P5 := D.size;have Jw := l.size;have S9 := L.size;refine aZ I (au i (by omega)) ?_;refine o _ w6 ⟨i + 1, v6, f6, ?_, ?_, by omega, by rw [y' r, N, dC, if_neg (by rw [d]; simp), cH, ba]; exact oO, ?_, (((M.nil D).nil l).nil L).trans lZ fun x N => .inr (Z x N)⟩ ?_
          · simp only [go_sem]
          · simp only [go_sem]
          · intro y hy;rcases FP with rfl | rfl
            · exact Z y hy
            · simp only [aK] at hy; omega
          · exact aJ I
    · have Q : ¬ (i : Int) < (((eB (some s)).length : Nat) : Int) := by simpa using Q
      have : i = (idx s).length := by omega
      rw [this, IE t] at hs;refine aQ z ?_;exact ⟨C.nil M, f, hs, fun x N => by have := Z x N; have := C.size; omega⟩
end Rt
end
namespace Rt
end Rt
section
section
variable {P:Program} {rest:List XO} {t:XT} {ρ:Env} {w w0:World} {C:Env→World→Prop} {d:Option Nat} {L:List Nat} {fl:Bool}
theorem VH {b c:Bool} {x:XB} (j:b=true→GH P (.bool true) c d x rest ρ w C) (k:b=false→GH P (.bool false) c d x rest ρ w C):GH P (.bool b) c d x rest ρ w C:=by
 cases b with
 |true=>exact j rfl
 |false=>exact k rfl
theorem VI {b c:Bool} {x:XB} (j:b=true→Ht P L w0 (.bool true) c d x t ρ w C) (k:b=false→Ht P L w0 (.bool false) c d x t ρ w C):Ht P L w0 (.bool b) c d x t ρ w C:=by
 cases b with
 |true=>exact j rfl
 |false=>exact k rfl
theorem VJ {b c:Bool} {x:XB} (j:b=true→Hu P fl L w0 (.bool true) c d x t ρ w C) (k:b=false→Hu P fl L w0 (.bool false) c d x t ρ w C):Hu P fl L w0 (.bool b) c d x t ρ w C:=by
 cases b with
 |true=>exact j rfl
 |false=>exact k rfl
theorem VK {f:FX} {b:Bool} {x y:bu} {kx:List XI} {R:Value→World→Prop} (d:b=true→dr P f (.code x::kx) ρ w R) (j:b=false→dr P f (.code y::kx) ρ w R):nA P f (.bool b) x y kx ρ w R:=cu d j
end
theorem kY {cs vs:List Value} {off n:Nat} {r:List (Nat×Nat×Value)} (b:vs.length=n) (d:Nat.ble (off+n) cs.length=true):dQ cs ((off,n,.agg ⟨vs⟩)::r)=dQ (dU cs off vs) r:=by
 have j:(Value.agg ⟨vs⟩).cells.size=n∧off+n≤cs.length:=⟨by show(⟨vs⟩:Array Value).size=n;simpa using b,Nat.le_of_ble_eq_true d⟩;rw[dQ];exact if_pos j
theorem List.gX {α:Type} {xs ys:List α} (d:α) (j:xs.length=ys.length) (h: ∀i,i<xs.length→xs.getD i d=ys.getD i d):xs=ys:=by
 apply List.ext_getElem j;intro i b k;have:=h i b;simpa[List.getD_eq_getElem?_getD,b,k]using this
end
section
section
variable {P:Program} {t et:TypeId} {w:World} {g o n cap:Nat} {vs:List Value} {z:Value}
theorem uG (z:Value) (n:Nat):(Builtin.zeroCells #[z] n).toList=List.replicate n z:=by
 apply List.ext_getElem
 ·simp[Builtin.zeroCells]
 ·intro i b d;simp[Builtin.zeroCells,Nat.mod_one]
theorem za: ∀(n o:Nat) (vs:List Value),o+n≤vs.length→dU vs o (List.replicate n z)=vs.take o++List.replicate n z++vs.drop (o+n)
 |0,o,vs,_=>by simp[dU]
 |n+1,o,vs,h=>by
  rw[List.replicate_succ,dU,za n (o+1) (vs.set o z) (by simp;omega)]
  have b:(vs.set o z).take (o+1)=vs.take o++[z]:=by
   rw[List.take_add_one,List.take_set_of_le (Nat.le_refl o)];simp[show o<vs.length by omega]
  have d:(vs.set o z).drop (o+1+n)=vs.drop (o+(n+1)):=by
   rw[List.drop_set_of_lt (by omega),show o+1+n=o+(n+1) by omega]
  rw[b,d];simp
theorem AJ {ty:TypeId} (d:P.underlying t=some (.slice et)) (l:(zeroValue et).run P w=.ok z w) (j:bh z=true) (h:At w g vs) (k:o+n≤vs.length):
  ∃w',(Builtin.clear_ #[t] ty #[.slice (some ⟨g,o,none⟩) n cap]).run P w=.ok (.tuple #[]) w'∧w'.heap.size=w.heap.size∧At w' g (vs.take o++List.replicate n z++vs.drop (o+n))∧ae [g] w w':=by
 obtain⟨T,m⟩:=h;have b: ∀u,u∈List.replicate n z→bh u=true:=fun u q=>by rw[(List.mem_replicate.1 q).2];exact j
 obtain⟨r,y,B,C⟩:=fY (off:=o) (List.replicate n z) 0 w vs m (by simpa using k) b;refine⟨World.setCells w ⟨g,o,none⟩ (List.replicate n z) 0,?_,C,⟨T,?_⟩,B⟩
 ·cases n with
  |zero=>simp[Builtin.clear_,bc d,World.setCells]
  |succ n=>
   have e:=dJ (P:=P) (p:=⟨g,o,none⟩) (List.replicate (n+1) z) 0 w r;have D:(Builtin.zeroCells z.cells (n+1)).toList=List.replicate (n+1) z:=by rw[(oV j).2];exact uG z (n+1)
   simp[Builtin.clear_,bc d,l,D,e]
 ·rw[y,Nat.add_zero,za n o vs k]
theorem AK {d:Option Nat} {rest:List XO} {ρ:Env} {C:Env→World→Prop} (b:P.underlying t=some (.slice et)) (j:(zeroValue et).run P w=.ok z w) (l:bh z=true) (h:At w g vs) (m:o+n≤vs.length)
  (k: ∀w',w'.heap.size=w.heap.size→At w' g (vs.take o++List.replicate n z++vs.drop (o+n))→ae [g] w w'→VO P rest (bo ρ d (.tuple #[])) w' C):kJ P (Builtin.clear_ #[t] 0 #[.slice (some ⟨g,o,none⟩) n cap]) d rest ρ w C:=by
 obtain⟨w',q,r,u,y⟩:=AJ (P:=P) (ty:=0) (cap:=cap) b j l h m;exact runT q (k w' r u y)
end
def kc (W:List Int) (a n:Nat):List Int:=W.take a++List.replicate n 0++W.drop (a+n)
theorem np {W:List Int} {a n:Nat} (h:a+n≤W.length):(kc W a n).length=W.length:=by simp[kc];omega
theorem kZ {W:List Int} {a n:Nat} (h:a+n≤W.length) (i:Nat):(kc W a n).getD i 0=if a≤i∧i<a+n then 0 else W.getD i 0:=by
 unfold kc;simp only[List.getD_eq_getElem?_getD];by_cases b:i<a
 ·rw[if_neg (by omega),List.append_assoc,List.getElem?_append_left (by simp;omega),List.getElem?_take,if_pos b]
 ·by_cases d:i<a+n
  ·rw[if_pos ⟨by omega,d⟩,List.append_assoc,List.getElem?_append_right (by simp;omega),List.getElem?_append_left (by simp;omega)];simp only[List.length_take];rw[List.getElem?_replicate,if_pos (by omega)];rfl
  ·rw[if_neg (by omega),List.getElem?_append_right (by simp;omega),List.getElem?_drop];congr 2;simp;omega
def dh (m:HO) (x:Int):HO:=match m with
 |none=>none
 |some s=>if cK (some s) x=0 then some {s with W:=kc s.W x.toNat (s.size x.toNat).toNat,st:=s.st.set (x.toNat/2) 0,pn:=s.pn.set (x.toNat/2) 0,pl:=iv s.pl (s.W.getD x.toNat 0)}else some s
def iL (m:HO) (x:Int) (v:Nat):HO:=match m with
 |none=>none
 |some s=>if cK (some s) x=0 then some {s with pn:=s.pn.set (x.toNat/2) v}else some s
def pZ (m:HO) (x:Int):Bool:=match m with
 |none=>false
 |some s=>bE (some s) x&&s.pins.get (x/2)==1
def dv (m:HO) (x:Int):Int×Int:=match m with
 |none=>(0,5)
 |some s=>if cK (some s) x=0 then(s.W.getD x.toNat 0,0)else(0,cK (some s) x)
def tQ (m:HO) (a i:Int):Int×Int:=match m with
 |none=>(0,5)
 |some s=>if(br m a i true).2=0 then(s.W.getD (br m a i true).1.toNat 0,0)else(0,(br m a i true).2)
def JN (m:HO):Nat:=match m with|none=>0|some s=>s.born
theorem xh {m:HO} {x:Int} (h:cK m x=0): ∃s,m=some s∧bE (some s) x=true:=by
 cases m with
 |none=>cases h
 |some s=>
  cases b:bE (some s) x with
  |true=>exact⟨s,rfl,b⟩
  |false=>simp[cK,b]at h
theorem HL.Ok.kill {s:HL} (h:s.Ok) {i:Nat} (y:s.st.getD i 0=1) {pn:List Nat} {pl:IM} (G:pn.length=32*s.B.length):HL.Ok {s with W:=kc s.W (2*i) (s.size (2*i)).toNat,st:=s.st.set i 0,pn:=pn,pl:=pl}:=by
 obtain⟨M,N,O,_⟩:=h.sz y;have t:2*i+(s.size (2*i)).toNat≤s.W.length:=by omega
 have u: ∀j,(s.st.set i 0).getD j 0=1→j≠i∧s.st.getD j 0=1:=by
  intro j l;by_cases e:j=i
  ·subst e;simp only[List.getD_eq_getElem?_getD]at l;by_cases E:j<s.st.length
   ·rw[List.getElem?_set_self E]at l;cases l
   ·rw[List.getElem?_eq_none (by simpa using E)]at l;cases l
  ·refine⟨e,?_⟩;simp only[List.getD_eq_getElem?_getD]at l⊢;rw[List.getElem?_set_ne (fun h=>e h.symm)]at l;exact l
 have F: ∀j,j≠i→s.st.getD j 0=1→(kc s.W (2*i) (s.size (2*i)).toNat).getD (2*j+1) 0=s.W.getD (2*j+1) 0:=by
  intro j m l;rw[kZ t,if_neg];have:=(h.sz l).1;rcases Nat.lt_or_ge i j with w|w
  ·have:=h.dj i j y l w;omega
  ·have:=h.dj j i l y (by omega);omega
 have z: ∀j,j≠i→s.st.getD j 0=1→HL.size {s with W:=kc s.W (2*i) (s.size (2*i)).toNat,st:=s.st.set i 0,pn:=pn,pl:=pl} (2*j)=s.size (2*j):=by
  intro j m l;show aE (du ((kc s.W (2*i) (s.size (2*i)).toNat).getD (2*j+1) 0))=_;rw[F j m l];rfl
 refine⟨h.b2,h.jd,by simp only;rw[np t];exact h.wl,by simpa using h.sl,G,fun j l=>?_,fun j k l H C=>?_⟩
 ·obtain⟨m,o⟩:=u j l;obtain⟨r,d,q,I,J,K⟩:=h.fit j o;exact⟨r,d,q,I,by simp only;rw[F j m o];exact J,by simp only;rw[np t];exact K⟩
 ·obtain⟨m,o⟩:=u j l;obtain⟨L,D⟩:=u k H;rw[z j m o];exact h.dj j k o D C
theorem Mu {w:World} {b d cW i:Nat} {l:Value} {cs:List Value} {W:List Int} {yW:List Value} (m:At w b (l::.slice (some ⟨d,0,none⟩) W.length cW::cs)) (o:At w d (ints W++yW)) (q:2*i+1<W.length) (C:W.length≤4096) (r:0≤W.getD (2*i+1) 0) (t:W.getD (2*i+1) 0≤100000):
  Cs Tryz.prog 254 [.pointer (some ⟨b,0,none⟩),.int .i64 ((2*i:Nat):Int)] w fun v w'=>v=.int .i64 (aE (du (W.getD (2*i+1) 0)))∧ae [] w w':=by
 have u:IntKind.i64.wrap (((2*i:Nat):Int)+1)=((2*i+1:Nat):Int):=au _ (by omega);have y:(0:Int)≤((2*i+1:Nat):Int)∧((2*i+1:Nat):Int)<(W.length:Int):=⟨by omega,by omega⟩;have z:w.cell? ⟨d,2*i+1,none⟩=some (.int .i64 (W.getD (2*i+1) 0)):=by rw[o.cell,aG yW q]
 refine en [] ?_;refine k0 m.cell u (eq_true y) @Int.toNat_natCast @Nat.mul_one z ?_;refine aM (sF w _ r t) fun B j=>?_;refine gO ?_;refine aM (tr B _) fun D k=>?_;refine gO ?_;exact j.nil k
theorem C7 {W:List Int} {a n:Nat} (yW:List Value) (h:a+n≤W.length):(ints W++yW).take a++List.replicate n (Value.int .i64 0)++(ints W++yW).drop (a+n)=ints (kc W a n)++yW:=by
 have b:(ints W).length=W.length:=ax W;rw[List.take_append_of_le_length (by omega),List.drop_append_of_le_length (by omega)];simp[kc,ints,List.map_take,List.map_drop,List.append_assoc]
theorem Qm {w:World} {b d cW a n:Nat} {m:Value} {cs:List Value} {W:List Int} {yW:List Value} (o:At w b (m::.slice (some ⟨d,0,none⟩) W.length cW::cs)) (q:At w d (ints W++yW)) (u:W.length≤cW) (r:a+n≤W.length) (y:W.length≤4096) (z:a<W.length):
  Cs Tryz.prog 253 [.pointer (some ⟨b,0,none⟩),.int .i64 ((a:Nat):Int),.int .i64 ((n:Nat):Int)] w fun v w'=>v=.tuple #[]∧w'.heap.size=w.heap.size∧At w' d (ints (kc W a n)++yW)∧ae [d] w w':=by
 have t:IntKind.i64.wrap ((a:Int)+(n:Int))=((a+n:Nat):Int):=by rw[IntWalk.i64_in _ (by omega)];omega
 refine en [] ?_;refine aZ o.cell t ?_;rw[sD (show a≤a+n by omega) (by omega) (by omega)];refine eZ @bQ @Nat.zero_add @Nat.mul_one (show a+n-a=n by omega) ?_;refine AK Tryz.underlying35 (Tryz.zeroValue3 w) rfl q (by rw[cH,ax];omega) fun B j l k=>?_;rw[C7 yW r]at l;refine gO ?_;exact⟨j,l,k⟩
end
section
set_option maxRecDepth 8000
variable {m:HO} {fp l:List Nat} {b:Nat} {a:Option Addr} {w:World}
theorem HR.intro {s:HL} {d j t cW:Nat} {yB yW:List Value} {k l m o q r:Nat} (h:rv w b s d j t cW yB yW k l m o q r):HR w (some ⟨b,0,none⟩) [b,d,j,k,l,m,o,q,r] (some s):=
 ⟨b,rfl,d,j,t,cW,yB,yW,k,l,m,o,q,r,rfl,h⟩
theorem gD {x y z:Nat} (b:x≠y) (d:x≠z):x∉ [y,z]:=by simpa using⟨b,d⟩
theorem IG {k:Nat} {v:Nat} (d:k<l.length) (m:v≤1):MT.cS (some (1,l)) (k:Int) (v:Int)=some (1,l.set k v):=by
 have j:hasB l.length (k:Int)=true:=nc d;have b:MT.check (some (1,l)) (k:Int) [(v:Int)]=0:=by
  simp only[MT.check,j];have:v=0∨v=1:=by omega
  rcases this with rfl|rfl<;>rfl
 simp only[MT.cS,b,if_true,c9]
theorem xi {g n:Nat} (h:gZ w b g n 1 l) (k v:Nat) (m:k<n) (o:v≤1):Cs Tryz.prog 220 [.pointer (some ⟨b,0,none⟩),.int .i64 (k:Int),.int .i64 (v:Int)] w fun r w'=>(∃e,r=.int .i64 e)∧gZ w' b g n 1 (l.set k v)∧ae [b,g] w w':=by
 refine(yP (iF.mk h) (k:Int) (v:Int)).mono ?_;rintro r w' ⟨rfl,d,q⟩;rw[IG (by rw[h.len];exact m) o]at d;obtain⟨z,t,u,y,j⟩:=d;cases u;have e:t=g:=by simpa using y.symm
 subst e;refine⟨⟨_,rfl⟩,?_,q⟩;have:(l.set k v).length=n:=by simpa using h.len
 rw[this]at j;exact j
theorem Qo (h:HR w a fp m) (x:Int) (v:Nat) (u:v≤1) (y:x≤4611686018427387904):Cs Tryz.prog 259 [.pointer a,.int .i64 x,.int .i64 (v:Int)] w fun r w'=>r=.int .i64 (cK m x)∧HR w' a fp (iL m x v)∧ae fp w w':=by
 refine en [] ?_;refine gO ?_;refine aM (pU h x y) fun w1 k=>?_;by_cases o:cK m x=0;rotate_left
 ·refine aQ (eE o) ?_;have q:iL m x v=m:=by
   cases m with
   |none=>rfl
   |some s=>unfold iL;simp only[o,if_false]
  rw[q];exact⟨h.ab k,k.of_nil⟩
 obtain⟨s,rfl,B⟩:=xh o;obtain⟨b,rfl,C,D,cB,cW,yB,yW,E,F,G,H,I,J,K,d⟩:=h;obtain⟨i,rfl,L⟩:=iw d.ok B;have M:=(d.ok.start L).1;have N:=d.ok.sl;have O:=d.ok.pl;have hB:=d.ok.jd;have l:=d.ab k;have P:IntKind.i64.wrap (((2*i:Nat):Int).tdiv 2)=(i:Int):=by rw[ry _ (by omega)];omega
 obtain⟨⟨n1,n2,n3,n4,Q,R,n7,n8⟩,⟨m2,m3,m4,S,U,m7,m8⟩,⟨p3,p4,V,W,p7,p8⟩,⟨r4,X,Y,r7,r8⟩,⟨Z,t6,t7,t8⟩,⟨u6,u7,u8⟩,⟨v7,v8⟩,y8⟩:=NG d.nd;refine cT (dg o) l.hb.cell P ?_;refine aw (xi l.hp i v (by omega) u) ?_;rintro r w2 ⟨⟨e,rfl⟩,t,j⟩;refine gO ?_;have q:iL (some s) ((2*i:Nat):Int) v=some {s with pn:=s.pn.set i v}:=by
  unfold iL;simp only[o,if_true,c9,Nat.mul_div_cancel_left i (show 0<2 by omega)]
 rw[q,o];subst K;refine⟨rfl,HR.intro (yB:=yB) (yW:=yW) (cW:=cW) ⟨?_,?_,?_,?_,d.cB,d.cW,?_,?_,?_,?_,d.nd⟩,?_⟩
 ·exact⟨d.ok.b2,d.ok.jd,d.ok.wl,d.ok.sl,by simpa using d.ok.pl,d.ok.fit,d.ok.dj⟩
 ·exact l.hb.keep j (gD Q R)
 ·exact l.hB.keep j (gD S U)
 ·exact l.hW.keep j (gD V W)
 ·exact l.hs.keep j (gD X Y) (gD Z t6)
 ·simpa using t
 ·exact l.hl.keep j (gD u7.symm v7.symm)
 ·exact l.hf.keep j (gD u8.symm v8.symm)
 ·exact(k.of_nil (T:=[b,C,D,E,F,G,H,I,J])).trans j fun z hz=>.inl (by simp only[List.mem_cons,List.not_mem_nil,or_false]at hz⊢;omega)
theorem VL (h:HR w a fp m) (x:Int) (d:x≤4611686018427387904):Cs Tryz.prog 84 [.pointer a,.int .i64 x] w fun r w'=>r=.int .i64 (cK m x)∧HR w' a fp (iL m x 1)∧ae fp w w':=by
 refine en [] ?_;refine gO ?_;refine aw (Qo h x 1 (by omega) d) ?_;rintro r k ⟨rfl,j,b⟩;refine gO ?_;exact⟨j,b⟩
theorem BI (h:HR w a fp m) (x:Int) (q:x≤4611686018427387904):Cs Tryz.prog 108 [.pointer a,.int .i64 x] w fun r w'=>r=.bool (pZ m x)∧ae [] w w':=by
 refine en [] ?_;refine gO ?_;refine aM (yS h x q) fun u d=>?_;cases j:bE m x with
 |false=>
  refine gO ?_;refine⟨?_,d⟩;cases m with
  |none=>rfl
  |some s=>simp[pZ,j]
 |true=>
  cases m with
  |none=>cases j
  |some s=>
   obtain⟨b,rfl,y,z,B,cW,yB,yW,C,D,E,F,G,H,I,l⟩:=h;obtain⟨i,rfl,J⟩:=iw l.ok j;have o:=l.ab d;have t:IntKind.i64.wrap (((2*i:Nat):Int).tdiv 2)=(i:Int):=by rw[ry _ (by omega)];omega
   refine aZ o.hb.cell t ?_;refine aM (uV (iF.mk o.hp) (i:Int)) fun K k=>?_;refine gO ?_;refine⟨?_,d.nil k⟩;unfold pZ;simp only[j,Bool.true_and];rw[show((2*i:Nat):Int)/2=(i:Int) by omega];rfl
theorem AL (h:HR w a fp m) (x:Int) (o:x≤4611686018427387904):Cs Tryz.prog 92 [.pointer a,.int .i64 x] w fun r w'=>r=.tuple #[.int .i64 (dv m x).1,.int .i64 (dv m x).2]∧ae [] w w':=by
 refine en [] ?_;refine gO ?_;refine aM (pU h x o) fun y d=>?_;by_cases j:cK m x=0;rotate_left
 ·refine aQ (eE j) ?_;refine⟨?_,d⟩;cases m with
  |none=>rfl
  |some s=>simp[dv,j]
 obtain⟨s,rfl,q⟩:=xh j;obtain⟨b,rfl,z,B,C,cW,yB,yW,D,E,F,G,H,I,J,k⟩:=h;obtain⟨i,rfl,t⟩:=iw k.ok q;have K:=(k.ok.start t).2.1;have l:=k.ab d;have u:(0:Int)≤((2*i:Nat):Int)∧((2*i:Nat):Int)<(s.W.length:Int):=⟨by omega,by omega⟩;refine k0 (dg j) l.hb.cell (eq_true u) @Int.toNat_natCast @Nat.mul_one (l.tM (show 2*i<s.W.length by omega)) ?_;refine⟨?_,d⟩;simp only[dv,j,if_true,c9]
theorem Qp (h:HR w a fp m) (x i:Int) (u:x≤4611686018427387904):Cs Tryz.prog 111 [.pointer a,.int .i64 x,.int .i64 i] w fun v w'=>v=.tuple #[.int .i64 (tQ m x i).1,.int .i64 (tQ m x i).2]∧ae [] w w':=by
 refine en [] ?_;refine gO ?_;refine aM (AB h x i true u) fun z d=>?_;by_cases j:(br m x i true).2=0;rotate_left
 ·refine aQ (eE j) ?_;refine⟨?_,d⟩;cases m with
  |none=>rfl
  |some s=>simp[tQ,j]
 cases m with
 |none=>cases j
 |some s=>
  obtain⟨b,rfl,B,C,D,cW,yB,yW,E,F,G,H,I,J,K,q⟩:=h;obtain⟨o,k,_,_,r,_,_,l⟩:=fS q.ok j;have t:=q.ab d;have y:(0:Int)≤(k:Int)∧(k:Int)<(s.W.length:Int):=⟨by omega,by omega⟩;refine k7 (dg j) t.hb.cell r (eq_true y) @Int.toNat_natCast @Nat.mul_one (t.tM l) ?_;refine⟨?_,d⟩;simp only[tQ,j,if_true,r,c9]
theorem IH (h:HR w a fp m):Cs Tryz.prog 105 [.pointer a] w fun v w'=>v=.int .i64 (JN m:Nat)∧w'=w:=by
 refine en [] ?_;refine gO ?_;refine aH (mH h) ?_
 match m,h with
 |none,h=>(repeat(first|with_reducible(first|refine nx ?_|refine bA rfl ?_)|simp only[go_sem]));rfl
 |some s,⟨b,d,k,l,o,cW,yB,yW,q,r,t,u,y,z,B,j⟩=>
  subst d;refine aQ j.hb.cell ?_;rfl
theorem EW (h:HR w a fp m) (x:Int) (hx:x≤4611686018427387904):Cs Tryz.prog 79 [.pointer a,.int .i64 x] w fun r w'=>r=.int .i64 (cK m x)∧HR w' a fp (dh m x)∧ae fp w w':=by
 refine en [0] ?_;refine gO ?_;refine aM (pU h x hx) fun R y=>?_;by_cases E:cK m x=0;rotate_left
 ·refine aQ (eE E) ?_;have K:dh m x=m:=by
   cases m with
   |none=>rfl
   |some s=>unfold dh;simp only[E,if_false]
  rw[K];exact⟨h.ab y,y.of_nil⟩
 obtain⟨s,rfl,hh⟩:=xh E;obtain⟨b,rfl,S,U,cB,cW,yB,yW,V,X,Y,Z,bl,bf,h2,l⟩:=h;obtain⟨i,rfl,L⟩:=iw l.ok hh;obtain⟨wg,hl,r,d,k,k1,k2,k3,k4,k5,k6⟩:=l.ok.start L;obtain⟨g1,g2,g3,_⟩:=l.ok.sz L;have EZ:=l.ok.sl;have H2:=l.ok.pl;have OL:=l.ok.wl;have hB:=l.ok.jd;have B:=(l.ab y).ab (ae.drew [] R);have e2:(0:Int)≤((2*i:Nat):Int)∧((2*i:Nat):Int)<(s.W.length:Int):=⟨by omega,by omega⟩;have e3:IntKind.i64.wrap (((2*i:Nat):Int).tdiv 2)=(i:Int):=by rw[ry _ (by omega)];omega
 obtain⟨⟨n1,n2,n3,n4,n5,n6,n7,n8⟩,⟨m2,m3,m4,m5,m6,m7,m8⟩,⟨p3,p4,p5,p6,p7,p8⟩,⟨r4,r5,r6,r7,r8⟩,⟨t5,t6,t7,t8⟩,⟨u6,u7,u8⟩,⟨v7,v8⟩,y8⟩:=NG l.nd;refine k0 (dg E) B.hb.cell (eq_true e2) @Int.toNat_natCast @Nat.mul_one (B.tM (show 2*i<s.W.length by omega)) ?_;refine PY Tryz.underlying121 Tryz.underlying3 B.hl fun w2 yJ M o=>?_;have F:=B.hb.keep o (bg n7);refine aZ F.cell e3 ?_;refine aw (xi (B.hs.keep o (bg r7) (bg t7)) i 0 (by omega) (by omega)) ?_;rintro r1 w3 ⟨⟨e,rfl⟩,G,q⟩;have H:=F.keep q (gD n3 n4);refine aZ H.cell e3 ?_;refine aw (xi ((B.hp.keep o (bg u7) (bg v7)).keep q (gD r5.symm t5.symm) (gD r6.symm t6.symm)) i 0 (by omega) (by omega)) ?_;rintro r2 w4 ⟨⟨e',rfl⟩,N,t⟩;have C:=H.keep t (gD n5 n6);have I:=((B.hW.keep o (bg p7)).keep q (gD p3 p4)).keep t (gD p5 p6);refine gO ?_;refine aM (Mu C I hl (by omega) (by rw[k2];exact k4) (by rw[k2];exact k5)) fun w5 j=>?_;have O:aE (du (s.W.getD (2*i+1) 0))=s.size (2*i):=rfl;have P:s.size (2*i)=(((s.size (2*i)).toNat:Nat):Int):=by omega
 rw[O,P];refine gO ?_;refine aw (Qm (C.ab j) (I.ab j) l.cW (by omega) (by omega) (by omega)) ?_;rintro r3 w6 ⟨rfl,oO,Q,u⟩;refine gO ?_;have K:dh (some s) ((2*i:Nat):Int)=some {s with W:=kc s.W (2*i) (s.size (2*i)).toNat,st:=s.st.set i 0,pn:=s.pn.set i 0,pl:=iv s.pl (s.W.getD (2*i) 0)}:=by
  unfold dh;simp only[E,if_true,c9,Nat.mul_div_cancel_left i (show 0<2 by omega)]
 rw[K,E];subst h2;have J:2*i+(s.size (2*i)).toNat≤s.W.length:=by omega
 refine⟨rfl,HR.intro (yB:=yB) (yW:=yW) (cW:=cW) ⟨l.ok.kill L (by simpa using l.ok.pl),?_,?_,?_,l.cB,?_,?_,?_,?_,?_,l.nd⟩,?_⟩
 ·simp only[np J];exact(C.ab j).keep u (bg n2)
 ·exact((((B.hB.keep o (bg m7)).keep q (gD m3 m4)).keep t (gD m5 m6)).ab j).keep u (bg m2)
 ·exact Q
 ·simp only[np J];exact l.cW
 ·simp only[List.length_set];exact((G.keep t (gD r5 r6) (gD t5 t6)).keep j (by simp) (by simp)).keep u (bg p3.symm) (bg p4.symm)
 ·simp only[List.length_set];exact(N.keep j (by simp) (by simp)).keep u (bg p5.symm) (bg p6.symm)
 ·exact(((M.keep q (gD r7.symm t7.symm)).keep t (gD u7.symm v7.symm)).ab j).keep u (bg p7.symm)
 ·exact((((B.hf.keep o (bg y8.symm)).keep q (gD r8.symm t8.symm)).keep t (gD u8.symm v8.symm)).ab j).keep u (bg p8.symm)
 ·have o2:ae [b,S,U,V,X,Y,Z,bl,bf] w w2:=((y.nil (ae.drew [] R)).of_nil (T:=[b,S,U,V,X,Y,Z,bl,bf])).trans o fun z D=>.inl (by simp only[List.mem_cons,List.not_mem_nil,or_false]at D⊢;omega);have o3:=o2.trans q fun z D=>.inl (by simp only[List.mem_cons,List.not_mem_nil,or_false]at D⊢;omega);have o4:=o3.trans t fun z D=>.inl (by simp only[List.mem_cons,List.not_mem_nil,or_false]at D⊢;omega);exact(o4.nil j).trans u fun z D=>.inl (by simp only[List.mem_cons,List.not_mem_nil,or_false]at D⊢;omega)
end
section
variable {l:List Nat} {lo:Nat} {a:Option Addr} {w:World}
def AM (n:Nat) (t:Nat) (g:Env):Nat:=match g t with|.slice _ l _=>n-l|_=>0
theorem zb {n t:Nat} {g:Env} {l c:Nat} (h:g t=.slice a l c):AM n t g=n-l:=by unfold AM;rw[h]
def bk (l:List Nat) (lo b:Nat):List Nat:=(List.range b).filter fun j=>decide (lo≤j)&&decide (l.getD j 0=1)
theorem fR (l:List Nat) (lo k:Nat):bk l lo (k+1)=bk l lo k++(if lo≤k∧l.getD k 0=1 then [k]else []):=by
 unfold bk;rw[List.range_succ,List.filter_append];congr 1;by_cases h:lo≤k∧l.getD k 0=1
 ·rw[if_pos h];simp[h.1];simpa using h.2
 ·rw[if_neg h];simp;intro b;simpa using fun d=>h ⟨b,by simpa using d⟩
theorem qN {k i:Nat} (o:k≤i) (h: ∀j,k≤j→j<i→l.getD j 0≠1):bk l lo i=bk l lo k:=by
 obtain⟨d,rfl⟩: ∃d,i=k+d:=⟨i-k,by omega⟩
 induction d with
 |zero=>rfl
 |succ d m=>
  rw[show k+(d+1)=k+d+1 by omega,fR,if_neg,List.append_nil]
  ·exact m (by omega) fun j b q=>h j b (by omega)
  ·intro b;exact h (k+d) (by omega) (by omega) b.2
theorem kR (l:List Nat) (lo b:Nat):(bk l lo b).length≤b:=by
 unfold bk;have:=List.length_filter_le (fun j=>decide (lo≤j)&&decide (l.getD j 0=1)) (List.range b);simpa using this
theorem jA (l:List Nat) (lo:Nat):bk l lo lo=[]:=by
 unfold bk;rw[List.filter_eq_nil_iff];intro j b;have:=List.mem_range.1 b;simp;omega
theorem dL {b j:Nat}:j∈bk l lo b↔(lo≤j∧j<b)∧l.getD j 0=1:=by
 unfold bk;simp only[List.mem_filter,List.mem_range,Bool.and_eq_true,decide_eq_true_eq];omega
def fj (l:List Nat):List Int:=l.map fun i=>((2*i:Nat):Int)
theorem pt (l:List Nat):(fj l).length=l.length:=by simp[fj]
theorem rE (l m:List Nat):fj (l++m)=fj l++fj m:=by simp[fj]
def HL.aj (s:HL):List Nat:=bk s.st 0 s.st.length
def dX (m:HO):List Int:=match m with|none=>[]|some s=>fj s.aj
theorem AN (k:Nat):(MT.nF (some (1,l)) (k:Int) 1=none∧ ∀j,k≤j→l.getD j 0≠1)∨
  ∃i,MT.nF (some (1,l)) (k:Int) 1=some i∧k≤i∧i<l.length∧l.getD i 0=1∧ ∀j,k≤j→j<i→l.getD j 0≠1:=by
 by_cases h: ∃j,k≤j∧l.getD j 0=1
 ·obtain⟨i,⟨d,b⟩,u⟩: ∃i,(k≤i∧l.getD i 0=1)∧ ∀j,j<i→ ¬(k≤j∧l.getD j 0=1):=by
   obtain⟨j,r⟩:=h
   induction j using Nat.strongRecOn with
   |_ j y=>
    by_cases w: ∃m,m<j∧(k≤m∧l.getD m 0=1)
    ·obtain⟨m,d,b⟩:=w;exact y m d b
    ·exact⟨j,r,fun m d b=>w ⟨m,d,b⟩⟩
  have q:i<l.length:=by
   rcases Nat.lt_or_ge i l.length with t|t
   ·exact t
   ·rw[List.getD_eq_getElem?_getD,List.getElem?_eq_none t]at b;simp at b
  refine .inr ⟨i,?_,d,q,b,fun j z B C=>u j B ⟨z,C⟩⟩;unfold MT.nF;simp only;refine mF ?_ q fun j r=>?_
  ·simp only[Bool.and_eq_true,decide_eq_true_eq];omega
  ·have:=u j r;simp only[Bool.and_eq_false_iff,decide_eq_false_iff_not];by_cases o:k≤j
   ·right;intro e;exact this ⟨o,by omega⟩
   ·left;omega
 ·refine .inl ⟨?_,fun j d b=>h ⟨j,d,b⟩⟩;unfold MT.nF;simp only;refine j9 fun j r=>?_;simp only[Bool.and_eq_false_iff,decide_eq_false_iff_not];by_cases o:k≤j
  ·right;intro e;exact h ⟨j,o,by omega⟩
  ·left;omega
theorem zc {b:Nat} {s:HL} {W X Y cW:Nat} {yB yW:List Value} {Z sg pb pg bl bf:Nat} (h:rv w b s W X Y cW yB yW Z sg pb pg bl bf) (lo d:Nat) (M:lo≤d) (hhi:d≤4096):
  Cs Tryz.prog 122 [.pointer (some ⟨b,0,none⟩),.int .i64 ((2*lo:Nat):Int),.int .i64 ((2*d:Nat):Int)] w fun v w'=>ae [] w w'∧ ∃t,Sl w' 1 v (bk s.st lo d).length (ints (fj (bk s.st lo d))) t∧ ∀y,y∈t→w.heap.size≤y:=by
 have e3:IntKind.i64.wrap (((2*lo:Nat):Int).tdiv 2)=(lo:Int):=by rw[ry _ (by omega)];omega
 have EZ:=h.ok.sl;have hB:=h.ok.jd;refine en [] ?_;refine aZ h.hb.cell e3 ?_;refine aM (Fx (iF.mk h.hs) (lo:Int) 1) fun w1 N=>?_;refine gO ?_;refine az (7::8::9::20::21::22::23::24::25::26::27::28::29::30::31::32::33::34::35::36::37::38::39::40::41::42::[]) (fun g w'=> ∃k t,lo≤k∧k≤d∧g 8=.int .i64 (Fu (MT.nF (some (1,s.st)) (k:Int) 1))∧g 9=.int .i64 (MT.err (some (1,s.st)) (MT.nF (some (1,s.st)) (k:Int) 1))∧
   Sl w' 1 (g 7) (bk s.st lo k).length (ints (fj (bk s.st lo k))) t∧(∀y,y∈t→w.heap.size≤y)∧ae [] w w') (fun g _=>AM (d+1) 7 g)
  ⟨lo,[],Nat.le_refl _,M,by simp only[go_sem],by simp only[go_sem],by simp only[go_sem];rw[jA];exact Sl.iW _,by simp,N⟩ fun g w2 hI u=>?_
 obtain⟨k,t,GV,C,H,I,J,m,o⟩:=hI;rcases AN (l:=s.st) k with⟨K,r⟩|⟨i,K,O,Lu,P,r⟩
 ·have Q:MT.err (some (1,s.st)) none=4:=rfl;rw[K,Q]at I;refine aZ I (cU (show¬(4:Int)=0 by omega)) ?_;refine⟨o,t,?_,m⟩;rw[qN C fun j R _=>r j R];exact J
 ·have Q:MT.err (some (1,s.st)) (some i)=0:=rfl;have e8:Fu (some i)=(i:Int):=rfl;rw[K,Q]at I;rw[K,e8]at H;have em:IntKind.i64.wrap (2*(i:Int))=((2*i:Nat):Int):=by rw[IntWalk.i64_in _ (by omega)];omega
  refine eZ I H (cZ (rfl:(0:Int)=0)) em ?_;refine cu (fun z=>?_) (fun D=>?_)
  ·have z:i<d:=by
    have:((2*i:Nat):Int)<((2*d:Nat):Int):=by simpa using z
    omega
   refine aZ H em ?_;rw[ag rfl rfl];refine gO ?_;refine eJ fun q w3 hq qt E B=>?_;refine gO ?_;have hl:=kR s.st lo k;refine eM (J.ab B) (bn.at E rfl) (by simp[bh]) (by omega) (by omega) ?_;intro v4 w4 f4 F S T _;have U:ae [] w w4:=(o.nil B).trans T fun y L=>.inr (m y L);have ei:IntKind.i64.wrap ((i:Int)+1)=((i+1:Nat):Int):=au i (by omega);have V:=h.ab U;refine cT V.hb.cell H ei ?_;refine aM (Fx (iF.mk V.hs) ((i+1:Nat):Int) 1) fun w5 G=>?_;have eo:bk s.st lo (i+1)=bk s.st lo k++[i]:=by
    rw[fR,if_pos ⟨by omega,P⟩,qN O r]
   refine gO ?_;refine u _ w5 ⟨i+1,f4,by omega,z,?_,?_,?_,?_,U.nil G⟩ ?_
   ·simp only[go_sem]
   ·simp only[go_sem]
   ·simp only[go_sem];rw[eo];have:=F.ab G;simpa[fj,ints]using this
   ·intro y L;have:=o.size;have:=B.size;rcases S with rfl|rfl
    ·exact m y L
    ·simp only[aK]at L;omega
   ·obtain⟨a7,c7,e7⟩:=J.val;obtain⟨a4,c4,rfl⟩:=F.val;rw[zb e7,zb (a:=a4) (c:=c4) (by simp only[go_sem];rfl)];omega
  ·have D: ¬i<d:=by
    have: ¬((2*i:Nat):Int)<((2*d:Nat):Int):=by simpa using D
    omega
   refine gO ?_;refine⟨o,t,?_,m⟩;rw[qN C fun j R h2=>r j R (by omega)];exact J
theorem wL {fp:List Nat} {m:HO} (h:HR w a fp m):Cs Tryz.prog 27 [.pointer a] w fun v w'=>ae [] w w'∧ ∃j,Sl w' 1 v (dX m).length (ints (dX m)) j∧ ∀y,y∈j→w.heap.size≤y:=by
 refine en [] ?_;refine gO ?_;refine aH (mH h) ?_
 match m,h with
 |none,h=>(repeat(first|with_reducible(first|refine nx ?_|refine bA rfl ?_)|simp only[go_sem]));exact⟨ae.refl _ _,[],Sl.iW _,by simp⟩
 |some s,⟨b,k,z,B,C,cW,yB,yW,D,E,F,G,H,I,J,d⟩=>
  subst k;have l:=d.ok.sl;have o:=d.ok.wl;have K:=d.ok.jd;have q:((s.W.length:Nat):Int)=((2*s.st.length:Nat):Int):=by omega
  refine aZ d.hb.cell q ?_;refine aw (zc d 0 s.st.length (by omega) (by omega)) ?_;rintro v w' ⟨r,j,t,u⟩;refine gO ?_;exact⟨r,j,by simpa[dX,pt,HL.aj]using t,u⟩
end
section
variable {S fB fF fO fp:List Nat} {b i:Nat} {vB vF vO:Value} {w w':World}
structure Ob where
 a:Int
 id:Int
 sh:Sh
 rf:List Int
 dt:List Int
 pin:Bool
instance:Inhabited Ob:=⟨⟨0,0,(0,0,0),[],[],false⟩⟩
structure RL where
 B:List (Int×Int)
 O:List Ob
 F:List (Int×Int)
 born:Nat
structure Ob.Ok (n:Nat) (o:Ob):Prop where
 v:aS o.sh=true
 r:(o.rf.length:Int)=o.sh.1
 d:(o.dt.length:Int)=o.sh.2.1
 a0:0≤o.a
 a1:o.a+aE o.sh≤((64*n:Nat):Int)
structure RL.Ok (s:RL):Prop where
 b2:2≤s.B.length
 jd:s.B.length≤64
 ol:s.O.length≤2048
 ob: ∀o,o∈s.O→o.Ok s.B.length
def p9:List Ob→Int→Option Nat
 | [],_=>none
 |o::O,a=>if o.a=a then some 0 else(p9 O a).map (· +1)
theorem zd {O:List Ob} {a:Int} (h: ∀j,j<O.length→(O.getD j default).a≠a):p9 O a=none:=by
 induction O with
 |nil=>rfl
 |cons o O d=>
  have b:=h 0 (by simp);simp only[List.getD_cons_zero]at b;unfold p9;rw[if_neg b,d fun j k=>by have:=h (j+1) (by simpa using k);simpa using this];rfl
theorem ze {O:List Ob} {a:Int} (b:i<O.length) (e:(O.getD i default).a=a) (h: ∀j,j<i→(O.getD j default).a≠a):p9 O a=some i:=by
 induction O generalizing i with
 |nil=>simp at b
 |cons o O k=>
  unfold p9;cases i with
  |zero=>simp only[List.getD_cons_zero]at e;rw[if_pos e]
  |succ i=>
   have d:=h 0 (by omega);simp only[List.getD_cons_zero]at d;rw[if_neg d,k (i:=i) (by simpa using b) (by simpa using e) fun j l=>by have:=h (j+1) (by omega);simpa using this];rfl
theorem jK {O:List Ob} {a:Int} (h:p9 O a=some i):i<O.length∧(O.getD i default).a=a∧ ∀j,j<i→(O.getD j default).a≠a:=by
 induction O generalizing i with
 |nil=>cases h
 |cons o O d=>
  unfold p9 at h;split at h
  ·rename_i e;cases h;exact⟨by simp,by simpa using e,fun j b=>absurd b (by omega)⟩
  ·rename_i e;obtain⟨k,l,rfl⟩:=Option.map_eq_some_iff.1 h;obtain⟨m,q,r⟩:=d l;refine⟨by simpa using m,by simpa using q,fun j b=>?_⟩;cases j with
   |zero=>simpa using e
   |succ j=>have:=r j (by omega);simpa using this
def AO (o:Option Nat):Int:=match o with|some i=>i|none=> -1
def RL.ob (s:RL) (a:Int):Option Ob:=(p9 s.O a).map fun i=>s.O.getD i default
def RL.has (s:RL) (a:Int):Bool:=(p9 s.O a).isSome
def RL.f' (s:RL) (a:Int):Int:=if s.has a then 0 else 4
def RL.jL (s:RL) (a:Int):Sh×Int:=match s.ob a with|some o=>(o.sh,0)|none=>((0,0,0),4)
def RL.ft (s:RL) (b:Int):Int:=if 0≤b∧b<s.B.length then(s.B.getD b.toNat (0,0)).1 else-1
def RL.qO (s:RL) (b:Int):Int:=if 0≤b∧b<s.B.length then(s.B.getD b.toNat (0,0)).2 else-1
structure OM where
 o:Ob
 vr:Value
 vd:Value
 fr:List Nat
 fd:List Nat
instance:Inhabited OM:=⟨⟨default,.slice none 0 0,.slice none 0 0,[],[]⟩⟩
def wQ (o:Ob) (b d:Value):List Value:=[.int .i64 o.a,.int .i64 o.id,.int .i64 o.sh.1,.int .i64 o.sh.2.1,.int .i64 o.sh.2.2,b,d,.bool o.pin]
def OM.V (m:OM):List Value:=wQ m.o m.vr m.vd
theorem OM.kT (m:OM):m.V.length=8:=rfl
def gS (L:List OM):List Value:=L.flatMap OM.V
theorem gH (L:List OM):(gS L).length=L.length*8:=by
 induction L with
 |nil=>rfl
 |cons m L b=>simp only[gS,List.flatMap_cons,cH,List.length_cons,OM.kT]at b⊢;omega
theorem lF (L M:List OM):gS (L++M)=gS L++gS M:=by simp[gS]
theorem tR (L:List OM) (i:Nat):(gS L).drop (i*8)=gS (L.drop i):=by
 induction L generalizing i with
 |nil=>simp[gS]
 |cons m L b=>
  cases i with
  |zero=>simp
  |succ i=>
   have:gS (m::L)=m.V++gS L:=rfl;rw[this,show(i+1)*8=m.V.length+i*8 by rw[OM.kT];omega,List.drop_append];simp[b]
theorem zf (L:List OM) (i:Nat):(gS L).take (i*8)=gS (L.take i):=by
 induction L generalizing i with
 |nil=>simp[gS]
 |cons m L b=>
  cases i with
  |zero=>simp[gS]
  |succ i=>
   have:gS (m::L)=m.V++gS L:=rfl;have d:gS ((m::L).take (i+1))=m.V++gS (L.take i):=rfl;rw[this,show(i+1)*8=m.V.length+i*8 by rw[OM.kT];omega,List.take_append,List.take_of_length_le (by omega),d,←b];simp
theorem xj {L:List OM} (ys:List Value) (h:i<L.length):((gS L++ys).drop (i*8)).take 8=(L.getD i default).V:=by
 rw[List.drop_append_of_le_length (by rw[gH];omega),tR];have:L.drop i=L.getD i default::L.drop (i+1):=by
  rw[List.drop_eq_getElem_cons h];simp[h]
 rw[this];have e:gS (L.getD i default::L.drop (i+1))=(L.getD i default).V++gS (L.drop (i+1)):=rfl;rw[e,List.append_assoc,List.take_append_of_le_length (by rw[OM.kT];omega),List.take_of_length_le (by rw[OM.kT];omega)]
theorem mL {L:List OM} {j:Nat} (ys:List Value) (h:i<L.length) (b:j<8):(gS L++ys)[i*8+j]? =(L.getD i default).V[j]? :=by
 have:=xj ys h;rw[←this,List.getElem?_take,if_pos b,List.getElem?_drop]
theorem pA {L:List OM} (h: ∀m,m∈L→bh m.vr=true∧bh m.vd=true): ∀u,u∈gS L→bh u=true:=by
 intro u b;simp only[gS,List.mem_flatMap]at b;obtain⟨m,d,b⟩:=b;obtain⟨j,k⟩:=h m d;simp only[OM.V,wQ,List.mem_cons,List.not_mem_nil,or_false]at b;rcases b with rfl|rfl|rfl|rfl|rfl|rfl|rfl|rfl<;>first|rfl|exact j|exact k
def eF (L:List OM):List Nat:=L.flatMap fun m=>m.fr++m.fd
theorem fU (L M:List OM):eF (L++M)=eF L++eF M:=by simp[eF]
theorem ig {L:List OM} {m:OM} {x:Nat} (b:m∈L) (d:x∈m.fr∨x∈m.fd):x∈eF L:=by
 simp only[eF,List.mem_flatMap,List.mem_append];exact⟨m,b,d⟩
structure OM.ok (w:World) (m:OM):Prop where
 r:Sl w 1 m.vr m.o.rf.length (ints m.o.rf) m.fr
 d:Sl w 1 m.vd m.o.dt.length (ints m.o.dt) m.fd
theorem OM.ok.keep {m:OM} (h:m.ok w) (k:ae S w w') (j: ∀x,x∈m.fr∨x∈m.fd→x∉S):m.ok w':=⟨h.r.keep k fun x b=>j x (.inl b),h.d.keep k fun x b=>j x (.inr b)⟩
theorem OM.ok.ab {m:OM} (h:m.ok w) (k:ae [] w w'):m.ok w':=h.keep k fun _ _=>by simp
theorem OM.ok.one {m:OM} (h:m.ok w):bh m.vr=true∧bh m.vd=true:=⟨h.r.jH,h.d.jH⟩
structure lN (w:World) (b:Nat) (s:RL) (vB vO vF:Value) (fB fO fF:List Nat) (L:List OM):Prop where
 ok:s.Ok
 hb:At w b [vB,vO,vF,.int .i64 s.born]
 hB:Sl w 2 vB s.B.length (cG s.B) fB
 hO:Sl w 8 vO L.length (gS L) fO
 hF:Sl w 2 vF s.F.length (cG s.F) fF
 eq:s.O=L.map OM.o
 om: ∀m,m∈L→m.ok w
 nd:(b::(fB++(fO++(fF++eF L)))).Nodup
def FM (w:World) (b:Nat) (s:RL) (fp:List Nat):Prop:= ∃vB vO vF fB fO fF L,fp=b::(fB++(fO++(fF++eF L)))∧lN w b s vB vO vF fB fO fF L
theorem lN.keep {s:RL} {L:List OM} (h:lN w b s vB vO vF fB fO fF L) (k:ae S w w') (j: ∀x,x∈b::(fB++(fO++(fF++eF L)))→x∉S):lN w' b s vB vO vF fB fO fF L:=
 ⟨h.ok,h.hb.keep k (j b (by simp)),h.hB.keep k fun x d=>j x (by simp[d]),h.hO.keep k fun x d=>j x (by simp[d]),h.hF.keep k fun x d=>j x (by simp[d]),h.eq,
  fun m l=>(h.om m l).keep k fun x d=>j x (by have:=ig l d;simp[this]),h.nd⟩
theorem lN.ab {s:RL} {L:List OM} (h:lN w b s vB vO vF fB fO fF L) (k:ae [] w w'):lN w' b s vB vO vF fB fO fF L:=h.keep k fun _ _=>by simp
theorem FM.keep {s:RL} (h:FM w b s fp) (k:ae S w w') (d: ∀x,x∈fp→x∉S):FM w' b s fp:=by
 obtain⟨vB,vO,vF,fB,fO,fF,L,rfl,h⟩:=h;exact⟨vB,vO,vF,fB,fO,fF,L,rfl,h.keep k d⟩
theorem FM.ab {s:RL} (h:FM w b s fp) (k:ae [] w w'):FM w' b s fp:=h.keep k fun _ _=>by simp
theorem lN.lt {s:RL} {L:List OM} (h:lN w b s vB vO vF fB fO fF L): ∀x,x∈b::(fB++(fO++(fF++eF L)))→x<w.heap.size:=by
 intro x d;simp only[List.mem_cons,List.mem_append]at d;rcases d with rfl|d|d|d|d
 ·exact h.hb.lt
 ·exact h.hB.lt x d
 ·exact h.hO.lt x d
 ·exact h.hF.lt x d
 ·simp only[eF,List.mem_flatMap,List.mem_append]at d;obtain⟨m,j,d⟩:=d;rcases d with d|d
  ·exact(h.om m j).r.lt x d
  ·exact(h.om m j).d.lt x d
theorem FM.lt {s:RL} (h:FM w b s fp): ∀x,x∈fp→x<w.heap.size:=by
 obtain⟨vB,vO,vF,fB,fO,fF,L,rfl,h⟩:=h;exact h.lt
theorem FM.ok {s:RL} (h:FM w b s fp):s.Ok:=by
 obtain⟨vB,vO,vF,fB,fO,fF,L,rfl,h⟩:=h;exact h.ok
theorem lN.len {s:RL} {L:List OM} (h:lN w b s vB vO vF fB fO fF L):L.length=s.O.length:=by rw[h.eq,List.length_map]
theorem lN.lV {s:RL} {L:List OM} (h:lN w b s vB vO vF fB fO fF L) (d:i<L.length):s.O.getD i default=(L.getD i default).o:=by
 rw[h.eq];simp[d]
theorem lN.uP {s:RL} {L:List OM} (h:lN w b s vB vO vF fB fO fF L): ∃g cap ys,vB=.slice (some ⟨g,0,none⟩) s.B.length cap∧At w g (cG s.B++ys)∧fB=[g]∧s.B.length≤cap:=by
 rcases h.hB.2 with⟨_,m,_⟩|⟨g,cap,ys,T,d,j,k,o,l⟩
 ·have:=h.ok.b2;omega
 ·exact⟨g,cap,ys,d,⟨T,k⟩,j,l⟩
theorem lN.row {s:RL} {L:List OM} (h:lN w b s vB vO vF fB fO fF L) (m:0<L.length): ∃g cap ys,vO=.slice (some ⟨g,0,none⟩) L.length cap∧At w g (gS L++ys)∧fO=[g]∧L.length≤cap:=by
 rcases h.hO.2 with⟨_,o,_⟩|⟨g,cap,ys,T,d,j,k,q,l⟩
 ·omega
 ·exact⟨g,cap,ys,d,⟨T,k⟩,j,l⟩
theorem lN.C8 {s:RL} {L:List OM} (h:lN w b s vB vO vF fB fO fF L): ∃(a:Option Addr) (cap:Nat),vO=.slice a L.length cap:=h.hO.val
theorem fV {B:List (Int×Int)} (ys:List Value) (h:i<B.length):(cG B++ys)[i*2]? =some (.int .i64 (B.getD i (0,0)).1)∧(cG B++ys)[i*2+1]? =some (.int .i64 (B.getD i (0,0)).2):=by
 rw[List.getElem?_append_left (by rw[bJ];omega),List.getElem?_append_left (by rw[bJ];omega),Nat.mul_comm];exact jG h
end
section
set_option maxRecDepth 8000
variable {fp:List Nat} {b:Nat} {s:RL} {w:World}
theorem p' (h:FM w b s fp):Cs Tryz.prog 123 [.pointer (some ⟨b,0,none⟩)] w fun v w'=>v=.bool true∧w'=w:=by
 obtain⟨k,l,m,o,fO,q,L,_,h⟩:=h;have d:=h.ok.b2;obtain⟨g,cap,ys,rfl,j,_,_⟩:=h.uP;refine en [] ?_;(repeat(first|with_reducible(first|refine nx ?_|refine bA rfl ?_)|simp only[go_sem,h.hb.cell,aU (show(0:Int)<(s.B.length:Int) by omega)]))
theorem BJ (h:FM w b s fp):Cs Tryz.prog 411 [.pointer (some ⟨b,0,none⟩)] w fun v w'=>v=.int .i64 (s.B.length:Nat)∧w'=w:=by
 have d:=h;obtain⟨k,l,m,o,fO,q,L,_,h⟩:=h;obtain⟨g,cap,ys,rfl,j,_,_⟩:=h.uP;refine en [] ?_;refine gO ?_;refine aH (p' d) ?_;(repeat(first|with_reducible(first|refine nx ?_|refine bA rfl ?_)|simp only[go_sem,h.hb.cell]))
theorem AP (h:FM w b s fp) (k:Int):Cs Tryz.prog 412 [.pointer (some ⟨b,0,none⟩),.int .i64 k] w fun v w'=>v=.int .i64 (s.ft k)∧w'=w:=by
 have o:=h;obtain⟨r,t,u,y,fO,z,L,_,h⟩:=h;obtain⟨g,cap,ys,rfl,d,_,_⟩:=h.uP;refine en [] ?_;refine gO ?_;refine aH (p' o) ?_;by_cases j:k<0
 ·refine aQ (aU j) ?_;simp[RL.ft];omega
 obtain⟨i,rfl⟩: ∃i:Nat,k=i:=⟨k.toNat,by omega⟩;by_cases l:(s.B.length:Int)≤(i:Int)
 ·refine cT (aX j) h.hb.cell (aU l) ?_;simp[RL.ft];omega
 have q:i<s.B.length:=by omega
 have m:(0:Int)≤(i:Int)∧(i:Int)<(s.B.length:Int):=⟨by omega,by omega⟩;(repeat(first|with_reducible(first|refine nx ?_|refine bA rfl ?_)|simp only[go_sem,aX j,h.hb.cell,aX l,if_pos m,c9,d.cell,(fV ys q).1]));simp only[RL.ft,if_pos m,c9]
theorem Mv (h:FM w b s fp) (k:Int):Cs Tryz.prog 426 [.pointer (some ⟨b,0,none⟩),.int .i64 k] w fun v w'=>v=.int .i64 (s.qO k)∧w'=w:=by
 have o:=h;obtain⟨r,t,u,y,fO,z,L,_,h⟩:=h;obtain⟨g,cap,ys,rfl,d,_,_⟩:=h.uP;refine en [] ?_;refine gO ?_;refine aH (p' o) ?_;by_cases j:k<0
 ·refine aQ (aU j) ?_;simp[RL.qO];omega
 obtain⟨i,rfl⟩: ∃i:Nat,k=i:=⟨k.toNat,by omega⟩;by_cases l:(s.B.length:Int)≤(i:Int)
 ·refine cT (aX j) h.hb.cell (aU l) ?_;simp[RL.qO];omega
 have q:i<s.B.length:=by omega
 have m:(0:Int)≤(i:Int)∧(i:Int)<(s.B.length:Int):=⟨by omega,by omega⟩;(repeat(first|with_reducible(first|refine nx ?_|refine bA rfl ?_)|simp only[go_sem,aX j,h.hb.cell,aX l,if_pos m,c9,d.cell,(fV ys q).2]));simp only[RL.qO,if_pos m,c9]
theorem FQ (h:FM w b s fp) (k:Int):Cs Tryz.prog 424 [.pointer (some ⟨b,0,none⟩),.int .i64 k] w fun v w'=>v=.bool (decide (1≤k)&&decide (k<s.B.length))∧w'=w:=by
 obtain⟨l,m,o,q,fO,r,L,_,h⟩:=h;obtain⟨g,cap,ys,rfl,j,_,_⟩:=h.uP;refine en [] ?_;by_cases d:1≤k
 ·refine aZ (aU d) h.hb.cell ?_;simp[d]
 ·refine aZ (aX d) h.hb.cell ?_;simp[d]
theorem BK (w:World) (n:Int):Cs Tryz.prog 425 [.int .i64 n] w fun v w'=>v=.bool (da n)∧w'=w:=by
 refine en [] ?_;by_cases b:0≤n
 ·refine aQ (aU b) ?_;simp[da,b]
 ·refine aQ (aX b) ?_;simp[da,b]
theorem FT (w:World) (s:Sh):Cs Tryz.prog 350 [.agg ⟨bS s⟩] w fun v w'=>v=.bool (aS s)∧ae [] w w':=by
 obtain⟨r,d,k⟩:=s;refine en [] ?_;refine gO ?_;refine bp fun q m u o l t=>?_;have j:At m q [.int .i64 r,.int .i64 d,.int .i64 k]:=l
 (repeat' (first|with_reducible(first|refine nx ?_|refine bA rfl ?_)|simp only[go_sem,j.cell]|(with_reducible(first|refine VH (fun b=>?_) (fun b=>?_)|refine VK (fun b=>?_) (fun b=>?_)|refine VI (fun b=>?_) (fun b=>?_)|refine VJ (fun b=>?_) (fun b=>?_)))<;>try simp only[b]))
 all_goals(refine⟨?_,t⟩;simp only[decide_eq_true_eq,decide_eq_false_iff_not,beq_iff_eq,beq_eq_false_iff_ne,Int.not_lt,ne_eq]at*)
 all_goals(refine congrArg Value.bool ?_;rw[Bool.eq_iff_iff];simp[aS]<;>omega)
end
section
set_option maxRecDepth 8000
variable {fp:List Nat} {b:Nat} {s:RL} {w:World}
theorem oJ (w:World) (s:Sh):Cs Tryz.prog 203 [.agg ⟨bS s⟩] w fun v w'=>v=.int .i64 (aE s)∧ae [] w w':=by
 refine en [] ?_;refine gO ?_;refine bp fun q m B r d o=>?_;have t:aC m ⟨q,0,none⟩ 3=some (bS s):=ay d 0 3 (by simp[bS]);refine aQ t ?_;refine aM (FT m s) fun u b=>?_;have j:At u q [.int .i64 s.1,.int .i64 s.2.1,.int .i64 s.2.2]:=d.ab b;cases k:aS s with
 |false=>
  refine gO ?_;exact⟨by simp[aE,k],o.nil b⟩
 |true=>
  have l:=k;simp only[aS,Bool.and_eq_true,decide_eq_true_eq]at l;obtain⟨n,C⟩: ∃n:Nat,2+s.1+s.2.1=n:=⟨(2+s.1+s.2.1).toNat,by omega⟩;have y:IntKind.i64.wrap (IntKind.i64.wrap (2+s.1)+s.2.1)=(n:Int):=by rw[IntWalk.i64_in (2+s.1) (by omega),IntWalk.i64_in _ (by omega)];omega
  have z:IntKind.i64.wrap ((n:Int)+((n%2:Nat):Int))=((n+n%2:Nat):Int):=by rw[IntWalk.i64_in _ (by omega)];omega
  refine eZ j.cell y (rz n) z ?_;refine⟨?_,o.nil b⟩;unfold aE;rw[if_pos k];congr 1;omega
theorem xk (w:World) (s:Sh):Cs Tryz.prog 246 [.agg ⟨bS s⟩] w fun v w'=>v=.bool (decide (32<aE s))∧ae [] w w':=by
 refine en [] ?_;refine gO ?_;refine bp fun q j o k b l=>?_;have m:aC j ⟨q,0,none⟩ 3=some (bS s):=ay b 0 3 (by simp[bS]);refine aQ m ?_;refine aM (oJ j s) fun r d=>?_;refine gO ?_;exact l.nil d
theorem FU (w:World) (s:Sh):Cs Tryz.prog 248 [.agg ⟨bS s⟩] w fun v w'=>v=.int .i64 ((aE s+63)/64)∧ae [] w w':=by
 have t:=je s;obtain⟨n,k⟩: ∃n:Nat,aE s=n:=⟨(aE s).toNat,by omega⟩;refine en [] ?_;refine gO ?_;refine bp fun q j u l b m=>?_;have o:aC j ⟨q,0,none⟩ 3=some (bS s):=ay b 0 3 (by simp[bS]);refine aQ o ?_;refine aM (oJ j s) fun y d=>?_;rw[k];have r:IntKind.i64.wrap (IntKind.i64.wrap ((n:Int)+64)-1)=((n+63:Nat):Int):=by rw[IntWalk.i64_in ((n:Int)+64) (by omega),IntWalk.i64_in _ (by omega)];omega
 refine aZ r (iI (n+63) (by omega)) ?_;exact⟨by congr 1,m.nil d⟩
theorem lG (h:FM w b s fp) (x:Int):Cs Tryz.prog 197 [.pointer (some ⟨b,0,none⟩),.int .i64 x] w fun v w'=>v=.int .i64 (AO (p9 s.O x))∧w'=w:=by
 have D:=h;obtain⟨H,I,J,K,fO,M,L,_,h⟩:=h;have N:=h.len;have E:=h.ok.ol;obtain⟨O,P,r⟩:=h.C8;refine en [] ?_;refine gO ?_;refine aH (p' D) ?_;refine gO ?_;refine az (5::9::10::11::12::13::14::15::16::17::18::19::20::21::22::23::24::25::26::27::28::[]) (fun g w'=> ∃i:Nat,g 5=.int .i64 (i:Int)∧i≤L.length∧(∀j,j<i→(s.O.getD j default).a≠x)∧w'=w) (fun g _=>bw L.length 5 g)
  ⟨0,by simp only[go_sem];rfl,by omega,fun j t=>absurd t (by omega),rfl⟩ fun g y F k=>?_
 obtain⟨i,o,Q,l,rfl⟩:=F;refine cT h.hb.cell r o ?_;refine cu (fun d=>?_) (fun m=>?_)
 ·have d:i<L.length:=by simpa using d
  obtain⟨G,cap,ys,z,u,_,_⟩:=h.row (by omega);have B:(0:Int)≤(i:Int)∧(i:Int)<(L.length:Int):=⟨by omega,by omega⟩;have C:y.cell? ⟨G,i*8,none⟩=some (.int .i64 (s.O.getD i default).a):=by
   have:=mL (j:=0) ys d (by omega);rw[u.cell,←Nat.add_zero (i*8),this,h.lV d];rfl
  by_cases q:(s.O.getD i default).a=x
  ·refine k7 o h.hb.cell z (eq_true B) @Int.toNat_natCast C (cZ q) ?_;rw[ze (by omega) q l];rfl
  ·refine xG o h.hb.cell z (eq_true B) @Int.toNat_natCast C (cU q) (au i (by omega)) ?_;refine k _ y ⟨i+1,?_,by omega,fun j t=>?_,rfl⟩ ?_
   ·simp only[go_sem]
   ·by_cases e:j=i
    ·subst e;exact q
    ·exact l j (by omega)
   ·exact aJ o
 ·have m: ¬i<L.length:=by simpa using m
  refine gO ?_;rw[zd fun j t=>l j (by omega)];rfl
theorem xl (h:FM w b s fp) (x:Int):Cs Tryz.prog 250 [.pointer (some ⟨b,0,none⟩),.int .i64 x] w fun v w'=>v=.int .i64 (s.f' x)∧w'=w:=by
 refine en [] ?_;refine gO ?_;refine aH (p' h) ?_;refine gO ?_;refine aH (lG h x) ?_;unfold RL.f' RL.has;cases e:p9 s.O x with
 |none=>(repeat(first|with_reducible(first|refine nx ?_|refine bA rfl ?_)|simp only[go_sem,aU (show AO none<0 from by decide)]))
 |some i=>(repeat(first|with_reducible(first|refine nx ?_|refine bA rfl ?_)|simp only[go_sem,aX (show¬AO (some i)<0 from by simp[AO])]))
theorem Qq (h:FM w b s fp) (x:Int):Cs Tryz.prog 209 [.pointer (some ⟨b,0,none⟩),.int .i64 x] w fun v w'=>v=.bool (s.has x)∧w'=w:=by
 refine en [] ?_;refine gO ?_;refine aH (lG h x) ?_;refine gO ?_;unfold RL.has;cases e:p9 s.O x with
 |none=>rfl
 |some i=>simp[AO]
theorem xm {x:Int} (h:s.f' x=0): ∃i,p9 s.O x=some i:=by
 unfold RL.f' RL.has at h;cases e:p9 s.O x with
 |none=>rw[e]at h;simp at h
 |some i=>exact⟨i,rfl⟩
end
section
set_option maxRecDepth 8000
variable {fB fF fO:List Nat} {L:List OM} {b i j k:Nat} {m:OM} {s:RL} {w:World}
theorem xn {x:Int} (h:s.f' x≠0):p9 s.O x=none∧s.f' x=4:=by
 unfold RL.f' RL.has at h⊢;cases e:p9 s.O x with
 |none=>exact⟨rfl,rfl⟩
 |some i=>rw[e]at h;simp at h
theorem lN.all {k l m:Value} (h:lN w b s k l m fB fO fF L) {g cap:Nat} {ys:List Value} (d:At w g (gS L++ys)) (j:i<L.length):
  aC w ⟨g,i*8,none⟩ 8=some (L.getD i default).V∧aC w ⟨g,i*8+2,none⟩ 3=some (bS (L.getD i default).o.sh):=by
 have o:=gH L;refine⟨?_,?_⟩
 ·rw[ay d _ _ (by rw[cH];omega),xj ys j]
 ·rw[ay d _ _ (by rw[cH];omega),←List.drop_drop];congr 1;have e:((gS L++ys).drop (i*8)).drop 2=(((gS L++ys).drop (i*8)).take 8).drop 2++((gS L++ys).drop (i*8)).drop 8:=by
   conv=>lhs;rw[←List.take_append_drop 8 ((gS L++ys).drop (i*8))]
   rw[List.drop_append_of_le_length];rw[List.length_take,List.length_drop,cH];omega
  rw[e,xj ys j];rfl
theorem Mw {fp:List Nat} (h:FM w b s fp) (x:Int):Cs Tryz.prog 80 [.pointer (some ⟨b,0,none⟩),.int .i64 x] w fun v w'=>v=.tuple #[.agg ⟨bS (s.jL x).1⟩,.int .i64 (s.jL x).2]∧ae [] w w':=by
 refine en [2,5,8,11,14,17,21,23,26,29,34,35,0] ?_;refine gO ?_;refine bp fun q m S N k j=>?_;refine gO ?_;refine aH (xl (h.ab j) x) ?_;by_cases t:s.f' x=0;rotate_left
 ·refine aQ (eE t) ?_;refine dF (cs:=[.int .i64 0,.int .i64 0,.int .i64 0]) k rfl (by simp) (by simp[bh]) fun u B d l=>?_;rw[show dU [Value.int .i64 0,.int .i64 0,.int .i64 0] 0 [.int .i64 0,.int .i64 0,.int .i64 0]=bS (0,0,0)from rfl]at d;have C:aC u ⟨q,0,none⟩ 3=some (bS (0,0,0)):=ay d 0 3 (by simp[bS]);refine aQ C ?_;refine⟨?_,j.trans l fun y o=>by simp only[aK]at o;subst o;exact .inr (by omega)⟩;obtain⟨e,O⟩:=xn t;unfold RL.jL RL.ob;rw[e,O];rfl
 ·obtain⟨i,D⟩:=xm t;obtain⟨T,U,V⟩:=jK D;have E:=h.lt;have K:=h.ab j;have P:=(K.ab (ae.drew [] m));obtain⟨W,X,Y,fB,fO,fF,L,F,r⟩:=K.ab (ae.drew [] m);have Z:=r.len;obtain⟨g,cap,ys,rfl,G,H,_⟩:=r.row (by omega);obtain⟨_,I⟩:=r.all (cap:=0) G (show i<L.length by omega);have Q:(0:Int)≤(i:Int)∧(i:Int)<(L.length:Int):=⟨by omega,by omega⟩;have R: ∀z,z∈[b,g]→z<m.drew.heap.size∧z∉ [q]:=fun z M=>by
   have J:z∈fp:=by rw[F,H];simp only[List.mem_cons,List.not_mem_nil,or_false]at M;rcases M with rfl|rfl<;>simp
   have:=E z J;have:=j.size;exact⟨by show z<m.heap.size;omega,by simp;omega⟩
  refine aQ (dg t) ?_;refine aW [b,g] ?_;refine aQ r.hb.cell ?_;refine ks (lG P x) (.inr (SB.refl _ _)) ?_;rw[D];refine eZ (show AO (some i)=(i:Int)from rfl) (eq_true Q) @Int.toNat_natCast I ?_;refine pB (cs:=bS (L.getD i default).o.sh) k.drew rfl (by simp) (dm _) fun u B d l=>⟨.inl rfl,?_⟩;rw[dz]at d;have C:aC u ⟨q,0,none⟩ 3=some (bS (L.getD i default).o.sh):=ay d 0 3 (by simp[bS]);refine aQ C ?_;refine⟨?_,(j.nil (ae.drew [] m)).trans l fun y o=>by simp only[aK]at o;subst o;exact .inr (by omega)⟩;unfold RL.jL RL.ob;rw[D,Option.map_some,r.lV (by omega)]
theorem gI (m:OM) (L:List OM):eF (m::L)=(m.fr++m.fd)++eF L:=rfl
theorem iA (m:OM) (L:List OM):gS (m::L)=m.V++gS L:=rfl
theorem BL (b:m.fr=(L.getD k default).fr) (d:m.fd=(L.getD k default).fd):eF (L.set k m)=eF L:=by
 induction L generalizing k with
 |nil=>rfl
 |cons a L j=>
  cases k with
  |zero=>
   simp only[List.getD_cons_zero]at b d;rw[List.set_cons_zero,gI,gI,b,d]
  |succ k=>
   rw[List.set_cons_succ,gI,gI,j (by simpa using b) (by simpa using d)]
theorem II {v:Value} (ys:List Value) (d:k<L.length) (o:j<8) (b:m.V=(L.getD k default).V.set j v):(gS L++ys).set (k*8+j) v=gS (L.set k m)++ys:=by
 induction L generalizing k with
 |nil=>simp at d
 |cons a L l=>
  cases k with
  |zero=>
   simp only[List.getD_cons_zero]at b;rw[List.set_cons_zero,iA,iA,b,List.append_assoc,List.append_assoc,List.set_append_left _ _ (by rw[OM.kT];omega),Nat.zero_mul,Nat.zero_add]
  |succ k=>
   rw[List.set_cons_succ,iA,iA,List.append_assoc,List.append_assoc,List.set_append_right _ _ (by rw[OM.kT];omega),OM.kT,show(k+1)*8+j-8=k*8+j by omega,l (by simpa using d) (by simpa using b)]
theorem FV (b:m.V=(L.getD k default).V):gS (L.set k m)=gS L:=by
 induction L generalizing k with
 |nil=>rfl
 |cons a L d=>
  cases k with
  |zero=>
   simp only[List.getD_cons_zero]at b;rw[List.set_cons_zero,iA,iA,b]
  |succ k=>rw[List.set_cons_succ,iA,iA,d (by simpa using b)]
theorem FW (h:(eF L).Nodup) {x:Nat} (o:i<L.length) (r:j<L.length) (q:i≠j) (b:x∈(L.getD i default).fr∨x∈(L.getD i default).fd): ¬(x∈(L.getD j default).fr∨x∈(L.getD j default).fd):=by
 intro d
 induction L generalizing i j with
 |nil=>simp at o
 |cons a L u=>
  rw[gI,List.nodup_append]at h;obtain⟨B,w,t⟩:=h;have l: ∀k,k<L.length→(x∈(L.getD k default).fr∨x∈(L.getD k default).fd)→x∈eF L:=fun k y z=>ig (m:=L.getD k default) (by simp[y]) z;cases i with
  |zero=>
   cases j with
   |zero=>exact q rfl
   |succ j=>
    simp only[List.getD_cons_zero]at b;simp only[List.getD_cons_succ]at d;exact t x (by simpa using b) x (l j (by simpa using r) d) rfl
  |succ i=>
   cases j with
   |zero=>
    simp only[List.getD_cons_zero]at d;simp only[List.getD_cons_succ]at b;exact t x (by simpa using d) x (l i (by simpa using o) b) rfl
   |succ j=>
    simp only[List.getD_cons_succ]at b d;exact u w (by simpa using o) (by simpa using r) (by omega) b d
theorem IJ (h:(eF L).Nodup) (b:i<L.length):((L.getD i default).fr++(L.getD i default).fd).Nodup:=by
 induction L generalizing i with
 |nil=>simp at b
 |cons a L d=>
  rw[gI,List.nodup_append]at h;cases i with
  |zero=>exact h.1
  |succ i=>exact d h.2.1 (by simpa using b)
theorem a8 {α:Type} {l:List α} {x d:α} (h:k<l.length):(l.set k x).getD k d=x:=by simp[h]
theorem aI {α:Type} {l:List α} {x d:α} (h:k≠j):(l.set k x).getD j d=l.getD j d:=by
 simp only[List.getD_eq_getElem?_getD,List.getElem?_set_ne h]
theorem IK {F:List Nat} (h:(b::(fB++(fO++(fF++F)))).Nodup):(∀x,x∈fB∨x∈fO∨x∈fF∨x∈F→x≠b)∧(∀x,x∈fB→x∉fO∧x∉fF∧x∉F)∧(∀x,x∈fO→x∉fF∧x∉F)∧(∀x,x∈fF→x∉F)∧F.Nodup∧fO.Nodup∧fB.Nodup∧fF.Nodup:=by
 simp only[List.nodup_cons,List.nodup_append,List.mem_append,not_or]at h;obtain⟨⟨m,o,q,r⟩,t,⟨u,⟨w,y,z⟩,l⟩,k⟩:=h;refine⟨fun x d e=>?_,fun x d=>⟨fun j=>k x d x (.inl j) rfl,fun j=>k x d x (.inr (.inl j)) rfl,fun j=>k x d x (.inr (.inr j)) rfl⟩,fun x d=>⟨fun j=>l x d x (.inl j) rfl,fun j=>l x d x (.inr j) rfl⟩,fun x d j=>z x d x j rfl,y,u,t,w⟩;subst e;rcases d with d|d|d|d
 ·exact m d
 ·exact o d
 ·exact q d
 ·exact r d
end
def RL.aaY (s:RL) (x i:Int):Int×Int:=match s.ob x with
 |none=>(0,4)
 |some o=>if i<0∨(o.rf.length:Int)≤i then(0,1)else(o.rf.getD i.toNat 0,0)
def RL.dn (s:RL) (x i to:Int):Int:=match s.ob x with
 |none=>4
 |some o=>if i<0∨(o.rf.length:Int)≤i then 1 else if to≠0∧s.has to=false then 1 else 0
def RL.vm (s:RL) (x:Int) (f:Ob→Ob):RL:=match p9 s.O x with
 |none=>s
 |some k=> {s with O:=s.O.set k (f (s.O.getD k default))}
def RL.bj (s:RL) (x i to:Int):RL:=if s.dn x i to=0 then s.vm x fun o=> {o with rf:=o.rf.set i.toNat to}else s
def RL.iL (s:RL) (x:Int) (p:Bool):RL:=s.vm x fun o=> {o with pin:=p}
def RL.dh (s:RL) (x:Int):RL:=match p9 s.O x with
 |none=>s
 |some k=> {s with O:=s.O.eraseIdx k}
theorem RL.Ok.vm {s:RL} (h:s.Ok) {x:Int} {f:Ob→Ob} (j: ∀o,o.Ok s.B.length→(f o).Ok s.B.length):(s.vm x f).Ok:=by
 unfold RL.vm;cases e:p9 s.O x with
 |none=>exact h
 |some k=>
  obtain⟨l,_,_⟩:=jK e;refine⟨h.b2,h.jd,by simpa using h.ol,fun o b=>?_⟩;rcases List.mem_or_eq_of_mem_set b with b|rfl
  ·exact h.ob o b
  ·refine j _ (h.ob _ ?_);simp[l]
theorem Mx (a b c d e f g h:Value) (m:OM):dU [a,b,c,d,e,f,g,h] 0 m.V=m.V:=rfl
theorem FY {w:World} {m:OM} (h:m.ok w): ∀u,u∈m.V→bh u=true:=by
 have:=pA (L:=[m]) (fun d b=>by simp only[aK]at b;subst b;exact h.one);simpa[gS]using this
section
set_option maxRecDepth 8000
variable {fp:List Nat} {b:Nat} {s:RL} {w w':World}
theorem Sl.VM {g n cap j:Nat} {xs:List Int} {ys:List Value} {v:Int} (b:xs.length=n) (d:At w g (ints xs++ys)) (k:(ints xs++ys).length=cap) (l:j<xs.length) (h:At w' g ((ints xs++ys).set j (.int .i64 v))):Sl w' 1 (.slice (some ⟨g,0,none⟩) n cap) n (ints (xs.set j v)) [g]:=by
 rw[ints_set ys l]at h;refine Sl.wH h (by rw[ax,List.length_set];exact b) ?_;rw[←k];simp[ints]
def OM.BM (m:OM) (o:Ob):OM:=⟨o,m.vr,m.vd,m.fr,m.fd⟩
theorem qP (L:List OM) (k:Nat) (o:Ob):eF (L.set k ((L.getD k default).BM o))=eF L:=BL rfl rfl
theorem lN.VN {F G H:Value} {I fO J:List Nat} {L:List OM} (h:lN w b s F G H I fO J L) {k:Nat} (B:k<L.length) {x:Int} (K:p9 s.O x=some k) {f:Ob→Ob} {t:OM} (C:t.o=f (L.getD k default).o) (M:t.V=(L.getD k default).V) (N:t.fr=(L.getD k default).fr) (P:t.fd=(L.getD k default).fd)
  (Q: ∀o,o.Ok s.B.length→(f o).Ok s.B.length) (D:t.ok w') (u:ae (L.getD k default).fr w w'):lN w' b (s.vm x f) F G H I fO J (L.set k t):=by
 obtain⟨R,S,T,U,V,Y,Z,n8⟩:=IK h.nd;have q: ∀y,y∈(L.getD k default).fr→y∈eF L:=fun y l=>ig (m:=L.getD k default) (by simp[B]) (.inl l);have z:s.vm x f= {s with O:=s.O.set k (f (s.O.getD k default))}:=by unfold RL.vm;rw[K]
 refine⟨h.ok.vm Q,?_,?_,?_,?_,?_,fun m W=>?_,?_⟩
 ·rw[z];exact h.hb.keep u fun l=>R b (.inr (.inr (.inr (q b l)))) rfl
 ·rw[z];exact h.hB.keep u fun y l d=>(S y l).2.2 (q y d)
 ·rw[List.length_set,FV M];exact h.hO.keep u fun y l d=>(T y l).2 (q y d)
 ·rw[z];exact h.hF.keep u fun y l d=>U y l (q y d)
 ·rw[z,List.map_set,C,←h.lV B,←h.eq]
 ·obtain⟨j,X,rfl⟩:=List.mem_iff_getElem.1 W;have r:j<L.length:=by simpa using X
  rw[List.getElem_set];split
  ·exact D
  ·rename_i E;have e:L[j]=L.getD j default:=by simp[r]
   rw[e];refine(h.om _ (by simp[r])).keep u fun y l d=>?_;exact FW V r B (Ne.symm E) l (.inl d)
 ·rw[BL N P];exact h.nd
theorem IL (h:FM w b s fp) (x i to:Int):Cs Tryz.prog 255 [.pointer (some ⟨b,0,none⟩),.int .i64 x,.int .i64 i,.int .i64 to] w fun v w'=>v=.int .i64 (s.dn x i to)∧FM w' b (s.bj x i to) fp∧ae fp w w':=by
 have D: ∀e:Int,e≠0→s.dn x i to=e→(Value.int .i64 e=.int .i64 (s.dn x i to)∧FM w b (s.bj x i to) fp∧ae fp w w):=fun e K z=>by
  refine⟨by rw[z],?_,ae.refl _ _⟩;unfold RL.bj;rw[if_neg (by rw[z];exact K)];exact h
 refine en [] ?_;refine gO ?_;refine aH (xl h x) ?_;by_cases K:s.f' x=0;rotate_left
 ·obtain⟨e,e4⟩:=xn K;refine aQ (eE K) ?_;have z:s.dn x i to=4:=by unfold RL.dn RL.ob;rw[e];rfl
  have:=D 4 (by omega) z;rw[e4];simpa using this
 obtain⟨k,V⟩:=xm K;obtain⟨k1,k2,k3⟩:=jK V;obtain⟨vB,vO,vF,fB,fO,fF,L,M,B⟩:=id h;have hl:=B.len;obtain⟨g,cap,ys,rfl,xc,hfO,_⟩:=B.row (by omega);have r:k<L.length:=by omega
 have E:=B.om (L.getD k default) (by simp[r]);have W:(0:Int)≤(k:Int)∧(k:Int)<(L.length:Int):=⟨by omega,by omega⟩;have T9:s.ob x=some (L.getD k default).o:=by unfold RL.ob;rw[V,Option.map_some,B.lV r]
 have X:w.cell? ⟨g,k*8+5,none⟩=some (L.getD k default).vr:=by
  rw[xc.cell,mL (j:=5) ys r (by omega)];rfl
 obtain⟨ar,cr,t⟩:=E.r.rd.val;have d:s.dn x i to=if i<0∨((L.getD k default).o.rf.length:Int)≤i then 1 else if to≠0∧s.has to=false then 1 else 0:=by unfold RL.dn;rw[T9]
 refine aQ (dg K) ?_;refine aH (lG h x) ?_;rw[V];by_cases N:i<0
 ·refine aZ (show AO (some k)=(k:Int)from rfl) (aU N) ?_;have z:s.dn x i to=1:=by rw[d,if_pos (.inl N)]
  have:=D 1 (by omega) z;simpa using this
 by_cases Y:((L.getD k default).o.rf.length:Int)≤i
 ·refine xG (show AO (some k)=(k:Int)from rfl) (aX N) B.hb.cell (eq_true W) @Int.toNat_natCast X t (aU Y) ?_;have z:s.dn x i to=1:=by rw[d,if_pos (.inr Y)]
  have:=D 1 (by omega) z;simpa using this
 rw[if_neg (by omega)]at d;obtain⟨j,rfl⟩: ∃j:Nat,i=j:=⟨i.toNat,by omega⟩;have hj:j<(L.getD k default).o.rf.length:=by omega
 obtain⟨g2,O,P,H,q,F,_⟩:=E.r.pos (by omega);have I:(ints (L.getD k default).o.rf++P).length=O:=by
  have:=E.r;rw[H]at this;exact Sl.cap this q
 have G:=H;rw[t]at G;cases G;have e3:(0:Int)≤(j:Int)∧(j:Int)<((L.getD k default).o.rf.length:Int):=⟨by omega,by omega⟩;have Q:s.dn x (j:Int) to=0→ ∀C,ae [g2] w C→At C g2 ((ints (L.getD k default).o.rf++P).set j (.int .i64 to))→FM C b (s.bj x (j:Int) to) fp∧ae fp w C:=by
  intro J C l R;have hM:s.bj x (j:Int) to=s.vm x fun o=> {o with rf:=o.rf.set j to}:=by unfold RL.bj;rw[if_pos J];rfl
  rw[hM];have S: ∀y,y∈[g2]→y∈fp:=fun y T=>by
   rw[M];have:=ig (L:=L) (m:=L.getD k default) (x:=y) (by simp[r]) (.inl (by rw[F];exact T));simp[this]
  have u:=IJ (IK B.nd).2.2.2.2.1 r;rw[F]at u;refine⟨⟨_,_,_,fB,fO,fF,L.set k ((L.getD k default).BM {(L.getD k default).o with rf:=(L.getD k default).o.rf.set j to}),?_,B.VN r V (f:=fun o=> {o with rf:=o.rf.set j to}) rfl rfl rfl rfl (fun o h=>⟨h.v,by simpa using h.r,h.d,h.a0,h.a1⟩) ⟨?_,?_⟩ (by rw[F];exact l)⟩,l.mono fun y T=>.inl (S y T)⟩
  ·rw[qP];exact M
  ·show Sl C 1 (L.getD k default).vr ((L.getD k default).o.rf.set j to).length (ints ((L.getD k default).o.rf.set j to)) (L.getD k default).fr;rw[List.length_set,H,F];exact Sl.VM rfl q I hj R
  ·refine E.d.keep l fun y T U=>?_;simp only[aK]at U;subst U;simp only[List.singleton_append,List.nodup_cons]at u;exact u.1 T
 by_cases Z:to=0
 ·have J:s.dn x (j:Int) to=0:=by rw[d,if_neg (by simp[Z])]
  refine uq (show AO (some k)=(k:Int)from rfl) (aX N) B.hb.cell (eq_true W) (eq_true e3) @Int.toNat_natCast @Nat.mul_one X t (aX Y) (dg Z) ?_;refine fJ q (by rw[cH,ax];omega) rfl fun C yJ R l=>?_;refine gO ?_;rw[J];exact⟨rfl,Q J C l R⟩
 ·refine uq (show AO (some k)=(k:Int)from rfl) (aX N) B.hb.cell (eq_true W) (eq_true e3) @Int.toNat_natCast @Nat.mul_one X t (aX Y) (eE Z) ?_;refine aH (Qq h to) ?_;cases hh:s.has to with
  |false=>
   refine gO ?_;have z:s.dn x (j:Int) to=1:=by rw[d,if_pos ⟨Z,hh⟩]
   have:=D 1 (by omega) z;simpa using this
  |true=>
   have J:s.dn x (j:Int) to=0:=by rw[d,if_neg (by simp[hh])]
   refine k7 B.hb.cell (eq_true W) (eq_true e3) @Int.toNat_natCast @Nat.mul_one X t ?_;refine fJ q (by rw[cH,ax];omega) rfl fun C yJ R l=>?_;refine gO ?_;rw[J];exact⟨rfl,Q J C l R⟩
theorem Qr (h:FM w b s fp) (x:Int) (p:Bool):Cs Tryz.prog 258 [.pointer (some ⟨b,0,none⟩),.int .i64 x,.bool p] w fun v w'=>v=.int .i64 (s.f' x)∧FM w' b (s.iL x p) fp∧ae fp w w':=by
 refine en [2,5,8,11,14,17,23,21,26,29,34,0] ?_;refine gO ?_;refine aH (xl h x) ?_;by_cases z:s.f' x=0;rotate_left
 ·obtain⟨e,e4⟩:=xn z;refine aQ (eE z) ?_;have:s.iL x p=s:=by unfold RL.iL RL.vm;rw[e]
  rw[this];exact⟨h,ae.refl _ _⟩
 obtain⟨k,H⟩:=xm z;obtain⟨k1,k2,k3⟩:=jK H;have N:=h.ab (ae.drew [] w);obtain⟨P,vO,Q,R,fO,S,L,B,d⟩:=h.ab (ae.drew [] w);have hl:=d.len;obtain⟨g,cap,ys,rfl,C,D,_⟩:=d.row (by omega);have u:k<L.length:=by omega
 have U:(0:Int)≤(k:Int)∧(k:Int)<(L.length:Int):=⟨by omega,by omega⟩;refine aQ (dg z) ?_;refine aW [b,g] ?_;refine aQ d.hb.cell ?_;refine ks (lG N x) (.inr (SB.refl _ _)) ?_;rw[H];refine cT (show AO (some k)=(k:Int)from rfl) (eq_true U) @Int.toNat_natCast ?_;refine Ee C (by rw[cH,gH];omega) rfl fun V W t l=>⟨.inl rfl,?_⟩;refine gO ?_;obtain⟨X,Y,J,n4,n5,n6,n7,n8⟩:=IK d.nd;have Z:s.iL x p= {s with O:=s.O.set k {(s.O.getD k default)with pin:=p}}:=by unfold RL.iL RL.vm;rw[H]
 have E: ∀y,y∈[g]→y∈fO:=fun y q=>by rw[D];exact q
 have F:(gS L++ys).length=cap*8:=by
  rcases d.hO.2 with⟨h0,_,_⟩|⟨g',K,ys',T,q1,q2,q3,q4,q5⟩
  ·cases h0
  ·cases q1;have:=C.inj ⟨T,q3⟩;rw[this];exact q4
 refine⟨by rw[z],⟨P,.slice (some ⟨g,0,none⟩) L.length cap,Q,R,fO,S,L.set k ((L.getD k default).BM {(L.getD k default).o with pin:=p}),by rw[qP];exact B,?_⟩,(ae.drew [] w).of_nil.same (l.mono fun y q=>.inl (by rw[B];simp[E y q]))⟩;rw[Z];refine⟨?_,d.hb.keep l fun q=>X b (.inr (.inl (E b q))) rfl,d.hB.keep l fun y q r=>(Y y q).1 (E y r),?_,d.hF.keep l fun y q r=>(J y (E y r)).1 q,?_,fun m I=>?_,by rw[qP];exact d.nd⟩
 ·have:=(d.ok.vm (x:=x) (f:=fun o=> {o with pin:=p}) fun o h=>⟨h.v,h.r,h.d,h.a0,h.a1⟩);unfold RL.vm at this;rw[H]at this;exact this
 ·rw[II (v:=.bool p) (m:=(L.getD k default).BM {(L.getD k default).o with pin:=p}) ys u (show 7<8 by omega) rfl]at t;rw[List.length_set];obtain⟨T,hT⟩:=t;refine⟨by rw[gH,List.length_set],.inr ⟨g,cap,ys,T,rfl,D,hT,?_,by omega⟩⟩;rw[←F,cH,cH,gH,gH,List.length_set]
 ·rw[List.map_set,←d.eq];show s.O.set k _=s.O.set k _;rw[d.lV u];rfl
 ·obtain⟨j,hj,rfl⟩:=List.mem_iff_getElem.1 I;have G:j<L.length:=by simpa using hj
  have key: ∀i,i<L.length→(L.getD i default).ok V:=fun i M=>(d.om (L.getD i default) (by simp[M])).keep l fun y q r=>(J y (E y r)).2 (ig (m:=L.getD i default) (by simp[M]) q);rw[List.getElem_set];split
  ·have:=key k u;exact⟨this.r,this.d⟩
  ·have:=key j G;simpa[G]using this
theorem VP (h:FM w b s fp) (x:Int):Cs Tryz.prog 83 [.pointer (some ⟨b,0,none⟩),.int .i64 x] w fun v w'=>v=.int .i64 (s.f' x)∧FM w' b (s.iL x true) fp∧ae fp w w':=by
 refine en [] ?_;refine gO ?_;refine aw (Qr h x true) ?_;rintro r k ⟨rfl,j,d⟩;refine gO ?_;exact⟨j,d⟩
end
section
set_option maxRecDepth 8000
variable {fB fF fO fp:List Nat} {xs ys:List Value} {b cap g n sz:Nat} {s:RL} {w:World}
theorem C9 (g o:Nat):(⟨g,o,none⟩:Addr).add 0=⟨g,o,none⟩:=by rw[bQ,Nat.add_zero]
theorem qa {h:Nat} {k:IntKind} (b:At w g (xs++ys)) (l:xs.length=n*sz) (d:h≤n) (m:n≤cap):
  ∃j,iD sz (.slice (some ⟨g,0,none⟩) n cap) none (some (.int k (h:Int)))=some j∧bn w sz j h (xs.take (h*sz)):=by
 refine⟨.slice (some ⟨g,0,none⟩) h cap,?_,?_,.inr ⟨⟨g,0,none⟩,cap,rfl,?_⟩⟩
 ·have e:(0:Int)≤(h:Int)∧(h:Int)≤(cap:Int):=⟨by omega,by omega⟩;simp only[iD,gU,if_pos e,c9,Option.map_some,Nat.zero_mul,C9,Nat.sub_zero,ite_self]
 ·rw[List.length_take,l];have:=Nat.mul_le_mul_right sz d;omega
 ·have:=Nat.mul_le_mul_right sz d;rw[ay b 0 _ (by rw[cH];omega),List.drop_zero,List.take_append_of_le_length (by omega)]
theorem qc {l:Nat} {k:IntKind} (j:At w g (xs++ys)) (o:xs.length=n*sz) (q:l≤n) (t:n≤cap):
  ∃m,iD sz (.slice (some ⟨g,0,none⟩) n cap) (some (.int k (l:Int))) none=some m∧bn w sz m (n-l) (xs.drop (l*sz)):=by
 have u:=Nat.mul_le_mul_right sz q;have b:(xs.drop (l*sz)).length=(n-l)*sz:=by rw[List.length_drop,o,Nat.sub_mul]
 have e:(0:Int)≤(l:Int)∧(l:Int)≤(n:Int):=⟨by omega,by omega⟩;refine⟨.slice (if cap=l then some ⟨g,0,none⟩else(some ⟨g,0,none⟩:Option Addr).map (·.add (l*sz))) (n-l) (cap-l),by simp only[iD,gU,if_pos e,c9],b,?_⟩;by_cases d:cap=l
 ·rw[if_pos d];refine .inr ⟨_,_,rfl,?_⟩;have r:n-l=0:=by omega
  rw[r,Nat.zero_mul]at b⊢;rw[List.eq_nil_of_length_eq_zero b];simp[aC]
 ·rw[if_neg d];refine .inr ⟨_,_,rfl,?_⟩;show aC w ((⟨g,0,none⟩:Addr).add (l*sz)) _=_;rw[bQ,Nat.zero_add,ay j _ _ (by rw[cH];rw[←b,List.length_drop];omega),List.drop_append_of_le_length (by omega),List.take_append_of_le_length (by omega),List.take_of_length_le (by omega)]
theorem AQ {F:List Nat} (k: ∀x,x∈fB∨x∈fO∨x∈fF∨x∈F→x≠b) (l: ∀x,x∈fB→x∉fO∧x∉fF∧x∉F) (m: ∀x,x∈fO→x∉fF∧x∉F) (o: ∀x,x∈fF→x∉F) (q:F.Nodup) (r:fO.Nodup) (t:fB.Nodup) (u:fF.Nodup):(b::(fB++(fO++(fF++F)))).Nodup:=by
 simp only[List.nodup_cons,List.nodup_append,List.mem_append,not_or];refine⟨⟨fun h=>k b (.inl h) rfl,fun h=>k b (.inr (.inl h)) rfl,fun h=>k b (.inr (.inr (.inl h))) rfl,fun h=>k b (.inr (.inr (.inr h))) rfl⟩,t,⟨r,⟨u,q,fun x j y d e=>?_⟩,fun x j y d e=>?_⟩,fun x j y d e=>?_⟩
 ·subst e;exact o x j d
 ·subst e;rcases d with d|d
  ·exact(m x j).1 d
  ·exact(m x j).2 d
 ·subst e;rcases d with d|d|d
  ·exact(l x j).1 d
  ·exact(l x j).2.1 d
  ·exact(l x j).2.2 d
theorem lN.fm {E w':World} {s':RL} {G T H I:Value} {t:List Nat} {L L':List OM} (h:lN w b s G T H fB fO fF L) (O:s'.B=s.B∧s'.F=s.F) (J:s'.Ok) (K:s'.O=L'.map OM.o)
  (P:ae [] w E) (F:ae [b] E w') (hb:At w' b [G,I,H,.int .i64 s'.born]) (hO:Sl E 8 I L'.length (gS L') t) (u: ∀y,y∈t→w.heap.size≤y) (M: ∀m,m∈L'→m.ok E)
  (U:(eF L').Nodup) (o: ∀y,y∈eF L'→y∈eF L∨(w.heap.size≤y∧y∉t)):lN w' b s' G I H fB t fF L'∧ ∀y,y∈b::(fB++(t++(fF++eF L')))→y∈b::(fB++(fO++(fF++eF L)))∨w.heap.size≤y:=by
 obtain⟨z,Q,Y,V,Z,n6,W,X⟩:=IK h.nd;have k:=h.lt;have R:b<w.heap.size:=k b (by simp);have q: ∀y,y∈fB→y<w.heap.size:=fun y d=>k y (by simp[d]);have r: ∀y,y∈fF→y<w.heap.size:=fun y d=>k y (by simp[d]);have B: ∀y,y∈eF L→y<w.heap.size:=fun y d=>k y (by simp[d]);have C: ∀y,y∈eF L'→y≠b∧y∉fB∧y∉fF∧y∉t:=fun y d=>by
  rcases o y d with l|⟨l,j⟩
  ·exact⟨z y (.inr (.inr (.inr l))),fun j=>(Q y j).2.2 l,fun j=>V y j l,fun j=>by have:=u y j;have:=B y l;omega⟩
  ·exact⟨by omega,fun N=>by have:=q y N;omega,fun N=>by have:=r y N;omega,j⟩
 have D: ∀y,y∈t→y≠b:=fun y d=>by have:=u y d;omega
 refine⟨⟨J,hb,?_,hO.keep F fun y d=>bg (D y d),?_,K,fun m S=>(M m S).keep F fun y d=>bg (C y (ig S d)).1,AQ ?_ ?_ ?_ ?_ U (hO.nodup) W X⟩,?_⟩
 ·rw[O.1];exact(h.hB.ab P).keep F fun y d=>bg (z y (.inl d))
 ·rw[O.2];exact(h.hF.ab P).keep F fun y d=>bg (z y (.inr (.inr (.inl d))))
 ·rintro y (d|d|d|d)
  ·exact z y (.inl d)
  ·exact D y d
  ·exact z y (.inr (.inr (.inl d)))
  ·exact(C y d).1
 ·exact fun y d=>⟨fun j=>by have:=u y j;have:=q y d;omega,(Q y d).2.1,fun j=>(C y j).2.1 d⟩
 ·exact fun y d=>⟨fun j=>by have:=u y d;have:=r y j;omega,fun j=>(C y j).2.2.2 d⟩
 ·exact fun y d j=>(C y j).2.2.1 d
 ·intro y d;simp only[List.mem_cons,List.mem_append]at d⊢;rcases d with rfl|d|d|d|d
  ·exact .inl (.inl rfl)
  ·exact .inl (.inr (.inl d))
  ·exact .inr (u y d)
  ·exact .inl (.inr (.inr (.inr (.inl d))))
  ·rcases o y d with l|⟨l,_⟩
   ·exact .inl (.inr (.inr (.inr (.inr l))))
   ·exact .inr l
theorem vn: ∀(L:List OM) (k:Nat),(eF (L.eraseIdx k)).Sublist (eF L)
 | [],_=>by simp
 |a::L,0=>by rw[List.eraseIdx_cons_zero,gI];exact List.sublist_append_right _ _
 |a::L,k+1=>by
  rw[List.eraseIdx_cons_succ,gI,gI]
  exact(List.Sublist.refl _).append (vn L k)
theorem qQ {α b:Type} (f:α→b): ∀(L:List α) (k:Nat),(L.map f).eraseIdx k=(L.eraseIdx k).map f
 | [],_=>rfl
 |a::L,0=>rfl
 |a::L,k+1=>by simp[qQ f L k]
theorem Sl.IN (w:World):Sl w 8 (.slice none 0 0) 0 [] []:=⟨rfl,.inl ⟨rfl,rfl,rfl⟩⟩
theorem VQ (h:FM w b s fp) (k:Nat) (hk:k<s.O.length):Cs Tryz.prog 251 [.pointer (some ⟨b,0,none⟩),.int .i64 (k:Int)] w fun v w'=>v=.tuple #[]∧ae fp w w'∧ ∃C,FM w' b {s with O:=s.O.eraseIdx k} C∧ ∀y,y∈C→y∈fp∨w.heap.size≤y:=by
 obtain⟨vB,vO,vF,fB,fO,fF,L,D,j⟩:=h;have hl:=j.len;have Y:=j.ok.ol;obtain⟨g,cap,ys,rfl,E,Z,t⟩:=j.row (by omega);have z: ∀M:List OM,(∀m,m∈M→m∈L)→ ∀u,u∈gS M→bh u=true:=fun M hM=>pA fun m d=>(j.om m (hM m d)).one;have TR:((k+1:Nat):Int)=(k:Int)+1:=by omega
 refine en [] ?_;obtain⟨v1,e1,T⟩:=qa (k:=.i64) E (gH L) (show k≤L.length by omega) t;rw[zf]at T;refine aZ j.hb.cell e1 ?_;refine eM (sz:=8) (Sl.IN w) T (z _ fun m d=>List.mem_of_mem_take d) (by omega) (by omega) ?_;intro v2 w2 f2 P Q r _;have B: ∀y,y∈f2→w.heap.size≤y:=fun y l=>by
  rcases Q with rfl|rfl
  ·cases l
  ·simp only[aK]at l;omega
 obtain⟨v3,e3,U⟩:=qc (k:=.i64) (E.ab r) (gH L) (show k+1≤L.length by omega) t;rw[tR]at U;(repeat(first|with_reducible(first|refine nx ?_|refine bA rfl ?_)|simp only[go_sem,(j.hb.ab r).cell,au k (by omega),e3]));refine eM (sz:=8) P U (z _ fun m d=>List.mem_of_mem_drop d) (by omega) (by omega) ?_;intro v4 V W F R S _;have N:ae [] w V:=r.trans S fun y l=>.inr (B y l);have G: ∀y,y∈W→w.heap.size≤y:=fun y l=>by
  have:=r.size;rcases R with rfl|rfl
  ·exact B y l
  ·simp only[aK]at l;omega
 refine gO ?_;refine fJ (j.hb.ab N) (by simp) F.jH fun w5 qm H I=>?_;simp only[List.set_cons_zero,List.set_cons_succ]at H;refine gO ?_;have X:L.eraseIdx k=L.take k++L.drop (k+1):=List.eraseIdx_eq_take_drop_succ L k;have J:(L.eraseIdx k).length=0+k+(L.length-(k+1)):=by rw[X,cH,List.length_take,List.length_drop];omega
 have hO:Sl V 8 v4 (L.eraseIdx k).length (gS (L.eraseIdx k)) W:=by
  rw[J,X,lF];simpa using F
 have q:(eF (L.eraseIdx k)).Sublist (eF L):=vn L k;obtain⟨hF,K⟩:=j.fm (s':= {s with O:=s.O.eraseIdx k}) ⟨rfl,rfl⟩ ⟨j.ok.b2,j.ok.jd,by have:=List.length_eraseIdx_le s.O k;simp only;omega,fun o ho=>j.ok.ob o (List.mem_of_mem_eraseIdx ho)⟩ (by simp only[j.eq];rw[qQ]) N I H hO G
  (fun m d=>(j.om m (List.mem_of_mem_eraseIdx d)).ab N) (q.nodup (IK j.nd).2.2.2.2.1) fun y l=>.inl (q.subset l)
 refine⟨N.of_nil.same (I.mono fun y l=>.inl (by rw[D];simp only[aK]at l;simp[l])),_,⟨_,_,_,_,_,_,_,rfl,hF⟩,fun y l=>?_⟩;rw[D];exact K y l
theorem Qs (h:FM w b s fp) (x:Int):Cs Tryz.prog 78 [.pointer (some ⟨b,0,none⟩),.int .i64 x] w fun v w'=>v=.int .i64 (s.f' x)∧ae fp w w'∧ ∃d,FM w' b (s.dh x) d∧ ∀y,y∈d→y∈fp∨w.heap.size≤y:=by
 refine en [] ?_;refine gO ?_;refine aH (xl h x) ?_;by_cases j:s.f' x=0;rotate_left
 ·obtain⟨e,z⟩:=xn j;refine aQ (eE j) ?_;have:s.dh x=s:=by unfold RL.dh;rw[e]
  rw[this];exact⟨ae.refl _ _,fp,h,fun y q=>.inl q⟩
 obtain⟨k,m⟩:=xm j;obtain⟨t,B,C⟩:=jK m;refine aQ (dg j) ?_;refine aH (lG h x) ?_;rw[m];refine aQ (show AO (some k)=(k:Int)from rfl) ?_;refine aw (VQ h k t) ?_;rintro r D ⟨rfl,o,d,u,l⟩;refine gO ?_;have:s.dh x= {s with O:=s.O.eraseIdx k}:=by unfold RL.dh;rw[m]
 rw[this];exact⟨by rw[j],o,d,u,l⟩
end
section
variable {L:List OM} {s:RL}
def qS:List Ob→Int→Nat
 | [],_=>0
 |o::O,a=>if o.a<a then qS O a+1 else 0
theorem BN: ∀(O:List Ob) (a:Int),qS O a≤O.length
 | [],_=>Nat.le_refl _
 |o::O,a=>by
  unfold qS
  split
  ·have:=BN O a;simp only[List.length_cons];omega
  ·omega
theorem xo: ∀ {O:List Ob} {a:Int} {k:Nat},k≤O.length→(∀j,j<k→(O.getD j default).a<a)→(k<O.length→ ¬(O.getD k default).a<a)→qS O a=k
 | [],a,k,h,_,_=>by simp at h;subst h;rfl
 |o::O,a,0,_,_,h=>by
  have:=h (by simp)
  simp only[List.getD_cons_zero]at this
  unfold qS;rw[if_neg this]
 |o::O,a,k+1,d,b,l=>by
  have:=b 0 (by omega)
  simp only[List.getD_cons_zero]at this
  unfold qS
  rw[if_pos this,xo (k:=k) (by simpa using d) (fun j q=>by have:=b (j+1) (by omega);simpa using this) fun m=>by have:=l (by simpa using m);simpa using this]
def RL.dG (s:RL) (o:Ob):RL:= {s with O:=s.O.take (qS s.O o.a)++[o]++s.O.drop (qS s.O o.a)}
theorem RL.Ok.put (h:s.Ok) {o:Ob} (b:o.Ok s.B.length) (hl:s.O.length<2048):(s.dG o).Ok:=by
 have:=BN s.O o.a;refine⟨h.b2,h.jd,by simp only[RL.dG,cH,List.length_take,List.length_drop,List.length_singleton];omega,fun p hp=>?_⟩;simp only[RL.dG,List.mem_append,aK]at hp;rcases hp with(hp|rfl)|hp
 ·exact h.ob p (List.mem_of_mem_take hp)
 ·exact b
 ·exact h.ob p (List.mem_of_mem_drop hp)
theorem IP {m:OM} {k:Nat} (b:(eF L).Nodup) (d:(m.fr++m.fd).Nodup) (j: ∀x,x∈m.fr++m.fd→x∉eF L):(eF (L.take k++[m]++L.drop k)).Nodup:=by
 have l:(eF (L.take k++[m]++L.drop k)).Perm ((m.fr++m.fd)++eF L):=by
  rw[fU,fU];have e:eF L=eF (L.take k)++eF (L.drop k):=by rw[←fU,List.take_append_drop]
  have o:eF [m]=m.fr++m.fd:=by simp[eF]
  rw[e,o];have:=(List.perm_append_comm (l₁:=eF (L.take k)) (l₂:=m.fr++m.fd)).append_right (eF (L.drop k));simpa[List.append_assoc]using this
 refine(l.nodup_iff).2 ?_;rw[List.nodup_append];exact⟨d,b,fun x q y r e=>by subst e;exact j x q r⟩
theorem VR {w:World} {b:Nat} {vB vO vF:Value} {R fO S:List Nat} (z:lN w b s vB vO vF R fO S L) (m:OM) (Te:m.o.Ok s.B.length) (hl:s.O.length<2048) (K:m.ok w) (VS:(m.fr++m.fd).Nodup) (VU: ∀x,x∈m.fr++m.fd→x∉b::(R++(fO++(S++eF L)))):
  Cs Tryz.prog 380 [.pointer (some ⟨b,0,none⟩),.agg ⟨m.V⟩] w fun v w'=>v=.tuple #[]∧ae [b] w w'∧ ∃DV,FM w' b (s.dG m.o) DV∧ ∀y,y∈DV→y∈b::(R++(fO++(S++eF L)))∨y∈m.fr++m.fd∨w.heap.size≤y:=by
 have hlen:=z.len;obtain⟨n1,n2,n3,n4,n5,n6,n7,n8⟩:=IK z.nd;have N:=z.lt;obtain⟨ao,co,Z⟩:=z.C8;refine en [0] ?_;refine gO ?_;refine bp fun q w1 hq pf gz ja=>?_;have D:At w1 q m.V:=gz;have c0: ∀C,ae [] w1 C→C.cell? ⟨q,0,none⟩=some (.int .i64 m.o.a):=fun C k=>by rw[(D.ab k).cell];rfl
 refine gO ?_;refine az (4::6::7::8::9::10::11::12::13::14::15::16::17::18::19::20::21::22::23::24::25::26::27::[]) (fun g w'=> ∃i:Nat,g 4=.int .i64 (i:Int)∧i≤L.length∧(∀j,j<i→(s.O.getD j default).a<m.o.a)∧ae [] w1 w') (fun g _=>bw L.length 4 g)
  ⟨0,by simp only[go_sem];rfl,by omega,fun j hj=>absurd hj (by omega),ae.refl _ _⟩ fun g C hI pD=>?_
 obtain⟨i,h4,hi,GI,jq⟩:=hI;have o2:=ja.nil jq;have h2:=(z.ab o2).ab (ae.drew [] C);have od:=jq.nil (ae.drew [] C);have stop:(i<L.length→ ¬(s.O.getD i default).a<m.o.a)→qS s.O m.o.a=i:=fun h=>xo (by omega) GI fun h'=>h (by omega);refine run_seq (run_seq ?_);refine bH (6::7::8::9::10::11::12::13::14::15::16::17::18::19::20::21::22::23::24::25::[]) (fun Fc w'=>Fc 25=.bool (decide (i<L.length)&&decide ((s.O.getD i default).a<m.o.a))∧w'=C.drew) (fun kk jS=>?_) (fun g' w3 hJ=>?_)
 ·by_cases B:i<L.length
  ·obtain⟨g8,cap,ys,r,E,_,_⟩:=h2.row (by omega);have e2:(0:Int)≤(i:Int)∧(i:Int)<(L.length:Int):=⟨by omega,by omega⟩;have hc:C.drew.cell? ⟨g8,i*8,none⟩=some (.int .i64 (s.O.getD i default).a):=by
    have:=mL (j:=0) ys B (by omega);rw[E.cell,←Nat.add_zero (i*8),this,h2.lV B];rfl
   refine eZ h4 h2.hb.cell Z (aU (show(i:Int)<(L.length:Int)from e2.2)) ?_;have ZG:=r;rw[Z]at ZG;cases ZG;refine eZ (eq_true e2) @Int.toNat_natCast hc (c0 _ od) ?_;refine jS _ _ ⟨?_,rfl⟩
   ·simp only[go_sem];simp[B]
  ·refine eZ h4 h2.hb.cell Z (aX (show¬(i:Int)<(L.length:Int) by omega)) ?_;refine jS _ _ ⟨?_,rfl⟩
   ·simp only[go_sem];simp[B]
 obtain⟨h25,rfl⟩:=hJ;refine kM ?_;simp only[go_sem,h25];refine cu (fun ht=>?_) (fun hf=>?_)
 ·simp only[Bool.and_eq_true,decide_eq_true_eq]at ht;refine aZ h4 (au i (by omega)) ?_;refine pD _ C.drew ⟨i+1,?_,by omega,fun j hj=>?_,od⟩ ?_
  ·simp only[go_sem]
  ·by_cases e:j=i
   ·subst e;exact ht.2
   ·exact GI j (by omega)
  ·exact aJ h4
 have VV:qS s.O m.o.a=i:=stop fun h h'=>by
  rw[aU h,aU h']at hf;cases hf
 have U: ∀M:List OM,(∀m,m∈M→m∈L)→ ∀u,u∈gS M→bh u=true:=fun M hM=>pA fun m t=>(z.om m (hM m t)).one;have o3:ae [] w C.drew:=o2.nil (ae.drew [] C);have hm8: ∀w',ae [] w w'→aC w' ⟨q,0,none⟩ 8=some m.V→True:=fun _ _ _=>trivial;clear hm8
 obtain⟨F,r,G⟩: ∃F,iD 8 vO none (some (.int .i64 (i:Int)))=some F∧bn C.drew 8 F i (gS (L.take i)):=by
  by_cases h0:0<L.length
  ·obtain⟨g8,cap,ys,r,E,_,H⟩:=h2.row h0;subst r;obtain⟨F,r,G⟩:=qa (k:=.i64) E (gH L) hi H;rw[zf]at G;exact⟨F,r,G⟩
  ·have:L=[]:=List.eq_nil_of_length_eq_zero (by omega);subst this;have:i=0:=by simpa using hi
   subst this;rcases z.hO.2 with⟨rfl,_,_⟩|⟨g8,cap,ys,T,rfl,_,h3,h5,_⟩
   ·exact⟨.slice none 0 0,rfl,rfl,.inl ⟨0,rfl,rfl⟩⟩
   ·obtain⟨F,r,G⟩:=qa (k:=.i64) (n:=0) (h:=0) (sz:=8) (xs:=[]) (ys:=ys) (At.ab ⟨T,h3⟩ o3) rfl (Nat.le_refl _) (Nat.zero_le cap);exact⟨F,r,by simpa[gS]using G⟩
 refine cT h2.hb.cell h4 r ?_;refine eM (sz:=8) (Sl.IN _) G (U _ fun m t=>List.mem_of_mem_take t) (by omega) (by omega) ?_;intro v4 w4 f4 pk Jj P _;have o4:=o3.nil P;have V: ∀y,y∈f4→w1.heap.size≤y:=fun y d=>by
  have:=od.size;rcases Jj with rfl|rfl
  ·cases d
  ·simp only[aK]at d;omega
 have EP:aC w4 ⟨q,0,none⟩ 8=some m.V:=ay (D.ab (od.nil P)) 0 8 (by rw[OM.kT];omega);refine aQ EP ?_;rw[kY (n:=8) rfl rfl];refine gO ?_;refine eJ fun q5 w5 ZH qm W Q=>?_;refine gO ?_;rw[Mx]at W;refine eM (sz:=8) (pk.ab Q) (bn.at (m:=1) W rfl) (FY K) (by omega) (by omega) ?_;intro v6 w6 f6 oO FP lZ _;have X: ∀y,y∈f6→w1.heap.size≤y:=fun y d=>by
  have:=od.size;have:=P.size;have:=Q.size;rcases FP with rfl|rfl
  ·exact V y d
  ·simp only[aK]at d;omega
 have hw1:=ja.size;have o6:ae [] w w6:=(o4.nil Q).trans lZ fun y d=>.inr (by have:=V y d;omega);obtain⟨v7,e7,s7⟩: ∃v7,iD 8 vO (some (.int .i64 (i:Int))) none=some v7∧bn w6 8 v7 (L.length-i) (gS (L.drop i)):=by
  by_cases h0:0<L.length
  ·obtain⟨g8,cap,ys,r,E,_,H⟩:=(z.ab o6).row h0;subst r;obtain⟨F,r,G⟩:=qc (k:=.i64) E (gH L) hi H;rw[tR]at G;exact⟨F,r,G⟩
  ·have:L=[]:=List.eq_nil_of_length_eq_zero (by omega);subst this;have:i=0:=by simpa using hi
   subst this;rcases z.hO.2 with⟨rfl,_,_⟩|⟨g8,cap,ys,T,rfl,_,h3,h5,_⟩
   ·exact⟨.slice none 0 0,rfl,rfl,.inl ⟨0,rfl,rfl⟩⟩
   ·obtain⟨F,r,G⟩:=qc (k:=.i64) (n:=0) (l:=0) (sz:=8) (xs:=[]) (ys:=ys) (At.ab ⟨T,h3⟩ o6) rfl (Nat.le_refl _) (Nat.zero_le cap);exact⟨F,r,by simpa[gS]using G⟩
 (repeat(first|with_reducible(first|refine nx ?_|refine bA rfl ?_)|simp only[go_sem,(z.ab o6).hb.cell,h4,e7]));refine eM (sz:=8) oO s7 (U _ fun m t=>List.mem_of_mem_drop t) (by omega) (by omega) ?_;intro v8 w8 f8 Bu Jm k9 _;have o: ∀y,y∈f8→w1.heap.size≤y:=fun y d=>by
  have:=od.size;have:=P.size;have:=Q.size;have:=lZ.size;rcases Jm with rfl|rfl
  ·exact X y d
  ·simp only[aK]at d;omega
 have o8:ae [] w w8:=o6.trans k9 fun y d=>.inr (by have:=X y d;omega);refine gO ?_;refine fJ (z.hb.ab o8) (by simp) Bu.jH fun w9 Dz ZI I=>?_;simp only[List.set_cons_zero,List.set_cons_succ]at ZI;refine gO ?_;have Qt:(L.take i++[m]++L.drop i).length=0+i+1+(L.length-i):=by simp only[cH,List.length_take,List.length_drop,List.length_singleton];omega
 have hO:Sl w8 8 v8 (L.take i++[m]++L.drop i).length (gS (L.take i++[m]++L.drop i)) f8:=by
  have r:gS [m]=m.V:=by simp[gS]
  rw[Qt,lF,lF,r];simpa[List.append_assoc]using Bu
 have VW: ∀y,y∈m.fr++m.fd→y<w.heap.size:=fun y d=>by
  rcases List.mem_append.1 d with h|h
  ·exact K.r.lt y h
  ·exact K.d.lt y h
 have ha: ∀y,y∈m.fr++m.fd→y≠b∧y∉R∧y∉fO∧y∉S∧y∉eF L:=fun y d=>by
  have:=VU y d;simpa[not_or]using this
 have Y:s.dG m.o= {s with O:=s.O.take i++[m.o]++s.O.drop i}:=by unfold RL.dG;rw[VV]
 have VX:(s.dG m.o).Ok:=z.ok.put Te hl;have VY:=IP (k:=i) n5 VS fun x hx=>(ha x hx).2.2.2.2;obtain⟨f1,f2,f3,f5⟩:True∧True∧True∧True:=⟨trivial,trivial,trivial,trivial⟩;have hx: ∀y,y∈eF (L.take i++[m]++L.drop i)→y∈eF L∨y∈m.fr++m.fd:=fun y d=>by
  rw[fU,fU,List.mem_append,List.mem_append]at d;have r:eF [m]=m.fr++m.fd:=by simp[eF]
  rw[r]at d;have e:eF L=eF (L.take i)++eF (L.drop i):=by rw[←fU,List.take_append_drop]
  rcases d with(d|d)|d
  ·left;rw[e];exact List.mem_append.2 (.inl d)
  ·exact .inr d
  ·left;rw[e];exact List.mem_append.2 (.inr d)
 have J: ∀y,y∈eF (L.take i++[m]++L.drop i)→y<w.heap.size∧y≠b∧y∉R∧y∉S:=fun y d=>by
  rcases hx y d with h|h
  ·exact⟨N y (by simp[h]),n1 y (.inr (.inr (.inr h))),fun h'=>(n2 y h').2.2 h,fun h'=>n4 y h' h⟩
  ·exact⟨VW y h,(ha y h).1,(ha y h).2.1,(ha y h).2.2.2.1⟩
 have Qu:b<w.heap.size:=N b (by simp);have VZ: ∀y,y∈R→y<w.heap.size:=fun y d=>N y (by simp[d]);have V0: ∀y,y∈S→y<w.heap.size:=fun y d=>N y (by simp[d]);refine⟨o8.of_nil.same I,b::(R++(f8++(S++eF (L.take i++[m]++L.drop i)))),⟨vB,v8,vF,R,f8,S,L.take i++[m]++L.drop i,rfl,?_⟩,?_⟩
 ·refine⟨VX,?_,(z.hB.ab o8).keep I fun y d=>bg (n1 y (.inl d)),hO.keep I fun y d=>bg (by have:=o y d;omega),(z.hF.ab o8).keep I fun y d=>bg (n1 y (.inr (.inr (.inl d)))),?_,fun m' t=>?_,AQ ?_ ?_ ?_ ?_ VY hO.nodup n7 n8⟩
  ·rw[Y];exact ZI
  ·rw[Y];simp only[z.eq,List.map_append,List.map_take,List.map_drop,List.map_cons,List.map_nil]
  ·have DB: ∀y,y∈m'.fr∨y∈m'.fd→y≠b:=fun y d=>(J y (ig t d)).2.1;have:m'.ok w:=by
    simp only[List.mem_append,aK]at t;rcases t with(h|rfl)|h
    ·exact z.om _ (List.mem_of_mem_take h)
    ·exact K
    ·exact z.om _ (List.mem_of_mem_drop h)
   exact(this.ab o8).keep I fun y d=>bg (DB y d)
  ·rintro y (d|d|d|d)
   ·exact n1 y (.inl d)
   ·have:=o y d;omega
   ·exact n1 y (.inr (.inr (.inl d)))
   ·exact(J y d).2.1
  ·exact fun y d=>⟨fun h=>by have:=o y h;have:=VZ y d;omega,(n2 y d).2.1,fun h=>(J y h).2.2.1 d⟩
  ·exact fun y d=>⟨fun h=>by have:=o y d;have:=V0 y h;omega,fun h=>by have:=o y d;have:=(J y h).1;omega⟩
  ·exact fun y d h=>(J y h).2.2.2 d
 ·intro y d;simp only[List.mem_cons,List.mem_append]at d⊢;rcases d with rfl|d|d|d|d
  ·exact .inl (.inl rfl)
  ·exact .inl (.inr (.inl d))
  ·exact .inr (.inr (by have:=o y d;omega))
  ·exact .inl (.inr (.inr (.inr (.inl d))))
  ·rcases hx y d with h|h
   ·exact .inl (.inr (.inr (.inr (.inr h))))
   ·exact .inr (.inl (List.mem_append.1 h))
end
section
variable {fp:List Nat} {b:Nat} {s:RL} {w:World}
def RL.hl (s:RL):HL:=⟨s.B,[],[],[],[],[],0⟩
def jM (a b but:Int) (o:Ob):Bool:=(o.id !=but&&decide (o.a<a+b))&&decide (a<o.a+aE o.sh)
def RL.jN (s:RL) (a:Int) (b:Sh) (but:Int):Int:=if a<0∨a%2≠0∨((64*s.B.length:Nat):Int)≤a then 1 else if bX s.hl a (aE b)=true then 5 else if s.O.any (jM a (aE b) but)=true then 8 else 0
theorem My (h:FM w b s fp) (k:Nat) (z:k<s.B.length) (y:(s.B.getD k (0,0)).1=2):
  Cs Tryz.prog 428 [.pointer (some ⟨b,0,none⟩),.int .i64 (k:Int)] w fun v w'=>v=.int .i64 (s.hl.span k:Nat)∧w'=w:=by
 obtain⟨I,J,K,M,fO,N,L,B,h⟩:=h;have O:=h.ok.jd;obtain⟨g,cap,ys,rfl,d,_,_⟩:=h.uP;have m:s.hl.span k=tails s.B k s.B.length 1:=by unfold HL.span;rw[if_pos (show(s.hl.B.getD k (0,0)).1=2 from y)];rfl
 have C:(0:Int)≤(k:Int)∧(k:Int)<(s.B.length:Int):=⟨by omega,by omega⟩;refine en [] ?_;(repeat(first|with_reducible(first|refine nx ?_|refine bA rfl ?_)|simp only[go_sem,h.hb.cell,d.cell,if_pos C,c9,(fV ys z).1,cU (show¬(s.B.getD k (0,0)).1=1 by omega),dg y]));refine az (5::24::25::26::27::28::29::30::31::32::33::34::35::36::37::38::39::40::41::42::43::44::45::46::47::[]) (fun g w'=> ∃n:Nat,g 5=.int .i64 (n:Int)∧1≤n∧k+n≤s.B.length∧tails s.B k (s.B.length+1-n) n=tails s.B k s.B.length 1∧w'=w) (fun g _=>bw (s.B.length+1) 5 g)
  ⟨1,by simp only[go_sem];rfl,by omega,by omega,by rw[Nat.add_sub_cancel],rfl⟩ fun P D E j=>?_
 obtain⟨n,o,F,G,l,rfl⟩:=E;have u:IntKind.i64.wrap ((k:Int)+(n:Int))=((k+n:Nat):Int):=by rw[IntWalk.i64_in _ (by omega)];omega
 obtain⟨f,H⟩: ∃f,s.B.length+1-n=f+1:=⟨s.B.length-n,by omega⟩;rw[H,tails]at l;by_cases q:k+n<s.B.length;rotate_left
 ·rw[if_neg (fun h=>q h.1)]at l;refine eZ h.hb.cell o u (aX (show¬((k+n:Nat):Int)<(s.B.length:Int) by omega)) ?_;rw[m,l]
 have r:(0:Int)≤((k+n:Nat):Int)∧((k+n:Nat):Int)<(s.B.length:Int):=⟨by omega,by omega⟩;by_cases t:(s.B.getD (k+n) (0,0)).1=3;rotate_left
 ·rw[if_neg (fun h=>t h.2)]at l;(repeat(first|with_reducible(first|refine nx ?_|refine bA rfl ?_)|simp only[go_sem,h.hb.cell,d.cell,if_pos r,c9,(fV ys q).1,o,u,aU r.2,cU t]));rw[m,l]
 rw[if_pos ⟨q,t⟩]at l;(repeat(first|with_reducible(first|refine nx ?_|refine bA rfl ?_)|simp only[go_sem,h.hb.cell,d.cell,if_pos r,c9,(fV ys q).1,o,u,aU r.2,cZ t,au n (by omega)]));refine j _ D ⟨n+1,?_,by omega,by omega,?_,rfl⟩ ?_
 ·simp only[go_sem]
 ·rw[show s.B.length+1-(n+1)=f by omega];exact l
 ·exact aJ o
theorem Qv (h:FM w b s fp) (x:Int) (t:Sh) (but:Int) (hx:x≤4611686018427387904) (hv:aS t=true):Cs Tryz.prog 379 [.pointer (some ⟨b,0,none⟩),.int .i64 x,.agg ⟨bS t⟩,.int .i64 but] w fun v w'=>v=.int .i64 (s.jN x t but)∧ae [] w w':=by
 have h00:=h;obtain⟨vB,vO,vF,fB,fO,fF,L,DW,X⟩:=h;have hlen:=X.len;have Qw:=X.ok.ol;have hB:=X.ok.jd;have hw:=dk hv;obtain⟨ao,co,hvO⟩:=X.C8;obtain⟨gB,aaZ,U,rfl,Mz,_,_⟩:=X.uP;refine en [2,5,8,11,14,17,20,23,26,29,32,35,38,41,44,47,50,56,54,61,62,65,0,2,5,8,11,14,17,20,23,26,30,32,35,38,41,44,47,50,53,56,60,62,65,68,0] ?_;refine gO ?_;refine bp fun q w1 hq pf Y l=>?_;have Ck:=X.hb.ab l;by_cases c1:x<0
 ·refine aQ (aU c1) ?_;exact⟨by simp[RL.jN,c1],l⟩
 obtain⟨k,rfl⟩: ∃k:Nat,x=k:=⟨x.toNat,by omega⟩;by_cases c2:k%2=0;rotate_left
 ·refine cT (aX c1) (rz k) (eE (show¬((k%2:Nat):Int)=0 by omega)) ?_;refine⟨?_,l⟩;unfold RL.jN;rw[if_pos (.inr (.inl (by omega)))]
 have ZJ:IntKind.i64.wrap ((s.B.length:Int)*64)=((64*s.B.length:Nat):Int):=by rw[IntWalk.i64_in _ (by omega)];omega
 by_cases c3:64*s.B.length≤k
 ·refine k0 (aX c1) (rz k) (dg (show((k%2:Nat):Int)=0 by omega)) Ck.cell ZJ (aU (show((64*s.B.length:Nat):Int)≤(k:Int) by omega)) ?_;refine⟨?_,l⟩;unfold RL.jN;rw[if_pos (.inr (.inr (by omega)))]
 have hE:s.jN (k:Int) t but=if bX s.hl (k:Int) (aE t)=true then 5 else if s.O.any (jM (k:Int) (aE t) but)=true then 8 else 0:=by
  unfold RL.jN;rw[if_neg (by omega)]
 have M:k/64<s.B.length:=by omega
 have e1:(0:Int)≤((k/64:Nat):Int)∧((k/64:Nat):Int)<(s.B.length:Int):=⟨by omega,by omega⟩;have hb:s.hl.b ((k:Int)/64)=s.B.getD (k/64) (0,0):=by unfold HL.b;congr 1
 have k64:((k:Int)/64).toNat=k/64:=by omega
 obtain⟨u,B⟩: ∃n:Nat,aE t=n:=⟨(aE t).toNat,by omega⟩;have e4:IntKind.i64.wrap (IntKind.i64.wrap ((k:Int)+(u:Int))-1)=((k+u-1:Nat):Int):=by rw[IntWalk.i64_in ((k:Int)+(u:Int)) (by omega),IntWalk.i64_in _ (by omega)];omega
 have V: ∀G,ae [] w1 G→aC G ⟨q,0,none⟩ 3=some (bS t):=fun G k=>ay (Y.ab k) 0 3 (by simp[bS]);(repeat(first|with_reducible(first|refine Er ?_|refine Es ?_|refine SG ?_|refine Et ?_|refine Eu ?_|refine bA rfl ?_)|simp only[go_sem,aX c1,rz k,dg (show((k%2:Nat):Int)=0 by omega),Ck.cell,ZJ,aX (show¬((64*s.B.length:Nat):Int)≤(k:Int) by omega)]));refine kM ?_;simp only[go_sem];refine mo (run_seq (wx ?_));simp only[go_sem,iI k (by omega)];refine run_seq ?_;refine bH (31::32::33::34::35::36::37::38::39::40::41::42::43::44::45::46::47::48::49::50::51::52::53::54::55::56::57::58::59::60::61::62::63::64::65::66::67::68::69::70::71::72::73::[]) (fun _ w'=>ae [] w1 w'∧bX s.hl (k:Int) (aE t)=false) (fun kk jS=>?_) (fun g G hJ=>?_)
 ·refine aQ (V w1 (ae.refl _ _)) ?_;refine aM (xk w1 t) fun G d=>?_;have W:=(X.ab l).ab d;have J:=(Mz.ab l).ab d;rw[B];by_cases MA:(32:Int)<(u:Int)
  ·have E:bX s.hl (k:Int) (u:Int)=(decide ((s.B.getD (k/64) (0,0)).1≠2)||decide ((k:Int)%64≠0)||decide (((s.hl.span (k/64):Nat):Int)≠((u:Int)+63)/64)):=by
    unfold bX;rw[if_neg (by omega),hb,k64]
   refine aQ (aU MA) ?_;refine aW [b,gB,q] ?_;by_cases c5:k%64=0;rotate_left
   ·refine aZ (qF k) (eE (show¬((k%64:Nat):Int)=0 by omega)) ?_;refine⟨?_,(l.nil d).nil (ae.drew [] G)⟩;rw[hE,B,E,aU (show(k:Int)%64≠0 by omega)];simp
   by_cases T:(s.B.getD (k/64) (0,0)).1=2;rotate_left
   ·(repeat(first|with_reducible(first|refine nx ?_|refine bA rfl ?_)|simp only[go_sem,qF k,dg (show((k%64:Nat):Int)=0 by omega),W.hb.drew.cell,J.drew.cell,if_pos e1,c9,(fV U M).1,eE T]));refine⟨?_,(l.nil d).nil (ae.drew [] G)⟩;rw[hE,B,E,aU (show(s.B.getD (k/64) (0,0)).1≠2 from T)];simp
   (repeat(first|with_reducible(first|refine nx ?_|refine bA rfl ?_)|simp only[go_sem,qF k,dg (show((k%64:Nat):Int)=0 by omega),W.hb.drew.cell,J.drew.cell,if_pos e1,c9,(fV U M).1,dg T,V G.drew (d.nil (ae.drew [] G))]));refine ks (My (((h00.ab l).ab d).ab (ae.drew [] G)) (k/64) M T) (.inr (SB.refl _ _)) ?_;refine gO ?_;refine jr (FU G.drew t) (.inl rfl) fun w3 r=>?_;rw[B];have e5:((u:Int)+63)/64=(((u+63)/64:Nat):Int):=by omega
   rw[e5];by_cases c6:s.hl.span (k/64)=(u+63)/64;rotate_left
   ·refine aQ (eE (show¬((s.hl.span (k/64):Nat):Int)=(((u+63)/64:Nat):Int) by omega)) ?_;refine⟨?_,((l.nil d).nil (ae.drew [] G)).nil r⟩;rw[hE,B,E,aU (show((s.hl.span (k/64):Nat):Int)≠((u:Int)+63)/64 by omega)];simp
   refine aQ (dg (show((s.hl.span (k/64):Nat):Int)=(((u+63)/64:Nat):Int) by omega)) ?_;refine jS _ _ ⟨(d.nil (ae.drew [] G)).nil r,?_⟩
   ·rw[B,E,aX (show¬(s.B.getD (k/64) (0,0)).1≠2 from fun h=>h T),aX (show¬(k:Int)%64≠0 by omega),aX (show¬((s.hl.span (k/64):Nat):Int)≠((u:Int)+63)/64 by omega)];rfl
  ·have E:bX s.hl (k:Int) (u:Int)=(decide ((s.B.getD (k/64) (0,0)).1≠1)||decide (((k:Int)+(u:Int)-1)/64≠(k:Int)/64)):=by
    unfold bX;rw[if_pos (by omega),hb]
   by_cases T:(s.B.getD (k/64) (0,0)).1=1;rotate_left
   ·(repeat(first|with_reducible(first|refine nx ?_|refine bA rfl ?_)|simp only[go_sem,aX MA,W.hb.cell,J.cell,if_pos e1,c9,(fV U M).1,eE T]));refine⟨?_,l.nil d⟩;rw[hE,B,E,aU (show(s.B.getD (k/64) (0,0)).1≠1 from T)];simp
   (repeat(first|with_reducible(first|refine nx ?_|refine bA rfl ?_)|simp only[go_sem,aX MA,W.hb.cell,J.cell,if_pos e1,c9,(fV U M).1,dg T,V G d]));refine aM (oJ G t) fun w3 r=>?_;rw[B];by_cases c5:(k+u-1)/64=k/64;rotate_left
   ·refine cT e4 (iI (k+u-1) (by omega)) (eE (show¬(((k+u-1)/64:Nat):Int)=((k/64:Nat):Int) by omega)) ?_;refine⟨?_,(l.nil d).nil r⟩;rw[hE,B,E,aU (show((k:Int)+(u:Int)-1)/64≠(k:Int)/64 by omega)];simp
   refine cT e4 (iI (k+u-1) (by omega)) (dg (show(((k+u-1)/64:Nat):Int)=((k/64:Nat):Int) by omega)) ?_;refine jS _ _ ⟨d.nil r,?_⟩
   ·rw[B,E,aX (show¬(s.B.getD (k/64) (0,0)).1≠1 from fun h=>h T),aX (show¬((k:Int)+(u:Int)-1)/64≠(k:Int)/64 by omega)];rfl
 obtain⟨d,hW⟩:=hJ;rw[hE,hW,if_neg (by simp)];have o2:=l.nil d;refine gO ?_;refine az (10::11::74::75::76::77::78::79::80::81::82::83::84::85::86::87::88::89::90::91::92::93::94::95::96::97::98::99::100::101::102::103::104::105::106::107::108::109::110::111::112::[]) (fun g w'=> ∃j:Nat,g 10=.int .i64 (j:Int)∧j≤L.length∧(∀i,i<j→jM (k:Int) (aE t) but (s.O.getD i default)=false)∧ae [] G w') (fun g _=>bw L.length 10 g)
  ⟨0,by simp only[go_sem];rfl,by omega,by omega,ae.refl _ _⟩ fun g w3 hI H=>?_
 obtain⟨j,F,hj,GI,r⟩:=hI;have o3:=o2.nil r;have C:=X.ab o3;refine cT F C.hb.cell hvO ?_;refine cu (fun I=>?_) (fun tA=>?_)
 ·have I:j<L.length:=by simpa using I
  obtain⟨g8,cap,ys,e8,xc,_,_⟩:=C.row (by omega);have e2:(0:Int)≤(j:Int)∧(j:Int)<(L.length:Int):=⟨by omega,by omega⟩;obtain⟨EP,_⟩:=C.all (cap:=0) xc I;have xH:=C.om (L.getD j default) (by simp[I]);have N:=C.lV I;have O:=C.ok.ob (s.O.getD j default) (by rw[N,C.eq];exact List.mem_map.2 ⟨_,by simp[I],rfl⟩);rw[N]at O;have P:jM (k:Int) (aE t) but (L.getD j default).o=false→ ∀i,i<j+1→jM (k:Int) (aE t) but (s.O.getD i default)=false:=fun h i hi=>by
   by_cases e:i=j
   ·subst e;rw[N];exact h
   ·exact GI i (by omega)
  have Q:jM (k:Int) (aE t) but (L.getD j default).o=true→s.O.any (jM (k:Int) (aE t) but)=true:=fun h=>by
   rw[←N]at h;exact List.any_eq_true.2 ⟨_,by rw[N,C.eq];exact List.mem_map.2 ⟨_,by simp[I],rfl⟩,h⟩
  generalize L.getD j default=m at EP xH O P Q;obtain⟨o,vr,vd,fr,fd⟩:=m;refine k0 F C.hb.cell e8 (eq_true e2) @Int.toNat_natCast EP ?_;refine bp fun p w4 hp pk iH iV=>?_;refine gO ?_;refine dF iH rfl (by simp[OM.V,wQ]) (FY xH) fun K qm ky jv=>?_;have D:At K p (wQ o vr vd):=ky;have V1:ae [] w3 K:=iV.trans jv fun y hy=>by simp only[aK]at hy;subst hy;exact .inr (by rw[hp];exact Nat.le_refl _)
  have o5:=o3.nil V1;have R:=V1.nil (ae.drew [] K);have Z:=D.lt;have Qx:q<K.heap.size:=((Y.ab (d.nil r)).ab V1).lt;have SJ:aC K.drew ⟨p,2,none⟩ 3=some (bS o.sh):=by rw[ay D.drew 2 3 (by simp[wQ])];rfl
  have GJ: ∀w6,ae [] K.drew w6→SB [p,q] K.drew w6:=fun w6 ho=>(SB.refl _ _).only ho fun z hz=>⟨by simp only[List.mem_cons,List.not_mem_nil,or_false]at hz;show z<K.heap.size;rcases hz with rfl|rfl;exact Z;exact Qx,by simp⟩;have p1:K.drew.cell? ⟨p,1,none⟩=some (.int .i64 o.id):=by rw[D.drew.cell];rfl
  have p0:K.drew.cell? ⟨p,0,none⟩=some (.int .i64 o.a):=by rw[D.drew.cell];rfl
  have V2:=O.a0;have ZK:=O.a1;have V3:=dk O.v;simp only at V2 ZK V3 P Q;have f1:IntKind.i64.wrap ((k:Int)+aE t)=(k:Int)+aE t:=IntWalk.i64_in _ (by omega);have f2:IntKind.i64.wrap (o.a+aE o.sh)=o.a+aE o.sh:=IntWalk.i64_in _ (by omega);refine gO ?_;refine aW [p,q] ?_;by_cases d1:o.id=but
  ·refine eZ p1 (dg d1) F (au j (by omega)) ?_;refine H _ _ ⟨j+1,?_,by omega,P (by simp[jM,d1]),r.nil R⟩ ?_
   ·simp only[go_sem]
   ·exact aJ F
  refine eZ p1 p0 (eE d1) (V K.drew ((d.nil r).nil R)) ?_;refine jr (oJ K.drew t) (.inr ⟨SB.refl _ _,fun z hz=>⟨by simp only[List.mem_cons,List.not_mem_nil,or_false]at hz;show z<K.heap.size;rcases hz with rfl|rfl;exact Z;exact Qx,by simp⟩⟩) fun w6 S=>?_;by_cases d2:o.a<(k:Int)+aE t;rotate_left
  ·refine eZ f1 (aX d2) F (au j (by omega)) ?_;refine H _ _ ⟨j+1,?_,by omega,P (by simp[jM];omega),(r.nil R).nil S⟩ ?_
   ·simp only[go_sem]
   ·exact aJ F
  refine eZ f1 (aU d2) p0 SJ ?_;have Vj: ∀z,z∈[p,q]→z<w6.heap.size∧z∉([]:List Nat):=fun z hz=>by
   have h6:K.heap.size≤w6.heap.size:=S.size;simp only[List.mem_cons,List.not_mem_nil,or_false]at hz;refine⟨?_,by simp⟩;rcases hz with rfl|rfl<;>omega
  refine jr (oJ w6 o.sh) (.inr ⟨GJ w6 S,Vj⟩) fun w7 kB=>?_;by_cases d3:(k:Int)<o.a+aE o.sh;rotate_left
  ·refine eZ f2 (aX d3) F (au j (by omega)) ?_;refine H _ _ ⟨j+1,?_,by omega,P (by simp[jM];omega),((r.nil R).nil S).nil kB⟩ ?_
   ·simp only[go_sem]
   ·exact aJ F
  refine aZ f2 (aU d3) ?_;refine⟨?_,(((o3.nil R).nil S).nil kB)⟩;rw[if_pos (Q (by simp[jM,d1,d2,d3]))]
 ·have tA: ¬j<L.length:=by simpa using tA
  refine gO ?_;refine⟨?_,o3⟩;rw[if_neg];intro V4;obtain⟨o,ho,h2⟩:=List.any_eq_true.1 V4;obtain⟨i,hi,rfl⟩:=List.mem_iff_getElem.1 ho;have:=GI i (by omega);have e:s.O.getD i default=s.O[i]:=by simp[hi]
  rw[e,h2]at this;cases this
end
section
variable {a but:Int} {s:RL} {sh:Sh} {w:World}
def RL.bC (s:RL) (a:Int) (sh:Sh):Int×Int:=if aS sh=false then(0,2)else if s.jN a sh 0≠0 then(0,s.jN a sh 0)else(((s.born+1:Nat):Int),0)
def RL.ke (s:RL) (a:Int) (sh:Sh):Ob:=⟨a,((s.born+1:Nat):Int),sh,List.replicate sh.1.toNat 0,List.replicate sh.2.1.toNat 0,false⟩
def RL.bK (s:RL) (a:Int) (sh:Sh):RL:=if(s.bC a sh).2=0 then {s with born:=s.born+1}.dG (s.ke a sh)else s
theorem FZ (l:s.B.length≤64) (k:aS sh=true) (h:s.jN a sh but=0):0≤a∧a+aE sh≤((64*s.B.length:Nat):Int)∧a%2=0:=by
 have m:=dk k;unfold RL.jN at h;by_cases d:a<0∨a%2≠0∨((64*s.B.length:Nat):Int)≤a
 ·rw[if_pos d]at h;cases h
 rw[if_neg d]at h;by_cases b:bX s.hl a (aE sh)=true
 ·rw[if_pos b]at h;cases h
 refine⟨by omega,?_,by omega⟩;rw[Bool.not_eq_true]at b;unfold bX at b;by_cases j:aE sh≤32
 ·rw[if_pos j]at b;simp only[Bool.or_eq_false_iff,decide_eq_false_iff_not,Decidable.not_not]at b;omega
 ·rw[if_neg j]at b;simp only[Bool.or_eq_false_iff,decide_eq_false_iff_not,Decidable.not_not]at b;have:(a/64).toNat+s.hl.span (a/64).toNat≤s.B.length:=(sG (s:=s.hl) (show(a/64).toNat<s.B.length by omega)).1;omega
theorem F1 (j:s.B.length≤64) (b:aS sh=true) (h:s.jN a sh but=0):(s.ke a sh).Ok s.B.length:=by
 have d:=b;simp only[aS,Bool.and_eq_true,decide_eq_true_eq]at d;obtain⟨k,l,m⟩:=FZ j b h;refine⟨b,?_,?_,k,l⟩
 ·simp only[RL.ke,List.length_replicate];omega
 ·simp only[RL.ke,List.length_replicate];omega
theorem Sl.zeros {g n:Nat} (h:At w g (il [Value.int .i64 0] n)):Sl w 1 (.slice (some ⟨g,0,none⟩) n n) n (ints (List.replicate n 0)) [g]:=by
 rw[gx,yV]at h;exact Sl.wH (ys:=[]) (by simpa using h) (by simp[ints]) (by simp[ints])
theorem MC {b:Nat} {fp:List Nat} (h:FM w b s fp) (x:Int) (sh:Sh) (hx:x≤4611686018427387904) (ZL:s.born≤4611686018427387900) (hl:s.O.length<2048):
  Cs Tryz.prog 249 [.pointer (some ⟨b,0,none⟩),.int .i64 x,.agg ⟨bS sh⟩] w fun v w'=>v=.tuple #[.int .i64 (s.bC x sh).1,.int .i64 (s.bC x sh).2]∧ae fp w w'∧ ∃j,FM w' b (s.bK x sh) j∧ ∀y,y∈j→y∈fp∨w.heap.size≤y:=by
 have O:=h;obtain⟨vB,vO,vF,fB,fO,fF,L,DW,N⟩:=h;have O1:=N.hb.lt;have bad: ∀e:Int,s.bC x sh=(0,e)→e≠0→s.bK x sh=s:=fun e h1 h2=>by unfold RL.bK;rw[h1,if_neg h2]
 refine en [2,5,8,11,14,17,20,23,26,32,35,1,30,39,41,46,0,39,30,41,46,0] ?_;refine gO ?_;refine bp fun q w1 hq pf R H=>?_;refine gO ?_;refine aH (p' (O.ab H)) ?_;have Jv: ∀w2,ae [] w1 w2→aC w2 ⟨q,0,none⟩ 3=some (bS sh):=fun w2 k=>ay (R.ab k) 0 3 (by simp[bS]);refine aQ (Jv w1 (ae.refl _ _)) ?_;refine aM (FT w1 sh) fun w2 C=>?_;cases hv:aS sh with
 |false=>
  have S:s.bC x sh=(0,2):=by unfold RL.bC;rw[if_pos hv]
  refine gO ?_;rw[S,bad 2 S (by omega)];exact⟨rfl,(H.nil C).of_nil,fp,O.ab (H.nil C),fun y l=>.inl l⟩
 |true=>
  refine aQ (Jv w2 C) ?_;refine aM (Qv (O.ab (H.nil C)) x sh 0 hx hv) fun w3 gJ=>?_;have o3:=(H.nil C).nil gJ;by_cases he:s.jN x sh 0=0;rotate_left
  ·have S:s.bC x sh=(0,s.jN x sh 0):=by unfold RL.bC;rw[if_neg (by simp[hv]),if_pos he]
   refine aQ (eE he) ?_;rw[S,bad _ S he];exact⟨rfl,o3.of_nil,fp,O.ab o3,fun y l=>.inl l⟩
  have S:s.bC x sh=(((s.born+1:Nat):Int),0):=by unfold RL.bC;rw[if_neg (by simp[hv]),if_neg (by simp[he])]
  have hM:s.bK x sh= {s with born:=s.born+1}.dG (s.ke x sh):=by unfold RL.bK;rw[S,if_pos rfl]
  have V5:=hv;simp only[aS,Bool.and_eq_true,decide_eq_true_eq]at V5;have D:=N.ab o3;obtain⟨n1,n2,n3,n4,n5,n6,n7,n8⟩:=IK N.nd;have e1:IntKind.i64.wrap ((s.born:Int)+1)=((s.born+1:Nat):Int):=au _ (by omega);refine cT (dg he) D.hb.cell e1 ?_;refine fJ D.hb (by simp) rfl fun E pk P F=>?_;simp only[List.set_cons_zero,List.set_cons_succ]at P;have H0:lN E b {s with born:=s.born+1} vB vO vF fB fO fF L:=
   ⟨⟨N.ok.b2,N.ok.jd,N.ok.ol,N.ok.ob⟩,P,D.hB.keep F fun y l=>bg (n1 y (.inl l)),D.hO.keep F fun y l=>bg (n1 y (.inr (.inl l))),D.hF.keep F fun y l=>bg (n1 y (.inr (.inr (.inl l)))),N.eq,
    fun m ZM=>(D.om m ZM).keep F fun y l=>bg (n1 y (.inr (.inr (.inr (ig ZM l))))),N.nd⟩
  have hqb:q≠b:=by omega
  have I:At E q (bS sh):=(R.ab (C.nil gJ)).keep F (bg hqb);have V:At E.drew q [.int .i64 sh.1,.int .i64 sh.2.1,.int .i64 sh.2.2]:=I.drew;have V6:aC E.drew ⟨q,0,none⟩ 3=some (bS sh):=ay I.drew 0 3 (by simp[bS]);have V7:=P.lt;have V8:=I.lt;have o4:ae [b] w E:=o3.of_nil.same F;have G: ∀z,z∈[b,q]→z<E.drew.heap.size∧z∉([]:List Nat):=fun z hz=>⟨by show z<E.heap.size;simp only[List.mem_cons,List.not_mem_nil,or_false]at hz;rcases hz with rfl|rfl;exact V7;exact V8,by simp⟩;obtain⟨r,hr⟩: ∃r:Nat,sh.1=r:=⟨sh.1.toNat,by omega⟩;obtain⟨d,hd⟩: ∃d:Nat,sh.2.1=d:=⟨sh.2.1.toNat,by omega⟩;have T:s.ke x sh=⟨x,((s.born+1:Nat):Int),sh,List.replicate r 0,List.replicate d 0,false⟩:=by unfold RL.ke;rw[hr,hd];rfl
  have fin: ∀(Q:World) (o t:Nat),ae [] E Q→E.heap.size≤o→E.heap.size≤t→o≠t→At Q o (il [Value.int .i64 0] r)→At Q t (il [Value.int .i64 0] d)→
    Cs Tryz.prog 380 [.pointer (some ⟨b,0,none⟩),.agg ⟨wQ (s.ke x sh) (.slice (some ⟨o,0,none⟩) r r) (.slice (some ⟨t,0,none⟩) d d)⟩] Q fun v w'=>v=.tuple #[]∧ae fp w w'∧ ∃j,FM w' b (s.bK x sh) j∧ ∀y,y∈j→y∈fp∨w.heap.size≤y:=by
   intro Q o t W h1 h2 DB J K;have hm7:=H0.ab W;have V9:=H0.lt;have hw0:=o4.size;refine Cs.mono (VR hm7 ⟨s.ke x sh,.slice (some ⟨o,0,none⟩) r r,.slice (some ⟨t,0,none⟩) d d,[o],[t]⟩ (F1 (s:=s) N.ok.jd hv he) hl ⟨?_,?_⟩ (by simpa using DB) ?_) ?_
   ·rw[T];simpa using Sl.zeros J
   ·rw[T];simpa using Sl.zeros K
   ·intro y l;have:E.heap.size≤y:=by simp only[List.cons_append,List.nil_append,List.mem_cons,List.not_mem_nil,or_false]at l;omega
    intro h;have:=V9 y h;omega
   ·rintro v w8 ⟨rfl,X,j,hF,M⟩;have o8:ae [b] w w8:=(o4.nil W).same X;refine⟨rfl,o8.mono fun y l=>.inl (by rw[DW];simp only[aK]at l;simp[l]),j,by rw[hM];exact hF,fun y l=>?_⟩;rcases M y l with h|h|h
    ·left;rw[DW];exact h
    ·right;simp only[List.cons_append,List.nil_append,List.mem_cons,List.not_mem_nil,or_false]at h;omega
    ·right;have:=W.size;omega
  have U: ∀o t:Nat,sQ (dQ [Value.int .i64 0,.int .i64 0,.int .i64 0,.int .i64 0,.int .i64 0,.slice none 0 0,.slice none 0 0,.bool false] [(0,1,.int .i64 x),(1,1,.int .i64 ((s.born+1:Nat):Int)),(2,3,.agg ⟨bS sh⟩),(5,1,.slice (some ⟨o,0,none⟩) r r),(6,1,.slice (some ⟨t,0,none⟩) d d)])=some (.agg ⟨wQ (s.ke x sh) (.slice (some ⟨o,0,none⟩) r r) (.slice (some ⟨t,0,none⟩) d d)⟩):=fun o t=>by
   rw[ag rfl rfl,ag rfl rfl,kY (n:=3) rfl rfl,ag rfl rfl,ag rfl rfl];rfl
  refine gO ?_;refine bH (29::30::31::32::33::34::35::36::37::38::39::40::41::42::43::[]) (fun _ w'=>ae fp w w'∧ ∃j,FM w' b (s.bK x sh) j∧ ∀y,y∈j→y∈fp∨w.heap.size≤y) (fun kk jS=>?_) (fun g w8 hJ=>?_)
  ·have qs:(Value.int .i64 ((0:Nat):Int))=.int .i64 0:=rfl;refine aW [b,q] ?_;refine lY P.drew.cell V6 V.cell hr @hd ?_;refine⟨?_,?_⟩
   ·refine th (Nat.le_refl _) (by omega) (by omega) fun o w5 J Y h5 u=>⟨.inr ((SB.refl _ _).only u G),?_⟩;refine gO ?_;refine th (Nat.le_refl _) (by omega) (by omega) fun t w6 K oO h6 B=>⟨.inr (((SB.refl _ _).only u G).only B fun z hz=>⟨by have:=(G z hz).1;omega,by simp⟩),?_⟩;refine aQ U ?_;refine bI (fin w6 o t (((ae.drew [] E).nil u).nil B) (by rw[J];exact Nat.le_refl _) (by rw[K,Y];exact Nat.le_succ _) (by omega) (h5.ab B) h6) fun v Q Z=>⟨.inl rfl,?_⟩;refine gO ?_;refine jS _ Q Z.2
   ·refine th (Nat.le_refl _) (by omega) (by omega) fun t w5 K Y h5 u=>⟨.inr ((SB.refl _ _).only u G),?_⟩;refine gO ?_;refine th (Nat.le_refl _) (by omega) (by omega) fun o w6 J oO h6 B=>⟨.inr (((SB.refl _ _).only u G).only B fun z hz=>⟨by have:=(G z hz).1;omega,by simp⟩),?_⟩;refine aQ U ?_;refine bI (fin w6 o t (((ae.drew [] E).nil u).nil B) (by rw[J,Y];exact Nat.le_succ _) (by rw[K];exact Nat.le_refl _) (by omega) h6 (h5.ab B)) fun v Q Z=>⟨.inl rfl,?_⟩;refine gO ?_;refine jS _ Q Z.2
  obtain⟨X,j,hF,M⟩:=hJ;have hcb:w8.cell? ⟨b,3,none⟩=some (.int .i64 ((s.born+1:Nat):Int)):=by
   rw[hM]at hF;obtain⟨_,_,_,_,_,_,_,_,zI⟩:=hF;rw[zI.hb.cell];rfl
  refine aQ hcb ?_;rw[S];exact⟨rfl,X,j,hF,M⟩
theorem V' (w:World) (n:Int) (B:2≤n) (C:n≤64):Cs Tryz.prog 74 [.int .i64 n] w fun v w'=>ae [] w w'∧ ∃b fp,v=.tuple #[.pointer (some ⟨b,0,none⟩),.int .i64 0]∧FM w' b ⟨List.replicate n.toNat (0,0),[],[],0⟩ fp∧ ∀y,y∈fp→w.heap.size≤y:=by
 obtain⟨k,rfl⟩: ∃k:Nat,n=k:=⟨n.toNat,by omega⟩;refine en [] ?_;refine aZ (aX (show¬(k:Int)<2 by omega)) (aX (show¬(64:Int)<(k:Int) by omega)) ?_;refine Hp (Nat.le_refl _) (by omega) (by omega) fun g D E q d o=>?_;rw[yU]at d;refine gO ?_;rw[ag rfl rfl];refine gO ?_;refine bp fun b r F t l m=>?_;refine gO ?_;have j:At r b [.slice (some ⟨g,0,none⟩) k k,.slice none 0 0,.slice none 0 0,.int .i64 ((0:Nat):Int)]:=l;obtain⟨T,u⟩:=d.ab m;refine⟨o.nil m,b,_,rfl,⟨.slice (some ⟨g,0,none⟩) k k,.slice none 0 0,.slice none 0 0,[g],[],[],[],rfl,⟨⟨by simp;omega,by simp;omega,by simp,by simp⟩,j,?_,Sl.IN _,⟨rfl,.inl ⟨rfl,rfl,rfl⟩⟩,rfl,by simp,?_⟩⟩,?_⟩
 ·refine⟨by rw[bJ];simp;omega,.inr ⟨g,k,[],T,by simp,rfl,by simpa using u,?_,by simp⟩⟩;rw[List.append_nil,bJ];simp;omega
 ·simp[eF];omega
 ·intro y z;simp[eF]at z;omega
end
section
variable {fF fO fp:List Nat} {L:List OM} {b:Nat} {s:RL} {vF vO:Value} {w:World}
def RL.bs (s:RL) (b d:Int):Int:=if¬(1≤b∧b<s.B.length)∨da d=false then 1 else if(s.B.getD b.toNat (0,0)).1≠0 then 8 else 0
def RL.bW (s:RL) (b d:Int):RL:=if s.bs b d=0 then {s with B:=s.B.set b.toNat (1,d)}else s
def RL.cg (s:RL) (b n d:Int):Int:=if¬(1≤b∧b<s.B.length)∨n<1∨(s.B.length:Int)-b<n∨da d=false then 1 else if(List.range n.toNat).any (fun j=>(s.B.getD (b.toNat+j) (0,0)).1 !=0)then 8 else 0
def RL.eY (s:RL) (b n d:Int):RL:=if s.cg b n d=0 then {s with B:=(dZ s.B b.toNat (3,d) n.toNat).set b.toNat (2,d)}else s
theorem lN.rY {w':World} {g cap:Nat} {ys:List Value} (h:lN w b s (.slice (some ⟨g,0,none⟩) s.B.length cap) vO vF [g] fO fF L) (F:s.B.length≤cap) (j:(cG s.B++ys).length=cap*2) {B':List (Int×Int)} (k:B'.length=s.B.length) (q:At w' g (cG B'++ys)) (d:ae [g] w w'):
  lN w' b {s with B:=B'} (.slice (some ⟨g,0,none⟩) s.B.length cap) vO vF [g] fO fF L:=by
 obtain⟨t,u,G,H,I,J,K,M⟩:=IK h.nd;obtain⟨z,C,D⟩:=u g (by simp);obtain⟨T,E⟩:=q;refine⟨⟨by rw[k];exact h.ok.b2,by rw[k];exact h.ok.jd,h.ok.ol,fun o d=>by simp only[k];exact h.ok.ob o d⟩,h.hb.keep d (bg (t g (by simp)).symm),?_,h.hO.keep d fun y l=>bg (fun e=>z (e▸l)),h.hF.keep d fun y l=>bg (fun e=>C (e▸l)),h.eq,fun m r=>(h.om m r).keep d fun y l=>bg (fun e=>D (e▸ig r l)),h.nd⟩;refine⟨by rw[bJ];simp only;omega,.inr ⟨g,cap,ys,T,by simp only[k],rfl,E,?_,by simp only;omega⟩⟩;rw[←j,cH,cH,bJ,bJ,k]
theorem lN.Qy {d:Value} {j:List Nat} (h:lN w b s d vO vF j fO fF L): ∃g cap ys,d=.slice (some ⟨g,0,none⟩) s.B.length cap∧At w g (cG s.B++ys)∧j=[g]∧s.B.length≤cap∧(cG s.B++ys).length=cap*2:=by
 rcases h.hB.2 with⟨_,r,_⟩|⟨g,cap,ys,T,k,l,m,o,q⟩
 ·have:=h.ok.b2;omega
 ·exact⟨g,cap,ys,k,⟨T,m⟩,l,q,o⟩
theorem MD (h:FM w b s fp) (k d:Int):Cs Tryz.prog 378 [.pointer (some ⟨b,0,none⟩),.int .i64 k,.int .i64 d] w fun v w'=>v=.int .i64 (s.bs k d)∧FM w' b (s.bW k d) fp∧ae fp w w':=by
 have l: ∀e:Int,e≠0→s.bs k d=e→(Value.int .i64 e=.int .i64 (s.bs k d)∧FM w b (s.bW k d) fp∧ae fp w w):=fun e H o=>by
  refine⟨by rw[o],?_,ae.refl _ _⟩;unfold RL.bW;rw[if_neg (by rw[o];exact H)];exact h
 obtain⟨K,vO,vF,M,fO,fF,L,q,u⟩:=id h;obtain⟨g,cap,ys,rfl,m,rfl,I,r⟩:=u.Qy;refine en [] ?_;refine gO ?_;refine aH (p' h) ?_;refine gO ?_;refine aH (FQ h k) ?_;by_cases E:1≤k∧k<s.B.length;rotate_left
 ·have e:(decide (1≤k)&&decide (k<(s.B.length:Int)))=false:=by simp only[Bool.and_eq_false_iff,decide_eq_false_iff_not];omega
  refine aQ e ?_;have o:s.bs k d=1:=by unfold RL.bs;rw[if_pos (.inl E)]
  have:=l 1 (by omega) o;simpa using this
 have e:(decide (1≤k)&&decide (k<(s.B.length:Int)))=true:=by simp only[Bool.and_eq_true,decide_eq_true_eq];exact E
 refine aQ e ?_;refine aH (BK w d) ?_;cases F:da d with
 |false=>
  refine gO ?_;have o:s.bs k d=1:=by unfold RL.bs;rw[if_pos (.inr F)]
  have:=l 1 (by omega) o;simpa using this
 |true=>
  obtain⟨i,rfl⟩: ∃i:Nat,k=i:=⟨k.toNat,by omega⟩;have C:i<s.B.length:=by omega
  have D:(0:Int)≤(i:Int)∧(i:Int)<(s.B.length:Int):=⟨by omega,by omega⟩;have z:s.bs (i:Int) d=if(s.B.getD i (0,0)).1≠0 then 8 else 0:=by
   unfold RL.bs;rw[if_neg (by simp[F];omega)];rfl
  by_cases B:(s.B.getD i (0,0)).1=0;rotate_left
  ·(repeat(first|with_reducible(first|refine nx ?_|refine bA rfl ?_)|simp only[go_sem,u.hb.cell,m.cell,if_pos D,c9,(fV ys C).1,eE B]));have:=l 8 (by omega) (by rw[z,if_pos B]);simpa using this
  rw[if_neg (fun h=>h B)]at z;(repeat(first|with_reducible(first|refine nx ?_|refine bA rfl ?_)|simp only[go_sem,u.hb.cell,m.cell,if_pos D,c9,(fV ys C).1,dg B]));rw[ag rfl rfl,ag rfl rfl];refine aZ (eq_true D) @Int.toNat_natCast ?_;refine dF (cs:=bV (1,d)) m rfl (by rw[cH,bJ];omega) (oB _) fun N J j t=>?_;rw[kV ys C]at j;refine gO ?_;rw[z];refine⟨rfl,?_,t.mono fun y G=>.inl (by rw[q];simp only[aK]at G;simp[G])⟩;unfold RL.bW;rw[if_pos z];exact⟨_,_,_,_,_,_,_,q,u.rY I r (by simp) j t⟩
theorem zg (h:FM w b s fp) (k n d:Int) (hk:k≤4611686018427387904) (hn:n≤4611686018427387904):Cs Tryz.prog 376 [.pointer (some ⟨b,0,none⟩),.int .i64 k,.int .i64 n,.int .i64 d] w fun v w'=>v=.int .i64 (s.cg k n d)∧FM w' b (s.eY k n d) fp∧ae fp w w':=by
 have u: ∀e:Int,e≠0→s.cg k n d=e→(Value.int .i64 e=.int .i64 (s.cg k n d)∧FM w b (s.eY k n d) fp∧ae fp w w):=fun e he h1=>by
  refine⟨by rw[h1],?_,ae.refl _ _⟩;unfold RL.eY;rw[if_neg (by rw[h1];exact he)];exact h
 obtain⟨vB,vO,vF,fB,fO,fF,L,J,z⟩:=id h;obtain⟨g,cap,ys,rfl,F,rfl,hc,K⟩:=z.Qy;have hB:=z.ok.jd;refine en [] ?_;refine gO ?_;refine aH (p' h) ?_;refine gO ?_;refine aH (FQ h k) ?_;by_cases c1:1≤k∧k<s.B.length;rotate_left
 ·have e:(decide (1≤k)&&decide (k<(s.B.length:Int)))=false:=by simp only[Bool.and_eq_false_iff,decide_eq_false_iff_not];omega
  refine aQ e ?_;have:=u 1 (by omega) (by unfold RL.cg;rw[if_pos (.inl c1)]);simpa using this
 have e:(decide (1≤k)&&decide (k<(s.B.length:Int)))=true:=by simp only[Bool.and_eq_true,decide_eq_true_eq];exact c1
 by_cases V:n<1
 ·refine aZ e (aU V) ?_;have:=u 1 (by omega) (by unfold RL.cg;rw[if_pos (.inr (.inl V))]);simpa using this
 have e2:IntKind.i64.wrap ((s.B.length:Int)-k)=(s.B.length:Int)-k:=IntWalk.i64_in _ (by omega);by_cases Y:(s.B.length:Int)-k<n
 ·refine lY e (aX V) z.hb.cell e2 (aU Y) ?_;have:=u 1 (by omega) (by unfold RL.cg;rw[if_pos (.inr (.inr (.inl Y)))]);simpa using this
 refine lY e (aX V) z.hb.cell e2 (aX Y) ?_;refine aH (BK w d) ?_;cases hs:da d with
 |false=>
  refine gO ?_;have:=u 1 (by omega) (by unfold RL.cg;rw[if_pos (.inr (.inr (.inr hs)))]);simpa using this
 |true=>
  obtain⟨i,rfl⟩: ∃i:Nat,k=i:=⟨k.toNat,by omega⟩;obtain⟨m,rfl⟩: ∃m:Nat,n=m:=⟨n.toNat,by omega⟩;have hE:s.cg (i:Int) (m:Int) d=if(List.range m).any (fun j=>(s.B.getD (i+j) (0,0)).1 !=0)then 8 else 0:=by
   unfold RL.cg;rw[if_neg (by simp[hs];omega)];rfl
  have e3:IntKind.i64.wrap ((i:Int)+(m:Int))=((i+m:Nat):Int):=by rw[IntWalk.i64_in _ (by omega)];omega
  refine gO ?_;refine az (9::39::40::41::42::43::44::45::46::47::48::49::50::51::52::53::54::[]) (fun B w'=> ∃j:Nat,B 9=.int .i64 ((i+j:Nat):Int)∧j≤m∧(∀t,t<j→(s.B.getD (i+t) (0,0)).1=0)∧w'=w) (fun B _=>bw (i+m) 9 B)
   ⟨0,by simp only[go_sem],by omega,fun j hj=>absurd hj (by omega),rfl⟩ fun B w1 Z l=>?_
  obtain⟨j,W,hj,M,rfl⟩:=Z;refine aZ W e3 ?_;refine cu (fun o=>?_) (fun N=>?_)
  ·have o:j<m:=by
    have:((i+j:Nat):Int)<((i+m:Nat):Int):=by simpa using o
    omega
   have O:i+j<s.B.length:=by omega
   have G:(0:Int)≤((i+j:Nat):Int)∧((i+j:Nat):Int)<(s.B.length:Int):=⟨by omega,by omega⟩;by_cases X:(s.B.getD (i+j) (0,0)).1=0;rotate_left
   ·(repeat(first|with_reducible(first|refine nx ?_|refine bA rfl ?_)|simp only[go_sem,W,z.hb.cell,F.cell,if_pos G,c9,(fV ys O).1,eE X]));have:=u 8 (by omega) (by rw[hE,if_pos];exact List.any_eq_true.2 ⟨j,List.mem_range.2 o,by simpa using X⟩);simpa using this
   (repeat(first|with_reducible(first|refine nx ?_|refine bA rfl ?_)|simp only[go_sem,W,z.hb.cell,F.cell,if_pos G,c9,(fV ys O).1,dg X,au (i+j) (by omega)]));refine l _ w1 ⟨j+1,?_,by omega,fun t ht=>?_,rfl⟩ ?_
   ·simp only[go_sem];rfl
   ·by_cases e:t=j
    ·subst e;exact X
    ·exact M t (by omega)
   ·rw[dM W,dM (k:=.i64) (i:=i+(j+1)) (by simp only[go_sem];rfl)];omega
  have N: ¬j<m:=by
   have: ¬((i+j:Nat):Int)<((i+m:Nat):Int):=by simpa using N
   omega
  have P:s.cg (i:Int) (m:Int) d=0:=by
   rw[hE,if_neg];intro Q;obtain⟨t,ht,R⟩:=List.any_eq_true.1 Q;have:=M t (by have:=List.mem_range.1 ht;omega);rw[this]at R;cases R
  clear l;refine gO ?_;refine az (10::56::57::58::59::60::61::62::63::64::65::66::67::68::69::70::[]) (fun B w'=> ∃t:Nat,B 10=.int .i64 ((i+t:Nat):Int)∧t≤m∧At w' g (cG (dZ s.B i (3,d) t)++ys)∧ae [g] w1 w') (fun B _=>bw (i+m) 10 B)
   ⟨0,by simp only[go_sem],by omega,F,ae.refl _ _⟩ fun B w2 Z l=>?_
  obtain⟨t,C,ht,D,H⟩:=Z;obtain⟨n1,_⟩:=IK z.nd;have S:=z.hb.keep H (bg (n1 g (by simp)).symm);have r:(dZ s.B i (3,d) t).length=s.B.length:=b5 _ _ _ _;refine aZ C e3 ?_;refine cu (fun o=>?_) (fun E=>?_)
  ·have o:t<m:=by
    have:((i+t:Nat):Int)<((i+m:Nat):Int):=by simpa using o
    omega
   have G:(0:Int)≤((i+t:Nat):Int)∧((i+t:Nat):Int)<(s.B.length:Int):=⟨by omega,by omega⟩;refine eZ C S.cell (eq_true G) @Int.toNat_natCast ?_;rw[ag rfl rfl,ag rfl rfl];refine aZ (eq_true G) @Int.toNat_natCast ?_;refine dF (cs:=bV (3,d)) D rfl (by rw[cH,bJ,r];omega) (oB _) fun w3 qt q I=>?_;rw[kV ys (by rw[r];omega)]at q;refine aZ C (au (i+t) (by omega)) ?_;refine l _ w3 ⟨t+1,?_,by omega,q,H.same I⟩ ?_
   ·simp only[go_sem];rfl
   ·rw[dM C,dM (k:=.i64) (i:=i+(t+1)) (by simp only[go_sem];rfl)];omega
  have E: ¬t<m:=by
   have: ¬((i+t:Nat):Int)<((i+m:Nat):Int):=by simpa using E
   omega
  have:t=m:=by omega
  subst this;have G:(0:Int)≤(i:Int)∧(i:Int)<(s.B.length:Int):=⟨by omega,by omega⟩;have T:((dZ s.B i (3,d) t).getD i (0,0)).2=d:=by
   have: ∀t,0<t→(dZ s.B i (3,d) t).getD i (0,0)=(3,d):=by
    intro t
    induction t with
    |zero=>intro h;omega
    |succ t ih=>
     intro _;unfold dZ;cases t with
     |zero=>rw[Nat.add_zero,a8 (by rw[b5];omega)]
     |succ t=>rw[aI (by omega)];exact ih (by omega)
   rw[this t (by omega)]
  refine cT S.cell (eq_true G) @Int.toNat_natCast ?_;refine fJ D (by rw[cH,bJ,r];omega) rfl fun w3 qt q I=>?_;have U:(cG (dZ s.B i (3,d) t)++ys).set (i*2) (.int .i64 2)=cG ((dZ s.B i (3,d) t).set i (2,d))++ys:=by
   rw[←kV ys (show i<(dZ s.B i (3,d) t).length by rw[r];omega)];have R:=(fV ys (show i<(dZ s.B i (3,d) t).length by rw[r];omega)).2;rw[T]at R;simp only[bV,dU];refine(List.ext_getElem? fun j=>?_).symm;rw[List.getElem?_set];by_cases e:i*2+1=j
   ·subst e;have o:i*2+1<(cG (dZ s.B i (3,d) t)++ys).length:=by rw[cH,bJ,r];omega
    rw[if_pos rfl,if_pos (by rw[List.length_set];exact o),List.getElem?_set_ne (by omega),R]
   ·rw[if_neg e]
  rw[U]at q;refine gO ?_;rw[P];have o3:=H.same I;refine⟨rfl,?_,o3.mono fun y hy=>.inl (by rw[J];simp only[aK]at hy;simp[hy])⟩;unfold RL.eY;rw[if_pos P];exact⟨_,_,_,_,_,_,_,J,z.rY hc K (by simp[b5]) q o3⟩
end
section
variable {fp:List Nat} {b j:Nat} {s:RL} {w:World}
def lP (k:Int) (o:Ob):Bool:=decide (o.a/64=k)
def RL.fe (s:RL) (k:Int):List Int:=(s.O.filter (lP k)).map Ob.a
theorem qT {O:List Ob} {p:Ob→Bool} (b:j<O.length):((O.take (j+1)).filter p)=(O.take j).filter p++(if p (O.getD j default)then [O.getD j default]else []):=by
 rw[List.take_add_one,List.filter_append];congr 1;have:O[j]? =some (O.getD j default):=by simp[b]
 rw[this];simp only[Option.toList_some];by_cases h:p (O.getD j default)=true
 ·rw[if_pos h,List.filter_cons_of_pos h,List.filter_nil]
 ·rw[if_neg h,List.filter_cons_of_neg h,List.filter_nil]
theorem F2 (h:FM w b s fp) (k:Int):Cs Tryz.prog 413 [.pointer (some ⟨b,0,none⟩),.int .i64 k] w fun v w'=>ae [] w w'∧ ∃u,Sl w' 1 v (s.fe k).length (ints (s.fe k)) u∧ ∀y,y∈u→w.heap.size≤y:=by
 have M:=h;obtain⟨vB,vO,vF,fB,fO,fF,L,Z,E⟩:=h;have T:=E.len;have Qw:=E.ok.ol;have hB:=E.ok.jd;obtain⟨ao,co,N⟩:=E.C8;refine en [] ?_;refine gO ?_;refine az (5::6::7::8::9::10::11::12::13::14::15::16::17::18::19::20::21::22::23::24::25::26::27::28::29::30::31::32::33::34::35::36::37::38::39::40::41::[]) (fun g w'=> ∃(j:Nat) (u:List Nat),g 6=.int .i64 (j:Int)∧j≤L.length∧Sl w' 1 (g 5) (((s.O.take j).filter (lP k)).map Ob.a).length (ints (((s.O.take j).filter (lP k)).map Ob.a)) u∧(∀y,y∈u→w.heap.size≤y)∧ae [] w w') (fun g _=>bw L.length 6 g)
  ⟨0,[],by simp only[go_sem];rfl,by omega,by simp only[go_sem];exact Sl.iW _,by simp,ae.refl _ _⟩ fun g U hI o=>?_
 obtain⟨j,u,D,hj,H,r,m⟩:=hI;have l:=E.ab m;refine gO ?_;refine aH (p' (M.ab m)) ?_;by_cases z:j<L.length
 ·obtain⟨g8,cap,ys,V,O,_,_⟩:=l.row (by omega);have I:(0:Int)≤(j:Int)∧(j:Int)<(L.length:Int):=⟨by omega,by omega⟩;have F:=l.lV z;have B:=l.ok.ob (s.O.getD j default) (by rw[F,l.eq];exact List.mem_map.2 ⟨_,by simp[z],rfl⟩);have V2:=B.a0;have ZK:=B.a1;have V3:=dk B.v;obtain⟨J,t⟩: ∃n:Nat,(s.O.getD j default).a=n:=⟨(s.O.getD j default).a.toNat,by omega⟩;have W:U.cell? ⟨g8,j*8,none⟩=some (.int .i64 (J:Int)):=by
   have:=mL (j:=0) ys z (by omega);rw[O.cell,←Nat.add_zero (j*8),this,←t,F];rfl
  have d:=qT (p:=lP k) (show j<s.O.length by omega);by_cases X:((J/64:Nat):Int)=k
  ·have P:lP k (s.O.getD j default)=true:=by unfold lP;rw[t,aU];omega
   rw[if_pos P]at d;have hl:(((s.O.take j).filter (lP k)).map Ob.a).length≤2048:=by
    rw[List.length_map];have:=List.length_filter_le (lP k) (s.O.take j);rw[List.length_take]at this;omega
   refine Dx D l.hb.cell V (aU I.2) (eq_true I) @Int.toNat_natCast W (iI J (by omega)) (cZ X) ?_;rw[ag rfl rfl];refine gO ?_;refine eJ fun q w3 hq qt G C=>?_;refine gO ?_;refine eM (H.ab C) (bn.at G rfl) (by simp[bh]) (by omega) (by omega) ?_;intro v4 Y f4 Q R S _;have o4:ae [] w Y:=(m.nil C).trans S fun y K=>.inr (r y K);refine aZ D (au j (by omega)) ?_;refine o _ Y ⟨j+1,f4,?_,by omega,?_,?_,o4⟩ ?_
   ·simp only[go_sem]
   ·simp only[go_sem];rw[d,List.map_append,List.map_cons,List.map_nil,t,cH,ba];exact Q
   ·intro y K;have:=m.size;have:=C.size;rcases R with rfl|rfl
    ·exact r y K
    ·simp only[aK]at K;omega
   ·exact aJ D
  ·have P:lP k (s.O.getD j default)=false:=by unfold lP;rw[t,aX];omega
   rw[if_neg (by rw[P];simp),List.append_nil]at d;refine EM D l.hb.cell V (aU I.2) (eq_true I) @Int.toNat_natCast W (iI J (by omega)) (cU X) (au j (by omega)) ?_;refine o _ U ⟨j+1,u,?_,by omega,?_,r,m⟩ ?_
   ·simp only[go_sem]
   ·simp only[go_sem];rw[d];exact H
   ·exact aJ D
 ·refine eZ D l.hb.cell N (aX (show¬(j:Int)<(L.length:Int) by omega)) ?_;refine⟨m,u,?_,r⟩;rw[show j=s.O.length by omega,List.take_length]at H;exact H
def F3 (k:Nat) (R:List (Int×Int)):Prop:= ∀r,r∈R→((64*k:Nat):Int)≤r.1∧r.1<((64*(k+1):Nat):Int)
def RL.stepG (s:RL) (x:Int) (st:List (Int×Int)×Int):List (Int×Int)×Int:=(if st.2<x then st.1++[(st.2,x-st.2)]else st.1,x+aE (s.jL x).1)
def RL.F4 (s:RL):List Int→List (Int×Int)×Int→List (Int×Int)×Int
 | [],st=>st
 |x::l,st=>s.F4 l (s.stepG x st)
theorem zh (s:RL): ∀(l:List Int) (x:Int) (st:List (Int×Int)×Int),s.F4 (l++[x]) st=s.stepG x (s.F4 l st)
 | [],_,_=>rfl
 |_::l,x,st=>zh s l x _
theorem F5 (s:RL) {l:List Int} (b:j<l.length) (st:List (Int×Int)×Int):s.F4 (l.take (j+1)) st=s.stepG (l.getD j 0) (s.F4 (l.take j) st):=by
 rw[List.take_succ_eq_append_getElem b,zh];simp[b]
def RL.rF (s:RL) (k:Nat):List (Int×Int):=
 if s.ft (k:Int)=1 then
  (if(s.F4 (s.fe (k:Int)) ([],((64*k:Nat):Int))).2<((64*(k+1):Nat):Int)then(s.F4 (s.fe (k:Int)) ([],((64*k:Nat):Int))).1++[((s.F4 (s.fe (k:Int)) ([],((64*k:Nat):Int))).2,((64*(k+1):Nat):Int)-(s.F4 (s.fe (k:Int)) ([],((64*k:Nat):Int))).2)]else(s.F4 (s.fe (k:Int)) ([],((64*k:Nat):Int))).1)
 else []
theorem Sl.ME (w:World):Sl w 2 (.slice none 0 0) 0 [] []:=⟨rfl,.inl ⟨rfl,rfl,rfl⟩⟩
theorem mM (B C:List (Int×Int)):cG (B++C)=cG B++cG C:=by simp[cG]
theorem Qz (h:FM w b s fp) (k:Nat) (hk:k≤64):Cs Tryz.prog 427 [.pointer (some ⟨b,0,none⟩),.int .i64 (k:Int)] w fun v w'=>ae [] w w'∧ ∃R S,Sl w' 2 v R.length (cG R) S∧F3 k R∧R.length≤3000∧(∀y,y∈S→w.heap.size≤y)∧R=s.rF k:=by
 have Qw:=h.ok.ol;refine en [2,5,8,11,14,17,20,23,26,29,32,35,38,42,44,47,50,54,56,59,0] ?_;refine gO ?_;refine aH (AP h (k:Int)) ?_;by_cases c1:s.ft (k:Int)=1;rotate_left
 ·refine aQ (eE c1) ?_;exact⟨ae.refl _ _,[],[],Sl.ME _,fun r m=>absurd m (by simp),by simp,by simp,by unfold RL.rF;rw[if_neg c1]⟩
 have e1:IntKind.i64.wrap ((k:Int)*64)=((64*k:Nat):Int):=by rw[IntWalk.i64_in _ (by omega)];omega
 refine aZ (dg c1) e1 ?_;refine aw (F2 h (k:Int)) ?_;rintro vl w1 ⟨u,fl,V,YX⟩;have MF: ∀i,i<(s.fe (k:Int)).length→ ∃d:Nat,(s.fe (k:Int)).getD i 0=d∧d/64=k∧ ∃j,p9 s.O (d:Int)=some j:=by
  intro i hi;have h1:(s.fe (k:Int)).getD i 0∈s.fe (k:Int):=by simp[hi]
  simp only[RL.fe,List.mem_map,List.mem_filter]at h1;obtain⟨o,⟨ho,hp⟩,he⟩:=h1;simp only[lP,decide_eq_true_eq]at hp;have K:=h.ok.ob o ho;have V2:=K.a0;refine⟨o.a.toNat,?_,by omega,?_⟩
  ·show(s.fe (k:Int)).getD i 0=_;rw[show(s.fe (k:Int)).getD i 0=o.a from he.symm];omega
  ·rw[show((o.a.toNat:Nat):Int)=o.a by omega];cases e:p9 s.O o.a with
   |some j=>exact⟨j,rfl⟩
   |none=>
    exfalso;obtain⟨t,J,rfl⟩:=List.mem_iff_getElem.1 ho;have key: ∀(O:List Ob) (a:Int),p9 O a=none→ ∀t (J:t<O.length),(O[t]).a≠a:=by
     intro O a
     induction O with
     |nil=>intro _ t J;simp at J
     |cons p O ih=>
      intro hn t J;unfold p9 at hn;split at hn
      ·cases hn
      ·rename_i DB;have VY:p9 O a=none:=by simpa using hn
       cases t with
       |zero=>exact DB
       |succ t=>exact ih VY t (by simpa using J)
    exact key _ _ e t J rfl
 have GO:(s.fe (k:Int)).length≤2048:=by
  unfold RL.fe;rw[List.length_map];have:=List.length_filter_le (lP (k:Int)) s.O;omega
 obtain⟨al,cl,hvl⟩:=V.val;subst hvl;refine gO ?_;refine az (5::6::8::20::21::22::23::24::25::26::27::28::29::30::31::32::33::34::35::36::37::38::39::40::41::42::43::44::45::46::47::48::49::50::51::52::53::54::55::56::57::58::59::60::61::[]) (fun g w'=> ∃(j:Nat) (d:Nat) (R:List (Int×Int)) (S:List Nat),g 8=.int .i64 (j:Int)∧j≤(s.fe (k:Int)).length∧g 6=.int .i64 (d:Int)∧64*k≤d∧d≤64*k+300∧Sl w' 2 (g 5) R.length (cG R) S∧F3 k R∧R.length≤j∧(∀y,y∈S→w1.heap.size≤y)∧ae [] w1 w'∧s.F4 ((s.fe (k:Int)).take j) ([],((64*k:Nat):Int))=(R,(d:Int))) (fun g _=>bw (s.fe (k:Int)).length 8 g)
  ⟨0,64*k,[],[],by simp only[go_sem];rfl,by omega,by simp only[go_sem],by omega,by omega,by simp only[go_sem];exact Sl.ME _,fun r m=>absurd m (by simp),by simp,by simp,ae.refl _ _,rfl⟩ fun g w2 hI E=>?_
 obtain⟨j,d,R,S,h8,hj,h6,hn1,hn2,h5,hR,Tf,B,C,M⟩:=hI;have o2:=u.nil C;have aa0:=V.ab C;refine aQ h8 ?_;refine cu (fun F=>?_) (fun tA=>?_)
 ·have F:j<(s.fe (k:Int)).length:=by simpa using F
  have e2:(0:Int)≤(j:Int)∧(j:Int)<((s.fe (k:Int)).length:Int):=⟨by omega,by omega⟩;obtain⟨x,hx,hxk,t,J⟩:=MF j F;obtain⟨gl,cl',ysl,Wa,T,_,_⟩:=V.pos (by omega);cases Wa;have U: ∀w',ae [] w1 w'→w'.cell? ⟨gl,j,none⟩=some (.int .i64 (x:Int)):=fun w' ho=>by rw[(T.ab ho).cell,aG ysl F,hx]
  have ZN:=U w2 C;have Wb:=T.lt;obtain⟨t1,t2,t3⟩:=jK J;refine mo (run_seq (jb (run_seq ?_)));refine bH (5::26::27::28::29::30::31::32::33::34::35::36::37::38::39::40::41::42::[]) (fun Fc w'=> ∃W N,Sl w' 2 (Fc 5) W.length (cG W) N∧F3 k W∧W.length≤j+1∧(∀y,y∈N→w1.heap.size≤y)∧ae [] w1 w'∧W=(if(d:Int)<(x:Int)then R++[((d:Int),(x:Int)-(d:Int))]else R)) (fun kk jS=>?_) (fun g' X hJ=>?_)
  ·by_cases P:(d:Int)<(x:Int)
   ·have e3:IntKind.i64.wrap ((x:Int)-(d:Int))=(x:Int)-(d:Int):=IntWalk.i64_in _ (by omega);refine xG h8 h6 (eq_true e2) @Int.toNat_natCast @Nat.mul_one ZN (aU P) e3 ?_;rw[ag rfl rfl,ag rfl rfl];refine gO ?_;rw[kY (n:=2) rfl rfl];refine gO ?_;refine eJ fun q X hq qt G l=>?_;refine gO ?_;refine eM (sz:=2) (us:=bV ((d:Int),(x:Int)-(d:Int))) (h5.ab l) (bn.at G rfl) (oB _) (by omega) (by omega) ?_;intro v4 w4 f4 Y Z D _;refine gO ?_;refine jS _ w4 ⟨R++[((d:Int),(x:Int)-(d:Int))],f4,?_,?_,by simp;omega,?_,(C.nil l).trans D fun y H=>.inr (B y H),by rw[if_pos P]⟩
    ·simp only[go_sem];rw[mM,cH];simpa[cG,bV]using Y
    ·intro r m;simp only[List.mem_append,aK]at m;rcases m with m|rfl
     ·exact hR r m
     ·simp only;omega
    ·intro y H;have:=C.size;have:=l.size;rcases Z with rfl|rfl
     ·exact B y H
     ·simp only[aK]at H;omega
   ·refine k7 h8 h6 (eq_true e2) @Int.toNat_natCast @Nat.mul_one ZN (aX P) ?_;refine jS _ w2 ⟨R,S,?_,hR,by omega,B,C,by rw[if_neg P]⟩
    ·simp only[go_sem];exact h5
  obtain⟨W,N,h5',hR',aa1,Wc,l,We⟩:=hJ;have I:=l.nil (ae.drew [] X);have hd:=(h.ab u).ab I;have Wf:=U X.drew I;obtain⟨vB,vO,vF,fB,fO,fF,L,DW,Q⟩:=hd;have hlen:=Q.len;have hB:=Q.ok.jd;obtain⟨g8,cap,ys,rfl,xc,hfO,_⟩:=Q.row (by omega);obtain⟨_,Wg⟩:=Q.all (cap:=0) xc (show t<L.length by omega);have e4:(0:Int)≤(t:Int)∧(t:Int)<(L.length:Int):=⟨by omega,by omega⟩;have K:=Q.ok.ob (s.O.getD t default) (by simp[t1]);rw[Q.lV (by omega)]at K;have V3:=dk K.v;have Qu:=Q.hb.lt;have Wh:=xc.lt;have h3s:=I.size;have GJ: ∀z,z∈[gl,b,g8]→z<X.drew.heap.size∧z∉([]:List Nat):=fun z hz=>⟨by simp only[List.mem_cons,List.not_mem_nil,or_false]at hz;rcases hz with rfl|rfl|rfl;exact Nat.lt_of_lt_of_le Wb h3s;exact Qu;exact Wh,by simp⟩;refine aW [gl,b,g8] ?_;refine k0 h8 (eq_true e2) @Int.toNat_natCast @Nat.mul_one Wf Q.hb.cell ?_;refine ks (lG ((h.ab u).ab I) (x:Int)) (.inr (SB.refl _ _)) ?_;rw[J];refine eZ (show AO (some t)=(t:Int)from rfl) (eq_true e4) @Int.toNat_natCast Wg ?_;refine jr (oJ X.drew (L.getD t default).o.sh) (.inr ⟨SB.refl _ _,GJ⟩) fun w4 D=>?_;have e5:IntKind.i64.wrap ((x:Int)+aE (L.getD t default).o.sh)=((x+(aE (L.getD t default).o.sh).toNat:Nat):Int):=by rw[IntWalk.i64_in _ (by omega)];omega
  refine cT e5 h8 (au j (by omega)) ?_;refine E _ w4 ⟨j+1,x+(aE (L.getD t default).o.sh).toNat,W,N,?_,by omega,?_,by omega,by omega,?_,hR',by omega,Wc,I.nil D,?_⟩ ?_
  ·simp only[go_sem]
  ·simp only[go_sem]
  ·simp only[go_sem];exact(h5'.ab (ae.drew [] X)).ab D
  ·have ZO:(s.jL (x:Int)).1=(L.getD t default).o.sh:=by unfold RL.jL RL.ob;rw[J,Option.map_some,Q.lV (by omega)]
   rw[F5 s F,M,hx];unfold RL.stepG;rw[ZO,We];simp only[Prod.mk.injEq,true_and];omega
  ·exact aJ h8
 ·have tA: ¬j<(s.fe (k:Int)).length:=by simpa using tA
  clear E;rw[List.take_of_length_le (by omega)]at M;have e6:IntKind.i64.wrap (IntKind.i64.wrap ((k:Int)+1)*64)=((64*(k+1):Nat):Int):=by rw[IntWalk.i64_in ((k:Int)+1) (by omega),IntWalk.i64_in _ (by omega)];omega
  by_cases P:(d:Int)<((64*(k+1):Nat):Int)
  ·have e3:IntKind.i64.wrap (((64*(k+1):Nat):Int)-(d:Int))=((64*(k+1):Nat):Int)-(d:Int):=IntWalk.i64_in _ (by omega);refine eZ e6 h6 (aU P) e3 ?_;rw[ag rfl rfl,ag rfl rfl];refine gO ?_;rw[kY (n:=2) rfl rfl];refine gO ?_;refine eJ fun q X hq qt G l=>?_;refine gO ?_;refine eM (sz:=2) (us:=bV ((d:Int),((64*(k+1):Nat):Int)-(d:Int))) (h5.ab l) (bn.at G rfl) (oB _) (by omega) (by omega) ?_;intro v4 w4 f4 Y Z D _;refine gO ?_;refine⟨(o2.nil l).trans D fun y H=>.inr (by have:=B y H;have:=u.size;omega),R++[((d:Int),((64*(k+1):Nat):Int)-(d:Int))],f4,?_,?_,by simp;omega,?_,by unfold RL.rF;rw[if_pos c1,M,if_pos P]⟩
   ·rw[mM,cH];simpa[cG,bV]using Y
   ·intro r m;simp only[List.mem_append,aK]at m;rcases m with m|rfl
    ·exact hR r m
    ·simp only;omega
   ·intro y H;have:=o2.size;have:=l.size;have:=u.size;rcases Z with rfl|rfl
    ·have:=B y H;omega
    ·simp only[aK]at H;omega
  ·refine cT e6 h6 (aX P) ?_;exact⟨o2,R,S,h5,hR,by omega,fun y H=>by have:=B y H;have:=u.size;omega,by unfold RL.rF;rw[if_pos c1,M,if_neg P]⟩
end
section
variable {a a' sp:Int} {fp:List Nat} {b:Nat} {s:RL} {sh:Sh} {w:World}
def RL.xp (s:RL) (n i:Nat):Prop:=1≤i∧i+n≤s.B.length∧ ∀j,j<n→s.ft ((i+j:Nat):Int)=0
def RL.qU (s:RL) (n k:Nat):Prop:=(k=0∧ ∀i,¬s.xp n i)∨(s.xp n k∧ ∀i,i<k→ ¬s.xp n i)
theorem RL.qU.uniq {n k l:Nat} (h:s.qU n k) (o:s.qU n l):k=l:=by
 rcases h with⟨b,d⟩|⟨b,d⟩<;>rcases o with⟨j,m⟩|⟨j,m⟩
 ·omega
 ·exact absurd j (d l)
 ·exact absurd b (m k)
 ·rcases Nat.lt_trichotomy k l with h|h|h
  ·exact absurd b (m k h)
  ·exact h
  ·exact absurd j (d l h)
theorem JO (h:FM w b s fp) (n:Nat) (P:n≤100):Cs Tryz.prog 375 [.pointer (some ⟨b,0,none⟩),.int .i64 (n:Int)] w fun v w'=>(∃k:Nat,v=.int .i64 (k:Int)∧k≤64∧s.qU n k)∧w'=w:=by
 have Q:=h.ok.jd;refine en [] ?_;refine gO ?_;refine az (4::5::6::7::8::9::10::11::12::13::14::15::16::17::18::19::20::21::22::23::24::25::26::27::28::29::30::31::[]) (fun g w'=> ∃i:Nat,g 5=.int .i64 (i:Int)∧1≤i∧i≤s.B.length+1∧(∀d,d<i→ ¬s.xp n d)∧w'=w) (fun g _=>bw 100 5 g)
  ⟨1,by simp only[go_sem];rfl,by omega,by omega,fun d D h=>by have:=h.1;omega,rfl⟩ fun g J K o=>?_
 obtain⟨i,u,E,R,q,rfl⟩:=K;have L:IntKind.i64.wrap ((i:Int)+(n:Int))=((i+n:Nat):Int):=by rw[IntWalk.i64_in _ (by omega)];omega
 refine aZ u L ?_;refine aH (BJ h) ?_;refine gO ?_;refine cu (fun r=>?_) (fun y=>?_)
 ·have r:i+n≤s.B.length:=by
   have:((i+n:Nat):Int)≤(s.B.length:Int):=by simpa using r
   omega
  refine gO ?_;refine az (6::15::16::17::18::19::20::21::22::23::24::25::26::27::[]) (fun B w'=> ∃j:Nat,B 6=.int .i64 (j:Int)∧j≤n∧(∀m,m<j→s.ft ((i+m:Nat):Int)=0)∧w'=J) (fun B _=>bw n 6 B)
   ⟨0,by simp only[go_sem];rfl,by omega,fun m t=>absurd t (by omega),rfl⟩ fun B H F l=>?_
  obtain⟨j,z,S,I,rfl⟩:=F;have G: ∀M:Env,True:=fun _=>trivial;clear G;by_cases N:j<n
  ·have O:IntKind.i64.wrap ((i:Int)+(j:Int))=((i+j:Nat):Int):=by rw[IntWalk.i64_in _ (by omega)];omega
   refine eZ z (aU (show(j:Int)<(n:Int) by omega)) u O ?_;refine aH (AP h ((i+j:Nat):Int)) ?_;by_cases C:s.ft ((i+j:Nat):Int)=0
   ·refine cT (cZ C) z (au j (by omega)) ?_;refine l _ H ⟨j+1,?_,by omega,fun m t=>?_,rfl⟩ ?_
    ·simp only[go_sem]
    ·by_cases e:m=j
     ·rw[e];exact C
     ·exact I m (by omega)
    ·exact aJ z
   ·refine lY (cU C) z (cU (show¬(j:Int)=(n:Int) by omega)) u (au i (by omega)) ?_;refine o _ H ⟨i+1,?_,by omega,by omega,fun d D=>?_,rfl⟩ ?_
    ·simp only[go_sem]
    ·by_cases e:d=i
     ·rw[e];exact fun h=>C (h.2.2 j N)
     ·exact q d (by omega)
    ·exact aJ u
  ·refine eZ z (aX (show¬(j:Int)<(n:Int) by omega)) (cZ (show(j:Int)=(n:Int) by omega)) u ?_;exact⟨i,rfl,by omega,.inr ⟨⟨E,r,fun m t=>I m (by omega)⟩,q⟩⟩
 ·have y: ¬i+n≤s.B.length:=by
   intro h;have: ¬((i+n:Nat):Int)≤(s.B.length:Int):=by simpa using y
   omega
  refine gO ?_;refine⟨0,rfl,by omega,.inl ⟨rfl,fun d h=>?_⟩⟩;by_cases e:d<i
  ·exact q d e h
  ·have:=h.2.1;omega
def QA (s:RL) (a:Int) (b:Bool):Prop:=b=true→ ∃k:Nat,1≤k∧k<s.B.length∧s.ft (k:Int)=1∧((64*k:Nat):Int)≤a∧a<((64*(k+1):Nat):Int)
def RL.BO (s:RL) (sh:Sh) (sp:Int) (i:Nat) (a:Int):Prop:=1≤i∧i<s.B.length∧s.ft (i:Int)=1∧s.qO (i:Int)=sp∧ ∃j,j<(s.rF i).length∧aE sh≤((s.rF i).getD j (0,0)).2∧a=((s.rF i).getD j (0,0)).1∧ ∀b,b<j→ ¬aE sh≤((s.rF i).getD b (0,0)).2
def RL.vp (s:RL) (sh:Sh) (sp a:Int) (b:Bool):Prop:=(b=false∧ ∀i a',¬s.BO sh sp i a')∨(b=true∧ ∃i,s.BO sh sp i a∧ ∀d a',d<i→ ¬s.BO sh sp d a')
theorem RL.vp.uniq {d b:Bool} (h:s.vp sh sp a d) (q:s.vp sh sp a' b):d=b∧(d=true→a=a'):=by
 rcases h with⟨rfl,k⟩|⟨rfl,i,l,k⟩<;>rcases q with⟨rfl,m⟩|⟨rfl,r,o,m⟩
 ·exact⟨rfl,fun h=>by cases h⟩
 ·exact absurd o (k _ _)
 ·exact absurd l (m _ _)
 ·refine⟨rfl,fun _=>?_⟩;rcases Nat.lt_trichotomy i r with h|h|h
  ·exact absurd l (m _ _ h)
  ·subst h;obtain⟨_,_,_,_,j,E,t,u,w⟩:=l;obtain⟨_,_,_,_,y,G,z,C,D⟩:=o;rcases Nat.lt_trichotomy j y with h|h|h
   ·exact absurd t (D _ h)
   ·subst h;rw[u,C]
   ·exact absurd z (w _ h)
  ·exact absurd o (k _ _ h)
theorem Wi (h:FM w b s fp) (sh:Sh) (sp:Int):Cs Tryz.prog 377 [.pointer (some ⟨b,0,none⟩),.agg ⟨bS sh⟩,.int .i64 sp] w fun v w'=>(∃a ok,v=.tuple #[.int .i64 a,.bool ok]∧QA s a ok∧s.vp sh sp a ok)∧ae [] w w':=by
 have hB:=h.ok.jd;refine en [2,5,8,11,14,17,21,23,0] ?_;refine gO ?_;refine bp fun q w1 hq pf G O=>?_;refine gO ?_;refine az (6::7::8::9::10::11::12::13::14::15::16::17::18::19::20::21::22::23::24::25::26::27::28::29::30::31::32::33::34::35::36::37::38::39::40::41::42::43::44::45::46::47::48::49::[]) (fun g w'=> ∃i:Nat,g 8=.int .i64 (i:Int)∧1≤i∧i≤s.B.length+1∧(∀m a',m<i→ ¬s.BO sh sp m a')∧ae [] w1 w') (fun g _=>bw 100 8 g)
  ⟨1,by simp only[go_sem];rfl,by omega,by omega,fun m a' J h=>by have:=h.1;omega,ae.refl _ _⟩ fun g w2 hI l=>?_
 obtain⟨i,y,P,hi,o,C⟩:=hI;have o2:=O.nil C;have Y:=h.ab o2;refine aQ y ?_;refine aH (BJ Y) ?_;refine gO ?_;refine cu (fun D=>?_) (fun Q=>?_)
 ·have D:i<s.B.length:=by simpa using D
  have next: ∀Z,ae [] w2 Z→ ∀Fc:Env,True:=fun _ _ _=>trivial
  clear next
  refine aQ y ?_;refine aH (AP Y (i:Int)) ?_;by_cases S:s.ft (i:Int)=1;rotate_left
  ·refine cT (eE S) y (au i (by omega)) ?_;refine l _ w2 ⟨i+1,?_,by omega,by omega,fun m a' J h=>?_,C⟩ ?_
   ·simp only[go_sem]
   ·by_cases e:m=i
    ·subst e;exact S h.2.2.1
    ·exact o m a' (by omega) h
   ·exact aJ y
  refine aZ (dg S) y ?_;refine aH (Mv Y (i:Int)) ?_;by_cases c2:s.qO (i:Int)=sp;rotate_left
  ·refine cT (eE c2) y (au i (by omega)) ?_;refine l _ w2 ⟨i+1,?_,by omega,by omega,fun m a' J h=>?_,C⟩ ?_
   ·simp only[go_sem]
   ·by_cases e:m=i
    ·subst e;exact c2 h.2.2.2.1
    ·exact o m a' (by omega) h
   ·exact aJ y
  refine aZ (dg c2) y ?_;refine aw (Qz Y i (by omega)) ?_;rintro vR Z ⟨gJ,R,fq,hR,K,Tf,SM,r⟩;have Ap:=C.nil gJ;obtain⟨aR,cR,hvR⟩:=hR.val;subst hvR;refine gO ?_;refine az (6::7::10::31::32::33::34::35::36::37::38::39::40::41::42::43::44::45::46::47::48::49::[]) (fun g' w'=> ∃j:Nat,g' 10=.int .i64 (j:Int)∧j≤R.length∧(∀H,H<j→ ¬aE sh≤(R.getD H (0,0)).2)∧ae [] Z w') (fun g' _=>bw R.length 10 g')
   ⟨0,by simp only[go_sem];rfl,by omega,fun H U=>absurd U (by omega),ae.refl _ _⟩ fun g' L hI' E=>?_
  obtain⟨j,t,hj,M,N⟩:=hI';have F:=Ap.nil N;refine aQ t ?_;refine cu (fun d=>?_) (fun I=>?_)
  ·have d:j<R.length:=by simpa using d
   obtain⟨gR,aa2,ysR,V,W,hfR⟩: ∃g cap ys,Value.slice aR R.length cR=.slice (some ⟨g,0,none⟩) R.length cap∧At Z g (cG R++ys)∧fq=[g]:=by
    rcases hR.2 with⟨_,h0,_⟩|⟨g,cap,ys,T,q1,q2,q3,q4,q5⟩
    ·omega
    ·exact⟨g,cap,ys,q1,⟨T,q3⟩,q2⟩
   cases V;have X:(0:Int)≤(j:Int)∧(j:Int)<(R.length:Int):=⟨by omega,by omega⟩;have u:=W.ab N;obtain⟨b1,b2⟩:=fV (B:=R) ysR d;have Jv: ∀w',ae [] w1 w'→aC w' ⟨q,0,none⟩ 3=some (bS sh):=fun w' k=>ay (G.ab k) 0 3 (by simp[bS]);have MG:=u.lt;have SN:=(G.ab F).lt;have GJ: ∀z,z∈[gR,q]→z<L.drew.heap.size∧z∉([]:List Nat):=fun z hz=>⟨by show z<L.heap.size;simp only[List.mem_cons,List.not_mem_nil,or_false]at hz;rcases hz with rfl|rfl;exact MG;exact SN,by simp⟩;refine gO ?_;refine aW [gR,q] ?_;refine k0 t (eq_true X) @Int.toNat_natCast u.drew.cell b2 (Jv L.drew (F.nil (ae.drew [] L))) ?_;refine jr (oJ L.drew sh) (.inr ⟨SB.refl _ _,GJ⟩) fun w5 jv=>?_;have o5:=(ae.drew [] L).nil jv;by_cases c3:aE sh≤(R.getD j (0,0)).2
   ·(repeat(first|with_reducible(first|refine nx ?_|refine bA rfl ?_)|simp only[go_sem,aU c3,t,if_pos X,c9,(u.ab o5).cell,b1]));refine⟨⟨_,true,rfl,fun _=>⟨i,P,D,S,?_⟩,.inr ⟨rfl,i,⟨P,D,S,c2,j,by rw[←r];exact d,by rw[←r];exact c3,by rw[←r],by rw[←r];exact M⟩,o⟩⟩,(O.nil F).nil o5⟩;exact K _ (by simp[d])
   ·refine cT (aX c3) t (au j (by omega)) ?_;refine E _ w5 ⟨j+1,?_,by omega,fun H U=>?_,N.nil o5⟩ ?_
    ·simp only[go_sem]
    ·by_cases e:H=j
     ·rw[e];exact c3
     ·exact M H (by omega)
    ·exact aJ t
  ·have I: ¬j<R.length:=by simpa using I
   refine aZ y (au i (by omega)) ?_;refine l _ L ⟨i+1,?_,by omega,by omega,fun m a' J h=>?_,F⟩ ?_
   ·simp only[go_sem]
   ·by_cases e:m=i
    ·subst e;obtain⟨_,_,_,_,H,e1,X,_,_⟩:=h;rw[←r]at e1 X;exact M H (by omega) X
    ·exact o m a' (by omega) h
   ·exact aJ y
 ·have Q: ¬i<s.B.length:=by simpa using Q
  refine gO ?_;exact⟨⟨0,false,rfl,(fun h=>by cases h),.inl ⟨rfl,fun m a' h=>o m a' (by have:=h.2.1;omega) h⟩⟩,o2⟩
def IQ (s s' : RL) (sh : Sh) (sp a : Int) (b : Bool) (c : Nat) : Prop := (b = false ∧ s' = s ∧ c = 0) ∨ (b = true ∧ ∃ k : Nat, k ≤ 64 ∧
  ((aE sh ≤ 32 ∧ 1 ≤ k ∧ k < s.B.length ∧ s.ft (k : Int) = 1 ∧ ((64 * k : Nat) : Int) ≤ a ∧ a < ((64 * (k + 1) : Nat) : Int) ∧ s' = s ∧ c = 1) ∨
   (32 < aE sh ∧ a = ((64 * k : Nat) : Int) ∧ s.cg (k : Int) ((aE sh + 63) / 64) sp = 0 ∧ s' = s.eY (k : Int) ((aE sh + 63) / 64) sp ∧ c = 2) ∨
   (aE sh ≤ 32 ∧ a = ((64 * k : Nat) : Int) ∧ s.bs (k : Int) sp = 0 ∧ s' = s.bW (k : Int) sp ∧ c = 3)))
def RL.tS (s:RL) (sh:Sh) (sp a:Int) (c:Nat):Prop:=
 (32<aE sh∧ ∃k,s.qU ((aE sh+63)/64).toNat k∧((c=0∧(k=0∨s.cg (k:Int) ((aE sh+63)/64) sp≠0))∨(c=2∧k≠0∧s.cg (k:Int) ((aE sh+63)/64) sp=0∧a=((64*k:Nat):Int))))∨
 (¬32<aE sh∧((c=1∧s.vp sh sp a true)∨((∃a',s.vp sh sp a' false)∧ ∃k,s.qU 1 k∧((c=0∧(k=0∨s.bs (k:Int) sp≠0))∨(c=3∧k≠0∧s.bs (k:Int) sp=0∧a=((64*k:Nat):Int))))))
theorem RL.tS.uniq {c z:Nat} (h:s.tS sh sp a c) (C:s.tS sh sp a' z):c=z∧(c≠0→a=a'):=by
 rcases h with⟨t,k,m,d⟩|⟨t,m⟩<;>rcases C with⟨u,l,o,j⟩|⟨u,o⟩
 ·obtain rfl:=m.uniq o;rcases d with⟨rfl,d⟩|⟨rfl,d,q,w⟩<;>rcases j with⟨rfl,j⟩|⟨rfl,j,r,y⟩
  ·exact⟨rfl,fun h=>absurd rfl h⟩
  ·exact d.elim (fun h=>absurd h j) fun h=>absurd r h
  ·exact j.elim (fun h=>absurd h d) fun h=>absurd q h
  ·exact⟨rfl,fun _=>by rw[w,y]⟩
 ·exact absurd t u
 ·exact absurd u t
 ·rcases m with⟨rfl,m⟩|⟨⟨b,m⟩,k,d,q⟩<;>rcases o with⟨rfl,o⟩|⟨⟨D,o⟩,l,j,r⟩
  ·exact⟨rfl,fun _=>(m.uniq o).2 rfl⟩
  ·exact absurd (m.uniq o).1 (by simp)
  ·exact absurd (m.uniq o).1 (by simp)
  ·obtain rfl:=d.uniq j;rcases q with⟨rfl,d⟩|⟨rfl,d,q,w⟩<;>rcases r with⟨rfl,j⟩|⟨rfl,j,r,y⟩
   ·exact⟨rfl,fun h=>absurd rfl h⟩
   ·exact d.elim (fun h=>absurd h j) fun h=>absurd r h
   ·exact j.elim (fun h=>absurd h d) fun h=>absurd q h
   ·exact⟨rfl,fun _=>by rw[w,y]⟩
theorem MH (h:FM w b s fp) (sh:Sh) (sp:Int):Cs Tryz.prog 245 [.pointer (some ⟨b,0,none⟩),.agg ⟨bS sh⟩,.int .i64 sp] w fun v w'=> ∃a J s' c,v=.tuple #[.int .i64 a,.bool J]∧FM w' b s' fp∧ae fp w w'∧IQ s s' sh sp a J c∧s.tS sh sp a c:=by
 have W:=je sh;refine en [] ?_;refine gO ?_;refine bp fun q K X M F z=>?_;have B: ∀w',ae [] K w'→aC w' ⟨q,0,none⟩ 3=some (bS sh):=fun w' k=>ay (F.ab k) 0 3 (by simp[bS]);refine aQ (B K (ae.refl _ _)) ?_;refine aM (xk K sh) fun L m=>?_;have o: ∀k:Nat,k≤64→IntKind.i64.wrap ((k:Int)*64)=((64*k:Nat):Int):=fun k E=>by rw[IntWalk.i64_in _ (by omega)];omega
 by_cases d:32<aE sh
 ·refine aZ (aU d) (B L m) ?_;refine aM (FU L sh) fun N C=>?_;have t:=(z.nil m).nil C;have y:=h.ab t;obtain⟨n,G⟩: ∃n:Nat,(aE sh+63)/64=n:=⟨((aE sh+63)/64).toNat,by omega⟩;rw[G];have D:((aE sh+63)/64).toNat=n:=by omega
  refine gO ?_;refine aw (JO y n (by omega)) ?_;rintro v O ⟨⟨k,rfl,E,j⟩,rfl⟩;by_cases H:k=0
  ·refine aQ (cZ (show(k:Int)=0 by omega)) ?_;exact⟨0,false,s,0,rfl,y,t.of_nil,.inl ⟨rfl,rfl,rfl⟩,.inl ⟨d,k,by rw[D];exact j,.inl ⟨rfl,.inl H⟩⟩⟩
  refine aZ (cU (show¬(k:Int)=0 by omega)) (o k E) ?_;refine aw (zg y (k:Int) (n:Int) sp (by omega) (by omega)) ?_;rintro v P ⟨rfl,I,r⟩;by_cases l:s.cg (k:Int) (n:Int) sp=0
  ·refine aQ (cZ l) ?_;refine⟨_,true,_,2,rfl,I,t.of_nil.same r,.inr ⟨rfl,k,E,.inr (.inl ⟨d,rfl,?_,?_,rfl⟩)⟩,.inl ⟨d,k,by rw[D];exact j,.inr ⟨rfl,H,by rw[G];exact l,rfl⟩⟩⟩
   ·rw[G];exact l
   ·rw[G]
  ·refine aQ (cU l) ?_;refine⟨_,false,_,0,rfl,I,t.of_nil.same r,.inl ⟨rfl,?_,rfl⟩,.inl ⟨d,k,by rw[D];exact j,.inl ⟨rfl,.inr (by rw[G];exact l)⟩⟩⟩;unfold RL.eY;rw[if_neg l]
 ·refine aZ (aX d) (B L m) ?_;refine aw (Wi (h.ab (z.nil m)) sh sp) ?_;rintro v N ⟨⟨a,J,rfl,Q,u⟩,C⟩;have t:=(z.nil m).nil C;have y:=h.ab t;cases J with
  |true=>
   obtain⟨k,R,S,T,U,V⟩:=Q rfl;have:=h.ok.jd;refine gO ?_;exact⟨a,true,s,1,rfl,y,t.of_nil,.inr ⟨rfl,k,by omega,.inl ⟨by omega,R,S,T,U,V,rfl,rfl⟩⟩,.inr ⟨d,.inl ⟨rfl,u⟩⟩⟩
  |false=>
   refine gO ?_;refine aw (JO y 1 (by omega)) ?_;rintro v O ⟨⟨k,rfl,E,j⟩,rfl⟩;by_cases H:k=0
   ·refine aQ (cZ (show(k:Int)=0 by omega)) ?_;exact⟨0,false,s,0,rfl,y,t.of_nil,.inl ⟨rfl,rfl,rfl⟩,.inr ⟨d,.inr ⟨⟨a,u⟩,k,j,.inl ⟨rfl,.inl H⟩⟩⟩⟩
   refine aZ (cU (show¬(k:Int)=0 by omega)) (o k E) ?_;refine aw (MD y (k:Int) sp) ?_;rintro v P ⟨rfl,I,r⟩;by_cases l:s.bs (k:Int) sp=0
   ·refine aQ (cZ l) ?_;exact⟨_,true,_,3,rfl,I,t.of_nil.same r,.inr ⟨rfl,k,E,.inr (.inr ⟨by omega,rfl,l,rfl,rfl⟩)⟩,.inr ⟨d,.inr ⟨⟨a,u⟩,k,j,.inr ⟨rfl,H,l,rfl⟩⟩⟩⟩
   ·refine aQ (cU l) ?_;refine⟨_,false,_,0,rfl,I,t.of_nil.same r,.inl ⟨rfl,?_,rfl⟩,.inr ⟨d,.inr ⟨⟨a,u⟩,k,j,.inl ⟨rfl,.inr l⟩⟩⟩⟩;unfold RL.bW;rw[if_neg l]
end
end Go.Proofs.YthamnonkfepafaaGreat
