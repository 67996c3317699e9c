/- The law BarrierLog: whatever comes in, it returns true, and what came in reads as it did. -/
import Derived.Test.YtgcofabdialaaaaGreatZPk3
import Derived.ChangeSlices
import Derived.ProofKit
import Derived.Deep.Slices
import Derived.Lib.SmallJoins
import Derived.Test.YtgcofabdialaaaaGreatRows
import Derived.OpenShut
import Derived.Deep.Strs
set_option linter.unusedSimpArgs false
set_option linter.unusedVariables false
section
namespace Go.Proofs.YtgcofabdialaaaaGreat
set_option maxRecDepth 8000
theorem SCs.bothR {w w1 w2:World} {b hb rb qb kb:Nat} {s:HL} {R R':Rt.MS} {fh fr ff fk fr' fk':List Nat} (h:SCs w b hb rb qb kb s R fh fr ff fk) (o1:Only fk w w1) (hk:Rt.RR w1 (some ⟨kb,0,none⟩) fk' (some R')) (sk: ∀x,x∈fk'→x∈fk∨w.heap.size≤x)
  (o2:Only fr w1 w2) (hr:Rt.PR w2 (some ⟨rb,0,none⟩) fr' (some R')) (sr: ∀x,x∈fr'→x∈fr∨w1.heap.size≤x):
  SCs w2 b hb rb qb kb s R' fh fr' ff fk'∧Only (b::(fh++(fr++(ff++fk)))) w w2∧ ∀x,x∈b::(fh++(fr'++(ff++fk')))→x∈b::(fh++(fr++(ff++fk)))∨w.heap.size≤x:=by
 have lt:=h.lt
 have hz:=o1.size
 have nk: ∀x,x∉fk→x<w.heap.size→x∉fk':=fun x q1 q2 q3=>by rcases sk x q3 with h4|h4;exact q1 h4;omega
 have nr: ∀x,x∉fr→x<w.heap.size→x∉fr':=fun x q1 q2 q3=>by rcases sr x q3 with h4|h4;exact q1 h4;omega
 have hkl:=hk.lt
 have krd: ∀x,x∈fk'→x∉fr:=fun x q1 q2=>by
  rcases sk x q1 with h4|h4
  ·exact(h.d3 x q2).2 h4
  ·have:=lt x (by simp[q2]);omega
 refine⟨⟨(h.at_.keep o1 h.d1.2.2.2).keep o2 h.d1.2.1,h.inv,(h.h.keep o1 fun x hx=>(h.d2 x hx).2.2).keep o2 fun x hx=>(h.d2 x hx).1,hr,(h.f.keep o1 fun x hx=>h.d4 x hx).keep o2 fun x hx hx2=>(h.d3 x hx2).1 hx,hk.keep o2 krd,
  ⟨h.d1.1,nr b h.d1.2.1 (lt b (by simp)),h.d1.2.2.1,nk b h.d1.2.2.2 (lt b (by simp))⟩,fun x hx=>⟨nr x (h.d2 x hx).1 (lt x (by simp[hx])),(h.d2 x hx).2.1,nk x (h.d2 x hx).2.2 (lt x (by simp[hx]))⟩,fun x hx=>⟨fun hx2=>?_,fun hx2=>?_⟩,fun x hx=>nk x (h.d4 x hx) (lt x (by simp[hx]))⟩,?_,?_⟩
 ·rcases sr x hx with h4|h4
  ·exact(h.d3 x h4).1 hx2
  ·have:=lt x (by simp[hx2]);omega
 ·rcases sr x hx with h4|h4
  ·exact krd x hx2 h4
  ·have:=hkl x hx2;omega
 ·exact(o1.weak fun x hx=>by simp[hx]).same (o2.weak fun x hx=>by simp[hx])
 ·intro x hx
  simp only[List.mem_cons,List.mem_append]at hx⊢
  rcases hx with rfl|hx|hx|hx|hx
  ·simp
  ·simp[hx]
  ·rcases sr x hx with h4|h4
   ·simp[h4]
   ·exact .inr (by omega)
  ·simp[hx]
  ·rcases sk x hx with h4|h4
   ·simp[h4]
   ·exact .inr h4
def whereP (R:Rt.MS) (n:Nat):Rt.PT:=
 if n%40<24 then(0,((n%40%R.M:Nat):Int),((n%40/4:Nat):Int))else if n%40<36 then(1,0,((n%40-24:Nat):Int))else(2,0,((n%40-36:Nat):Int))
theorem SCs.Rok {w:World} {b hb rb qb kb:Nat} {s:HL} {R:Rt.MS} {fh fr ff fk:List Nat} (h:SCs w b hb rb qb kb s R fh fr ff fk):R.Ok:=by
 obtain⟨_,_,_,_,_,_,_,_,_,_,hm⟩:=h.k
 exact hm.ok
theorem cWhere {w:World} {b hb rb qb kb:Nat} {s:HL} {R:Rt.MS} {fh fr ff fk:List Nat} (h:SCs w b hb rb qb kb s R fh fr ff fk) (n:Nat) (hn:n<100000):Cs Tryz.prog 157 [.pointer (some ⟨b,0,none⟩),.int .i64 (n:Int)] w fun v w'=>v=.agg ⟨Rt.plV (whereP R n)⟩∧Only [] w w':=by
 have hM:=h.Rok.m1
 have e0:max (n:Int) 0=(n:Int):=by omega
 have e1:((n:Int).tmod 40)=((n%40:Nat):Int):=tmodN n 40
 refine enter_law12_Scene_Where rfl ?_
 unfold x_law12_Scene_Where
 (repeat(first|with_reducible(first|refine nx ?_|refine r_6 rfl ?_)|simp only[go_sem]))
 refine boxT fun q w1 hq hs1 hat1 ho1=>?_
 have h1:=h.keep0 ho1
 have fin: ∀(w2:World),Only [q] w1 w2→Only [] w w2:=fun w2 o=>ho1.trans o fun x hx=>by simp only[List.mem_singleton]at hx;subst hx;exact .inr (by omega)
 (repeat(first|with_reducible(first|refine nx ?_|refine r_6 rfl ?_)|simp only[go_sem,e0,e1]))
 by_cases c1:n%40<24
 ·have e2:((n%40:Nat):Int).tmod (R.M:Int)=((n%40%R.M:Nat):Int):=tmodN _ _
  have e3:IntKind.i64.wrap (((n%40:Nat):Int).tdiv 4)=((n%40/4:Nat):Int):=by
   rw[Int.tdiv_eq_ediv_of_nonneg (by omega),IntWalk.i64_in _ (by omega)];omega
  have hM0:(Rt.mutO (some R))=(R.M:Int):=rfl
  have hw:whereP R n=(0,((n%40%R.M:Nat):Int),((n%40/4:Nat):Int)):=by unfold whereP;rw[if_pos c1]
  (repeat(first|with_reducible(first|refine nx ?_|refine r_6 rfl ?_)|simp only[go_sem,decide_eq_true (show((n%40:Nat):Int)<24 by omega),h1.at_.cell]))
  refine callT0 (Rt.rMutators h1.k) ?_
  rw[hM0]
  (repeat(first|with_reducible(first|refine nx ?_|refine r_6 rfl ?_)|simp only[go_sem,divO_of (show(R.M:Int)≠0 by omega) (.int .i64 ((n%40%R.M:Nat):Int)),e2,e3]))
  rw[fillL_one rfl rfl,fillL_one rfl rfl,fillL_one rfl rfl]
  (repeat(first|with_reducible(first|refine nx ?_|refine r_6 rfl ?_)|simp only[go_sem]))
  refine stNT hat1 rfl (by simp) (by simp[oneC]) fun w2 hs2 hat2 ho2=>?_
  have hat2':At w2 q (Rt.plV (whereP R n)):=by rw[hw];simpa[Rt.plV,setL]using hat2
  have hc:cellsAt w2 ⟨q,0,none⟩ 3=some (Rt.plV (whereP R n)):=cellsAt_at hat2' 0 3 (by simp[Rt.plV])
  (repeat(first|with_reducible(first|refine nx ?_|refine r_6 rfl ?_)|simp only[go_sem,hc]))
  exact fin w2 ho2
 by_cases c2:n%40<36
 ·have e3:IntKind.i64.wrap (((n%40:Nat):Int)-24)=((n%40-24:Nat):Int):=by rw[IntWalk.i64_in _ (by omega)];omega
  have hw:whereP R n=(1,0,((n%40-24:Nat):Int)):=by unfold whereP;rw[if_neg c1,if_pos c2]
  (repeat(first|with_reducible(first|refine nx ?_|refine r_6 rfl ?_)|simp only[go_sem,decide_eq_false (show¬((n%40:Nat):Int)<24 by omega),decide_eq_true (show((n%40:Nat):Int)<36 by omega),e3]))
  rw[fillL_one rfl rfl,fillL_one rfl rfl]
  (repeat(first|with_reducible(first|refine nx ?_|refine r_6 rfl ?_)|simp only[go_sem]))
  refine stNT hat1 rfl (by simp) (by simp[oneC]) fun w2 hs2 hat2 ho2=>?_
  have hat2':At w2 q (Rt.plV (whereP R n)):=by rw[hw];simpa[Rt.plV,setL]using hat2
  have hc:cellsAt w2 ⟨q,0,none⟩ 3=some (Rt.plV (whereP R n)):=cellsAt_at hat2' 0 3 (by simp[Rt.plV])
  (repeat(first|with_reducible(first|refine nx ?_|refine r_6 rfl ?_)|simp only[go_sem,hc]))
  exact fin w2 ho2
 ·have e3:IntKind.i64.wrap (((n%40:Nat):Int)-36)=((n%40-36:Nat):Int):=by rw[IntWalk.i64_in _ (by omega)];omega
  have hw:whereP R n=(2,0,((n%40-36:Nat):Int)):=by unfold whereP;rw[if_neg c1,if_neg c2]
  (repeat(first|with_reducible(first|refine nx ?_|refine r_6 rfl ?_)|simp only[go_sem,decide_eq_false (show¬((n%40:Nat):Int)<24 by omega),decide_eq_false (show¬((n%40:Nat):Int)<36 by omega),e3]))
  rw[fillL_one rfl rfl,fillL_one rfl rfl]
  (repeat(first|with_reducible(first|refine nx ?_|refine r_6 rfl ?_)|simp only[go_sem]))
  refine stNT hat1 rfl (by simp) (by simp[oneC]) fun w2 hs2 hat2 ho2=>?_
  have hat2':At w2 q (Rt.plV (whereP R n)):=by rw[hw];simpa[Rt.plV,setL]using hat2
  have hc:cellsAt w2 ⟨q,0,none⟩ 3=some (Rt.plV (whereP R n)):=cellsAt_at hat2' 0 3 (by simp[Rt.plV])
  (repeat(first|with_reducible(first|refine nx ?_|refine r_6 rfl ?_)|simp only[go_sem,hc]))
  exact fin w2 ho2
def rootsSet (R:Rt.MS) (p:Rt.PT) (y:Int):Rt.MO:=if p.1=2∧(R.Q.length:Int)≤p.2.2 then(Rt.pushO (some R) y).2 else(Rt.setO (some R) p y).2
theorem setO_some (R:Rt.MS) (p:Rt.PT) (y:Int): ∃R',(Rt.setO (some R) p y).2=some R':=by
 unfold Rt.setO
 dsimp only
 split
 ·exact⟨_,rfl⟩
 ·split
  ·exact⟨_,rfl⟩
  ·exact⟨_,rfl⟩
theorem pushO_some (R:Rt.MS) (y:Int): ∃R',(Rt.pushO (some R) y).2=some R':=by
 unfold Rt.pushO
 dsimp only
 split
 ·exact⟨_,rfl⟩
 ·split
  ·exact⟨_,rfl⟩
  ·exact⟨_,rfl⟩
theorem cSet {w:World} {b hb rb qb kb:Nat} {s:HL} {R:Rt.MS} {fh fr ff fk:List Nat} (h:SCs w b hb rb qb kb s R fh fr ff fk) (n:Nat) (hn:n<100000) (y:Int):Cs Tryz.prog 97 [.pointer (some ⟨b,0,none⟩),.int .i64 (n:Int),.int .i64 y] w fun v w'=>v=.bool true∧ ∃R' fr' fk',rootsSet R (whereP R n) y=some R'∧SCs w' b hb rb qb kb s R' fh fr' ff fk'∧Only (b::(fh++(fr++(ff++fk)))) w w'∧ ∀x,x∈b::(fh++(fr'++(ff++fk')))→x∈b::(fh++(fr++(ff++fk)))∨w.heap.size≤x:=by
 refine enter_law12_Scene_Set rfl ?_
 unfold x_law12_Scene_Set
 (repeat(first|with_reducible(first|refine nx ?_|refine r_6 rfl ?_)|simp only[go_sem]))
 refine callT1 (cWhere h n hn) fun w1 ho1=>?_
 generalize hp:whereP R n=p
 (repeat(first|with_reducible(first|refine nx ?_|refine r_6 rfl ?_)|simp only[go_sem]))
 refine boxT fun q w2 hq hs2 hat2 ho2=>?_
 (repeat(first|with_reducible(first|refine nx ?_|refine r_6 rfl ?_)|simp only[go_sem]))
 refine stNT (cs:=Rt.plV p) hat2 rfl (by simp[Rt.plV]) Rt.plV_one fun w3 hs3 hat3 ho3=>?_
 have hat3:At w3 q (Rt.plV p):=by
  have e:setL [Value.int IntKind.i64 0,Value.int IntKind.i64 0,Value.int IntKind.i64 0] 0 (Rt.plV p)=Rt.plV p:=by simp[setL,Rt.plV]
  rw[e]at hat3;exact hat3
 have o13:Only [] w1 w3:=ho2.trans ho3 fun x hx=>by simp only[List.mem_singleton]at hx;subst hx;exact .inr (by omega)
 have o3:Only [] w w3:=ho1.nil o13
 have hz1:=ho1.size
 have hz3:=o3.size
 have h3:=h.keep0 o3
 have hqn: ∀x,x∈b::(fh++(fr++(ff++fk)))→x≠q:=fun x hx=>by have:=h.lt x hx;omega
 have hc3: ∀w',Only [] w3 w'→cellsAt w' ⟨q,0,none⟩ 3=some (Rt.plV p):=fun w' o=>cellsAt_at (hat3.keep0 o) 0 3 (by simp[Rt.plV])
 have fin: ∀ {w1 w2:World} {R':Rt.MS} {fr' fk':List Nat},Only [] w w1→SCs w2 b hb rb qb kb s R' fh fr' ff fk'∧Only (b::(fh++(fr++(ff++fk)))) w1 w2∧(∀x,x∈b::(fh++(fr'++(ff++fk')))→x∈b::(fh++(fr++(ff++fk)))∨w1.heap.size≤x)→rootsSet R p y=some R'→
   ∃R' fr' fk',rootsSet R p y=some R'∧SCs w2 b hb rb qb kb s R' fh fr' ff fk'∧Only (b::(fh++(fr++(ff++fk)))) w w2∧ ∀x,x∈b::(fh++(fr'++(ff++fk')))→x∈b::(fh++(fr++(ff++fk)))∨w.heap.size≤x:=fun o g e=>
  ⟨_,_,_,e,g.1,o.of_nil.same g.2.1,fun x hx=>(g.2.2 x hx).imp id fun hx=>by have:=o.size;omega⟩
 have hcell0: ∀w',Only [] w3 w'→w'.cell? ⟨q,0,none⟩=some (.int .i64 p.1):=fun w' o=>by rw[(hat3.keep0 o).cell];rfl
 have hcell2: ∀w',Only [] w3 w'→w'.cell? ⟨q,2,none⟩=some (.int .i64 p.2.2):=fun w' o=>by rw[(hat3.keep0 o).cell];rfl
 -- the way of Set
 have setcase:(h4:World)→True:=fun _=>trivial
 clear setcase
 (repeat(first|with_reducible(first|refine nx ?_|refine r_6 rfl ?_)|simp only[go_sem]))
 refine run_drt [b,q] ?_
 have od:=Only.drew [] w3
 have hd:=h3.keep0 od
 have hzd:w3.drew.heap.size=w3.heap.size:=rfl
 have hbq: ∀z,z∈[b,q]→z<w3.drew.heap.size:=fun z hz=>by
  simp only[List.mem_cons,List.not_mem_nil,or_false]at hz
  rcases hz with rfl|rfl
  ·exact hd.at_.lt
  ·exact hat3.lt
 by_cases c1:p.1=2
 ·(repeat(first|with_reducible(first|refine nx ?_|refine r_6 rfl ?_)|simp only[go_sem,hcell0 w3.drew od,hcell2 w3.drew od,c1,beq_int_true (rfl:(2:Int)=2),hd.at_.cell]))
  refine callS (Rt.rQueue hd.k) ?_
  rintro v w4 ⟨ho4,fq,hs4,_⟩
  refine⟨.inr ((SB.refl _ _).only ho4 fun z hz=>⟨hbq z hz,by simp⟩),?_⟩
  obtain⟨a4,c4,rfl⟩:=hs4.val
  have o4:=od.nil ho4
  have h4:=h3.keep0 o4
  have hQ:(Rt.queueO (some R)).length=R.Q.length:=rfl
  rw[hQ]
  by_cases c2:(R.Q.length:Int)≤p.2.2
  ·(repeat(first|with_reducible(first|refine nx ?_|refine r_6 rfl ?_)|simp only[go_sem,decide_eq_true c2]))
   refine run_drt [b] ?_
   have o4d:=o4.nil (Only.drew [] w4)
   have h4d:=h3.keep0 o4d
   (repeat(first|with_reducible(first|refine nx ?_|refine r_6 rfl ?_)|simp only[go_sem,h4d.at_.cell]))
   refine callS (Rt.rPush h4d.k y) ?_
   rintro v w5 ⟨rfl,ho5,fk',hk5,sk⟩
   obtain⟨R',e5⟩:=pushO_some R y
   rw[e5]at hk5
   refine⟨.inr ((SB.refl _ _).only ho5 fun z hz=>by simp only[List.mem_singleton]at hz;subst hz;exact⟨h4d.at_.lt,h.d1.2.2.2⟩),?_⟩
   (repeat(first|with_reducible(first|refine nx ?_|refine r_6 rfl ?_)|simp only[go_sem]))
   refine callS (Rt.Push_m (h4d.r.keep ho5 fun z hz=>(h.d3 z hz).2) y) ?_
   rintro v w6 ⟨rfl,ho6,_,fr',hr6,sr⟩
   rw[e5]at hr6
   refine⟨.inl rfl,?_⟩
   (repeat(first|with_reducible(first|refine nx ?_|refine r_6 rfl ?_)|simp only[go_sem,beq_int_true (rfl:(Rt.pushO (some R) y).1=(Rt.pushO (some R) y).1)]))
   simpa only[List.mem_cons]using fin (o3.nil o4d) (h4d.bothR ho5 hk5 sk ho6 hr6 sr) (by unfold rootsSet;rw[if_pos ⟨c1,c2⟩];exact e5)
  ·(repeat(first|with_reducible(first|refine nx ?_|refine r_6 rfl ?_)|simp only[go_sem,decide_eq_false c2]))
   have o4d:=o4.nil (Only.drew [] w4)
   refine run_drt [b,q] ?_
   have h4d:=h3.keep0 o4d
   (repeat(first|with_reducible(first|refine nx ?_|refine r_6 rfl ?_)|simp only[go_sem,h4d.at_.cell,hc3 _ o4d]))
   refine callS (Rt.rSet h4d.k p y) ?_
   rintro v w5 ⟨rfl,hk5,ho5⟩
   obtain⟨R',e5⟩:=setO_some R p y
   rw[e5]at hk5
   have hq5:q∉fk:=fun e=>hqn q (by simp[e]) rfl
   refine⟨.inr ((SB.refl _ _).only ho5 fun z hz=>by
    simp only[List.mem_cons,List.not_mem_nil,or_false]at hz
    rcases hz with rfl|rfl
    ·exact⟨h4d.at_.lt,h.d1.2.2.2⟩
    ·exact⟨(hat3.keep0 o4d).lt,hq5⟩),?_⟩
   (repeat(first|with_reducible(first|refine nx ?_|refine r_6 rfl ?_)|simp only[go_sem]))
   refine callS (Rt.Set_m (h4d.r.keep ho5 fun z hz=>(h.d3 z hz).2) p y) ?_
   rintro v w6 ⟨rfl,hr6,ho6,_⟩
   rw[e5]at hr6
   refine⟨.inl rfl,?_⟩
   (repeat(first|with_reducible(first|refine nx ?_|refine r_6 rfl ?_)|simp only[go_sem,beq_int_true (rfl:(Rt.setO (some R) p y).1=(Rt.setO (some R) p y).1)]))
   simpa only[List.mem_cons]using fin (o3.nil o4d) (h4d.bothR ho5 hk5 (fun x hx=>.inl hx) ho6 hr6 fun x hx=>.inl hx) (by unfold rootsSet;rw[if_neg (fun h=>c2 h.2)];exact e5)
 ·(repeat(first|with_reducible(first|refine nx ?_|refine r_6 rfl ?_)|simp only[go_sem,hcell0 w3.drew od,beq_int_false c1]))
  have o4d:=od.nil (Only.drew [] w3.drew)
  refine run_drt [b,q] ?_
  have h4d:=h3.keep0 o4d
  (repeat(first|with_reducible(first|refine nx ?_|refine r_6 rfl ?_)|simp only[go_sem,h4d.at_.cell,hc3 _ o4d]))
  refine callS (Rt.rSet h4d.k p y) ?_
  rintro v w5 ⟨rfl,hk5,ho5⟩
  obtain⟨R',e5⟩:=setO_some R p y
  rw[e5]at hk5
  have hq5:q∉fk:=fun e=>hqn q (by simp[e]) rfl
  refine⟨.inr ((SB.refl _ _).only ho5 fun z hz=>by
   simp only[List.mem_cons,List.not_mem_nil,or_false]at hz
   rcases hz with rfl|rfl
   ·exact⟨h4d.at_.lt,h.d1.2.2.2⟩
   ·exact⟨(hat3.keep0 o4d).lt,hq5⟩),?_⟩
  (repeat(first|with_reducible(first|refine nx ?_|refine r_6 rfl ?_)|simp only[go_sem]))
  refine callS (Rt.Set_m (h4d.r.keep ho5 fun z hz=>(h.d3 z hz).2) p y) ?_
  rintro v w6 ⟨rfl,hr6,ho6,_⟩
  rw[e5]at hr6
  refine⟨.inl rfl,?_⟩
  (repeat(first|with_reducible(first|refine nx ?_|refine r_6 rfl ?_)|simp only[go_sem,beq_int_true (rfl:(Rt.setO (some R) p y).1=(Rt.setO (some R) p y).1)]))
  simpa only[List.mem_cons]using fin (o3.nil o4d) (h4d.bothR ho5 hk5 (fun x hx=>.inl hx) ho6 hr6 fun x hx=>.inl hx) (by unfold rootsSet;rw[if_neg (fun h=>c1 h.1)];exact e5)
end Go.Proofs.YtgcofabdialaaaaGreat
end
section
namespace Go.Proofs.YtgcofabdialaaaaGreat
set_option maxRecDepth 8000
def U8At (h0:Nat) (w:World) (v:Value) (n sz:Nat) (f:Nat→Nat→Nat):Prop:= ∃(a:Option Addr) (cap:Nat),v=.slice a n cap∧(∀i j,f i j<256)∧ ∀i,i<n→ ∃p,a=some p∧p.block<h0∧ ∀j,j<sz→w.cell? ((p.add (i*sz)).add j)=some (u8V (f i j))
theorem U8At.keep {h0:Nat} {w w':World} {v:Value} {n sz:Nat} {f:Nat→Nat→Nat} {S:List Nat} (h:U8At h0 w v n sz f) (hz:h0≤w.heap.size) (o:Only S w w') (hs: ∀x,x∈S→h0≤x):U8At h0 w' v n sz f:=by
 obtain⟨a,c,e,hf,hc⟩:=h
 refine⟨a,c,e,hf,fun i hi=>?_⟩
 obtain⟨p,e1,e2,e3⟩:=hc i hi
 refine⟨p,e1,e2,fun j hj=>?_⟩
 rw[cell_of_heap (w:=w) (w':=w') (by rw[add_block,add_block];exact o.block _ (by omega) fun hx=>by have:=hs _ hx;omega)]
 exact e3 j hj
theorem cellsAt_fn {w:World} {a:Addr} {n:Nat} (f:Nat→Value) (h: ∀j,j<n→w.cell? (a.add j)=some (f j)):cellsAt w a n=some ((List.range n).map f):=by
 unfold cellsAt
 exact Go.ChangeShapes.mapM_range_of n h
structure BG where
 bl:Nat
 mu:Nat
 nO:Nat
 nD:Nat
 nL:Nat
 nP:Nat
 nN:Nat
 fO:Nat→Nat→Nat
 fD:Nat→Nat→Nat
 fL:Nat→Nat→Nat
 fP:Nat→Nat→Nat
 fN:Nat→Nat→Nat
structure BegAt (h0:Nat) (w:World) (cs:List Value) (g:BG) (vO vD vL vP vN:Value):Prop where
 e:cs=[u8V g.bl,u8V g.mu,vO,vD,vL,vP,vN]
 l0:g.bl<256
 l1:g.mu<256
 o:U8At h0 w vO g.nO 4 g.fO
 d:U8At h0 w vD g.nD 1 g.fD
 l:U8At h0 w vL g.nL 3 g.fL
 p:U8At h0 w vP g.nP 2 g.fP
 n:U8At h0 w vN g.nN 1 g.fN
def Sz (s:HL) (n nb:Nat):Prop:=s.born≤n∧s.objs.length≤n∧s.B.length=nb∧RfOk s.abs
theorem Sz.mono {s:HL} {n m nb:Nat} (h:Sz s n nb) (hm:n≤m):Sz s m nb:=⟨by have:=h.1;omega,by have:=h.2.1;omega,h.2.2⟩
theorem Sz.step {s s':HL} {n nb:Nat} (h:Sz s n nb) (e:Step s s'):Sz s' (n+1) nb:=⟨by have:=h.1;have:=e.2.1;omega,by have:=h.2.1;have:=e.2.2.1;omega,by rw[e.2.2.2.1];exact h.2.2.1,e.2.2.2.2 _ ⟨by omega,by omega⟩ h.2.2.2⟩
theorem killM_len (s:RL) (x:Int):(s.killM x).O.length≤s.O.length:=by
 unfold RL.killM
 split
 ·exact Nat.le_refl _
 ·show(s.O.eraseIdx _).length≤_
  rw[List.length_eraseIdx];split<;>omega
def Liv (s:HL) (x:Int):Prop:= ∃k:Nat,x=((2*k:Nat):Int)∧s.st.getD k 0=1
def PhP (ph:Bool) (s:HL) (x:Int):Prop:=x=0∨ph=true∧Liv s x
def RtP (P:Int→Prop) (R:Rt.MS):Prop:=(∀x,x∈R.S→P x)∧(∀x,x∈R.G→P x)∧ ∀x,x∈R.Q→P x
def Snd (ph:Bool) (s:HL) (R:Rt.MS):Prop:=RfP (PhP ph s) s.abs∧RtP (PhP ph s) R
theorem RtP.mono {P Q:Int→Prop} {R:Rt.MS} (h:RtP P R) (hp: ∀x,P x→Q x):RtP Q R:=⟨fun x hx=>hp x (h.1 x hx),fun x hx=>hp x (h.2.1 x hx),fun x hx=>hp x (h.2.2 x hx)⟩
theorem PhP.st {ph:Bool} {s s':HL} {x:Int} (h:PhP ph s x) (e:s'.st=s.st):PhP ph s' x:=h.imp id fun⟨h1,k,h2,h3⟩=>⟨h1,k,h2,by rw[e];exact h3⟩
theorem PhP.f {s s':HL} {x:Int} (h:PhP false s x):PhP false s' x:=h.imp id fun h=>by cases h.1
theorem Snd.st {ph:Bool} {s s':HL} {R:Rt.MS} (h:Snd ph s R) (e:s'.st=s.st) (hr:RfP (PhP ph s) s'.abs):Snd ph s' R:=⟨hr.mono fun _ h=>h.st e,h.2.mono fun _ h=>h.st e⟩
theorem Snd.f {s s':HL} {R:Rt.MS} (h:Snd false s R) (hr:RfP (PhP false s) s'.abs):Snd false s' R:=⟨hr.mono fun _ h=>h.f,h.2.mono fun _ h=>h.f⟩
theorem Snd.up {ph:Bool} {s:HL} {R:Rt.MS} (h:Snd false s R):Snd ph s R:=⟨h.1.mono fun _ h=>.inl (h.elim id fun h=>by cases h.1),h.2.mono fun _ h=>.inl (h.elim id fun h=>by cases h.1)⟩
theorem atS_ph (s:HL) (n:Nat):PhP true s (atS s n):=by
 unfold atS
 split
 ·exact .inl rfl
 ·rename_i h0
  have hlt:n%s.objs.length<s.objs.length:=Nat.mod_lt _ (by omega)
  exact .inr ⟨rfl,_,rfl,mem_objs.1 (show s.objs.getD (n%s.objs.length) 0∈s.objs by simp[hlt])⟩
theorem rootsSet_P {P:Int→Prop} {R R':Rt.MS} {p:Rt.PT} {y:Int} (e:rootsSet R p y=some R') (hR:RtP P R) (hy:P y):RtP P R':=by
 unfold rootsSet at e
 split at e
 ·unfold Rt.pushO at e
  simp only at e
  split at e
  ·cases e;exact hR
  ·split at e
   ·cases e;exact hR
   ·cases e
    exact⟨hR.1,hR.2.1,fun x hx=>(List.mem_append.1 hx).elim (hR.2.2 x) fun h=>by simp only[List.mem_singleton]at h;rw[h];exact hy⟩
 ·unfold Rt.setO at e
  simp only at e
  split at e
  ·cases e;exact hR
  ·rename_i q _
   split at e
   ·cases e;exact hR
   ·cases e
    have key: ∀ {l:List Int} {i:Nat},(∀x,x∈l→P x)→ ∀x,x∈l.set i y→P x:=fun h x hx=>(List.mem_or_eq_of_mem_set hx).elim (h x) fun e=>e▸hy
    unfold Rt.MS.wr
    split
    ·exact⟨key hR.1,hR.2⟩
    ·exact⟨hR.1,key hR.2.1,hR.2.2⟩
    ·exact⟨hR.1,hR.2.1,key hR.2.2⟩
def OpI (w1 w:World) (b n nb:Nat) (ph:Bool):Prop:= ∃s R fp,SC w b s R fp∧(∀x,x∈fp→w1.heap.size≤x)∧Only [] w1 w∧Sz s n nb∧Snd ph s R
theorem OpI.mono {w1 w:World} {b n m nb:Nat} {ph:Bool} (h:OpI w1 w b n nb ph) (hm:n≤m):OpI w1 w b m nb ph:=by
 obtain⟨s,R,fp,h1,h2,h3,h4,h5⟩:=h
 exact⟨s,R,fp,h1,h2,h3,h4.mono hm,h5⟩
theorem OpI.up {w1 w:World} {b n nb:Nat} {ph:Bool} (h:OpI w1 w b n nb false):OpI w1 w b n nb ph:=by
 obtain⟨s,R,fp,h1,h2,h3,h4,h5⟩:=h
 exact⟨s,R,fp,h1,h2,h3,h4,h5.up⟩
theorem OpI.keep0 {w1 w w':World} {b n nb:Nat} {ph:Bool} (h:OpI w1 w b n nb ph) (o:Only [] w w'):OpI w1 w' b n nb ph:=by
 obtain⟨s,R,fp,⟨hb,rb,qb,kb,fh,fr,ff,fk,e,h1⟩,h2,h3,h4⟩:=h
 exact⟨s,R,fp,⟨hb,rb,qb,kb,fh,fr,ff,fk,e,h1.keep0 o⟩,h2,h3.nil o,h4⟩
theorem OpI.next {w1 w w':World} {b n nb:Nat} {ph:Bool} {hb rb qb kb:Nat} {s':HL} {R':Rt.MS} {fh fr ff fk fh' fr' ff' fk':List Nat} (h2: ∀x,x∈b::(fh++(fr++(ff++fk)))→w1.heap.size≤x) (h3:Only [] w1 w) (h:SCs w' b hb rb qb kb s' R' fh' fr' ff' fk')
  (o:Only (b::(fh++(fr++(ff++fk)))) w w') (hn: ∀x,x∈b::(fh'++(fr'++(ff'++fk')))→x∈b::(fh++(fr++(ff++fk)))∨w.heap.size≤x) (hz:Sz s' n nb) (hd:Snd ph s' R'):OpI w1 w' b n nb ph:=
 ⟨s',R',_,⟨hb,rb,qb,kb,fh',fr',ff',fk',rfl,h⟩,fun x hx=>(hn x hx).elim (h2 x) fun h=>by have:=h3.size;omega,h3.trans o fun x hx=>.inr (h2 x hx),hz,hd⟩
theorem oAt {w1 w:World} {b m nb:Nat} {ph:Bool} (h:OpI w1 w b m nb ph) (n:Nat) (hn:n<100):Cs Tryz.prog 92 [.pointer (some ⟨b,0,none⟩),.int .i64 (n:Int)] w fun v w'=>(∃y:Int,v=.int .i64 y∧0≤y∧y≤4096)∧Only [] w w':=by
 obtain⟨s,R,fp,⟨hb,rb,qb,kb,fh,fr,ff,fk,e,h1⟩,h2,h3,h4,_⟩:=h
 refine(cAt h1 n hn).mono ?_
 rintro v w' ⟨rfl,ho⟩
 exact⟨⟨_,rfl,atS_le h1.inv.ok n⟩,ho⟩
theorem oPlace {w1 w:World} {b m nb:Nat} (h:OpI w1 w b m nb false) (sh:Sh) (hv:validS sh=true) (sp:Int) (hm:m≤1000):Cs Tryz.prog 90 [.pointer (some ⟨b,0,none⟩),.agg ⟨shV sh⟩,.int .i64 sp] w fun v w'=>v=.bool true∧OpI w1 w' b (m+1) nb false∧ ∃S,(∀x,x∈S→w1.heap.size≤x)∧Only S w w':=by
 obtain⟨s,R,fp,⟨hb,rb,qb,kb,fh,fr,ff,fk,rfl,h1⟩,h2,h3,h4,h5⟩:=h
 refine(cPlace h1 sh hv sp (by have:=h4.1;omega) (by have:=h4.2.1;omega)).mono ?_
 rintro v w' ⟨rfl,s',ff',e1,e2,e3,e4⟩
 refine⟨rfl,OpI.next h2 h3 e2 e3 (fun x hx=>?_) (h4.step e1) (h5.f (e1.2.2.2.2 _ (.inl rfl) h5.1)),_,h2,e3⟩
 simp only[List.mem_cons,List.mem_append]at hx⊢
 rcases hx with hx|hx|hx|hx|hx
 ·simp[hx]
 ·simp[hx]
 ·simp[hx]
 ·rcases e4 x hx with h|h
  ·simp[h]
  ·exact .inr h
 ·simp[hx]
theorem SC.parts {w:World} {b:Nat} {s:HL} {R:Rt.MS} {fp:List Nat} (h:SC w b s R fp): ∃hb rb qb kb fh fr ff fk,fp=b::(fh++(fr++(ff++fk)))∧SCs w b hb rb qb kb s R fh fr ff fk:=h
theorem oSet {w1 w:World} {b m nb:Nat} {s:HL} {R:Rt.MS} {fp:List Nat} (h:SC w b s R fp∧(∀x,x∈fp→w1.heap.size≤x)∧Only [] w1 w∧Sz s m nb∧Snd true s R) (n:Nat) (hn:n<100000) (y:Int) (hy:PhP true s y):Cs Tryz.prog 97 [.pointer (some ⟨b,0,none⟩),.int .i64 (n:Int),.int .i64 y] w fun v w'=>v=.bool true∧OpI w1 w' b m nb true∧ ∃S,(∀x,x∈S→w1.heap.size≤x)∧Only S w w':=by
 obtain⟨⟨hb,rb,qb,kb,fh,fr,ff,fk,rfl,h1⟩,h2,h3,h4,h5⟩:=h
 refine(cSet h1 n hn y).mono ?_
 rintro v w' ⟨rfl,R',fr',fk',e1,e2,e3,e4⟩
 exact⟨rfl,OpI.next h2 h3 e2 e3 e4 h4 ⟨h5.1,rootsSet_P e1 h5.2 hy⟩,_,h2,e3⟩
theorem oLink {w1 w:World} {b m nb:Nat} {s:HL} {R:Rt.MS} {fp:List Nat} (h:SC w b s R fp∧(∀x,x∈fp→w1.heap.size≤x)∧Only [] w1 w∧Sz s m nb∧Snd true s R) (x i to:Int) (hx:x≤4611686018427387904) (hto:0≤to∧to≤4096) (hy:PhP true s to):Cs Tryz.prog 96 [.pointer (some ⟨b,0,none⟩),.int .i64 x,.int .i64 i,.int .i64 to] w fun v w'=>v=.bool true∧OpI w1 w' b m nb true∧ ∃S,(∀x,x∈S→w1.heap.size≤x)∧Only S w w':=by
 obtain⟨⟨hb,rb,qb,kb,fh,fr,ff,fk,rfl,h1⟩,h2,h3,h4,h5⟩:=h
 refine(cLink h1 x i to hx (by omega)).mono ?_
 rintro v w' ⟨rfl,s',e1,e2,e3⟩
 obtain⟨t,g1,g2,g3,g4,g5,g6⟩:=abs_setRef h1.inv.ok x i to
 have hts:s'=t:=Option.some.inj (e1.symm.trans g1)
 subst hts
 refine⟨rfl,OpI.next h2 h3 e2 e3 (fun x hx=>.inl hx) ⟨by rw[g5];exact h4.1,?_,by rw[g3];exact h4.2.2.1,by rw[g2];exact h4.2.2.2.setRefM _ _ _ hto⟩ (h5.st g4 (by rw[g2];exact h5.1.setRefM _ _ _ hy)),_,h2,e3⟩
 have:HL.objs s'=s.objs:=by unfold HL.objs;rw[g4]
 rw[this];exact h4.2.1
theorem cOpen1 {w:World} {cs:List Value} {g:BG} {vO vD vL vP vN:Value} (h:BegAt w.heap.size w cs g vO vD vL vP vN):Cs Tryz.prog 39 [.agg ⟨cs⟩] w fun v w'=> ∃b,v=.pointer (some ⟨b,0,none⟩)∧OpI w w' b 40 (2+g.bl%23) true:=by
 obtain⟨rfl,l0,l1,hO,hD,hL,hP,hN⟩:=h
 have m23:((g.bl:Int).tmod 23)=((g.bl%23:Nat):Int):=tmodN g.bl 23
 have m4:((g.mu:Int).tmod 4)=((g.mu%4:Nat):Int):=tmodN g.mu 4
 have e1:IntKind.i64.wrap (2+((g.bl%23:Nat):Int))=((2+g.bl%23:Nat):Int):=by rw[IntWalk.i64_in _ (by omega)];omega
 have e2:IntKind.i64.wrap (1+((g.mu%4:Nat):Int))=((1+g.mu%4:Nat):Int):=by rw[IntWalk.i64_in _ (by omega)];omega
 refine enter_law12_Begin_Open rfl ?_
 unfold x_law12_Begin_Open
 (repeat(first|with_reducible(first|refine nx ?_|refine r_6 rfl ?_)|simp only[go_sem]))
 refine boxT fun q w1 hq hs1 hat1 ho1=>?_
 (repeat(first|with_reducible(first|refine nx ?_|refine r_6 rfl ?_)|simp only[go_sem,hat1.cell,hat1.drew.cell,u8V,conv_u8 g.bl l0,conv_u8 g.mu l1,m23,m4,e1,e2]))
 obtain⟨s0,n1,n2,n3,n4,n5⟩:=new_inv (n:=2+g.bl%23) (by omega) (by omega)
 have r1:Rt.newO ((1+g.mu%4:Nat):Int)=some ⟨1+g.mu%4,List.replicate (16*(1+g.mu%4)) 0,List.replicate 16 0,[]⟩:=by
  unfold Rt.newO;rw[if_pos (by omega),Int.toNat_natCast]
 generalize hR0:(⟨1+g.mu%4,List.replicate (16*(1+g.mu%4)) 0,List.replicate 16 0,[]⟩:Rt.MS)=R0 at r1
 have i1:(some s0).isSome=true:=rfl
 have i2:(some R0).isSome=true:=rfl
 refine callT (hNew _ _) ?_
 rintro v w2 ⟨ah,fh,rfl,hh2,_,gh,ho2⟩
 replace ho2:Only [] w1 w2:=(Only.drew [] w1).nil ho2
 replace gh: ∀y,y∈fh→w1.heap.size≤y:=gh
 rw[n1]at hh2⊢
 obtain⟨hb,rfl,hrest⟩:=hh2
 have hh2:HR w2 (some ⟨hb,0,none⟩) fh (some s0):=⟨hb,rfl,hrest⟩
 clear hrest
 (repeat(first|with_reducible(first|refine nx ?_|refine r_6 rfl ?_)|simp only[go_sem,i1]))
 refine callT (Rt.New_m w2 _) ?_
 rintro v w3 ⟨ho3,ar,fr,rfl,hr3,_,gr⟩
 rw[r1]at hr3⊢
 obtain⟨rb,rfl,hrest⟩:=hr3
 have hr3:Rt.PR w3 (some ⟨rb,0,none⟩) fr (some R0):=⟨rb,rfl,hrest⟩
 clear hrest
 (repeat(first|with_reducible(first|refine nx ?_|refine r_6 rfl ?_)|simp only[go_sem,i2,bne_int_false (rfl:(0:Int)=0)]))
 rw[fillL_one rfl rfl,fillL_one rfl rfl]
 (repeat(first|with_reducible(first|refine nx ?_|refine r_6 rfl ?_)|simp only[go_sem]))
 refine boxT fun b w4 hb4 hs4 hat4 ho4=>?_
 (repeat(first|with_reducible(first|refine nx ?_|refine r_6 rfl ?_)|simp only[go_sem]))
 refine callT (fNew w4 _ (by omega) (by omega)) ?_
 rintro v w5 ⟨ho5,qb,ff,rfl,hf5,gf⟩
 rw[Int.toNat_natCast,←n3]at hf5
 have hat5:=hat4.keep0 ho5
 (repeat(first|with_reducible(first|refine nx ?_|refine r_6 rfl ?_)|simp only[go_sem]))
 refine stT hat5 (by simp) rfl fun w6 hs6 hat6 ho6=>?_
 (repeat(first|with_reducible(first|refine nx ?_|refine r_6 rfl ?_)|simp only[go_sem]))
 refine callT (Rt.rNew w6 _) ?_
 rintro v w7 ⟨ho7,ak,fk,rfl,hk7,_,gk⟩
 rw[r1]at hk7⊢
 obtain⟨kb,rfl,hrest⟩:=hk7
 have hk7:Rt.RR w7 (some ⟨kb,0,none⟩) fk (some R0):=⟨kb,rfl,hrest⟩
 clear hrest
 (repeat(first|with_reducible(first|refine nx ?_|refine r_6 rfl ?_)|simp only[go_sem]))
 refine stT (hat6.keep0 ho7) (by simp) rfl fun w8 hs8 hat8 ho8=>?_
 simp only[List.set_cons_zero,List.set_cons_succ]at hat8
 have z1:=ho1.size;have z2:=ho2.size;have z3:=ho3.size;have z4:=ho4.size;have z5:=ho5.size;have z6:=ho6.size;have z7:=ho7.size;have z8:=ho8.size
 have lh:=hh2.lt;have lr:=hr3.lt;have lf:=hf5.lt;have lk:=hk7.lt
 have oh:Only [b] w2 w8:=((((((ho3.nil ho4).nil ho5).of_nil (T:=[b])).same ho6).nil ho7).same ho8)
 have or:Only [b] w3 w8:=(((((ho4.nil ho5).of_nil (T:=[b])).same ho6).nil ho7).same ho8)
 have of:Only [b] w5 w8:=(ho6.nil ho7).same ho8
 have nh:b∉fh:=fun hx=>by have:=lh b hx;omega
 have nr:b∉fr:=fun hx=>by have:=lr b hx;omega
 have nf:b∉ff:=fun hx=>by have:=gf b hx;omega
 have nk:b∉fk:=fun hx=>by have:=gk b hx;omega
 have hsc:SCs w8 b hb rb qb kb s0 R0 fh fr ff fk:=⟨hat8,n2,hh2.keep oh (fun x hx=>off1 (fun e=>nh (e▸hx))),hr3.keep or (fun x hx=>off1 (fun e=>nr (e▸hx))),hf5.keep of (fun x hx=>off1 (fun e=>nf (e▸hx))),hk7.keep ho8 (fun x hx=>off1 (fun e=>nk (e▸hx))),
  ⟨nh,nr,nf,nk⟩,fun x hx=>⟨fun hy=>by have:=lh x hx;have:=gr x hy;omega,fun hy=>by have:=lh x hx;have:=gf x hy;omega,fun hy=>by have:=lh x hx;have:=gk x hy;omega⟩,fun x hx=>⟨fun hy=>by have:=lr x hx;have:=gf x hy;omega,fun hy=>by have:=lr x hx;have:=gk x hy;omega⟩,fun x hx hy=>by have:=lf x hx;have:=gk x hy;omega⟩
 have o18:Only [] w1 w8:=(ho2.nil ho3).trans ((((ho4.nil ho5).of_nil (T:=[b])).same ho6).nil ho7|>.same ho8) fun x hx=>by simp only[List.mem_singleton]at hx;subst hx;exact .inr (by omega)
 have hI0:OpI w1 w8 b 0 (2+g.bl%23) false:=⟨s0,R0,_,⟨hb,rb,qb,kb,fh,fr,ff,fk,rfl,hsc⟩,fun x hx=>by
  simp only[List.mem_cons,List.mem_append]at hx
  rcases hx with rfl|hx|hx|hx|hx
  ·omega
  ·exact gh x hx
  ·have:=gr x hx;omega
  ·have:=gf x hx;omega
  ·have:=gk x hx;omega,o18,⟨by omega,by have:s0.objs.length=s0.abs.O.length:=(abs_len s0).symm;rw[this,n3];exact Nat.le_refl 0,n5,by rw[n3];intro o ho;cases ho⟩,⟨(by rw[n3];intro o ho;cases ho),by rw[←hR0];exact⟨fun x hx=>.inl (List.eq_of_mem_replicate hx),fun x hx=>.inl (List.eq_of_mem_replicate hx),fun x hx=>by cases hx⟩⟩⟩
 generalize hnb:2+g.bl%23=nb at*
 have hq1: ∀w',Only [] w1 w'→At w' q [u8V g.bl,u8V g.mu,vO,vD,vL,vP,vN]:=fun w' o=>hat1.keep0 o
 have kU: ∀ {v:Value} {n sz:Nat} {f:Nat→Nat→Nat},U8At w.heap.size w v n sz f→ ∀w',Only [] w1 w'→U8At w.heap.size w' v n sz f:=fun h w' o=>h.keep (Nat.le_refl _) (ho1.nil o) (by simp)
 have hOp: ∀ {w':World} {n:Nat} {ph:Bool},OpI w1 w' b n nb ph→Only [] w1 w':=fun h=>by obtain⟨_,_,_,_,_,h,_⟩:=h;exact h
 obtain⟨aO,cO,rfl,bO,_⟩:=id hO
 obtain⟨aD,cD,rfl,bD,_⟩:=id hD
 obtain⟨aL,cL,rfl,bL,_⟩:=id hL
 obtain⟨aP,cP,rfl,bP,_⟩:=id hP
 obtain⟨aN,cN,rfl,bN,_⟩:=id hN
 have hqs:q<w1.heap.size:=by omega
 clear hh2 hr3 hf5 hk7 hsc hat4 hat5 hat6 hat8 oh or of o18 nh nr nf nk lh lr lf lk gh gr gf gk ho2 ho3 ho4 ho5 ho6 ho7 ho8
 simp only[go_sem]
 refine run_seq ?_
 refine run_cut (10::75::76::77::78::79::80::81::82::83::84::85::86::87::88::89::90::91::92::93::94::95::96::97::98::99::100::101::102::[]) (fun _ w'=>OpI w1 w' b 40 nb false) (fun kk hkk=>?_) (fun g1 w9 hI1=>?_)
 ·(repeat(first|with_reducible(first|refine nx ?_|refine r_6 rfl ?_)|simp only[go_sem]))
  refine run_loop (10::75::76::77::78::79::80::81::82::83::84::85::86::87::88::89::90::91::92::93::94::95::96::97::98::99::100::101::102::[]) (fun g' w'=> ∃i:Nat,g' 10=.int .i64 i∧i≤40∧OpI w1 w' b i nb false) (fun g' _=>upTo 40 10 g') ⟨0,by simp only[go_sem];rfl,by omega,hI0⟩ fun g' w' hI hnext=>?_
  obtain⟨i,h10,hi40,hI⟩:=hI
  have o':=hOp hI
  have hq':=hq1 w' o'
  by_cases c1:i<g.nO
  rotate_left
  ·(repeat(first|with_reducible(first|refine nx ?_|refine r_6 rfl ?_)|simp only[go_sem,h10,hq'.cell,decide_eq_false (show¬(i:Int)<(g.nO:Int) by omega)]))
   refine hkk _ w' ?_ (hI.mono hi40)
   (repeat(first|with_reducible exact k_1|with_reducible exact Keeps.ovr _ _ _|refine Keeps.put ?_ rfl _|exact k_1|exact Keeps.ovr _ _ _|refine Keeps.ovr2 ?_ rfl _))
  by_cases c2:i<40
  rotate_left
  ·(repeat(first|with_reducible(first|refine nx ?_|refine r_6 rfl ?_)|simp only[go_sem,h10,hq'.cell,decide_eq_true (show(i:Int)<(g.nO:Int) by omega),decide_eq_false (show¬(i:Int)<40 by omega)]))
   refine hkk _ w' ?_ (hI.mono hi40)
   (repeat(first|with_reducible exact k_1|with_reducible exact Keeps.ovr _ _ _|refine Keeps.put ?_ rfl _|exact k_1|exact Keeps.ovr _ _ _|refine Keeps.ovr2 ?_ rfl _))
  (repeat(first|with_reducible(first|refine nx ?_|refine r_6 rfl ?_)|simp only[go_sem,h10,hq'.cell,decide_eq_true (show(i:Int)<(g.nO:Int) by omega),decide_eq_true (show(i:Int)<40 by omega)]))
  obtain⟨a',c',e',_,hc'⟩:=kU hO w'.drew (o'.nil (Only.drew [] w'))
  cases e'
  obtain⟨p,rfl,hp1,hp2⟩:=hc' i c1
  refine run_drt [q,p.block] ?_
  have hcs:cellsAt w'.drew (p.add (i*4)) 4=some [u8V (g.fO i 0),u8V (g.fO i 1),u8V (g.fO i 2),u8V (g.fO i 3)]:=cellsAt_fn (fun j=>u8V (g.fO i j)) hp2
  have hc3:w'.drew.cell? ⟨p.block,(p.add (i*4)).off+3,none⟩=some (u8V (g.fO i 3)):=by
   have:=hp2 3 (by omega)
   rw[←add_block p (i*4)];exact this
  have q4:((4:Nat):Int)=4:=rfl
  have t3:Int.toNat 3*1=3:=rfl
  have n1': ∀n,inL [q,p.block] (.pointer (some (p.add n)))=True:=fun n=>by simp[inL,add_block]
  have m3:((g.fO i 3:Nat):Int).tmod 3=((g.fO i 3%3:Nat):Int):=tmodN _ 3
  (repeat(first|with_reducible(first|refine nx ?_|refine r_6 rfl ?_)|simp only[go_sem,h10,hq'.drew.cell,if_pos (show(0:Int)≤(i:Int)∧(i:Int)<(g.nO:Int) by omega),Int.toNat_natCast,hcs,q4,t3,add_block,hc3,n1',u8V,conv_u8 (g.fO i 3) (bO i 3),m3]))
  have h1d:OpI w1 w'.drew b i nb false:=hI.keep0 (Only.drew [] w')
  have hzd:w1.heap.size≤w'.drew.heap.size:=(hOp h1d).size
  have hbl: ∀z,z∈[q,p.block]→z<w1.heap.size:=fun z hz=>by
   simp only[List.mem_cons,List.not_mem_nil,or_false]at hz
   rcases hz with rfl|rfl<;>omega
  refine callS1 (cShape w'.drew _ _ _ (g.fO i 3) (bO i 0) (bO i 1) (bO i 2)) (.inr ⟨SB.refl _ _,fun z hz=>⟨by have:=hbl z hz;omega,by simp⟩⟩) fun w5 ho5=>?_
  (repeat(first|with_reducible(first|refine nx ?_|refine r_6 rfl ?_)|simp only[go_sem]))
  refine callS (oPlace (h1d.keep0 ho5) (shapeB _ _ _) (shapeB_valid _ _ _) _ (by omega)) ?_
  rintro v w6 ⟨rfl,hI6,S,hS,hoS⟩
  refine⟨.inl rfl,?_⟩
  have z1:IntKind.i64.wrap ((i:Int)+1)=((i+1:Nat):Int):=by rw[IntWalk.i64_in _ (by omega)];omega
  (repeat(first|with_reducible(first|refine nx ?_|refine r_6 rfl ?_)|simp only[go_sem,h10,z1]))
  refine hnext _ w6 ?_ ⟨i+1,?_,by omega,hI6⟩ ?_
  ·(repeat(first|with_reducible exact k_1|with_reducible exact Keeps.ovr _ _ _|refine Keeps.put ?_ rfl _|exact k_1|exact Keeps.ovr _ _ _|refine Keeps.ovr2 ?_ rfl _))
  ·simp only[go_sem]
  ·rw[upTo_int (i:=i) h10,upTo_int (k:=.i64) (i:=i+1) (by simp only[go_sem])];omega
 refine run_seq ?_
 refine run_cut (11::12::103::104::105::106::107::108::109::110::111::112::113::114::115::116::117::118::119::120::121::122::123::124::125::126::127::128::129::130::131::132::133::134::135::[]) (fun _ w'=>OpI w1 w' b 40 nb false) (fun kk hkk=>?_) (fun g2 w10 hI2=>?_)
 ·(repeat(first|with_reducible(first|refine nx ?_|refine r_6 rfl ?_)|simp only[go_sem]))
  refine run_loop (11::12::103::104::105::106::107::108::109::110::111::112::113::114::115::116::117::118::119::120::121::122::123::124::125::126::127::128::129::130::131::132::133::134::135::[]) (fun g' w'=> ∃i:Nat,g' 11=.int .i64 i∧i≤20∧OpI w1 w' b 40 nb false) (fun g' _=>upTo 20 11 g') ⟨0,by simp only[go_sem];rfl,by omega,hI1⟩ fun g' w' hI hnext=>?_
  obtain⟨i,h10,hi40,hI⟩:=hI
  have o':=hOp hI
  have hq':=hq1 w' o'
  by_cases c1:i<g.nD
  rotate_left
  ·(repeat(first|with_reducible(first|refine nx ?_|refine r_6 rfl ?_)|simp only[go_sem,h10,hq'.cell,decide_eq_false (show¬(i:Int)<(g.nD:Int) by omega)]))
   refine hkk _ w' ?_ hI
   (repeat(first|with_reducible exact k_1|with_reducible exact Keeps.ovr _ _ _|refine Keeps.put ?_ rfl _|exact k_1|exact Keeps.ovr _ _ _|refine Keeps.ovr2 ?_ rfl _))
  by_cases c2:i<20
  rotate_left
  ·(repeat(first|with_reducible(first|refine nx ?_|refine r_6 rfl ?_)|simp only[go_sem,h10,hq'.cell,decide_eq_true (show(i:Int)<(g.nD:Int) by omega),decide_eq_false (show¬(i:Int)<20 by omega)]))
   refine hkk _ w' ?_ hI
   (repeat(first|with_reducible exact k_1|with_reducible exact Keeps.ovr _ _ _|refine Keeps.put ?_ rfl _|exact k_1|exact Keeps.ovr _ _ _|refine Keeps.ovr2 ?_ rfl _))
  have ci:(0:Int)≤(i:Int)∧(i:Int)<(g.nD:Int):=by omega
  have z1:IntKind.i64.wrap ((i:Int)+1)=((i+1:Nat):Int):=by rw[IntWalk.i64_in _ (by omega)];omega
  obtain⟨a',c',e',_,hc'⟩:=kU hD w' o'
  cases e'
  obtain⟨p,rfl,hp1,hp2⟩:=hc' i c1
  have m100:((g.fD i 0:Nat):Int).tmod 100=((g.fD i 0%100:Nat):Int):=tmodN _ 100
  have hc0:w'.cell? (p.add i)=some (u8V (g.fD i 0)):=by
   have:=hp2 0 (by omega)
   rw[Nat.mul_one]at this
   exact this
  (repeat(first|with_reducible(first|refine nx ?_|refine r_6 rfl ?_)|simp only[go_sem,h10,hq'.cell,decide_eq_true (show(i:Int)<(g.nD:Int) by omega),decide_eq_true (show(i:Int)<20 by omega),if_pos ci,Int.toNat_natCast,Nat.mul_one,hc0,u8V,conv_u8 (g.fD i 0) (bD i 0),m100]))
  refine callT (oAt hI (g.fD i 0%100) (by omega)) ?_
  rintro v w5 ⟨⟨y,rfl,y0,y1⟩,ho5⟩
  obtain⟨s,R,fp,⟨hb',rb',qb',kb',fh',fr',ff',fk',rfl,h1⟩,h2,h3,h4,h4s⟩:=hI.keep0 ho5
  have h1d:=h1.keep0 (Only.drew [] w5)
  (repeat(first|with_reducible(first|refine nx ?_|refine r_6 rfl ?_)|simp only[go_sem]))
  refine run_drt [b] ?_
  (repeat(first|with_reducible(first|refine nx ?_|refine r_6 rfl ?_)|simp only[go_sem,h1d.at_.cell]))
  obtain⟨s',e1,e2,e3,e4,_⟩:=abs_kill h1.inv.ok y
  refine callS (fKill h1d.f y) ?_
  rintro v w6 ⟨rfl,ho6,ff6,hf6,hsub⟩
  refine⟨.inr ((SB.refl _ _).only ho6 fun z hz=>by simp only[List.mem_singleton]at hz;subst hz;exact⟨h1d.at_.lt,h1.d1.2.2.1⟩),?_⟩
  (repeat(first|with_reducible(first|refine nx ?_|refine r_6 rfl ?_)|simp only[go_sem]))
  refine callS (hKill (h1d.h.keep ho6 fun z hz=>(h1.d2 z hz).2.1) y (by omega)) ?_
  rintro v w7 ⟨rfl,hh7,ho7⟩
  refine⟨.inl rfl,?_⟩
  rw[e1]at hh7
  rw[←e2]at hf6
  have g5:=h1d.both (h1.inv.kill e1 (hh7.ok s' rfl)) ho6 hf6 hsub ho7 hh7
  have hz5:Sz s' 40 nb:=⟨by rw[e4];exact h4.1,by have:=h4.2.1;have:=killM_len s.abs y;rw[←e2,abs_len,abs_len]at this;omega,by rw[e3];exact h4.2.2.1,by rw[e2];exact h4.2.2.2.killM _⟩
  have hI7:OpI w1 w7 b 40 nb false:=OpI.next h2 h3 g5.1 ((Only.drew _ w5).same g5.2) (fun x hx=>by
   simp only[List.mem_cons,List.mem_append]at hx⊢
   rcases hx with hx|hx|hx|hx|hx
   ·simp[hx]
   ·simp[hx]
   ·simp[hx]
   ·rcases hsub x hx with h|h
    ·simp[h]
    ·exact .inr h
   ·simp[hx]) hz5 (h4s.f (by rw[e2];exact h4s.1.killM _))
  (repeat(first|with_reducible(first|refine nx ?_|refine r_6 rfl ?_)|simp only[go_sem,h10,z1,abs_lacks h1.inv.ok y,bne_int_false (rfl:objE (some s) y=objE (some s) y)]))
  refine hnext _ w7 ?_ ⟨i+1,?_,by omega,hI7⟩ ?_
  ·(repeat(first|with_reducible exact k_1|with_reducible exact Keeps.ovr _ _ _|refine Keeps.put ?_ rfl _|exact k_1|exact Keeps.ovr _ _ _|refine Keeps.ovr2 ?_ rfl _))
  ·simp only[go_sem]
  ·rw[upTo_int (i:=i) h10,upTo_int (k:=.i64) (i:=i+1) (by simp only[go_sem])];omega
 refine run_seq ?_
 refine run_cut (13::14::15::16::17::136::137::138::139::140::141::142::143::144::145::146::147::148::149::150::151::152::153::154::155::156::157::158::159::160::161::162::163::164::165::166::167::168::169::170::171::172::173::174::175::176::177::178::179::180::181::182::183::184::185::186::187::188::189::190::191::[]) (fun _ w'=>OpI w1 w' b 40 nb true) (fun kk hkk=>?_) (fun g3 w11 hI3=>?_)
 ·(repeat(first|with_reducible(first|refine nx ?_|refine r_6 rfl ?_)|simp only[go_sem]))
  refine run_loop (13::14::15::16::17::136::137::138::139::140::141::142::143::144::145::146::147::148::149::150::151::152::153::154::155::156::157::158::159::160::161::162::163::164::165::166::167::168::169::170::171::172::173::174::175::176::177::178::179::180::181::182::183::184::185::186::187::188::189::190::191::[]) (fun g' w'=> ∃i:Nat,g' 13=.int .i64 i∧i≤120∧OpI w1 w' b 40 nb true) (fun g' _=>upTo 120 13 g') ⟨0,by simp only[go_sem];rfl,by omega,hI2.up⟩ fun g' w' hI hnext=>?_
  obtain⟨i,h10,hi40,hI⟩:=hI
  have o':=hOp hI
  have hq':=hq1 w' o'
  by_cases c1:i<g.nL
  rotate_left
  ·(repeat(first|with_reducible(first|refine nx ?_|refine r_6 rfl ?_)|simp only[go_sem,h10,hq'.cell,decide_eq_false (show¬(i:Int)<(g.nL:Int) by omega)]))
   refine hkk _ w' ?_ hI
   (repeat(first|with_reducible exact k_1|with_reducible exact Keeps.ovr _ _ _|refine Keeps.put ?_ rfl _|exact k_1|exact Keeps.ovr _ _ _|refine Keeps.ovr2 ?_ rfl _))
  by_cases c2:i<120
  rotate_left
  ·(repeat(first|with_reducible(first|refine nx ?_|refine r_6 rfl ?_)|simp only[go_sem,h10,hq'.cell,decide_eq_true (show(i:Int)<(g.nL:Int) by omega),decide_eq_false (show¬(i:Int)<120 by omega)]))
   refine hkk _ w' ?_ hI
   (repeat(first|with_reducible exact k_1|with_reducible exact Keeps.ovr _ _ _|refine Keeps.put ?_ rfl _|exact k_1|exact Keeps.ovr _ _ _|refine Keeps.ovr2 ?_ rfl _))
  have ci:(0:Int)≤(i:Int)∧(i:Int)<(g.nL:Int):=by omega
  have z1:IntKind.i64.wrap ((i:Int)+1)=((i+1:Nat):Int):=by rw[IntWalk.i64_in _ (by omega)];omega
  obtain⟨a',c',e',_,hc'⟩:=kU hL w' o'
  cases e'
  obtain⟨p,rfl,hp1,hp2⟩:=hc' i c1
  have m100:((g.fL i 0:Nat):Int).tmod 100=((g.fL i 0%100:Nat):Int):=tmodN _ 100
  have m100b:((g.fL i 2:Nat):Int).tmod 100=((g.fL i 2%100:Nat):Int):=tmodN _ 100
  have q4:((3:Nat):Int)=3:=rfl
  have t0:Int.toNat 0*1=0:=rfl
  have t1:Int.toNat 1*1=1:=rfl
  have t2:Int.toNat 2*1=2:=rfl
  have hcs:cellsAt w' (p.add (i*3)) 3=some [u8V (g.fL i 0),u8V (g.fL i 1),u8V (g.fL i 2)]:=cellsAt_fn (fun j=>u8V (g.fL i j)) hp2
  (repeat(first|with_reducible(first|refine nx ?_|refine r_6 rfl ?_)|simp only[go_sem,h10,hq'.cell,decide_eq_true (show(i:Int)<(g.nL:Int) by omega),decide_eq_true (show(i:Int)<120 by omega),if_pos ci,Int.toNat_natCast,hcs]))
  refine boxT fun x w2' hx hsx hatx hox=>?_
  (repeat(first|with_reducible(first|refine nx ?_|refine r_6 rfl ?_)|simp only[go_sem]))
  refine stNT hatx rfl (by simp) (by simp[oneC,u8V]) fun w3' hsx3 hatx3 hox3=>?_
  have hatx3:At w3' x [u8V (g.fL i 0),u8V (g.fL i 1),u8V (g.fL i 2)]:=hatx3
  have o3:Only [] w' w3':=hox.trans hox3 fun y hy=>by simp only[List.mem_singleton]at hy;subst hy;exact .inr (by omega)
  have hI3':=hI.keep0 o3
  (repeat(first|with_reducible(first|refine nx ?_|refine r_6 rfl ?_)|simp only[go_sem,q4,t0,hatx3.cell,u8V,conv_u8 (g.fL i 0) (bL i 0),m100]))
  refine callT (oAt hI3' (g.fL i 0%100) (by omega)) ?_
  rintro v w5 ⟨⟨y,rfl,y0,y1⟩,ho5⟩
  have hI5':=hI3'.keep0 ho5
  obtain⟨s,R,fp,⟨hb',rb',qb',kb',fh',fr',ff',fk',rfl,h1⟩,h2,h3,h4,h4s⟩:=id hI5'
  (repeat(first|with_reducible(first|refine nx ?_|refine r_6 rfl ?_)|simp only[go_sem,h1.at_.cell]))
  refine callT (fShape h1.f y) ?_
  rintro v w6 ⟨rfl,ho6⟩
  obtain⟨⟨sh,er⟩,e⟩: ∃x,x=s.abs.shapeR y:=⟨_,rfl⟩
  rw[←e]
  (repeat(first|with_reducible(first|refine nx ?_|refine r_6 rfl ?_)|simp only[go_sem]))
  refine boxT fun u w7' hu hsu hatu hou=>?_
  (repeat(first|with_reducible(first|refine nx ?_|refine r_6 rfl ?_)|simp only[go_sem]))
  refine stNT (cs:=shV sh) hatu rfl (by simp[shV]) (shV_one _) fun w8' hsu8 hatu8 hou8=>?_
  rw[setL_sh]at hatu8
  have o8:Only [] w5 w8':=ho6.nil (hou.trans hou8 fun y hy=>by simp only[List.mem_singleton]at hy;subst hy;exact .inr (by omega))
  have hI8:=hI5'.keep0 o8
  have hx8:At w8' x [u8V (g.fL i 0),u8V (g.fL i 1),u8V (g.fL i 2)]:=(hatx3.keep0 ho5).keep0 o8
  have hu0:w8'.drew.cell? ⟨u,0,none⟩=some (.int .i64 sh.1):=by rw[hatu8.drew.cell];rfl
  have hId:=hI8.keep0 (Only.drew [] w8')
  have hlx:=hx8.lt
  have hlu:=hatu8.lt
  (repeat(first|with_reducible(first|refine nx ?_|refine r_6 rfl ?_)|simp only[go_sem]))
  refine run_drt [x,u] ?_
  by_cases ce:er=0
  rotate_left
  ·(repeat(first|with_reducible(first|refine nx ?_|refine r_6 rfl ?_)|simp only[go_sem,beq_int_false ce]))
   (repeat(first|with_reducible(first|refine nx ?_|refine r_6 rfl ?_)|simp only[go_sem,h10,z1]))
   refine hnext _ _ ?_ ⟨i+1,?_,by omega,hId⟩ ?_
   ·(repeat(first|with_reducible exact k_1|with_reducible exact Keeps.ovr _ _ _|refine Keeps.put ?_ rfl _|exact k_1|exact Keeps.ovr _ _ _|refine Keeps.ovr2 ?_ rfl _))
   ·simp only[go_sem]
   ·rw[upTo_int (i:=i) h10,upTo_int (k:=.i64) (i:=i+1) (by simp only[go_sem])];omega
  by_cases cr:0<sh.1
  rotate_left
  ·(repeat(first|with_reducible(first|refine nx ?_|refine r_6 rfl ?_)|simp only[go_sem,beq_int_true ce,hu0,decide_eq_false cr]))
   (repeat(first|with_reducible(first|refine nx ?_|refine r_6 rfl ?_)|simp only[go_sem,h10,z1]))
   refine hnext _ _ ?_ ⟨i+1,?_,by omega,hId⟩ ?_
   ·(repeat(first|with_reducible exact k_1|with_reducible exact Keeps.ovr _ _ _|refine Keeps.put ?_ rfl _|exact k_1|exact Keeps.ovr _ _ _|refine Keeps.ovr2 ?_ rfl _))
   ·simp only[go_sem]
   ·rw[upTo_int (i:=i) h10,upTo_int (k:=.i64) (i:=i+1) (by simp only[go_sem])];omega
  (repeat(first|with_reducible(first|refine nx ?_|refine r_6 rfl ?_)|simp only[go_sem,beq_int_true ce,hu0,decide_eq_true cr,q4,t0,t1,t2,hx8.drew.cell,u8V,conv_u8 (g.fL i 1) (bL i 1),conv_u8 (g.fL i 2) (bL i 2),m100b,divO_of (show sh.1≠0 by omega) (.int .i64 (((g.fL i 1:Nat):Int).tmod sh.1))]))
  obtain⟨sL,RL',fpL,⟨hbL,rbL,qbL,kbL,fhL,frL,ffL,fkL,eL,hscL⟩,hgeL,hoL,hszL,hsnL⟩:=hId
  refine callS (cAt hscL (g.fL i 2%100) (by omega)) ?_
  rintro v w9' ⟨rfl,ho9⟩
  obtain⟨t0',t1'⟩:=atS_le hscL.inv.ok (g.fL i 2%100)
  refine⟨.inr ((SB.refl _ _).only ho9 fun z hz=>⟨by
   simp only[List.mem_cons,List.not_mem_nil,or_false]at hz
   rcases hz with rfl|rfl
   ·exact hlx
   ·exact hlu,by simp⟩),?_⟩
  (repeat(first|with_reducible(first|refine nx ?_|refine r_6 rfl ?_)|simp only[go_sem]))
  refine callS (oLink ⟨⟨hbL,rbL,qbL,kbL,fhL,frL,ffL,fkL,eL,hscL.keep0 ho9⟩,hgeL,hoL.nil ho9,hszL,hsnL⟩ y _ (atS sL (g.fL i 2%100)) (by omega) ⟨t0',t1'⟩ (atS_ph _ _)) ?_
  rintro v wA ⟨rfl,hIA,S,hS,hoS⟩
  refine⟨.inl rfl,?_⟩
  (repeat(first|with_reducible(first|refine nx ?_|refine r_6 rfl ?_)|simp only[go_sem]))
  (repeat(first|with_reducible(first|refine nx ?_|refine r_6 rfl ?_)|simp only[go_sem,h10,z1]))
  refine hnext _ _ ?_ ⟨i+1,?_,by omega,hIA⟩ ?_
  ·(repeat(first|with_reducible exact k_1|with_reducible exact Keeps.ovr _ _ _|refine Keeps.put ?_ rfl _|exact k_1|exact Keeps.ovr _ _ _|refine Keeps.ovr2 ?_ rfl _))
  ·simp only[go_sem]
  ·rw[upTo_int (i:=i) h10,upTo_int (k:=.i64) (i:=i+1) (by simp only[go_sem])];omega
 refine run_seq ?_
 refine run_cut (18::192::193::194::195::196::197::198::199::200::201::202::203::204::205::206::207::208::209::210::211::212::213::214::215::216::217::218::219::220::221::222::[]) (fun _ w'=>OpI w1 w' b 40 nb true) (fun kk hkk=>?_) (fun g4 w12 hI4=>?_)
 ·(repeat(first|with_reducible(first|refine nx ?_|refine r_6 rfl ?_)|simp only[go_sem]))
  refine run_loop (18::192::193::194::195::196::197::198::199::200::201::202::203::204::205::206::207::208::209::210::211::212::213::214::215::216::217::218::219::220::221::222::[]) (fun g' w'=> ∃i:Nat,g' 18=.int .i64 i∧i≤20∧OpI w1 w' b 40 nb true) (fun g' _=>upTo 20 18 g') ⟨0,by simp only[go_sem];rfl,by omega,hI3⟩ fun g' w' hI hnext=>?_
  obtain⟨i,h10,hi40,hI⟩:=hI
  have o':=hOp hI
  have hq':=hq1 w' o'
  by_cases c1:i<g.nP
  rotate_left
  ·(repeat(first|with_reducible(first|refine nx ?_|refine r_6 rfl ?_)|simp only[go_sem,h10,hq'.cell,decide_eq_false (show¬(i:Int)<(g.nP:Int) by omega)]))
   refine hkk _ w' ?_ hI
   (repeat(first|with_reducible exact k_1|with_reducible exact Keeps.ovr _ _ _|refine Keeps.put ?_ rfl _|exact k_1|exact Keeps.ovr _ _ _|refine Keeps.ovr2 ?_ rfl _))
  by_cases c2:i<20
  rotate_left
  ·(repeat(first|with_reducible(first|refine nx ?_|refine r_6 rfl ?_)|simp only[go_sem,h10,hq'.cell,decide_eq_true (show(i:Int)<(g.nP:Int) by omega),decide_eq_false (show¬(i:Int)<20 by omega)]))
   refine hkk _ w' ?_ hI
   (repeat(first|with_reducible exact k_1|with_reducible exact Keeps.ovr _ _ _|refine Keeps.put ?_ rfl _|exact k_1|exact Keeps.ovr _ _ _|refine Keeps.ovr2 ?_ rfl _))
  have ci:(0:Int)≤(i:Int)∧(i:Int)<(g.nP:Int):=by omega
  have z1:IntKind.i64.wrap ((i:Int)+1)=((i+1:Nat):Int):=by rw[IntWalk.i64_in _ (by omega)];omega
  obtain⟨a',c',e',_,hc'⟩:=kU hP w' o'
  cases e'
  obtain⟨p,rfl,hp1,hp2⟩:=hc' i c1
  (repeat(first|with_reducible(first|refine nx ?_|refine r_6 rfl ?_)|simp only[go_sem,h10,hq'.cell,decide_eq_true (show(i:Int)<(g.nP:Int) by omega),decide_eq_true (show(i:Int)<20 by omega)]))
  have q4:((2:Nat):Int)=2:=rfl
  have t0:Int.toNat 0*1=0:=rfl
  have t1:Int.toNat 1*1=1:=rfl
  have ta:(p.add (i*2)).add 0=p.add (i*2):=rfl
  have m100:((g.fP i 1:Nat):Int).tmod 100=((g.fP i 1%100:Nat):Int):=tmodN _ 100
  have hc0:w'.drew.cell? (p.add (i*2))=some (u8V (g.fP i 0)):=hp2 0 (by omega)
  have hc1:w'.drew.cell? ⟨p.block,(p.add (i*2)).off+1,none⟩=some (u8V (g.fP i 1)):=by
   have:w'.drew.cell? _=_:=hp2 1 (by omega)
   rw[←add_block p (i*2)];exact this
  have n1': ∀n,inL [q,p.block] (.pointer (some (p.add n)))=True:=fun n=>by simp[inL,add_block]
  have hId:=hI.keep0 (Only.drew [] w')
  have hzd:w1.heap.size≤w'.drew.heap.size:=(hOp hId).size
  have hbl: ∀z,z∈[q,p.block]→z<w1.heap.size:=fun z hz=>by
   simp only[List.mem_cons,List.not_mem_nil,or_false]at hz
   rcases hz with rfl|rfl<;>omega
  refine run_drt [q,p.block] ?_
  (repeat(first|with_reducible(first|refine nx ?_|refine r_6 rfl ?_)|simp only[go_sem,h10,hq'.drew.cell,if_pos ci,Int.toNat_natCast,q4,t0,t1,ta,add_block,n1',hc0,hc1,u8V,conv_u8 (g.fP i 0) (bP i 0),conv_u8 (g.fP i 1) (bP i 1),m100]))
  obtain⟨sL,RL',fpL,⟨hbL,rbL,qbL,kbL,fhL,frL,ffL,fkL,eL,hscL⟩,hgeL,hoL,hszL,hsnL⟩:=hId
  refine callS (cAt hscL (g.fP i 1%100) (by omega)) ?_
  rintro v w5 ⟨rfl,ho5⟩
  refine⟨.inr ((SB.refl _ _).only ho5 fun z hz=>⟨by have:=hbl z hz;omega,by simp⟩),?_⟩
  (repeat(first|with_reducible(first|refine nx ?_|refine r_6 rfl ?_)|simp only[go_sem]))
  refine callS (oSet ⟨⟨hbL,rbL,qbL,kbL,fhL,frL,ffL,fkL,eL,hscL.keep0 ho5⟩,hgeL,hoL.nil ho5,hszL,hsnL⟩ (g.fP i 0) (by have:=bP i 0;omega) (atS sL (g.fP i 1%100)) (atS_ph _ _)) ?_
  rintro v w7 ⟨rfl,hI7,S,hS,hoS⟩
  refine⟨.inl rfl,?_⟩
  (repeat(first|with_reducible(first|refine nx ?_|refine r_6 rfl ?_)|simp only[go_sem,h10,z1]))
  refine hnext _ w7 ?_ ⟨i+1,?_,by omega,hI7⟩ ?_
  ·(repeat(first|with_reducible exact k_1|with_reducible exact Keeps.ovr _ _ _|refine Keeps.put ?_ rfl _|exact k_1|exact Keeps.ovr _ _ _|refine Keeps.ovr2 ?_ rfl _))
  ·simp only[go_sem]
  ·rw[upTo_int (i:=i) h10,upTo_int (k:=.i64) (i:=i+1) (by simp only[go_sem])];omega
 refine run_seq ?_
 refine run_cut (19::20::223::224::225::226::227::228::229::230::231::232::233::234::235::236::237::238::239::240::241::242::243::244::245::246::247::248::249::250::251::252::253::254::255::[]) (fun _ w'=>OpI w1 w' b 40 nb true) (fun kk hkk=>?_) (fun g5 w13 hI5=>?_)
 ·(repeat(first|with_reducible(first|refine nx ?_|refine r_6 rfl ?_)|simp only[go_sem]))
  refine run_loop (19::20::223::224::225::226::227::228::229::230::231::232::233::234::235::236::237::238::239::240::241::242::243::244::245::246::247::248::249::250::251::252::253::254::255::[]) (fun g' w'=> ∃i:Nat,g' 19=.int .i64 i∧i≤8∧OpI w1 w' b 40 nb true) (fun g' _=>upTo 8 19 g') ⟨0,by simp only[go_sem];rfl,by omega,hI4⟩ fun g' w' hI hnext=>?_
  obtain⟨i,h10,hi40,hI⟩:=hI
  have o':=hOp hI
  have hq':=hq1 w' o'
  by_cases c1:i<g.nN
  rotate_left
  ·(repeat(first|with_reducible(first|refine nx ?_|refine r_6 rfl ?_)|simp only[go_sem,h10,hq'.cell,decide_eq_false (show¬(i:Int)<(g.nN:Int) by omega)]))
   refine hkk _ w' ?_ hI
   (repeat(first|with_reducible exact k_1|with_reducible exact Keeps.ovr _ _ _|refine Keeps.put ?_ rfl _|exact k_1|exact Keeps.ovr _ _ _|refine Keeps.ovr2 ?_ rfl _))
  by_cases c2:i<8
  rotate_left
  ·(repeat(first|with_reducible(first|refine nx ?_|refine r_6 rfl ?_)|simp only[go_sem,h10,hq'.cell,decide_eq_true (show(i:Int)<(g.nN:Int) by omega),decide_eq_false (show¬(i:Int)<8 by omega)]))
   refine hkk _ w' ?_ hI
   (repeat(first|with_reducible exact k_1|with_reducible exact Keeps.ovr _ _ _|refine Keeps.put ?_ rfl _|exact k_1|exact Keeps.ovr _ _ _|refine Keeps.ovr2 ?_ rfl _))
  have ci:(0:Int)≤(i:Int)∧(i:Int)<(g.nN:Int):=by omega
  have z1:IntKind.i64.wrap ((i:Int)+1)=((i+1:Nat):Int):=by rw[IntWalk.i64_in _ (by omega)];omega
  obtain⟨a',c',e',_,hc'⟩:=kU hN w' o'
  cases e'
  obtain⟨p,rfl,hp1,hp2⟩:=hc' i c1
  have m100:((g.fN i 0:Nat):Int).tmod 100=((g.fN i 0%100:Nat):Int):=tmodN _ 100
  have hc0:w'.cell? (p.add i)=some (u8V (g.fN i 0)):=by
   have:=hp2 0 (by omega)
   rw[Nat.mul_one]at this
   exact this
  (repeat(first|with_reducible(first|refine nx ?_|refine r_6 rfl ?_)|simp only[go_sem,h10,hq'.cell,decide_eq_true (show(i:Int)<(g.nN:Int) by omega),decide_eq_true (show(i:Int)<8 by omega),if_pos ci,Int.toNat_natCast,Nat.mul_one,hc0,u8V,conv_u8 (g.fN i 0) (bN i 0),m100]))
  refine callT (oAt hI (g.fN i 0%100) (by omega)) ?_
  rintro v w5 ⟨⟨y,rfl,y0,y1⟩,ho5⟩
  obtain⟨s,R,fp,⟨hb',rb',qb',kb',fh',fr',ff',fk',rfl,h1⟩,h2,h3,h4,h4s⟩:=hI.keep0 ho5
  have h1d:=h1.keep0 (Only.drew [] w5)
  (repeat(first|with_reducible(first|refine nx ?_|refine r_6 rfl ?_)|simp only[go_sem]))
  refine run_drt [b] ?_
  (repeat(first|with_reducible(first|refine nx ?_|refine r_6 rfl ?_)|simp only[go_sem,h1d.at_.cell]))
  obtain⟨s',e1,e2,e3,_,e5,e6,e7⟩:=abs_pin h1.inv.ok y 1 (by omega)
  have hst:HL.objs s'=s.objs:=by unfold HL.objs;rw[e5]
  refine callS (fPin h1d.f y) ?_
  rintro v w6 ⟨rfl,hf6,ho6⟩
  refine⟨.inr ((SB.refl _ _).only ho6 fun z hz=>by simp only[List.mem_singleton]at hz;subst hz;exact⟨h1d.at_.lt,h1.d1.2.2.1⟩),?_⟩
  (repeat(first|with_reducible(first|refine nx ?_|refine r_6 rfl ?_)|simp only[go_sem]))
  refine callS (hPin (h1d.h.keep ho6 fun z hz=>(h1.d2 z hz).2.1) y (by omega)) ?_
  rintro v w7 ⟨rfl,hh7,ho7⟩
  refine⟨.inl rfl,?_⟩
  rw[e1]at hh7
  rw[show s.abs.pinM y true=s'.abs from e2.symm]at hf6
  have g5:=h1d.both (h1.inv.pin e1 (hh7.ok s' rfl) e7) ho6 hf6 (fun x hx=>.inl hx) ho7 hh7
  have hI7:OpI w1 w7 b 40 nb true:=OpI.next h2 h3 g5.1 ((Only.drew _ w5).same g5.2) (fun x hx=>.inl hx) ⟨by rw[e6];exact h4.1,by rw[hst];exact h4.2.1,by rw[e3];exact h4.2.2.1,by rw[e2];exact h4.2.2.2.pinM _ _⟩ (h4s.st e5 (by rw[e2];exact h4s.1.pinM _ _))
  (repeat(first|with_reducible(first|refine nx ?_|refine r_6 rfl ?_)|simp only[go_sem,h10,z1,abs_lacks h1.inv.ok y,bne_int_false (rfl:objE (some s) y=objE (some s) y)]))
  refine hnext _ w7 ?_ ⟨i+1,?_,by omega,hI7⟩ ?_
  ·(repeat(first|with_reducible exact k_1|with_reducible exact Keeps.ovr _ _ _|refine Keeps.put ?_ rfl _|exact k_1|exact Keeps.ovr _ _ _|refine Keeps.ovr2 ?_ rfl _))
  ·simp only[go_sem]
  ·rw[upTo_int (i:=i) h10,upTo_int (k:=.i64) (i:=i+1) (by simp only[go_sem])];omega
 (repeat(first|with_reducible(first|refine nx ?_|refine r_6 rfl ?_)|simp only[go_sem]))
 obtain⟨s,R,fp,h1,h2,h3,h4,h5⟩:=hI5
 exact⟨b,rfl,s,R,fp,h1,fun x hx=>by have:=h2 x hx;omega,ho1.nil h3,h4,h5⟩
end Go.Proofs.YtgcofabdialaaaaGreat
end
section
namespace Go.Proofs.YtgcofabdialaaaaGreat
set_option maxRecDepth 8000
abbrev It:=Nat×Nat×Nat×Bool
def stepS (s0:HL) (it:It) (st:HL×BS):HL×BS:=
 if(shapeO (some st.1) (atS s0 (it.1%100))).2=0∧(shapeO (some st.1) (atS s0 (it.1%100))).1.1≠0 then
  match setRefM (some st.1) (atS s0 (it.1%100)) ((it.2.1%(shapeO (some st.1) (atS s0 (it.1%100))).1.1.toNat:Nat):Int) (if 200≤it.2.2.1 then 0 else atS s0 (it.2.2.1%100))with
  |some s'=>(s',st.2.note (some s') (atS s0 (it.1%100)).toNat (it.2.1%(shapeO (some st.1) (atS s0 (it.1%100))).1.1.toNat) (refsO (some st.1) (atS s0 (it.1%100))) (if 200≤it.2.2.1 then 0 else atS s0 (it.2.2.1%100)))
  |none=>st
 else st
def toS (s0:HL) (it:It):Int:=if 200≤it.2.2.1 then 0 else atS s0 (it.2.2.1%100)
structure Akin (s s':HL):Prop where
 ok:s'.Ok
 inv:s'.Inv
 st:s'.st=s.st
 B:s'.B=s.B
 bn:s'.born=s.born
 rf:RfOk s'.abs
theorem Akin.objs {s s':HL} (h:Akin s s'):s'.objs=s.objs:=by unfold HL.objs;rw[h.st]
theorem atS_ok {s s':HL} (h:Akin s s') (n:Nat):okTo s' (atS s n):=by
 unfold atS
 split
 ·exact .inl rfl
 ·rename_i h0
  have hlt:n%s.objs.length<s.objs.length:=Nat.mod_lt _ (by omega)
  refine .inr ⟨_,rfl,?_⟩
  rw[h.st]
  exact mem_objs.1 (show s.objs.getD (n%s.objs.length) 0∈s.objs by simp[hlt])
theorem toS_ok {s s':HL} (h:Akin s s') (it:It):okTo s' (toS s it):=by
 unfold toS
 split
 ·exact .inl rfl
 ·exact atS_ok h _
theorem Akin.ref {s s':HL} (h:Akin s s') {k j:Nat} (hk:s'.st.getD k 0=1) (hj:j<(s'.obAt k).rf.length):0≤(s'.obAt k).rf.getD j 0∧(s'.obAt k).rf.getD j 0≤4096:=by
 refine h.rf (s'.obAt k) ?_ _ ?_
 ·simp only[HL.abs,List.mem_map];exact⟨k,mem_objs.2 hk,rfl⟩
 ·simp[hj]
theorem shape_live {s:HL} (h:s.Ok) {x:Int} (e:(shapeO (some s) x).2=0): ∃k:Nat,x=((2*k:Nat):Int)∧s.st.getD k 0=1:=by
 unfold shapeO at e
 cases hh:hasO (some s) x with
 |true=>exact(has_iff h).1 hh
 |false=>simp[objE,hh]at e
theorem stepS_skip {s0:HL} {it:It} {s:HL} {t:BS} (h: ¬((shapeO (some s) (atS s0 (it.1%100))).2=0∧(shapeO (some s) (atS s0 (it.1%100))).1.1≠0)):stepS s0 it (s,t)=(s,t):=by
 unfold stepS;exact if_neg h
theorem stepS_do {s0:HL} {it:It} {s s':HL} {t:BS} {k:Nat} (hok:s.Ok) (hk:s.st.getD k 0=1) (ha:atS s0 (it.1%100)=((2*k:Nat):Int)) (hr:(s.obAt k).rf.length≠0)
  (e:setRefM (some s) ((2*k:Nat):Int) ((it.2.1%(s.obAt k).rf.length:Nat):Int) (toS s0 it)=some s'):stepS s0 it (s,t)=(s',t.note (some s') (2*k) (it.2.1%(s.obAt k).rf.length) (s.obAt k).rf (toS s0 it)):=by
 obtain⟨h1,_,_⟩:=obAt_len hok hk
 have e2:(s.obAt k).sh.1.toNat=(s.obAt k).rf.length:=by omega
 unfold toS at e⊢
 unfold stepS
 simp only[ha,at_shape hok hk,refsO_at hok hk,e2,Int.toNat_natCast]
 rw[if_pos (show True∧(s.obAt k).sh.1≠0 from⟨trivial,by omega⟩),e]
def runI (s0:HL):List It→HL×BS→HL×BS
 | [],st=>st
 |it::l,st=>runI s0 l (stepS s0 it st)
theorem runI_snoc (s0:HL) (l:List It) (it:It) (st:HL×BS):runI s0 (l++[it]) st=stepS s0 it (runI s0 l st):=by
 induction l generalizing st with
 |nil=>rfl
 |cons a l ih=>exact ih _
theorem runI_take_succ (s0:HL) (l:List It) (i:Nat) (hi:i<l.length) (st:HL×BS):runI s0 (l.take (i+1)) st=stepS s0 (l.getD i default) (runI s0 (l.take i) st):=by
 rw[List.take_succ_eq_append_getElem hi,runI_snoc]
 simp[hi]
theorem note_len (m:HO) (t:BS) (x i:Nat) (refs:List Int) (now:Int):(t.note m x i refs now).S.length≤t.S.length+2∧(t.note m x i refs now).L.length≤t.L.length+1:=by
 unfold BS.note
 obtain⟨_,_,c1,_,_⟩:=BS.note1_k t x refs
 have c1L:(t.note1 x refs).L.length≤t.L.length+1:=by unfold BS.note1;split<;>simp
 generalize t.note1 x refs=t1 at*
 obtain⟨_,_,c2,_,_,c2L⟩:=BS.note2_k t1 (refs.getD i 0)
 generalize t1.note2 (refs.getD i 0)=t2 at*
 obtain⟨_,_,c3,_,c3L⟩:=BS.note3_k t2 (((x+2+i)/8:Nat):Int)
 generalize t2.note3 (((x+2+i)/8:Nat):Int)=t3 at*
 obtain⟨_,_,c4,_,c4L⟩:=BS.note4_k m t3 x now
 generalize BS.note4 m t3 x now=t4 at*
 have c5:(t4.note5 now).S.length≤t4.S.length+1∧(t4.note5 now).L=t4.L:=by
  unfold BS.note5;split
  ·exact⟨shadeL_len _ _,rfl⟩
  ·exact⟨by omega,rfl⟩
 rw[c5.2,c4L,c3L,c2L]
 rw[c4,c3]at c5
 rw[c1]at c2
 exact⟨by omega,c1L⟩
theorem setRef_akin {s0 s s':HL} (h:Akin s0 s) {x i to:Int} (ht:0≤to∧to≤4096) (e:setRefM (some s) x i to=some s') (hok:s'.Ok):Akin s0 s':=by
 obtain⟨t,e1,e2,e3,e4,e5,e6⟩:=abs_setRef h.ok x i to
 have hts:s'=t:=Option.some.inj (e.symm.trans e1)
 subst hts
 exact⟨hok,h.inv.setRef e hok,by rw[e4,h.st],by rw[e3,h.B],by rw[e5,h.bn],by rw[e2];exact h.rf.setRefM _ _ _ ht⟩
theorem obAt_setRef {s s':HL} (h:s.Ok) (hok:s'.Ok) {k j:Nat} {to:Int} (hk:s.st.getD k 0=1) (hj:j<(s.obAt k).rf.length) (ht:okTo s to) (e:setRefM (some s) ((2*k:Nat):Int) (j:Int) to=some s') (i:Nat) (hi:s.st.getD i 0=1):
  s'.obAt i=if i=k then {s.obAt k with rf:=(s.obAt k).rf.set j to}else s.obAt i:=by
 obtain⟨t,e1,e2,e3,e4,e5,e6⟩:=abs_setRef h ((2*k:Nat):Int) (j:Int) to
 have hts:s'=t:=Option.some.inj (e.symm.trans e1)
 subst hts
 have ho:s'.objs=s.objs:=by unfold HL.objs;rw[e4]
 obtain⟨a,ha,hae⟩:=objs_index hk
 obtain⟨c,hc,hce⟩:=objs_index hi
 have hE:s.abs.setRefR ((2*k:Nat):Int) (j:Int) to=0:=by rw[abs_setRefE h];exact setRef_ok h hk hj ht
 have g1:s'.abs.O.getD c default=s'.obAt i:=abs_get (by rw[ho];exact hc) (by rw[ho];exact hce)
 have g2:s.abs.O.getD c default=s.obAt i:=abs_get hc hce
 have g3:s.abs.O.getD a default=s.obAt k:=abs_get ha hae
 rw[←g1,e2]
 unfold RL.setRefM
 rw[if_pos hE]
 unfold RL.upd
 rw[abs_ix ha hae]
 show(s.abs.O.set a {s.abs.O.getD a default with rf:=(s.abs.O.getD a default).rf.set (j:Int).toNat to}).getD c default=_
 have hl:s.abs.O.length=s.objs.length:=abs_len s
 rw[g3,Int.toNat_natCast]
 by_cases hik:i=k
 ·subst hik
  rw[if_pos rfl]
  have hac:a=c:=by
   have:=(abs_ix ha hae).symm.trans (abs_ix hc hce)
   exact Option.some.inj this
  subst hac
  rw[List.getD_eq_getElem?_getD,List.getElem?_set_self (by omega)];rfl
 ·rw[if_neg hik]
  have hac:a≠c:=fun e=>hik (by rw[←hce,←hae,e])
  rw[List.getD_eq_getElem?_getD,List.getElem?_set_ne hac,←List.getD_eq_getElem?_getD,g2]
def StAt (h0:Nat) (w:World) (v:Value) (l:List It):Prop:= ∃(a:Option Addr) (cap:Nat),v=.slice a l.length cap∧ ∀i,i<l.length→ ∃p,a=some p∧p.block<h0∧(l.getD i default).1<256∧(l.getD i default).2.1<256∧(l.getD i default).2.2.1<256∧
 w.cell? (p.add (i*4))=some (u8V (l.getD i default).1)∧w.cell? ((p.add (i*4)).add 1)=some (u8V (l.getD i default).2.1)∧w.cell? ((p.add (i*4)).add 2)=some (u8V (l.getD i default).2.2.1)∧w.cell? ((p.add (i*4)).add 3)=some (.bool (l.getD i default).2.2.2)
theorem StAt.keep {h0:Nat} {w w':World} {v:Value} {l:List It} {S:List Nat} (h:StAt h0 w v l) (hz:h0≤w.heap.size) (o:Only S w w') (hs: ∀x,x∈S→h0≤x):StAt h0 w' v l:=by
 obtain⟨a,c,e,hc⟩:=h
 refine⟨a,c,e,fun i hi=>?_⟩
 obtain⟨p,e1,e2,l1,l2,l3,g0,g1,g2,g3⟩:=hc i hi
 have hb:w'.heap[p.block]? =w.heap[p.block]? :=o.block _ (by omega) fun hx=>by have:=hs _ hx;omega
 refine⟨p,e1,e2,l1,l2,l3,?_,?_,?_,?_⟩
 ·rw[cell_of_heap (w:=w) (w':=w') (by rw[add_block];exact hb)];exact g0
 ·rw[cell_of_heap (w:=w) (w':=w') (by rw[add_block,add_block];exact hb)];exact g1
 ·rw[cell_of_heap (w:=w) (w':=w') (by rw[add_block,add_block];exact hb)];exact g2
 ·rw[cell_of_heap (w:=w) (w':=w') (by rw[add_block,add_block];exact hb)];exact g3
end Go.Proofs.YtgcofabdialaaaaGreat
end
section
namespace Go.Proofs.YtgcofabdialaaaaGreat
set_option maxRecDepth 8000
theorem cStored {w:World} {h0 sb hb rb kb qb b:Nat} {s0 s1:HL} {ff fh fp:List Nat} {t1:BS} {vl:Value} {l:List It} (hz:h0≤w.heap.size) (hat:At w sb [.pointer (some ⟨hb,0,none⟩),.pointer (some ⟨rb,0,none⟩),.pointer (some ⟨qb,0,none⟩),.pointer (some ⟨kb,0,none⟩)]) (hf:FM w qb s0.abs ff)
  (hh:HR w (some ⟨hb,0,none⟩) fh (some s1)) (hk:Akin s0 s1) (hB:BM w b ⟨hb,0,none⟩ t1 fp) (d1:sb∉fh∧sb∉fp) (d2: ∀y,y∈ff→y∉fh∧y∉fp) (d3: ∀y,y∈fh→y∉fp) (hl:StAt h0 w vl l) (hge: ∀x,x∈fh++fp→h0≤x) (hS:t1.S.length≤1000) (hL:t1.L.length≤1000):
  Cs Tryz.prog 44 [.pointer (some ⟨sb,0,none⟩),.pointer (some ⟨b,0,none⟩),vl] w fun v w'=>v=.bool true∧ ∃s' t' fp',runI s0 (l.take 60) (s1,t1)=(s',t')∧Akin s0 s'∧HR w' (some ⟨hb,0,none⟩) fh (some s')∧BM w' b ⟨hb,0,none⟩ t' fp'∧(∀y,y∈fp'→y∈fp∨w.heap.size≤y)∧Only (fh++fp) w w':=by
 obtain⟨aL,cL,rfl,_⟩:=id hl
 have hlh:=hh.lt
 have hlf:=hf.lt
 have hlb:=hB.lt
 have hsb:=hat.lt
 refine enter_law12_stored rfl ?_
 unfold x_law12_stored
 (repeat(first|with_reducible(first|refine nx ?_|refine r_6 rfl ?_)|simp only[go_sem]))
 refine run_loop (7::8::9::10::11::12::13::14::15::16::17::18::19::20::21::22::23::24::25::26::27::28::29::30::31::32::33::34::35::36::37::38::39::40::41::42::43::44::45::46::47::48::49::50::51::52::53::54::55::56::57::58::59::60::61::62::63::64::65::66::67::68::69::70::71::72::73::74::75::76::77::78::79::80::81::82::83::84::85::86::87::88::89::90::91::92::93::94::95::96::97::98::99::100::101::102::103::104::105::106::107::108::109::110::111::112::113::114::115::116::[]) (fun g w'=> ∃(i:Nat) (s':HL) (t':BS) (fp':List Nat),g 7=.int .i64 (i:Int)∧i≤l.length∧i≤60∧runI s0 (l.take i) (s1,t1)=(s',t')∧t'.S.length≤1000+2*i∧t'.L.length≤1000+i∧Akin s0 s'∧HR w' (some ⟨hb,0,none⟩) fh (some s')∧BM w' b ⟨hb,0,none⟩ t' fp'∧(∀y,y∈fp'→y∈fp∨w.heap.size≤y)∧Only (fh++fp) w w') (fun g _=>upTo 60 7 g)
  ⟨0,s1,t1,fp,by simp only[go_sem];rfl,by omega,by omega,rfl,by omega,by omega,hk,hh,hB,fun y hy=>.inl hy,Only.refl _ _⟩ fun g w' hI hnext=>?_
 obtain⟨i,s',t',fp',h7,hil,hi60,hrun,hS',hL',hk',hh',hB',hsub,ho⟩:=hI
 by_cases c1:i<l.length
 rotate_left
 ·obtain rfl:i=l.length:=by omega
  (repeat(first|with_reducible(first|refine nx ?_|refine r_6 rfl ?_)|simp only[go_sem,h7,decide_eq_false (show¬((l.length:Nat):Int)<(l.length:Int) by omega)]))
  refine⟨s',t',fp',?_,hk',hh',hB',hsub,ho⟩
  rw[List.take_of_length_le (by omega)]at hrun⊢;exact hrun
 by_cases c2:i<60
 rotate_left
 ·obtain rfl:i=60:=by omega
  (repeat(first|with_reducible(first|refine nx ?_|refine r_6 rfl ?_)|simp only[go_sem,h7,decide_eq_true (show((60:Nat):Int)<(l.length:Int) by omega),decide_eq_false (show¬((60:Nat):Int)<60 by omega)]))
  exact⟨s',t',fp',hrun,hk',hh',hB',hsub,ho⟩
 have hz':=ho.size
 have hatT:At w' sb _:=hat.keep ho (by simp[d1])
 have hfT:FM w' qb s0.abs ff:=hf.keep ho fun y hy=>by simp[d2 y hy]
 obtain⟨a',c',e',hc'⟩:=hl.keep hz ho hge
 cases e'
 obtain⟨p,rfl,hp1,l1,l2,l3,g0,g1,g2,g3⟩:=hc' i c1
 obtain⟨it,hit⟩: ∃it,it=l.getD i default:=⟨_,rfl⟩
 rw[←hit]at l1 l2 l3 g0 g1 g2 g3
 have ci:(0:Int)≤(i:Int)∧(i:Int)<(l.length:Int):=by omega
 have g1:w'.cell? ⟨p.block,(p.add (i*4)).off+1,none⟩=some (u8V it.2.1):=by rw[←add_block p (i*4)];exact g1
 have g2:w'.cell? ⟨p.block,(p.add (i*4)).off+2,none⟩=some (u8V it.2.2.1):=by rw[←add_block p (i*4)];exact g2
 have g3:w'.cell? ⟨p.block,(p.add (i*4)).off+3,none⟩=some (.bool it.2.2.2):=by rw[←add_block p (i*4)];exact g3
 have hin: ∀n,inL [p.block] (.pointer (some (p.add n)))=True:=fun n=>by simp[inL,add_block]
 have ta:(p.add (i*4)).add 0=p.add (i*4):=rfl
 have m1:((it.1:Nat):Int).tmod 100=((it.1%100:Nat):Int):=tmodN _ 100
 have m2:((it.2.2.1:Nat):Int).tmod 100=((it.2.2.1%100:Nat):Int):=tmodN _ 100
 have hrun1:runI s0 (l.take (i+1)) (s1,t1)=stepS s0 it (s',t'):=by rw[runI_take_succ s0 l i c1,hrun,hit]
 (repeat(first|with_reducible(first|refine nx ?_|refine r_6 rfl ?_)|simp only[go_sem,h7,decide_eq_true (show(i:Int)<(l.length:Int) by omega),decide_eq_true (show(i:Int)<60 by omega)]))
 have od:=Only.drew [] w'
 have hpd:p.block<w'.drew.heap.size:=by show p.block<w'.heap.size;omega
 refine run_drt [p.block] ?_
 (repeat(first|with_reducible(first|refine nx ?_|refine r_6 rfl ?_)|simp only[go_sem,h7,if_pos ci,Int.toNat_natCast,ta,add_block,hin,g0,g1,g2,g3,u8V,conv_u8 it.1 l1,conv_u8 it.2.2.1 l3,m1,m2]))
 have sbd: ∀z,z∈[p.block]→z<w'.drew.heap.size∧z∉([]:List Nat):=fun z hz=>⟨by simp only[List.mem_singleton]at hz;subst hz;exact hpd,by simp⟩
 refine callS1 (cAtF hatT.drew (hfT.keep0 od) (it.1%100) (by omega)) (.inr ⟨SB.refl _ _,sbd⟩) fun w5 ho5=>?_
 (repeat(first|with_reducible(first|refine nx ?_|refine r_6 rfl ?_)|simp only[go_sem]))
 refine callS1 (cAtF (hatT.drew.keep0 ho5) ((hfT.keep0 od).keep0 ho5) (it.2.2.1%100) (by omega)) (.inl rfl) fun w6 ho6=>?_
 have o6:Only [] w' w6:=(od.nil ho5).nil ho6
 simp only[go_sem]
 refine run_seq ?_
 refine run_cut (9::43::44::45::46::47::48::[]) (fun ρ' w7=>ρ' 9=.int .i64 (toS s0 it)∧w7=w6) (fun kk hkk=>?_) (fun g9 w7 hJ=>?_)
 ·have hc2:w6.cell? ⟨p.block,(p.add (i*4)).off+2,none⟩=some (u8V it.2.2.1):=by
   rw[cell_of_heap (w:=w') (w':=w6) (o6.block _ (by show p.block<_;omega) (by simp))];exact g2
  by_cases c3:200≤it.2.2.1
  ·(repeat(first|with_reducible(first|refine nx ?_|refine r_6 rfl ?_)|simp only[go_sem,h7,if_pos ci,Int.toNat_natCast,add_block,hc2,u8V,decide_eq_true (show(200:Int)≤(it.2.2.1:Int) by omega)]))
   refine hkk _ w6 ?_ ⟨?_,rfl⟩
   ·(repeat(first|with_reducible exact k_1|with_reducible exact Keeps.ovr _ _ _|refine Keeps.put ?_ rfl _|exact k_1|exact Keeps.ovr _ _ _|refine Keeps.ovr2 ?_ rfl _))
   ·simp only[go_sem]
    unfold toS;rw[if_pos c3]
  ·(repeat(first|with_reducible(first|refine nx ?_|refine r_6 rfl ?_)|simp only[go_sem,h7,if_pos ci,Int.toNat_natCast,add_block,hc2,u8V,decide_eq_false (show¬(200:Int)≤(it.2.2.1:Int) by omega)]))
   refine hkk _ w6 ?_ ⟨?_,rfl⟩
   ·(repeat(first|with_reducible exact k_1|with_reducible exact Keeps.ovr _ _ _|refine Keeps.put ?_ rfl _|exact k_1|exact Keeps.ovr _ _ _|refine Keeps.ovr2 ?_ rfl _))
   ·simp only[go_sem]
    unfold toS;rw[if_neg c3]
 obtain⟨h9,e7⟩:=hJ
 rw[e7]
 clear e7 w7
 have hat6:=hatT.keep0 o6
 have hh6:=hh'.keep0 o6
 have hB6:=hB'.keep0 o6
 have hok':=hk'.ok
 have haok:=atS_ok hk' (it.1%100)
 have hale:=haok.le hok'
 have htok:=toS_ok hk' it
 have htle:=htok.le hok'
 have hls:w.heap.size≤w6.heap.size:=by have:=o6.size;omega
 (repeat(first|with_reducible(first|refine nx ?_|refine r_6 rfl ?_)|simp only[go_sem,hat6.cell]))
 refine callT1 (hShape hh6 (atS s0 (it.1%100)) (by omega)) fun w7 ho7=>?_
 obtain⟨⟨sh,er⟩,hshe⟩: ∃x,x=shapeO (some s') (atS s0 (it.1%100)):=⟨_,rfl⟩
 rw[←hshe]
 (repeat(first|with_reducible(first|refine nx ?_|refine r_6 rfl ?_)|simp only[go_sem]))
 refine boxT fun u w8 hu hs8 hat8 ho8=>?_
 (repeat(first|with_reducible(first|refine nx ?_|refine r_6 rfl ?_)|simp only[go_sem]))
 refine stNT (cs:=shV sh) hat8 rfl (by simp[shV]) (shV_one _) fun w9 hs9 hat9 ho9=>?_
 rw[setL_sh]at hat9
 have o9:Only [] w' w9:=(o6.nil ho7).nil (ho8.trans ho9 fun y hy=>by simp only[List.mem_singleton]at hy;subst hy;exact .inr (by omega))
 have oo9:Only (fh++fp) w w9:=ho.nil o9
 have hh9:=hh'.keep0 o9
 have hB9:=hB'.keep0 o9
 have hat9':=hatT.keep0 o9
 have hu0:w9.cell? ⟨u,0,none⟩=some (.int .i64 sh.1):=by rw[hat9.cell];rfl
 have z1:IntKind.i64.wrap ((i:Int)+1)=((i+1:Nat):Int):=by rw[IntWalk.i64_in _ (by omega)];omega
 by_cases c4:er=0∧sh.1≠0
 rotate_left
 ·have hsk:stepS s0 it (s',t')=(s',t'):=stepS_skip (by rw[←hshe];exact c4)
  have hfin: ∀(g2:Env),g2 7=.int .i64 ((i+1:Nat):Int)→ ∃(j:Nat) (s2:HL) (t2:BS) (fp2:List Nat),g2 7=.int .i64 (j:Int)∧j≤l.length∧j≤60∧runI s0 (l.take j) (s1,t1)=(s2,t2)∧t2.S.length≤1000+2*j∧t2.L.length≤1000+j∧Akin s0 s2∧HR w9 (some ⟨hb,0,none⟩) fh (some s2)∧BM w9 b ⟨hb,0,none⟩ t2 fp2∧(∀y,y∈fp2→y∈fp∨w.heap.size≤y)∧Only (fh++fp) w w9:=fun g2 e=>⟨i+1,s',t',fp',e,by omega,by omega,by rw[hrun1,hsk],by omega,by omega,hk',hh9,hB9,hsub,oo9⟩
  by_cases c5:er=0
  ·have c6:sh.1=0:=Decidable.byContradiction fun h=>c4 ⟨c5,h⟩
   (repeat(first|with_reducible(first|refine nx ?_|refine r_6 rfl ?_)|simp only[go_sem,bne_int_false c5,hu0,beq_int_true c6,h7,z1]))
   refine hnext _ w9 ?_ (hfin _ ?_) ?_
   ·(repeat(first|with_reducible exact k_1|with_reducible exact Keeps.ovr _ _ _|refine Keeps.put ?_ rfl _|exact k_1|exact Keeps.ovr _ _ _|refine Keeps.ovr2 ?_ rfl _))
   ·simp only[go_sem]
   ·rw[upTo_int (i:=i) h7,upTo_int (k:=.i64) (i:=i+1) (by simp only[go_sem])];omega
  ·(repeat(first|with_reducible(first|refine nx ?_|refine r_6 rfl ?_)|simp only[go_sem,bne_int_true c5,h7,z1]))
   refine hnext _ w9 ?_ (hfin _ ?_) ?_
   ·(repeat(first|with_reducible exact k_1|with_reducible exact Keeps.ovr _ _ _|refine Keeps.put ?_ rfl _|exact k_1|exact Keeps.ovr _ _ _|refine Keeps.ovr2 ?_ rfl _))
   ·simp only[go_sem]
   ·rw[upTo_int (i:=i) h7,upTo_int (k:=.i64) (i:=i+1) (by simp only[go_sem])];omega
 obtain⟨c5,c6⟩:=c4
 obtain⟨k,hka,hkl⟩:=shape_live hok' (x:=atS s0 (it.1%100)) (by rw[←hshe];exact c5)
 obtain⟨hrl,_,_⟩:=obAt_len hok' hkl
 have hsh2:sh=(s'.obAt k).sh:=by
  have:=at_shape hok' hkl
  rw[←hka,←hshe]at this
  exact congrArg Prod.fst this
 rw[←hsh2]at hrl
 have hr0:(s'.obAt k).rf.length≠0:=by omega
 have hjlt:it.2.1%(s'.obAt k).rf.length<(s'.obAt k).rf.length:=Nat.mod_lt _ (by omega)
 have hrl15:=rf_le hok' hkl
 obtain⟨s2,e1,e2,e3,e4,e5,e6⟩:=abs_setRef hok' ((2*k:Nat):Int) ((it.2.1%(s'.obAt k).rf.length:Nat):Int) (toS s0 it)
 have hstep:=stepS_do (s0:=s0) (it:=it) (t:=t') hok' hkl hka hr0 e1
 have hjm:((it.2.1:Nat):Int).tmod sh.1=((it.2.1%(s'.obAt k).rf.length:Nat):Int):=by rw[←hrl];exact tmodN _ _
 have hnl:=note_len (some s2) t' (2*k) (it.2.1%(s'.obAt k).rf.length) (s'.obAt k).rf (toS s0 it)
 generalize hj:it.2.1%(s'.obAt k).rf.length=j at*
 have ck: ∀ {w2:World} (o:Nat) {v:Value},Only [] w' w2→w'.cell? ⟨p.block,(p.add (i*4)).off+o,none⟩=some v→w2.cell? ⟨p.block,(p.add (i*4)).off+o,none⟩=some v:=fun o v oo e=>by
  rw[cell_of_heap (w:=w') (oo.block _ (by show p.block<_;omega) (by simp))];exact e
 have o9d:=o9.nil (Only.drew [] w9)
 have hu0d:w9.drew.cell? ⟨u,0,none⟩=some (.int .i64 sh.1):=by rw[hat9.drew.cell];rfl
 (repeat(first|with_reducible(first|refine nx ?_|refine r_6 rfl ?_)|simp only[go_sem,bne_int_false c5,hu0,beq_int_false c6,hu0d,h7,if_pos ci,Int.toNat_natCast,add_block,ck 1 o9d g1,ck 3 o9d g3,u8V,conv_u8 it.2.1 l2,hjm,divO_of c6 (.int .i64 (j:Int))]))
 have hh10:=hh'.keep0 o9d
 have hB10:=hB'.keep0 o9d
 have d3': ∀y,y∈fh→y∉fp':=fun y hy hy2=>by
  rcases hsub y hy2 with h|h
  ·exact d3 y hy h
  ·have:=hlh y hy;omega
 have hz10:w.heap.size≤w9.drew.heap.size:=(ho.nil o9d).size
 have hO10: ∀ {w2:World},Only (fh++fp') w9.drew w2→Only (fh++fp) w w2:=fun o=>(ho.nil o9d).trans o fun y hy=>by
  rcases List.mem_append.1 hy with h|h
  ·exact .inl (by simp[h])
  ·rcases hsub y h with h|h
   ·exact .inl (by simp[h])
   ·exact .inr h
 cases hpast:it.2.2.2 with
 |false=>
  (repeat(first|with_reducible(first|refine nx ?_|refine r_6 rfl ?_)|simp only[go_sem,h9,hka]))
  refine callT (bStoreT hB10 hh10 d3' hkl (by omega) htok e1 (by omega) (by omega)) ?_
  rintro v w11 ⟨rfl,hh11,ho11,fp2,hB11,hs11⟩
  (repeat(first|with_reducible(first|refine nx ?_|refine r_6 rfl ?_)|simp only[go_sem,bne_int_false (rfl:(0:Int)=0),h7,z1]))
  refine hnext _ w11 ?_ ⟨i+1,s2,_,fp2,?_,by omega,by omega,by rw[hrun1,hstep],by omega,by omega,setRef_akin hk' htle e1 (hh11.ok s2 rfl),hh11,hB11,fun y hy=>?_,hO10 ho11⟩ ?_
  ·(repeat(first|with_reducible exact k_1|with_reducible exact Keeps.ovr _ _ _|refine Keeps.put ?_ rfl _|exact k_1|exact Keeps.ovr _ _ _|refine Keeps.ovr2 ?_ rfl _))
  ·simp only[go_sem]
  ·rcases hs11 y hy with h|h
   ·exact hsub y h
   ·exact .inr (by omega)
  ·rw[upTo_int (i:=i) h7,upTo_int (k:=.i64) (i:=i+1) (by simp only[go_sem])];omega
 |true=>
  (repeat(first|with_reducible(first|refine nx ?_|refine r_6 rfl ?_)|simp only[go_sem,(hat9'.drew).cell,hka]))
  have href:=at_ref hok' hkl (show j<(s'.obAt k).rf.length by omega)
  have hbnd:=hk'.ref hkl (show j<(s'.obAt k).rf.length by omega)
  refine callT1 (hRef hh10 ((2*k:Nat):Int) (j:Int) (by omega)) fun w11 ho11=>?_
  rw[href]
  have hhB:=hh10.keep0 ho11
  (repeat(first|with_reducible(first|refine nx ?_|refine r_6 rfl ?_)|simp only[go_sem,bne_int_false (rfl:(0:Int)=0),((hat9'.drew).keep0 ho11).cell,h9]))
  refine callT (hSetRef hhB ((2*k:Nat):Int) (j:Int) (toS s0 it) (by omega) (by omega)) ?_
  rintro v w12 ⟨rfl,hh12,ho12⟩
  rw[setRef_ok hok' hkl (by omega) htok]
  rw[e1]at hh12
  have hok2:=hh12.ok s2 rfl
  have hk2:s2.st.getD k 0=1:=by rw[e4];exact hkl
  have hob:=obAt_setRef hok' hok2 hkl (show j<(s'.obAt k).rf.length by omega) htok e1 k hkl
  rw[if_pos rfl]at hob
  have hB12:=(hB10.keep0 ho11).keep ho12 fun y hy hy2=>d3' y hy2 hy
  have hrfn:(s2.obAt k).rf=(s'.obAt k).rf.set j (toS s0 it):=by rw[hob]
  have hrfl:(s2.obAt k).rf.length=(s'.obAt k).rf.length:=by rw[hrfn,List.length_set]
  have hnow:(s2.obAt k).rf.getD j 0=toS s0 it:=by rw[hrfn,List.getD_eq_getElem?_getD,List.getElem?_set_self (by omega)];rfl
  have hold:(s2.obAt k).rf.set j ((s'.obAt k).rf.getD j 0)=(s'.obAt k).rf:=by
   rw[hrfn,List.set_set]
   have hjl:j<(s'.obAt k).rf.length:=by omega
   rw[List.getD_eq_getElem?_getD,List.getElem?_eq_getElem hjl,Option.getD_some,List.set_getElem_self]
  have hk2':=setRef_akin hk' htle e1 hok2
  have ho2':okTo s2 ((s2.obAt k).rf.getD j 0):=by rw[hnow];exact toS_ok hk2' it
  (repeat(first|with_reducible(first|refine nx ?_|refine r_6 rfl ?_)|simp only[go_sem,bne_int_false (rfl:(0:Int)=0)]))
  refine callT (bNoteT hB12 hh12 d3' hk2 (by omega) hbnd.1 ho2' (by omega) (by omega)) ?_
  rintro v w13 ⟨rfl,ho13,fp2,hB13,hs13⟩
  rw[hold,hnow]at hB13
  have o13:Only (fh++fp') w9.drew w13:=((ho11.of_nil (T:=fh++fp')).same (ho12.weakT fun y hy=>by simp[hy])).same (ho13.weakT fun y hy=>by simp[hy])
  have hz11:=ho11.size
  have hz12:=ho12.size
  (repeat(first|with_reducible(first|refine nx ?_|refine r_6 rfl ?_)|simp only[go_sem,bne_int_false (rfl:(0:Int)=0),h7,z1]))
  refine hnext _ w13 ?_ ⟨i+1,s2,_,fp2,?_,by omega,by omega,by rw[hrun1,hstep],by omega,by omega,hk2',hh12.keep ho13 d3',hB13,fun y hy=>?_,hO10 o13⟩ ?_
  ·(repeat(first|with_reducible exact k_1|with_reducible exact Keeps.ovr _ _ _|refine Keeps.put ?_ rfl _|exact k_1|exact Keeps.ovr _ _ _|refine Keeps.ovr2 ?_ rfl _))
  ·simp only[go_sem]
  ·rcases hs13 y hy with h|h
   ·exact hsub y h
   ·exact .inr (by omega)
  ·rw[upTo_int (i:=i) h7,upTo_int (k:=.i64) (i:=i+1) (by simp only[go_sem])];omega
end Go.Proofs.YtgcofabdialaaaaGreat
end
section
namespace Go.Proofs.YtgcofabdialaaaaGreat
set_option maxRecDepth 8000
theorem RetV_ttt (t u v:Nat) (ρ:Env) (w:World) (R:Value→World→Prop):RetV [.t t,.t u,.t v] ρ w R=R (.tuple #[ρ t,ρ u,ρ v]) w:=by unfold RetV;rfl
attribute [go_sem] RetV_ttt
theorem U8At.up {h0 h1:Nat} {w:World} {v:Value} {n sz:Nat} {f:Nat→Nat→Nat} (h:U8At h0 w v n sz f) (hh:h0≤h1):U8At h1 w v n sz f:=by
 obtain⟨a,c,e,hf,hc⟩:=h
 exact⟨a,c,e,hf,fun i hi=>by obtain⟨p,e1,e2,e3⟩:=hc i hi;exact⟨p,e1,by omega,e3⟩⟩
theorem BegAt.keep0 {h0 h1:Nat} {w w':World} {cs:List Value} {g:BG} {vO vD vL vP vN:Value} (h:BegAt h0 w cs g vO vD vL vP vN) (hz:h0≤w.heap.size) (hh:h0≤h1) (o:Only [] w w'):BegAt h1 w' cs g vO vD vL vP vN:=
 ⟨h.e,h.l0,h.l1,(h.o.keep hz o (by simp)).up hh,(h.d.keep hz o (by simp)).up hh,(h.l.keep hz o (by simp)).up hh,(h.p.keep hz o (by simp)).up hh,(h.n.keep hz o (by simp)).up hh⟩
theorem StAt.keep0' {h0 h1:Nat} {w w':World} {v:Value} {l:List It} (h:StAt h0 w v l) (hz:h0≤w.heap.size) (hh:h0≤h1) (o:Only [] w w'):StAt h1 w' v l:=by
 obtain⟨a,c,e,hc⟩:=h.keep hz o (by simp)
 exact⟨a,c,e,fun i hi=>by obtain⟨p,e1,e2,e3⟩:=hc i hi;exact⟨p,e1,by omega,e3⟩⟩
def BS0 (kd yg:Int):BS:=⟨kd,yg,[],[],[],[]⟩
theorem Akin.self {s:HL} (h:s.Inv) (hr:RfOk s.abs):Akin s s:=⟨h.ok,h,rfl,rfl,rfl,hr⟩
structure Wt (w0 w:World) (a c x hb:Nat) (s0 s1:HL) (t:BS) (l:List It) (kd yg:Int) (fa fc fx fh:List Nat):Prop where
 run:runI s0 (l.take 60) (s0,BS0 kd yg)=(s1,t)
 k0:Akin s0 s0
 k1:Akin s0 s1
 n40:s0.objs.length≤40
 was:FM w a s0.abs fa
 now:FM w c s1.abs fc
 bar:BM w x ⟨hb,0,none⟩ t fx
 h:HR w (some ⟨hb,0,none⟩) fh (some s1)
 d1: ∀y,y∈fh→y∉fx∧y∉fa∧y∉fc
 d2: ∀y,y∈fx→y∉fa∧y∉fc
 ge: ∀y,y∈fa++(fc++(fx++fh))→w0.heap.size≤y
 o:Only [] w0 w
 sn:RfP (PhP true s0) s0.abs
theorem cWatched {w:World} {cs:List Value} {g:BG} {vO vD vL vP vN vl:Value} {l:List It} (hg:BegAt w.heap.size w cs g vO vD vL vP vN) (hl:StAt w.heap.size w vl l) (kd yg:Int) (k1:1≤kd) (k2:kd≤63) (y0:0≤yg) (y1:yg<8):
  Cs Tryz.prog 11 [.agg ⟨cs⟩,.int .i64 kd,.int .i64 yg,vl] w fun v w'=> ∃a c x hb s0 s1 t fa fc fx fh,v=.tuple #[.pointer (some ⟨a,0,none⟩),.pointer (some ⟨c,0,none⟩),.pointer (some ⟨x,0,none⟩)]∧Wt w w' a c x hb s0 s1 t l kd yg fa fc fx fh:=by
 have hcs:=hg.e
 refine enter_law12_watched rfl ?_
 unfold x_law12_watched
 (repeat(first|with_reducible(first|refine nx ?_|refine r_6 rfl ?_)|simp only[go_sem]))
 refine boxT fun q w1 hq hs1 hat1 ho1=>?_
 have hz1:=ho1.size
 have hc1:cellsAt w1 ⟨q,0,none⟩ 7=some cs:=by rw[cellsAt_at hat1 0 7 (by rw[hcs];simp),hcs];rfl
 have hg1:=hg.keep0 (Nat.le_refl _) hz1 ho1
 (repeat(first|with_reducible(first|refine nx ?_|refine r_6 rfl ?_)|simp only[go_sem,hc1]))
 refine callT (cOpen1 hg1) ?_
 rintro v w2 ⟨sb,rfl,s0,R,fp,⟨hb,rb,qb,kb,fh,fr,ff,fk,rfl,hsc⟩,hge2,ho2,hsz,hsnd⟩
 have hk0:Akin s0 s0:=.self hsc.inv hsz.2.2.2
 have lt2:=hsc.lt
 have z2:=ho2.size
 (repeat(first|with_reducible(first|refine nx ?_|refine r_6 rfl ?_)|simp only[go_sem,hsc.at_.cell]))
 refine callT (bNewS hsc.h kd yg k1 k2 y0 y1) ?_
 rintro v w3 ⟨x,bd,bo,rfl,hx3,hd3,ho3m,g1,g2,g3,ho3⟩
 have z3:=ho3.size
 have hsc3:=hsc.keep0 ho3
 have hB3:BM w3 x ⟨hb,0,none⟩ (BS0 kd yg) [x,bd,bo]:=⟨bd,bo,.slice none 0 0,.slice none 0 0,[],[],[],rfl,hx3,hd3,ho3m,⟨rfl,.inl ⟨rfl,rfl,rfl⟩⟩,⟨rfl,.inl ⟨rfl,rfl,rfl⟩⟩,rfl,by simp,by simp[lgF];omega⟩
 have lt3:=hB3.lt
 (repeat(first|with_reducible(first|refine nx ?_|refine r_6 rfl ?_)|simp only[go_sem,bne_int_false (rfl:(0:Int)=0),hsc3.at_.cell]))
 refine callT (cRead hsc3.h hsc3.inv) ?_
 rintro v w4 ⟨ho4,a,fa,rfl,ha4,gfa⟩
 have z4:=ho4.size
 have hsc4:=hsc3.keep0 ho4
 have hB4:=hB3.keep0 ho4
 have lt4:=ha4.lt
 (repeat(first|with_reducible(first|refine nx ?_|refine r_6 rfl ?_)|simp only[go_sem]))
 have hfh: ∀y,y∈fh→w1.heap.size≤y∧y<w2.heap.size:=fun y hy=>⟨hge2 y (by simp[hy]),lt2 y (by simp[hy])⟩
 have hxx: ∀y,y∈[x,bd,bo]→w2.heap.size≤y∧y<w3.heap.size:=fun y hy=>⟨by simp only[List.mem_cons,List.not_mem_nil,or_false]at hy;omega,lt3 y hy⟩
 have o14:Only [] w w4:=((ho1.nil ho2).nil ho3).nil ho4
 refine callT (cStored (h0:=w.heap.size) o14.size hsc4.at_ hsc4.f hsc4.h hk0 hB4 ⟨hsc.d1.1,fun hy=>by have:=hxx sb hy;have:=lt2 sb (by simp);omega⟩ (fun y hy=>⟨fun h=>(hsc.d2 y h).2.1 hy,fun h=>by have:=hxx y h;have:=lt2 y (by simp[hy]);omega⟩) (fun y hy h=>by have:=hxx y h;have:=hfh y hy;omega) (hl.keep (Nat.le_refl _) o14 (by simp)) (fun y hy=>by
  rcases List.mem_append.1 hy with h|h
  ·have:=hfh y h;omega
  ·have:=hxx y h;omega) (Nat.zero_le _) (Nat.zero_le _)) ?_
 rintro v w5 ⟨rfl,s1,t,fx,hrun,hk1,hh5,hB5,hsub,ho5⟩
 have z5:=ho5.size
 have hat5:=hsc4.at_.keep ho5 fun hy=>by
  rcases List.mem_append.1 hy with h|h
  ·exact hsc.d1.1 h
  ·have:=hxx sb h;have:=lt2 sb (by simp);omega
 have ha5:=ha4.keep ho5 fun y hy h=>by
  have:=gfa y hy
  rcases List.mem_append.1 h with h|h
  ·have:=hfh y h;omega
  ·have:=hxx y h;omega
 (repeat(first|with_reducible(first|refine nx ?_|refine r_6 rfl ?_)|simp only[go_sem,hat5.cell]))
 refine callT (cRead hh5 hk1.inv) ?_
 rintro v w6 ⟨ho6,c,fc,rfl,hc6,gfc⟩
 (repeat(first|with_reducible(first|refine nx ?_|refine r_6 rfl ?_)|simp only[go_sem]))
 have lb5:=hB5.lt
 have hfx: ∀y,y∈fx→w2.heap.size≤y∧y<w5.heap.size∧(y<w3.heap.size∨w4.heap.size≤y):=fun y hy=>by
  have:=lb5 y hy
  rcases hsub y hy with h|h
  ·have:=hxx y h;omega
  ·omega
 refine⟨a,c,x,hb,s0,s1,t,fa,fc,fx,fh,rfl,hrun,hk0,hk1,hsz.2.1,ha5.keep0 ho6,hc6,hB5.keep0 ho6,hh5.keep0 ho6,fun y hy=>?_,fun y hy=>?_,fun y hy=>?_,(o14.trans ho5 fun y hy=>.inr ?_).nil ho6,hsnd.1⟩
 ·have:=hfh y hy
  exact⟨fun h=>by have:=hfx y h;omega,fun h=>by have:=gfa y h;omega,fun h=>by have:=gfc y h;omega⟩
 ·have:=hfx y hy
  exact⟨fun h=>by have:=gfa y h;have:=lt4 y h;omega,fun h=>by have:=gfc y h;omega⟩
 ·simp only[List.mem_append]at hy
  rcases hy with h|h|h|h
  ·have:=gfa y h;omega
  ·have:=gfc y h;omega
  ·have:=hfx y h;omega
  ·have:=hfh y h;omega
 ·rcases List.mem_append.1 hy with h|h
  ·have:=hfh y h;omega
  ·have:=hxx y h;omega
end Go.Proofs.YtgcofabdialaaaaGreat
end
section
namespace Go.Proofs.YtgcofabdialaaaaGreat
set_option maxRecDepth 8000
theorem setRef_Ok {s s':HL} (h:s.Ok) {x i to:Int} (e:setRefM (some s) x i to=some s'):s'.Ok:=by
 unfold setRefM at e
 by_cases c:setRefE (some s) x i to=0
 rotate_left
 ·simp only[if_neg c,Option.some.injEq]at e;subst e;exact h
 simp only[if_pos c,Option.some.injEq]at e
 subst e
 have hf:(fieldO (some s) x i false).2=0:=by
  unfold setRefE at c
  by_cases c2:(fieldO (some s) x i false).2=0
  ·exact c2
  ·simp only[ne_eq,c2,not_false_eq_true,if_true]at c
 obtain⟨o,k,rfl,ho,hk,k1,k2,k3⟩:=field_spec h hf
 rw[hk,Int.toNat_natCast]
 exact h.setW (h.inside ho k1 k2)
theorem note_spec (m:HO) (t:BS) (x i:Nat) (refs:List Int) (now:Int):
  (t.note m x i refs now).kinds=t.kinds∧(t.note m x i refs now).young=t.young∧
  (t.note m x i refs now).D=(if isB t.kinds 1 then putM t.D (((x+2+i)/8:Nat):Int) unitV else t.D)∧
  (t.note m x i refs now).O=(if isB t.kinds 2&&(!youngO m t.young x&&youngO m t.young now)then putM t.O x unitV else t.O)∧
  (t.note m x i refs now).L=(if isB t.kinds 32&&(imgO t.L x).isNone then t.L++[((x:Int),refs)]else t.L)∧
  (t.note m x i refs now).S=(if isB t.kinds 4 then shadeL (if isB t.kinds 8 then shadeL t.S (refs.getD i 0)else t.S) now else(if isB t.kinds 8 then shadeL t.S (refs.getD i 0)else t.S)):=by
 unfold BS.note
 have e1:(t.note1 x refs).L=(if isB t.kinds 32&&(imgO t.L x).isNone then t.L++[((x:Int),refs)]else t.L):=by unfold BS.note1;split<;>rfl
 obtain⟨a1,b1,c1,d1,f1⟩:=BS.note1_k t x refs
 generalize t.note1 x refs=t1 at*
 have e2:(t1.note2 (refs.getD i 0)).S=(if isB t1.kinds 8 then shadeL t1.S (refs.getD i 0)else t1.S):=by unfold BS.note2;split<;>rfl
 obtain⟨a2,b2,_,d2,f2,g2⟩:=BS.note2_k t1 (refs.getD i 0)
 generalize t1.note2 (refs.getD i 0)=t2 at*
 have e3:(t2.note3 (((x+2+i)/8:Nat):Int)).D=(if isB t2.kinds 1 then putM t2.D (((x+2+i)/8:Nat):Int) unitV else t2.D):=by unfold BS.note3;split<;>rfl
 obtain⟨a3,b3,c3,f3,g3⟩:=BS.note3_k t2 (((x+2+i)/8:Nat):Int)
 generalize t2.note3 (((x+2+i)/8:Nat):Int)=t3 at*
 have e4:(BS.note4 m t3 x now).O=(if isB t3.kinds 2&&(!youngO m t3.young x&&youngO m t3.young now)then putM t3.O x unitV else t3.O):=by unfold BS.note4;split<;>rfl
 obtain⟨a4,b4,c4,d4,g4⟩:=BS.note4_k m t3 x now
 generalize BS.note4 m t3 x now=t4 at*
 have e5:(t4.note5 now).S=(if isB t4.kinds 4 then shadeL t4.S now else t4.S)∧(t4.note5 now).kinds=t4.kinds∧(t4.note5 now).young=t4.young∧(t4.note5 now).D=t4.D∧(t4.note5 now).O=t4.O∧(t4.note5 now).L=t4.L:=by unfold BS.note5;split<;>exact⟨rfl,rfl,rfl,rfl,rfl,rfl⟩
 obtain⟨h1,h2,h3,h4,h5,h6⟩:=e5
 refine⟨by rw[h2,a4,a3,a2,a1],by rw[h3,b4,b3,b2,b1],?_,?_,?_,?_⟩
 ·rw[h4,d4,e3,d2,d1,a2,a1]
 ·rw[h5,e4,a3,a2,a1,b3,b2,b1,f3,f2,f1]
 ·rw[h6,g4,g3,g2,e1]
 ·rw[h1,a4,a3,a2,a1,c4,c3,e2,a1,c1]
theorem step_cases {s0:HL} {it:It} {s:HL} {t:BS} (h:Akin s0 s):stepS s0 it (s,t)=(s,t)∨ ∃(k j:Nat) (to:Int) (s':HL),s.st.getD k 0=1∧j<(s.obAt k).rf.length∧okTo s to∧setRefM (some s) ((2*k:Nat):Int) (j:Int) to=some s'∧Akin s0 s'∧
  stepS s0 it (s,t)=(s',t.note (some s') (2*k) j (s.obAt k).rf to):=by
 by_cases c:(shapeO (some s) (atS s0 (it.1%100))).2=0∧(shapeO (some s) (atS s0 (it.1%100))).1.1≠0
 rotate_left
 ·exact .inl (stepS_skip c)
 obtain⟨k,hka,hkl⟩:=shape_live h.ok c.1
 have c2:=c.2
 rw[hka,at_shape h.ok hkl]at c2
 obtain⟨hrl,_,_⟩:=obAt_len h.ok hkl
 have hr0:(s.obAt k).rf.length≠0:=by simp only at c2;omega
 obtain⟨s2,e1,e2,e3,e4,e5,e6⟩:=abs_setRef h.ok ((2*k:Nat):Int) ((it.2.1%(s.obAt k).rf.length:Nat):Int) (toS s0 it)
 have ht:=toS_ok h it
 exact .inr ⟨k,it.2.1%(s.obAt k).rf.length,toS s0 it,s2,hkl,Nat.mod_lt _ (by omega),ht,e1,setRef_akin h (ht.le h.ok) e1 (setRef_Ok h.ok e1),stepS_do h.ok hkl hka hr0 e1⟩
theorem run_ind {s0:HL} {P:HL→BS→Prop} (hs: ∀(s:HL) (t:BS) (k j:Nat) (to:Int) (s':HL),Akin s0 s→P s t→s.st.getD k 0=1→j<(s.obAt k).rf.length→okTo s to→setRefM (some s) ((2*k:Nat):Int) (j:Int) to=some s'→Akin s0 s'→P s' (t.note (some s') (2*k) j (s.obAt k).rf to)):
  ∀(l:List It) (s:HL) (t:BS),Akin s0 s→P s t→P (runI s0 l (s,t)).1 (runI s0 l (s,t)).2
 | [],s,t,_,h=>h
 |it::l,s,t,hk,h=>by
  show P (runI s0 l (stepS s0 it (s,t))).1 (runI s0 l (stepS s0 it (s,t))).2
  rcases step_cases (it:=it) (t:=t) hk with e|⟨k,j,to,s',h1,h2,h3,h4,h5,e⟩
  ·rw[e];exact run_ind hs l s t hk h
  ·rw[e];exact run_ind hs l s' _ h5 (hs s t k j to s' hk h h1 h2 h3 h4 h5)
end Go.Proofs.YtgcofabdialaaaaGreat
end
section
namespace Go.Proofs.YtgcofabdialaaaaGreat
set_option maxRecDepth 8000
def HL.RF (s:HL) (i j:Nat):Int:=(s.obAt i).rf.getD j 0
section
variable {s0 s s':HL} {k j:Nat} {to:Int}
theorem RF_step (h:s.Ok) (hk:s.st.getD k 0=1) (hj:j<(s.obAt k).rf.length) (ht:okTo s to) (e:setRefM (some s) ((2*k:Nat):Int) (j:Int) to=some s') (i:Nat) (hi:s.st.getD i 0=1):
  (s'.obAt i).rf.length=(s.obAt i).rf.length∧ ∀a,s'.RF i a=if i=k∧a=j then to else s.RF i a:=by
 have hob:=obAt_setRef h (setRef_Ok h e) hk hj ht e i hi
 unfold HL.RF
 by_cases c:i=k
 ·subst c
  rw[if_pos rfl]at hob
  rw[hob]
  refine⟨List.length_set,fun a=>?_⟩
  simp only[true_and]
  by_cases ca:a=j
  ·subst ca
   rw[if_pos rfl,List.getD_eq_getElem?_getD,List.getElem?_set_self hj];rfl
  ·rw[if_neg ca,List.getD_eq_getElem?_getD,List.getElem?_set_ne (Ne.symm ca),←List.getD_eq_getElem?_getD]
 ·rw[if_neg c]at hob
  rw[hob]
  exact⟨rfl,fun a=>by rw[if_neg (fun h=>c h.1)]⟩
end
end Go.Proofs.YtgcofabdialaaaaGreat
end
section
namespace Go.Proofs.YtgcofabdialaaaaGreat
set_option maxRecDepth 8000
theorem bEach {w:World} {F:Nat} {caps:Array Value} {p:Int→Bool} {v:Value} {xs:List Int} {fp:List Nat} (hs:Sl w 1 v xs.length (ints xs) fp) (hok:okF Tryz.prog F=true)
  (hlen:xs.length≤1000) (hF: ∀w' x,Only [] w w'→x∈xs→Cs Tryz.prog F ([.int .i64 x]++caps.toList) w' fun v w''=>v=.bool (p x)∧Only [] w' w''):
  Cs Tryz.prog 59 [v,.func (.func F) #[] caps] w fun v w'=>v=.bool (xs.all p)∧Only [] w w':=by
 obtain⟨a,cap,rfl⟩:=hs.val
 refine enter_barrier_each_int_ rfl ?_
 unfold x_barrier_each_int_
 (repeat(first|with_reducible(first|refine nx ?_|refine r_6 rfl ?_)|simp only[go_sem]))
 refine boxT fun q w1 hq hs1 hat1 ho1=>?_
 (repeat(first|with_reducible(first|refine nx ?_|refine r_6 rfl ?_)|simp only[go_sem]))
 refine callT (containsFunc (p:=fun x=>!p x) (fun hne=>?_) (by kernel_rfl) hlen fun w' x ho hx=>?_) ?_
 ·obtain⟨g,cap',ys,e,hat,_⟩:=(hs.keep0 ho1).pos (by have:=List.length_pos_iff.2 hne;omega)
  cases e
  exact⟨g,ys,rfl,hat⟩
 ·refine enter_barrier_each_int__1 rfl ?_
  unfold x_barrier_each_int__1
  (repeat(first|with_reducible(first|refine nx ?_|refine r_6 rfl ?_)|simp only[go_sem,(hat1.keep0 ho).cell]))
  have hF':Cs Tryz.prog F ((#[]:Array Value).toList++[.int .i64 x]++caps.toList) w' fun v w''=>v=.bool (p x)∧Only [] w' w'':=by
   have:=hF w' x (ho1.nil ho) hx
   simpa using this
  refine callVT (callVals_f F #[] [.int .i64 x] caps) hok hF' ?_
  rintro v w2 ⟨rfl,ho2⟩
  (repeat(first|with_reducible(first|refine nx ?_|refine r_6 rfl ?_)|simp only[go_sem]))
  exact ho2
 rintro v w2 ⟨rfl,ho2⟩
 (repeat(first|with_reducible(first|refine nx ?_|refine r_6 rfl ?_)|simp only[go_sem]))
 refine⟨?_,ho1.nil ho2⟩
 have:(!xs.any fun x=>!p x)=xs.all p:=by simp[List.not_any_eq_all_not]
 rw[this]
theorem bThere {w:World} {q b:Nat} {hp:Addr} {cs:List Value} {fh:List Nat} {m:HO} (hq:At w q [.pointer (some ⟨b,0,none⟩)]) (hb:At w b (.pointer (some hp)::cs)) (h:HR w (some hp) fh m) (x:Int) (hx:x≤4611686018427387904):
  Cs Tryz.prog 56 [.int .i64 x,.pointer (some ⟨q,0,none⟩)] w fun v w'=>v=.bool (x==0||hasO m x)∧Only [] w w':=by
 refine enter_barrier_Barrier_Undo_1 rfl ?_
 unfold x_barrier_Barrier_Undo_1
 by_cases c:x=0
 ·(repeat(first|with_reducible(first|refine nx ?_|refine r_6 rfl ?_)|simp only[go_sem,beq_int_true c]))
  exact Only.refl _ _
 ·(repeat(first|with_reducible(first|refine nx ?_|refine r_6 rfl ?_)|simp only[go_sem,beq_int_false c,hq.cell,hb.cell]))
  refine callT (hHas h x hx) ?_
  rintro _ w2 ⟨rfl,ho⟩
  (repeat(first|with_reducible(first|refine nx ?_|refine r_6 rfl ?_)|simp only[go_sem]))
  exact ho
def RfO (s0 s:HL):Prop:= ∀k,s0.st.getD k 0=1→ ∃l,s.obAt k= {s0.obAt k with rf:=l}∧l.length=(s0.obAt k).rf.length
structure UP (w w':World) (s0 s:HL) (hb:Nat) (fh:List Nat) (D:List LM) (s':HL):Prop where
 o:Only fh w w'
 h:HR w' (some ⟨hb,0,none⟩) fh (some s')
 a:Akin s0 s'
 r:RfO s0 s'
 e: ∀k j,s0.st.getD k 0=1→s'.RF k j=s0.RF k j∨s'.RF k j=s.RF k j
 d: ∀m,m∈D→ ∀k:Nat,m.o=((2*k:Nat):Int)→ ∀j,s'.RF k j=s0.RF k j
theorem UP.keep0 {w w' w2:World} {s0 s s':HL} {hb:Nat} {fh:List Nat} {D:List LM} (h:UP w w' s0 s hb fh D s') (k:Only [] w' w2):UP w w2 s0 s hb fh D s':=
 ⟨h.o.nil k,h.h.keep0 k,h.a,h.r,h.e,h.d⟩
theorem RfO.step {s0 s' s2:HL} {k j:Nat} {to:Int} (ha:Akin s0 s') (h:RfO s0 s') (hk:s0.st.getD k 0=1) (hj:j<(s'.obAt k).rf.length) (ht:okTo s' to) (e:setRefM (some s') ((2*k:Nat):Int) (j:Int) to=some s2):RfO s0 s2:=fun i hi=>by
 have hob:=obAt_setRef ha.ok (setRef_Ok ha.ok e) (by rw[ha.st];exact hk) hj ht e i (by rw[ha.st];exact hi)
 obtain⟨l,h1,h2⟩:=h i hi
 by_cases c:i=k
 ·subst c
  rw[if_pos rfl]at hob
  exact⟨l.set j to,by rw[hob,h1],by rw[List.length_set,h2]⟩
 ·rw[if_neg c]at hob
  exact⟨l,by rw[hob,h1],h2⟩
theorem bUndo {w:World} {b hb bd bo:Nat} {t:BS} {vs vl:Value} {fs fl fh:List Nat} {M:List LM} {s0 s:HL} (hm:BMs w b ⟨hb,0,none⟩ t bd bo vs vl fs fl M) (hh:HR w (some ⟨hb,0,none⟩) fh (some s)) (hk:Akin s0 s) (hro:RfO s0 s)
  (hM: ∀m,m∈M→ ∃k:Nat,m.o=((2*k:Nat):Int)∧s0.st.getD k 0=1∧m.r=(s0.obAt k).rf) (hk0:Akin s0 s0) (hrt:RfP (PhP true s0) s0.abs) (hlen:M.length≤1000) (dj: ∀y,y∈fh→y∉b::bd::bo::(fs++(fl++lgF M))):
  Cs Tryz.prog 24 [.pointer (some ⟨b,0,none⟩)] w fun v w'=>(∃n,v=.tuple #[.int .i64 n,.int .i64 0])∧ ∃s' w1,UP w w1 s0 s hb fh M s'∧At w1 b [.pointer (some ⟨hb,0,none⟩),.int .i64 t.kinds,.int .i64 t.young,.map (some bd),.map (some bo),vs,vl]∧HR w' (some ⟨hb,0,none⟩) fh (some s')∧At w' b [.pointer (some ⟨hb,0,none⟩),.int .i64 t.kinds,.int .i64 t.young,.map (some bd),.map (some bo),vs,.slice none 0 0]∧Only [b] w1 w':=by
 obtain⟨al,cl,rfl⟩:=hm.hl.val
 have okr: ∀k j,s0.st.getD k 0=1→j<(s0.obAt k).rf.length→okTo s0 (s0.RF k j):=fun k j hk hj=>by
  have:=hrt (s0.obAt k) (by simp only[HL.abs,List.mem_map];exact⟨k,mem_objs.2 hk,rfl⟩) (s0.RF k j) (by unfold HL.RF;simp[hj])
  exact this.imp id fun h=>h.2
 have ent: ∀i,i<M.length→ ∃gl,al=some ⟨gl,0,none⟩∧ ∃k:Nat,(M.getD i default).o=((2*k:Nat):Int)∧s0.st.getD k 0=1∧(M.getD i default).r=(s0.obAt k).rf∧ ∀w',Only fh w w'→cellsAt w' ⟨gl,i*2,none⟩ 2=some [.int .i64 ((2*k:Nat):Int),(M.getD i default).v]∧Sl w' 1 (M.getD i default).v (s0.obAt k).rf.length (ints (s0.obAt k).rf) (M.getD i default).f:=fun i c1=>by
  obtain⟨gl,cap,ys,e,hat,efl⟩:=hm.hl.posZ (by omega)
  cases e
  have hmem:M.getD i default∈M:=by simp[c1]
  obtain⟨k,e1,e2,e3⟩:=hM _ hmem
  refine⟨gl,rfl,k,e1,e2,e3,fun w' ho=>⟨?_,?_⟩⟩
  ·have hlen:=lgV_len M
   rw[cellsAt_at (hat.keep ho fun h=>dj gl h (by simp[efl])) (i*2) 2 (by rw[List.length_append];omega),lgV_at ys c1,←e1];rfl
  ·have:=Sl.keep (hm.om _ hmem) ho fun x hx h=>dj x h (by simp[mem_lgF hmem hx])
   rw[e3]at this
   exact this
 have hbn:b∉fh:=fun h=>dj b h (by simp)
 have hfh:=hh.lt
 refine enter_barrier_Barrier_Undo rfl ?_
 unfold x_barrier_Barrier_Undo
 (repeat(first|with_reducible(first|refine nx ?_|refine r_6 rfl ?_)|simp only[go_sem]))
 refine boxT fun q w1 hq hs1 hat1 ho1=>?_
 have hb1:=hm.hb.keep0 ho1
 (repeat(first|with_reducible(first|refine nx ?_|refine r_6 rfl ?_)|simp only[go_sem,hat1.cell]))
 refine callT0 (bMadeS hb1) ?_
 (repeat(first|with_reducible(first|refine nx ?_|refine r_6 rfl ?_)|simp only[go_sem,hat1.cell,hb1.cell]))
 refine run_loop (6::7::8::25::26::27::28::29::30::31::32::33::34::35::36::37::38::39::40::41::42::43::44::45::46::47::48::49::50::51::52::53::54::55::56::[]) (fun g w'=> ∃i:Nat,g 25=.int .i64 (i:Int)∧i≤M.length∧Only [] w1 w') (fun g _=>upTo M.length 25 g) ⟨0,by simp only[go_sem];rfl,by omega,Only.refl _ _⟩ fun g1 w2 hI hnext=>?_
 obtain⟨i,h25,hi,ho2⟩:=hI
 by_cases c1:i<M.length
 ·obtain⟨gl,rfl,k,mo,hk1,mr,see⟩:=ent i c1
  have ci:(0:Int)≤(i:Int)∧(i:Int)<(M.length:Int):=by omega
  obtain⟨hc,hsl⟩:=see w2 ((ho1.nil ho2).of_nil)
  generalize (M.getD i default).v=mv at*
  generalize (M.getD i default).f=mf at*
  obtain⟨am,cm,rfl⟩:=hsl.val
  (repeat(first|with_reducible(first|refine nx ?_|refine r_6 rfl ?_)|simp only[go_sem,h25,decide_eq_true ci.2,if_pos ci,Int.toNat_natCast,hc]))
  refine boxT fun q6 w3 hq6 hs3 hat3 ho3=>?_
  (repeat(first|with_reducible(first|refine nx ?_|refine r_6 rfl ?_)|simp only[go_sem]))
  refine stNT (cs:=[.int .i64 ((2*k:Nat):Int),.slice am (s0.obAt k).rf.length cm]) hat3 rfl (by simp) (by simp[oneC]) fun w4 hs4 hat4 ho4=>?_
  have hat4':At w4 q6 [.int .i64 ((2*k:Nat):Int),.slice am (s0.obAt k).rf.length cm]:=hat4
  have o4:Only [] w1 w4:=(ho2.nil ho3).trans ho4 fun y hy=>by simp only[List.mem_singleton]at hy;subst hy;exact .inr (by have:=ho2.size;omega)
  have hq4:=hat1.keep0 o4
  have hb4:=hb1.keep0 o4
  have hh4:=hh.keep0 (ho1.nil o4)
  have hsk:s.st.getD k 0=1:=by rw[hk.st];exact hk1
  have h2k:=live_le hk.ok hsk
  obtain⟨l,ro1,ro2⟩:=hro k hk1
  obtain⟨ln1,_,_⟩:=obAt_len hk.ok hsk
  (repeat(first|with_reducible(first|refine nx ?_|refine r_6 rfl ?_)|simp only[go_sem]))
  refine run_cut (7::8::29::30::31::32::33::34::35::36::37::38::[]) (fun ρ' w'=> ∃q7,ρ' 7=.pointer (some ⟨q7,0,none⟩)∧ρ' 8=.int .i64 0∧At w' q7 (shV (s.obAt k).sh)∧Only [] w4 w') (fun kk hkk=>?_) (fun g3 w5 hJ=>?_)
  ·refine run_drt [q,b,q6] ?_
   have lts: ∀z,z∈[q,b,q6]→z<w4.drew.heap.size:=fun z hz=>by
    simp only[List.mem_cons,List.not_mem_nil,or_false]at hz
    rcases hz with rfl|rfl|rfl
    ·exact hq4.lt
    ·exact hb4.lt
    ·exact hat4'.lt
   have sbk: ∀w',Only [] w4.drew w'→SB [q,b,q6] w4.drew w':=fun w' o=>(SB.refl _ _).only o fun z hz=>⟨lts z hz,by simp⟩
   (repeat(first|with_reducible(first|refine nx ?_|refine r_6 rfl ?_)|simp only[go_sem,hq4.drew.cell,hb4.drew.cell,hat4'.drew.cell]))
   refine⟨?_,?_⟩
   ·refine callS (hShape (hh4.keep0 (Only.drew [] w4)) ((2*k:Nat):Int) (by omega)) ?_
    rintro _ u1 ⟨rfl,hu1⟩
    refine⟨.inl rfl,?_⟩
    rw[at_shape hk.ok hsk]
    (repeat(first|with_reducible(first|refine nx ?_|refine r_6 rfl ?_)|simp only[go_sem]))
    refine boxS fun q7 u2 hq7 hs2 hat2 hu2=>⟨.inr (sbk _ (hu1.nil hu2)),?_⟩
    (repeat(first|with_reducible(first|refine nx ?_|refine r_6 rfl ?_)|simp only[go_sem]))
    refine stNS (cs:=shV (s.obAt k).sh) hat2 rfl (by simp[shV]) (shV_one _) fun u3 hs3 hat3 hu3=>⟨.inl rfl,?_⟩
    rw[setL_sh]at hat3
    (repeat(first|with_reducible(first|refine nx ?_|refine r_6 rfl ?_)|simp only[go_sem]))
    refine hkk _ _ ?_ ⟨q7,by simp only[go_sem],by simp only[go_sem],hat3,(((Only.drew [] w4).nil hu1).nil hu2).trans hu3 fun y hy=>?_⟩
    ·(repeat(first|with_reducible exact k_1|with_reducible exact Keeps.ovr _ _ _|refine Keeps.put ?_ rfl _|exact k_1|exact Keeps.ovr _ _ _|refine Keeps.ovr2 ?_ rfl _))
    ·have:=hu1.size
     have:w4.drew.heap.size=w4.heap.size:=rfl
     simp only[List.mem_singleton]at hy
     exact .inr (by omega)
   ·refine boxS fun q7 u1 hq7 hs1 hat2 hu1=>⟨.inr (sbk _ hu1),?_⟩
    (repeat(first|with_reducible(first|refine nx ?_|refine r_6 rfl ?_)|simp only[go_sem]))
    refine callS (hShape ((hh4.keep0 (Only.drew [] w4)).keep0 hu1) ((2*k:Nat):Int) (by omega)) ?_
    rintro _ u2 ⟨rfl,hu2⟩
    refine⟨.inl rfl,?_⟩
    rw[at_shape hk.ok hsk]
    (repeat(first|with_reducible(first|refine nx ?_|refine r_6 rfl ?_)|simp only[go_sem]))
    refine stNS (cs:=shV (s.obAt k).sh) (hat2.keep0 hu2) rfl (by simp[shV]) (shV_one _) fun u3 hs3 hat3 hu3=>⟨.inl rfl,?_⟩
    rw[setL_sh]at hat3
    (repeat(first|with_reducible(first|refine nx ?_|refine r_6 rfl ?_)|simp only[go_sem]))
    refine hkk _ _ ?_ ⟨q7,by simp only[go_sem],by simp only[go_sem],hat3,(((Only.drew [] w4).nil hu1).nil hu2).trans hu3 fun y hy=>?_⟩
    ·(repeat(first|with_reducible exact k_1|with_reducible exact Keeps.ovr _ _ _|refine Keeps.put ?_ rfl _|exact k_1|exact Keeps.ovr _ _ _|refine Keeps.ovr2 ?_ rfl _))
    ·have:w4.drew.heap.size=w4.heap.size:=rfl
     simp only[List.mem_singleton]at hy
     exact .inr (by omega)
  obtain⟨q7,h7,h8,hat7,ho5⟩:=hJ
  have lks:(s.obAt k).rf.length=(s0.obAt k).rf.length:=by rw[ro1];exact ro2
  have c70:w5.cell? ⟨q7,0,none⟩=some (.int .i64 ((s0.obAt k).rf.length:Int)):=by
   rw[hat7.cell];show some (Value.int .i64 (s.obAt k).sh.1)=_;rw[←ln1,lks]
  have hat5:=hat4'.keep0 ho5
  have o5:Only [] w1 w5:=o4.nil ho5
  have hq5:=hat1.keep0 o5
  have hb5:=hb1.keep0 o5
  have rl:=rf_le hk0.ok hk1
  obtain⟨_,hsl5⟩:=see w5 ((ho1.nil o5).of_nil)
  (repeat(first|with_reducible(first|refine nx ?_|refine r_6 rfl ?_)|simp only[go_sem,h7,h8,bne_int_false (rfl:(0:Int)=0),c70,hat5.cell,bne_int_false (rfl:((s0.obAt k).rf.length:Int)=((s0.obAt k).rf.length:Int))]))
  refine callT (bEach (p:=fun x=>x==0||hasO (some s) x) hsl5 (by kernel_rfl) (by omega) fun w' x ho' hx=>?_) ?_
  ·obtain⟨j,hj,rfl⟩:=List.mem_iff_getElem.1 hx
   have:=okr k j hk1 hj
   have:=this.le hk0.ok
   have e:s0.RF k j=(s0.obAt k).rf[j]:=by unfold HL.RF;simp[hj]
   rw[e]at this
   exact bThere (hq5.keep0 ho') (hb5.keep0 ho') (hh.keep0 ((ho1.nil o5).nil ho')) _ (by omega)
  rintro _ w6 ⟨rfl,ho6⟩
  have hall:((s0.obAt k).rf.all fun x=>x==0||hasO (some s) x)=true:=by
   refine List.all_eq_true.2 fun x hx=>?_
   obtain⟨j,hj,rfl⟩:=List.mem_iff_getElem.1 hx
   have:=okr k j hk1 hj
   have e:s0.RF k j=(s0.obAt k).rf[j]:=by unfold HL.RF;simp[hj]
   rw[e]at this
   rcases this with h|⟨k',h,h'⟩
   ·simp[h]
   ·rw[Bool.or_eq_true];right;exact(has_iff hk.ok).2 ⟨k',h,by rw[hk.st];exact h'⟩
  rw[hall]
  (repeat(first|with_reducible(first|refine nx ?_|refine r_6 rfl ?_)|simp only[go_sem,h25,i64_succ i (by omega)]))
  refine hnext _ w6 ?_ ⟨i+1,?_,by omega,o5.nil ho6⟩ ?_
  ·(repeat(first|with_reducible exact k_1|with_reducible exact Keeps.ovr _ _ _|refine Keeps.put ?_ rfl _|exact k_1|exact Keeps.ovr _ _ _|refine Keeps.ovr2 ?_ rfl _))
  ·simp only[go_sem]
  ·rw[upTo_int (i:=i) h25,upTo_int (k:=.i64) (i:=i+1) (by simp only[go_sem])];omega
 have hq2:=hat1.keep0 ho2
 have hb2:=hb1.keep0 ho2
 have up0:UP w w2 s0 s hb fh (M.take 0) s:=⟨(ho1.nil ho2).of_nil,hh.keep0 (ho1.nil ho2),hk,hro,fun _ _ _=>.inr rfl,fun m hm=>by simp at hm⟩
 (repeat(first|with_reducible(first|refine nx ?_|refine r_6 rfl ?_)|simp only[go_sem,h25,decide_eq_false (show¬(i:Int)<(M.length:Int) by omega),hq2.cell,hb2.cell]))
 refine run_loop (9::11::12::13::14::15::62::63::64::65::66::67::68::69::70::71::72::73::74::75::76::77::78::79::80::81::82::83::84::85::86::87::88::89::90::91::92::93::94::95::96::97::98::99::100::[]) (fun g w'=> ∃(i:Nat) (n:Int) (s':HL),g 62=.int .i64 (i:Int)∧g 9=.int .i64 n∧i≤M.length∧UP w w' s0 s hb fh (M.take i) s'∧At w' q [.pointer (some ⟨b,0,none⟩)]) (fun g _=>upTo M.length 62 g) ⟨0,0,s,by simp only[go_sem];rfl,by simp only[go_sem],by omega,up0,hq2⟩ fun g2 w3 hI hnext2=>?_
 clear hnext up0
 obtain⟨i,n,s1,h62,h9,hi,up,hq3⟩:=hI
 have hb3:=hm.hb.keep up.o hbn
 have w01:=up.o.size
 by_cases c1:i<M.length
 rotate_left
 ·(repeat(first|with_reducible(first|refine nx ?_|refine r_6 rfl ?_)|simp only[go_sem,h62,h9,decide_eq_false (show¬(i:Int)<(M.length:Int) by omega),hq3.cell,hb3.cell]))
  refine stT hb3 (by simp) rfl fun w4 hs4 hat4 ho4=>?_
  (repeat(first|with_reducible(first|refine nx ?_|refine r_6 rfl ?_)|simp only[go_sem,h9]))
  rw[List.take_of_length_le (by omega)]at up
  exact⟨⟨n,rfl⟩,s1,w3,up,hb3,up.h.keep ho4 fun y hy h=>hbn (by simp only[List.mem_singleton]at h;rw[←h];exact hy),hat4,ho4⟩
 obtain⟨gl,rfl,k,mo,hk1,mr,see⟩:=ent i c1
 have ci:(0:Int)≤(i:Int)∧(i:Int)<(M.length:Int):=by omega
 obtain⟨hc,hsl⟩:=see w3 up.o
 obtain⟨mv,emv⟩: ∃mv,mv=(M.getD i default).v:=⟨_,rfl⟩
 obtain⟨mf,emf⟩: ∃mf,mf=(M.getD i default).f:=⟨_,rfl⟩
 rw[←emv]at hc hsl see
 rw[←emf]at hsl see
 obtain⟨am,cm,rfl⟩:=hsl.val
 have h2k:=live_le hk0.ok hk1
 have rl:=rf_le hk0.ok hk1
 (repeat(first|with_reducible(first|refine nx ?_|refine r_6 rfl ?_)|simp only[go_sem,h62,decide_eq_true ci.2,if_pos ci,Int.toNat_natCast,hc]))
 refine boxT fun q6 w4 hq6 hs4 hat4 ho4=>?_
 (repeat(first|with_reducible(first|refine nx ?_|refine r_6 rfl ?_)|simp only[go_sem]))
 refine stNT (cs:=[.int .i64 ((2*k:Nat):Int),.slice am (s0.obAt k).rf.length cm]) hat4 rfl (by simp) (by simp[oneC]) fun w5 hs5 hat5 ho5=>?_
 have hat5':At w5 q6 [.int .i64 ((2*k:Nat):Int),.slice am (s0.obAt k).rf.length cm]:=hat5
 have o5:Only [] w3 w5:=ho4.trans ho5 fun y hy=>by simp only[List.mem_singleton]at hy;subst hy;exact .inr (by omega)
 have hq5:=hq3.keep0 o5
 have q6n:q6∉fh:=fun h=>by have:=hfh q6 h;omega
 have qn:q∉fh:=fun h=>by have:=hfh q h;omega
 (repeat(first|with_reducible(first|refine nx ?_|refine r_6 rfl ?_)|simp only[go_sem,hat5'.cell]))
 refine run_loop (9::12::13::14::15::69::70::71::72::73::74::75::76::77::78::79::80::81::82::83::84::85::86::87::88::89::90::91::92::93::94::95::96::97::98::99::[]) (fun g w'=> ∃(j:Nat) (n:Int) (s':HL),g 69=.int .i64 (j:Int)∧g 9=.int .i64 n∧j≤(s0.obAt k).rf.length∧UP w w' s0 s hb fh (M.take i) s'∧(∀j',j'<j→s'.RF k j'=s0.RF k j')∧At w' q [.pointer (some ⟨b,0,none⟩)]∧At w' q6 [.int .i64 ((2*k:Nat):Int),.slice am (s0.obAt k).rf.length cm]) (fun g _=>upTo (s0.obAt k).rf.length 69 g) ⟨0,n,s1,by simp only[go_sem];rfl,by simp only[go_sem,h9],by omega,up.keep0 o5,fun j' h=>absurd h (by omega),hq5,hat5'⟩ fun g3 w6 hJ hnext3=>?_
 clear hc hsl hq5 hq3 hb3 o5 hat5 hat5' up
 obtain⟨j,n,s2,h69,h9,hj,up,dj2,hq6',hat6⟩:=hJ
 have hb6:=hm.hb.keep up.o hbn
 obtain⟨l2,ro1,ro2⟩:=up.r k hk1
 have lks:(s2.obAt k).rf.length=(s0.obAt k).rf.length:=by rw[ro1];exact ro2
 have hsk:s2.st.getD k 0=1:=by rw[up.a.st];exact hk1
 by_cases c2:j<(s0.obAt k).rf.length
 rotate_left
 ·(repeat(first|with_reducible(first|refine nx ?_|refine r_6 rfl ?_)|simp only[go_sem,h62,h69,h9,decide_eq_false (show¬(j:Int)<((s0.obAt k).rf.length:Int) by omega),i64_succ i (by omega)]))
  have rfz: ∀(s':HL) (j':Nat),(s'.obAt k).rf.length≤j'→s'.RF k j'=0:=fun s' j' h=>by unfold HL.RF;simp[List.getD_eq_getElem?_getD,List.getElem?_eq_none h]
  refine hnext2 _ w6 ?_ ⟨i+1,n,s2,?_,?_,by omega,⟨up.o,up.h,up.a,up.r,up.e,fun m hm' k' hk' j'=>?_⟩,hq6'⟩ ?_
  ·(repeat(first|with_reducible exact k_1|with_reducible exact Keeps.ovr _ _ _|refine Keeps.put ?_ rfl _|exact k_1|exact Keeps.ovr _ _ _|refine Keeps.ovr2 ?_ rfl _))
  ·simp only[go_sem]
  ·simp only[go_sem,h9]
  ·rw[List.take_succ_eq_append_getElem c1,List.mem_append]at hm'
   rcases hm' with h|h
   ·exact up.d m h k' hk' j'
   ·simp only[List.mem_singleton]at h
    have e:m=M.getD i default:=by rw[h];simp[c1]
    rw[e,mo]at hk'
    obtain rfl:k=k':=by omega
    by_cases c3:j'<(s0.obAt k).rf.length
    ·exact dj2 j' (by omega)
    ·rw[rfz s2 j' (by omega),rfz s0 j' (by omega)]
  ·rw[upTo_int (i:=i) h62,upTo_int (k:=.i64) (i:=i+1) (by simp only[go_sem])];omega
 obtain⟨_,hsl⟩:=see w6 up.o
 obtain⟨gm,_,ym,em,hatm,_,_⟩:=hsl.pos (by omega)
 cases em
 have cj:(0:Int)≤(j:Int)∧(j:Int)<((s0.obAt k).rf.length:Int):=by omega
 have vm:w6.cell? ⟨gm,j,none⟩=some (.int .i64 (s0.RF k j)):=by rw[hatm.cell];exact ints_append_get ym (by omega)
 (repeat(first|with_reducible(first|refine nx ?_|refine r_6 rfl ?_)|simp only[go_sem,h69,decide_eq_true cj.2,if_pos cj,Int.toNat_natCast,Nat.mul_one,vm]))
 refine run_drt [q,b,q6] ?_
 have od:=Only.drew [] w6
 (repeat(first|with_reducible(first|refine nx ?_|refine r_6 rfl ?_)|simp only[go_sem,hq6'.drew.cell,hb6.drew.cell,hat6.drew.cell]))
 refine callS (hRef (up.h.keep0 od) ((2*k:Nat):Int) (j:Int) (by omega)) ?_
 rintro _ w7 ⟨rfl,ho7⟩
 refine⟨.inl rfl,?_⟩
 rw[at_ref up.a.ok hsk (by omega)]
 have o7:=od.nil ho7
 have hto:=okr k j hk1 c2
 obtain⟨t0,t1⟩:=hto.le hk0.ok
 have zz:=i64_succ j (by omega)
 by_cases c3:s2.RF k j=s0.RF k j
 ·have c3':(s2.obAt k).rf.getD j 0=s0.RF k j:=c3
  (repeat(first|with_reducible(first|refine nx ?_|refine r_6 rfl ?_)|simp only[go_sem,h69,bne_int_false c3',zz]))
  refine hnext3 _ w7 ?_ ⟨j+1,n,s2,?_,?_,by omega,up.keep0 o7,fun j' hj'=>?_,hq6'.keep0 o7,hat6.keep0 o7⟩ ?_
  ·(repeat(first|with_reducible exact k_1|with_reducible exact Keeps.ovr _ _ _|refine Keeps.put ?_ rfl _|exact k_1|exact Keeps.ovr _ _ _|refine Keeps.ovr2 ?_ rfl _))
  ·simp only[go_sem]
  ·simp only[go_sem,h9]
  ·by_cases e:j'=j
   ·rw[e];exact c3
   ·exact dj2 j' (by omega)
  ·rw[upTo_int (i:=j) h69,upTo_int (k:=.i64) (i:=j+1) (by simp only[go_sem])];omega
 ·have c3': ¬(s2.obAt k).rf.getD j 0=s0.RF k j:=c3
  have o7d:=o7.nil (Only.drew [] w7)
  (repeat(first|with_reducible(first|refine nx ?_|refine r_6 rfl ?_)|simp only[go_sem,bne_int_true c3',(hq6'.keep0 o7d).cell,(hb6.keep0 o7d).cell,(hat6.keep0 o7d).cell]))
  refine callT (hSetRef (up.h.keep0 o7d) ((2*k:Nat):Int) (j:Int) (s0.RF k j) (by omega) (by omega)) ?_
  rintro _ w8 ⟨rfl,hh8,ho8⟩
  have hto2:okTo s2 (s0.RF k j):=hto.imp id fun⟨k',e,h⟩=>⟨k',e,by rw[up.a.st];exact h⟩
  obtain⟨s3,e3,_,_,_,_,_⟩:=abs_setRef up.a.ok ((2*k:Nat):Int) (j:Int) (s0.RF k j)
  rw[e3]at hh8
  have hok3:=setRef_Ok up.a.ok e3
  have step:=fun(i:Nat) (hi:s0.st.getD i 0=1)=>RF_step up.a.ok hsk (by omega) hto2 e3 i (by rw[up.a.st];exact hi)
  have oo:Only fh w w8:=(up.o.nil o7d).same ho8
  (repeat(first|with_reducible(first|refine nx ?_|refine r_6 rfl ?_)|simp only[go_sem,h69,h9,zz]))
  refine hnext3 _ w8 ?_ ⟨j+1,IntKind.i64.wrap (n+1),s3,?_,?_,by omega,⟨oo,hh8,setRef_akin up.a ⟨t0,t1⟩ e3 hok3,up.r.step up.a hk1 (by omega) hto2 e3,fun k' j' hk'=>?_,fun m hm' k' hk' j'=>?_⟩,fun j' hj'=>?_,(hq6'.keep0 o7d).keep ho8 qn,(hat6.keep0 o7d).keep ho8 q6n⟩ ?_
  ·(repeat(first|with_reducible exact k_1|with_reducible exact Keeps.ovr _ _ _|refine Keeps.put ?_ rfl _|exact k_1|exact Keeps.ovr _ _ _|refine Keeps.ovr2 ?_ rfl _))
  ·simp only[go_sem]
  ·simp only[go_sem,h9]
  ·rw[(step k' hk').2 j']
   by_cases c:k'=k∧j'=j
   ·rw[if_pos c,c.1,c.2];exact .inl rfl
   ·rw[if_neg c];exact up.e k' j' hk'
  ·have hk'':s0.st.getD k' 0=1:=by
    obtain⟨z,z1,z2,_⟩:=hM m (List.mem_of_mem_take hm')
    rw[z1]at hk'
    obtain rfl:z=k':=by omega
    exact z2
   rw[(step k' hk'').2 j']
   by_cases c:k'=k∧j'=j
   ·rw[if_pos c,c.1,c.2]
   ·rw[if_neg c];exact up.d m hm' k' hk' j'
  ·rw[(step k hk1).2 j']
   by_cases c:j'=j
   ·rw[if_pos ⟨rfl,c⟩,c]
   ·rw[if_neg (fun h=>c h.2)];exact dj2 j' (by omega)
  ·rw[upTo_int (i:=j) h69,upTo_int (k:=.i64) (i:=j+1) (by simp only[go_sem])];omega
end Go.Proofs.YtgcofabdialaaaaGreat
end
section
namespace Go.Proofs.YtgcofabdialaaaaGreat
set_option maxRecDepth 8000
theorem cInts {w:World} {va vb:Value} {xs ys:List Int} {fa fb:List Nat} (ha:Sl w 1 va xs.length (ints xs) fa) (hb:Sl w 1 vb ys.length (ints ys) fb) (hl:xs.length≤100000):
  Cs Tryz.prog 20 [va,vb] w fun v w'=>v=.bool (decide (xs=ys))∧Only [] w w':=by
 obtain⟨aa,ca,rfl⟩:=ha.val
 obtain⟨ab,cb,rfl⟩:=hb.val
 refine enter_law12_Ints rfl ?_
 unfold x_law12_Ints
 by_cases c0:xs.length=ys.length
 rotate_left
 ·(repeat(first|with_reducible(first|refine nx ?_|refine r_6 rfl ?_)|simp only[go_sem,bne_int_true (show¬(xs.length:Int)=(ys.length:Int) by omega)]))
  exact⟨by rw[decide_eq_false (fun e=>c0 (by rw[e]))],Only.refl _ _⟩
 (repeat(first|with_reducible(first|refine nx ?_|refine r_6 rfl ?_)|simp only[go_sem,bne_int_false (show(xs.length:Int)=(ys.length:Int) by omega)]))
 refine run_loop (5::11::12::13::14::15::16::17::18::19::20::21::22::23::24::25::[]) (fun g w'=> ∃i:Nat,g 5=.int .i64 (i:Int)∧i≤xs.length∧(∀j,j<i→xs.getD j 0=ys.getD j 0)∧Only [] w w') (fun g _=>upTo xs.length 5 g) ⟨0,by simp only[go_sem];rfl,by omega,fun j hj=>absurd hj (by omega),Only.refl _ _⟩ fun g w1 hI hnext=>?_
 obtain⟨i,h5,hi,heq,ho⟩:=hI
 by_cases c1:i<xs.length
 rotate_left
 ·(repeat(first|with_reducible(first|refine nx ?_|refine r_6 rfl ?_)|simp only[go_sem,h5,decide_eq_false (show¬(i:Int)<(xs.length:Int) by omega)]))
  refine⟨?_,ho⟩
  rw[decide_eq_true]
  refine List.ext_getElem c0 fun j h1 h2=>?_
  have:=heq j (by omega)
  simpa[List.getD_eq_getElem?_getD,h1,h2]using this
 obtain⟨ga,_,ya,ea,hata,_,_⟩:=(ha.keep0 ho).pos (by omega)
 obtain⟨gb,_,yb,eb,hatb,_,_⟩:=(hb.keep0 ho).pos (by omega)
 cases ea
 cases eb
 have ci:(0:Int)≤(i:Int)∧(i:Int)<(xs.length:Int):=by omega
 have ci':(0:Int)≤(i:Int)∧(i:Int)<(ys.length:Int):=by omega
 have da:w1.drew.cell? ⟨ga,i,none⟩=some (.int .i64 (xs.getD i 0)):=by rw[hata.drew.cell];exact ints_append_get ya (by omega)
 have db:w1.drew.cell? ⟨gb,i,none⟩=some (.int .i64 (ys.getD i 0)):=by rw[hatb.drew.cell];exact ints_append_get yb (by omega)
 have od:=ho.nil (Only.drew [] w1)
 by_cases c2:xs.getD i 0=ys.getD i 0
 ·(repeat(first|with_reducible(first|refine nx ?_|refine r_6 rfl ?_)|simp only[go_sem,h5,decide_eq_true ci.2,if_pos ci,if_pos ci',Int.toNat_natCast,Nat.mul_one,da,db,bne_int_false c2,i64_succ i (by omega)]))
  refine hnext _ _ ?_ ⟨i+1,?_,by omega,fun j hj=>?_,od⟩ ?_
  ·(repeat(first|with_reducible exact k_1|with_reducible exact Keeps.ovr _ _ _|refine Keeps.put ?_ rfl _|exact k_1|exact Keeps.ovr _ _ _|refine Keeps.ovr2 ?_ rfl _))
  ·simp only[go_sem]
  ·by_cases e:j=i
   ·rw[e];exact c2
   ·exact heq j (by omega)
  ·rw[upTo_int (i:=i) h5,upTo_int (k:=.i64) (i:=i+1) (by simp only[go_sem])];omega
 ·(repeat(first|with_reducible(first|refine nx ?_|refine r_6 rfl ?_)|simp only[go_sem,h5,decide_eq_true ci.2,if_pos ci,if_pos ci',Int.toNat_natCast,Nat.mul_one,da,db,bne_int_true c2]))
  exact⟨by rw[decide_eq_false (fun e=>c2 (by rw[e]))],od⟩
theorem cSameHeap {w : World} {a b : Nat} {q : RL} {fa fb : List Nat} (ha : FM w a q fa) (hb : FM w b q fb) (hl : q.O.length ≤ 1000) (hn : ∀ o, o ∈ q.O → o.rf.length ≤ 1000 ∧ o.dt.length ≤ 1000) :
    Cs Tryz.prog 19 [.pointer (some ⟨a, 0, none⟩), .pointer (some ⟨b, 0, none⟩)] w fun v w' => v = .bool true ∧ Only [] w w' := by
  obtain ⟨vB, vO, vF, fB, fO, fF, L, _, hm⟩ := ha
  obtain ⟨vB', vO', vF', fB', fO', fF', L', _, hm'⟩ := hb
  obtain ⟨aB, cB, rfl⟩ := hm.hB.val
  obtain ⟨aB', cB', rfl⟩ := hm'.hB.val
  obtain ⟨aO, cO, rfl⟩ := hm.hO.val
  obtain ⟨aO', cO', rfl⟩ := hm'.hO.val
  have hLL : L.length = L'.length := by have e1 := congrArg List.length hm.eq; have e2 := congrArg List.length hm'.eq; simp only [List.length_map] at e1 e2; omega
  have hLq : L.length = q.O.length := by have e1 := congrArg List.length hm.eq; simp only [List.length_map] at e1; omega
  have hB64 := hm.ok
  refine enter_law12_SameHeap rfl ?_
  unfold x_law12_SameHeap
  have od := Only.drew [] w
  (repeat (first | with_reducible (first | refine nx ?_ | refine r_6 rfl ?_) | simp only [go_sem, hm.hb.drew.cell, hm'.hb.drew.cell, bne_int_false (rfl : (q.B.length : Int) = (q.B.length : Int)), bne_int_false (show (L.length : Int) = (L'.length : Int) by omega), bne_int_false (rfl : (q.born : Int) = (q.born : Int))]))
  have hq64 := hm.ok.b64
  refine run_loop (5 :: 44 :: 45 :: 46 :: 47 :: 48 :: 49 :: 50 :: 51 :: 52 :: 53 :: 54 :: 55 :: 56 :: 57 :: 58 :: 59 :: 60 :: 61 :: 62 :: 63 :: 64 :: 65 :: 66 :: 67 :: []) (fun g w' => ∃ i : Nat, g 5 = .int .i64 (i : Int) ∧ i ≤ q.B.length ∧ Only [] w w') (fun g _ => upTo q.B.length 5 g) ⟨0, by simp only [go_sem]; rfl, by omega, od⟩ fun g w1 hI hnext => ?_
  obtain ⟨i, h5, hi, ho⟩ := hI
  have hm1 := hm.keep0 ho
  have hm1' := hm'.keep0 ho
  by_cases c1 : i < q.B.length
  · obtain ⟨gb, _, yb, eb, hatb, _⟩ := hm1.blk
    obtain ⟨gb', _, yb', eb', hatb', _⟩ := hm1'.blk
    cases eb
    cases eb'
    have ci : (0 : Int) ≤ (i : Int) ∧ (i : Int) < (q.B.length : Int) := by omega
    have hlb := blkV_len q.B
    have cb : cellsAt w1.drew ⟨gb, i * 2, none⟩ 2 = some (bV (q.B.getD i (0, 0))) := by rw [cellsAt_at hatb.drew (i * 2) 2 (by rw [List.length_append]; omega), blkV_drop yb c1]
    have cb' : cellsAt w1.drew ⟨gb', i * 2, none⟩ 2 = some (bV (q.B.getD i (0, 0))) := by rw [cellsAt_at hatb'.drew (i * 2) 2 (by rw [List.length_append]; omega), blkV_drop yb' c1]
    have ee : eqAO true 2 (.agg ⟨bV (q.B.getD i (0, 0))⟩) (.agg ⟨bV (q.B.getD i (0, 0))⟩) = some (.bool false) := by
      unfold bV
      rw [eqAO_a true 2 _ _ rfl rfl]
      simp [eqCells_cons, eqCells_nil, notO_some]
    (repeat (first | with_reducible (first | refine nx ?_ | refine r_6 rfl ?_) | simp only [go_sem, h5, hm1.hb.cell, hm1.hb.drew.cell, hm1'.hb.drew.cell, decide_eq_true ci.2, if_pos ci, Int.toNat_natCast, cb, cb', ee, i64_succ i (by omega)]))
    refine hnext _ _ ?_ ⟨i + 1, ?_, by omega, ho.nil (Only.drew [] w1)⟩ ?_
    · (repeat (first | with_reducible exact k_1 | with_reducible exact Keeps.ovr _ _ _ | refine Keeps.put ?_ rfl _ | exact k_1 | exact Keeps.ovr _ _ _ | refine Keeps.ovr2 ?_ rfl _))
    · simp only [go_sem]
    · rw [upTo_int (i := i) h5, upTo_int (k := .i64) (i := i + 1) (by simp only [go_sem])]; omega
  (repeat (first | with_reducible (first | refine nx ?_ | refine r_6 rfl ?_) | simp only [go_sem, h5, hm1.hb.cell, decide_eq_false (show ¬ (i : Int) < (q.B.length : Int) by omega)]))
  refine run_loop (6 :: 7 :: 8 :: 68 :: 69 :: 70 :: 71 :: 72 :: 73 :: 74 :: 75 :: 76 :: 77 :: 78 :: 79 :: 80 :: 81 :: 82 :: 83 :: 84 :: 85 :: 86 :: 87 :: 88 :: 89 :: 90 :: 91 :: 92 :: 93 :: 94 :: 95 :: 96 :: 97 :: 98 :: 99 :: 100 :: 101 :: 102 :: 103 :: 104 :: 105 :: 106 :: 107 :: 108 :: 109 :: 110 :: 111 :: 112 :: 113 :: 114 :: 115 :: 116 :: 117 :: 118 :: 119 :: 120 :: 121 :: 122 :: 123 :: 124 :: 125 :: 126 :: 127 :: 128 :: 129 :: 130 :: 131 :: 132 :: []) (fun g w' => ∃ i : Nat, g 6 = .int .i64 (i : Int) ∧ i ≤ L.length ∧ Only [] w w') (fun g _ => upTo L.length 6 g) ⟨0, by simp only [go_sem]; rfl, by omega, ho⟩ fun g2 w2 hI hnext2 => ?_
  clear ho hm1 hm1' hnext
  obtain ⟨i, h6, hi, ho⟩ := hI
  have hm1 := hm.keep0 ho
  have hm1' := hm'.keep0 ho
  by_cases c2 : i < L.length
  rotate_left
  · (repeat (first | with_reducible (first | refine nx ?_ | refine r_6 rfl ?_) | simp only [go_sem, h6, hm1.hb.cell, decide_eq_false (show ¬ (i : Int) < (L.length : Int) by omega)]))
    exact ho
  have ci : (0 : Int) ≤ (i : Int) ∧ (i : Int) < (L.length : Int) := by omega
  have ci' : (0 : Int) ≤ (i : Int) ∧ (i : Int) < (L'.length : Int) := by omega
  (repeat (first | with_reducible (first | refine nx ?_ | refine r_6 rfl ?_) | simp only [go_sem, h6, hm1.hb.cell, decide_eq_true ci.2]))
  have hd := hm1.keep0 (Only.drew [] w2)
  have hd' := hm1'.keep0 (Only.drew [] w2)
  obtain ⟨gO, _, yO, eO, hatO, _, _⟩ := hd.row (by omega)
  obtain ⟨gO', _, yO', eO', hatO', _, _⟩ := hd'.row (by omega)
  cases eO
  cases eO'
  obtain ⟨cA, _⟩ := hd.all (cap := 0) hatO c2
  obtain ⟨cA', _⟩ := hd'.all (cap := 0) hatO' (show i < L'.length by omega)
  have ho1 : L.getD i default ∈ L := by simp [c2]
  have ho1' : L'.getD i default ∈ L' := by have : i < L'.length := by omega
                                           simp [this]
  have eo : (L.getD i default).o = (L'.getD i default).o := by
    have e1 : (L.map OM.o)[i]? = (L'.map OM.o)[i]? := by rw [← hm.eq, ← hm'.eq]
    rw [List.getElem?_map, List.getElem?_map, List.getElem?_eq_getElem c2, List.getElem?_eq_getElem (show i < L'.length by omega)] at e1
    simp only [Option.map_some, Option.some.injEq] at e1
    simpa [List.getD_eq_getElem?_getD, c2, show i < L'.length by omega] using e1
  have oko := hm.om _ ho1
  have oko' := hm'.om _ ho1'
  have hno := hn (L.getD i default).o (by rw [hm.eq]; exact List.mem_map.2 ⟨_, ho1, rfl⟩)
  have one1 := oko.one
  have one1' := oko'.one
  generalize L.getD i default = m at *
  generalize L'.getD i default = m' at *
  refine run_cut (7 :: 8 :: 77 :: 78 :: 79 :: 80 :: 81 :: 82 :: 83 :: 84 :: 85 :: 86 :: 87 :: 88 :: 89 :: 90 :: []) (fun ρ' w' => ∃ q7 q8, ρ' 7 = .pointer (some ⟨q7, 0, none⟩) ∧ ρ' 8 = .pointer (some ⟨q8, 0, none⟩) ∧ At w' q7 m.V ∧ At w' q8 m'.V ∧ Only [] w2 w') (fun kk hkk => ?_) (fun g3 w3 hJ => ?_)
  · refine run_drt [a, b, gO, gO'] ?_
    have lts : ∀ z, z ∈ [a, b, gO, gO'] → z < w2.drew.heap.size := fun z hz => by
      simp only [List.mem_cons, List.not_mem_nil, or_false] at hz
      rcases hz with rfl | rfl | rfl | rfl
      · exact hd.hb.lt
      · exact hd'.hb.lt
      · exact hatO.lt
      · exact hatO'.lt
    have sbk : ∀ w', Only [] w2.drew w' → SB [a, b, gO, gO'] w2.drew w' := fun w' o => (SB.refl _ _).only o fun z hz => ⟨lts z hz, by simp⟩
    have oneV : ∀ u, u ∈ m.V → oneC u = true := fun u hu => omV_one (L := [m]) (fun m hm => by simp only [List.mem_singleton] at hm; rw [hm]; exact one1) u (by simpa [omV] using hu)
    have oneV' : ∀ u, u ∈ m'.V → oneC u = true := fun u hu => omV_one (L := [m']) (fun m hm => by simp only [List.mem_singleton] at hm; rw [hm]; exact one1') u (by simpa [omV] using hu)
    (repeat (first | with_reducible (first | refine nx ?_ | refine r_6 rfl ?_) | simp only [go_sem, h6, hd.hb.cell, hd'.hb.cell, if_pos ci, if_pos ci', Int.toNat_natCast, cA, cA']))
    refine ⟨?_, ?_⟩
    · refine boxS fun q7 u1 hq7 hs1 hat1 hu1 => ⟨.inr (sbk _ hu1), ?_⟩
      (repeat (first | with_reducible (first | refine nx ?_ | refine r_6 rfl ?_) | simp only [go_sem]))
      refine boxS fun q8 u2 hq8 hs2 hat2 hu2 => ⟨.inr (sbk _ (hu1.nil hu2)), ?_⟩
      (repeat (first | with_reducible (first | refine nx ?_ | refine r_6 rfl ?_) | simp only [go_sem]))
      have l1 := lts
      refine stNS (cs := m.V) (hat1.keep0 hu2) rfl (by simp [OM.V_len]) oneV fun u3 hs3 hat3 hu3 => ⟨.inr (sbk _ ((hu1.nil hu2).trans hu3 fun y hy => by simp only [List.mem_singleton] at hy; exact .inr (by omega))), ?_⟩
      (repeat (first | with_reducible (first | refine nx ?_ | refine r_6 rfl ?_) | simp only [go_sem]))
      refine stNS (cs := m'.V) (hat2.keep hu3 (by simp only [List.mem_singleton]; omega)) rfl (by simp [OM.V_len]) oneV' fun u4 hs4 hat4 hu4 => ⟨.inl rfl, ?_⟩
      (repeat (first | with_reducible (first | refine nx ?_ | refine r_6 rfl ?_) | simp only [go_sem]))
      refine hkk _ _ ?_ ⟨q7, q8, by simp only [go_sem], by simp only [go_sem], hat3.keep hu4 (by simp only [List.mem_singleton]; omega), hat4, (((Only.drew [] w2).nil hu1).nil hu2).trans (hu3.weak (T := [q7, q8]) (by simp) |>.same (hu4.weak (by simp))) fun y hy => ?_⟩
      · (repeat (first | with_reducible exact k_1 | with_reducible exact Keeps.ovr _ _ _ | refine Keeps.put ?_ rfl _ | exact k_1 | exact Keeps.ovr _ _ _ | refine Keeps.ovr2 ?_ rfl _))
      · have : w2.drew.heap.size = w2.heap.size := rfl
        simp only [List.mem_cons, List.not_mem_nil, or_false] at hy
        exact .inr (by omega)
    · refine boxS fun q8 u1 hq8 hs1 hat1 hu1 => ⟨.inr (sbk _ hu1), ?_⟩
      (repeat (first | with_reducible (first | refine nx ?_ | refine r_6 rfl ?_) | simp only [go_sem]))
      refine boxS fun q7 u2 hq7 hs2 hat2 hu2 => ⟨.inr (sbk _ (hu1.nil hu2)), ?_⟩
      (repeat (first | with_reducible (first | refine nx ?_ | refine r_6 rfl ?_) | simp only [go_sem]))
      refine stNS (cs := m.V) hat2 rfl (by simp [OM.V_len]) oneV fun u3 hs3 hat3 hu3 => ⟨.inr (sbk _ ((hu1.nil hu2).trans hu3 fun y hy => by simp only [List.mem_singleton] at hy; exact .inr (by omega))), ?_⟩
      (repeat (first | with_reducible (first | refine nx ?_ | refine r_6 rfl ?_) | simp only [go_sem]))
      refine stNS (cs := m'.V) ((hat1.keep0 hu2).keep hu3 (by simp only [List.mem_singleton]; omega)) rfl (by simp [OM.V_len]) oneV' fun u4 hs4 hat4 hu4 => ⟨.inl rfl, ?_⟩
      (repeat (first | with_reducible (first | refine nx ?_ | refine r_6 rfl ?_) | simp only [go_sem]))
      refine hkk _ _ ?_ ⟨q7, q8, by simp only [go_sem], by simp only [go_sem], hat3.keep hu4 (by simp only [List.mem_singleton]; omega), hat4, (((Only.drew [] w2).nil hu1).nil hu2).trans (hu3.weak (T := [q7, q8]) (by simp) |>.same (hu4.weak (by simp))) fun y hy => ?_⟩
      · (repeat (first | with_reducible exact k_1 | with_reducible exact Keeps.ovr _ _ _ | refine Keeps.put ?_ rfl _ | exact k_1 | exact Keeps.ovr _ _ _ | refine Keeps.ovr2 ?_ rfl _))
      · have : w2.drew.heap.size = w2.heap.size := rfl
        simp only [List.mem_cons, List.not_mem_nil, or_false] at hy
        exact .inr (by omega)
  obtain ⟨q7, q8, h7, h8, hat7, hat8, ho3⟩ := hJ
  have o3 := ho.nil ho3
  have hV : m.V = obV m.o m.vr m.vd := rfl
  have hV' : m'.V = obV m.o m'.vr m'.vd := by rw [eo]; rfl
  rw [hV] at hat7
  rw [hV'] at hat8
  have c7 : cellsAt w3 ⟨q7, 2, none⟩ 3 = some (shV m.o.sh) := by rw [cellsAt_at hat7 2 3 (by simp [obV])]; rfl
  have c8 : cellsAt w3 ⟨q8, 2, none⟩ 3 = some (shV m.o.sh) := by rw [cellsAt_at hat8 2 3 (by simp [obV])]; rfl
  have ee : eqAO true 3 (.agg ⟨shV m.o.sh⟩) (.agg ⟨shV m.o.sh⟩) = some (.bool false) := by
    unfold shV
    rw [eqAO_a true 3 _ _ rfl rfl]
    simp [eqCells_cons, eqCells_nil, notO_some]
  have b1 : ∀ x : Bool, (x == x) = true := fun x => by simp
  have b2 : (true != true) = false := rfl
  have i1 : ∀ x : Int, (x != x) = false := fun x => by simp
  have rr := (oko.r.keep0 o3)
  have rr' := (oko'.r.keep0 o3)
  have dd := (oko.d.keep0 o3)
  have dd' := (oko'.d.keep0 o3)
  rw [← eo] at rr' dd'
  (repeat (first | with_reducible (first | refine nx ?_ | refine r_6 rfl ?_) | simp only [go_sem, h7, h8, hat7.cell, hat8.cell, obV, c7, c8, ee, i1, b1, b2]))
  refine callT (cInts rr rr' (by have := hno.1; omega)) ?_
  rintro _ w4 ⟨rfl, ho4⟩
  (repeat (first | with_reducible (first | refine nx ?_ | refine r_6 rfl ?_) | simp only [go_sem, h7, h8, decide_eq_true (rfl : m.o.rf = m.o.rf), (hat7.keep0 ho4).cell, (hat8.keep0 ho4).cell, obV]))
  refine callT (cInts (dd.keep0 ho4) (dd'.keep0 ho4) (by have := hno.2; omega)) ?_
  rintro _ w5 ⟨rfl, ho5⟩
  (repeat (first | with_reducible (first | refine nx ?_ | refine r_6 rfl ?_) | simp only [go_sem, h6, decide_eq_true (rfl : m.o.dt = m.o.dt), i64_succ i (by omega)]))
  refine hnext2 _ w5 ?_ ⟨i + 1, ?_, by omega, (o3.nil ho4).nil ho5⟩ ?_
  · (repeat (first | with_reducible exact k_1 | with_reducible exact Keeps.ovr _ _ _ | refine Keeps.put ?_ rfl _ | exact k_1 | exact Keeps.ovr _ _ _ | refine Keeps.ovr2 ?_ rfl _))
  · simp only [go_sem]
  · rw [upTo_int (i := i) h6, upTo_int (k := .i64) (i := i + 1) (by simp only [go_sem])]; omega
end Go.Proofs.YtgcofabdialaaaaGreat
end
section
namespace Go.Proofs.YtgcofabdialaaaaGreat
set_option maxRecDepth 8000
theorem putM_len (m:IM) (k:Int) (v:Value):(putM m k v).length≤m.length+1:=by
 induction m with
 |nil=>simp[putM]
 |cons p m ih=>
  unfold putM;split
  ·simp
  ·simp only[List.length_cons];omega
theorem run_len {s0:HL}: ∀(l:List It) (s:HL) (t:BS),Akin s0 s→(runI s0 l (s,t)).2.D.length≤t.D.length+l.length∧(runI s0 l (s,t)).2.O.length≤t.O.length+l.length∧(runI s0 l (s,t)).2.S.length≤t.S.length+2*l.length∧(runI s0 l (s,t)).2.L.length≤t.L.length+l.length
 | [],s,t,_=>⟨by simp[runI],by simp[runI],by simp[runI],by simp[runI]⟩
 |it::l,s,t,hk=>by
  show(runI s0 l (stepS s0 it (s,t))).2.D.length≤_∧(runI s0 l (stepS s0 it (s,t))).2.O.length≤_∧(runI s0 l (stepS s0 it (s,t))).2.S.length≤_∧(runI s0 l (stepS s0 it (s,t))).2.L.length≤_
  simp only[List.length_cons]
  rcases step_cases (it:=it) (t:=t) hk with e|⟨k,j,to,s',h1,h2,h3,h4,h5,e⟩
  ·rw[e];have:=run_len l s t hk;omega
  ·rw[e]
   have ih:=run_len l s' (t.note (some s') (2*k) j (s.obAt k).rf to) h5
   obtain⟨n1,n2,n3,n4,n5,n6⟩:=note_spec (some s') t (2*k) j (s.obAt k).rf to
   have hD:(t.note (some s') (2*k) j (s.obAt k).rf to).D.length≤t.D.length+1:=by rw[n3];split;exact putM_len _ _ _;omega
   have hO:(t.note (some s') (2*k) j (s.obAt k).rf to).O.length≤t.O.length+1:=by rw[n4];split;exact putM_len _ _ _;omega
   have:=note_len (some s') t (2*k) j (s.obAt k).rf to
   omega
theorem Wt.len {w0 w:World} {a c x hb:Nat} {s0 s1:HL} {t:BS} {l:List It} {kd yg:Int} {fa fc fx fh:List Nat} (h:Wt w0 w a c x hb s0 s1 t l kd yg fa fc fx fh):t.D.length≤60∧t.O.length≤60∧t.S.length≤120∧t.L.length≤60:=by
 have:=run_len (l.take 60) s0 (BS0 kd yg) h.k0
 rw[h.run]at this
 have e:(l.take 60).length≤60:=by simp;omega
 simp only[BS0,List.length_nil]at this
 omega
theorem FMs.ob {w:World} {b:Nat} {s s0:HL} {vB vO vF:Value} {fB fO fF:List Nat} {L:List OM} (h:FMs w b s.abs vB vO vF fB fO fF L) (he:s.objs=s0.objs):L.length=s0.objs.length∧ ∀i,i<s0.objs.length→(L.getD i default).o=s.obAt (s0.objs.getD i 0)∧L.getD i default∈L:=by
 have h1:s.objs.map s.obAt=L.map OM.o:=h.eq
 have hl:L.length=s0.objs.length:=by have:=congrArg List.length h1;simp only[List.length_map]at this;rw[←he];exact this.symm
 refine⟨hl,fun i hi=>⟨?_,by simp[hl,hi]⟩⟩
 have h2:(s.objs.map s.obAt)[i]? =(L.map OM.o)[i]? :=by rw[h1]
 rw[List.getElem?_map,List.getElem?_map,he,List.getElem?_eq_getElem hi,List.getElem?_eq_getElem (by omega)]at h2
 simp only[Option.map_some,Option.some.injEq]at h2
 simp only[List.getD_eq_getElem?_getD,List.getElem?_eq_getElem hi,List.getElem?_eq_getElem (show i<L.length by omega),Option.getD_some]
 exact h2.symm
theorem orB (kn:Nat) (c:Nat) (hc:c=1∨c=2∨c=4∨c=8∨c=32):1≤bitI .or .i64 ((kn%64:Nat):Int) (c:Int)∧bitI .or .i64 ((kn%64:Nat):Int) (c:Int)≤63∧isB (bitI .or .i64 ((kn%64:Nat):Int) (c:Int)) (c:Int)=true:=by
 have h: ∀k,k∈List.range 64→ ∀d,d∈[1,2,4,8,32]→(1≤bitI .or .i64 ((k:Nat):Int) ((d:Nat):Int)∧bitI .or .i64 ((k:Nat):Int) ((d:Nat):Int)≤63∧isB (bitI .or .i64 ((k:Nat):Int) ((d:Nat):Int)) ((d:Nat):Int)=true):=by decide+kernel
 exact h (kn%64) (List.mem_range.2 (Nat.mod_lt _ (by omega))) c (by rcases hc with rfl|rfl|rfl|rfl|rfl<;>simp)
end Go.Proofs.YtgcofabdialaaaaGreat
end
section
namespace Go.Proofs.YtgcofabdialaaaaGreat
set_option maxRecDepth 8000
end Go.Proofs.YtgcofabdialaaaaGreat
end
section
namespace Go.Proofs.YtgcofabdialaaaaGreat
set_option maxRecDepth 8000
theorem RfO.self (s:HL):RfO s s:=fun k _=>⟨(s.obAt k).rf,rfl,rfl⟩
theorem imgN: ∀ {L:List (Int×List Int)} {x:Int},imgO L x=none→ ∀e,e∈L→e.1≠x
 | [],_,_,e,he=>by cases he
 |p::L,x,h,e,he=>by
  unfold imgO at h
  by_cases c:p.1=x
  ·rw[if_pos c]at h;cases h
  ·rw[if_neg c]at h
   rcases List.mem_cons.1 he with rfl|he
   ·exact c
   ·exact imgN (Option.map_eq_none_iff.1 h) e he
theorem imgS: ∀ {L:List (Int×List Int)} {x:Int} {r:Nat},imgO L x=some r→ ∃e,e∈L∧e.1=x
 | [],_,_,h=>by cases h
 |p::L,x,r,h=>by
  unfold imgO at h
  by_cases c:p.1=x
  ·exact⟨p,by simp,c⟩
  ·rw[if_neg c]at h
   obtain⟨r',h',_⟩:=Option.map_eq_some_iff.1 h
   obtain⟨e,h1,h2⟩:=imgS h'
   exact⟨e,by simp[h1],h2⟩
theorem run_log {s0 s1:HL} {t:BS} {l:List It} {kd yg:Int} (h0:Akin s0 s0) (e:runI s0 l (s0,BS0 kd yg)=(s1,t)) (hb:isB kd 32=true):
  (∀e,e∈t.L→ ∃k:Nat,e.1=((2*k:Nat):Int)∧s0.st.getD k 0=1∧e.2=(s0.obAt k).rf)∧RfO s0 s1∧ ∀k:Nat,s0.st.getD k 0=1→(∀e,e∈t.L→e.1≠((2*k:Nat):Int))→s1.obAt k=s0.obAt k:=by
 have key:=run_ind (s0:=s0) (P:=fun s t=>t.kinds=kd∧(∀e,e∈t.L→ ∃k:Nat,e.1=((2*k:Nat):Int)∧s0.st.getD k 0=1∧e.2=(s0.obAt k).rf)∧RfO s0 s∧ ∀k:Nat,s0.st.getD k 0=1→(∀e,e∈t.L→e.1≠((2*k:Nat):Int))→s.obAt k=s0.obAt k) ?_ l s0 (BS0 kd yg) h0 ?_
 ·rw[e]at key;exact key.2
 rotate_left
 ·exact⟨rfl,fun e he=>(by cases he),.self s0,fun _ _ _=>rfl⟩
 rintro s t k j to s' hk ⟨p1,p2,p3,p4⟩ hkl hj ht e1 hk'
 obtain⟨n1,_,_,_,n5,_⟩:=note_spec (some s') t (2*k) j (s.obAt k).rf to
 have hk0:s0.st.getD k 0=1:=by rw[←hk.st];exact hkl
 rw[p1,hb,Bool.true_and]at n5
 have hin: ∃e,e∈(t.note (some s') (2*k) j (s.obAt k).rf to).L∧e.1=((2*k:Nat):Int):=by
  rw[n5]
  cases hi:imgO t.L ((2*k:Nat):Int)with
  |none=>exact⟨(((2*k:Nat):Int),(s.obAt k).rf),by simp,rfl⟩
  |some r=>obtain⟨e,h1,h2⟩:=imgS hi;exact⟨e,by simpa using h1,h2⟩
 refine⟨by rw[n1,p1],fun e he=>?_,p3.step hk hk0 hj ht e1,fun i hi hno=>?_⟩
 ·rw[n5]at he
  cases hi:imgO t.L ((2*k:Nat):Int)with
  |none=>
   rw[hi]at he
   simp only[Option.isNone_none,if_true,List.mem_append,List.mem_singleton]at he
   rcases he with he|rfl
   ·exact p2 e he
   ·exact⟨k,rfl,hk0,by simp only;rw[p4 k hk0 (imgN hi)]⟩
  |some r=>
   rw[hi]at he
   exact p2 e (by simpa using he)
 ·have hik:i≠k:=fun c=>by
   obtain⟨e,h1,h2⟩:=hin
   exact hno e h1 (by rw[h2,c])
  have hob:=obAt_setRef hk.ok (setRef_Ok hk.ok e1) hkl hj ht e1 i (by rw[hk.st];exact hi)
  rw[if_neg hik]at hob
  rw[hob]
  refine p4 i hi fun e he=>hno e ?_
  rw[n5]
  split
  ·exact List.mem_append_left _ he
  ·exact he
theorem FMs.refs {w:World} {b i n0 cv:Nat} {s:HL} {av:Option Addr} {vB vF:Value} {fB fO fF:List Nat} {L:List OM} (h:FMs w b s.abs vB (.slice av n0 cv) vF fB fO fF L) (hi:i<s.objs.length):
  ∃g vr fr,av=some ⟨g,0,none⟩∧ ∀w',Only [] w w'→w'.cell? ⟨g,i*8,none⟩=some (.int .i64 ((2*s.objs.getD i 0:Nat):Int))∧w'.cell? ⟨g,i*8+5,none⟩=some vr∧Sl w' 1 vr (s.obAt (s.objs.getD i 0)).rf.length (ints (s.obAt (s.objs.getD i 0)).rf) fr:=by
 obtain⟨lc,rc⟩:=h.ob (s0:=s) rfl
 obtain⟨oc,mc⟩:=rc i hi
 obtain⟨gc,cc',yc,ec,rowc,_,_⟩:=h.row (by omega)
 cases ec
 have okcr:=(h.om _ mc).r
 rw[oc]at okcr
 have c5:=omV_cell (j:=5) yc (show i<L.length by omega) (by omega)
 have c0:=omV_cell (j:=0) yc (show i<L.length by omega) (by omega)
 have c0':(L.getD i default).V[0]? =some (.int .i64 ((2*s.objs.getD i 0:Nat):Int)):=by show some (Value.int .i64 (L.getD i default).o.a)=_;rw[oc];rfl
 rw[c0']at c0
 exact⟨gc,(L.getD i default).vr,_,rfl,fun w' ho=>⟨by rw[(rowc.keep0 ho).cell];exact c0,by rw[(rowc.keep0 ho).cell];exact c5,okcr.keep0 ho⟩⟩
theorem abs_eq {s0 s2:HL} (h:Akin s0 s2) (hr:RfO s0 s2) (e: ∀k j,s0.st.getD k 0=1→s2.RF k j=s0.RF k j):s2.abs=s0.abs:=by
 have ho:s2.objs=s0.objs:=h.objs
 show RL.mk s2.B (s2.objs.map s2.obAt) [] s2.born=RL.mk s0.B (s0.objs.map s0.obAt) [] s0.born
 rw[h.B,h.bn,ho]
 congr 1
 refine List.map_congr_left fun k hk=>?_
 have hk0:=mem_objs.1 hk
 obtain⟨l,h1,h2⟩:=hr k hk0
 have:l=(s0.obAt k).rf:=by
  refine List.ext_getElem h2 fun j j1 j2=>?_
  have:=e k j hk0
  unfold HL.RF at this
  rw[h1]at this
  simpa[List.getD_eq_getElem?_getD,j1,j2]using this
 rw[h1,this]
theorem bHeap {w:World} {b:Nat} {p:Addr} {cs:List Value} (hb:At w b (.pointer (some p)::cs)):Cs Tryz.prog 26 [.pointer (some ⟨b,0,none⟩)] w fun v w'=>v=.pointer (some p)∧w'=w:=by
 refine enter_barrier_Barrier_Heap rfl ?_
 unfold x_barrier_Barrier_Heap
 (repeat(first|with_reducible(first|refine nx ?_|refine r_6 rfl ?_)|simp only[go_sem]))
 refine callT0 (bMadeS hb) ?_
 (repeat(first|with_reducible(first|refine nx ?_|refine r_6 rfl ?_)|simp only[go_sem,hb.cell]))
theorem law_Log {w:World} {cs:List Value} {g:BG} {vO vD vL vP vN vl:Value} {l:List It} (hg:BegAt w.heap.size w cs g vO vD vL vP vN) (hl:StAt w.heap.size w vl l) (kn:Nat) (hkn:kn<256):
  Cs Tryz.prog 8 [.agg ⟨cs⟩,.int .u8 (kn:Int),vl] w fun v w'=>v=.bool true∧Only [] w w':=by
 have hcs:=hg.e
 obtain⟨k1,k2,k3⟩:=orB kn 32 (.inr (.inr (.inr (.inr rfl))))
 have m64:((kn:Nat):Int).tmod 64=((kn%64:Nat):Int):=tmodN kn 64
 refine enter_law12_BarrierLog rfl ?_
 unfold x_law12_BarrierLog
 (repeat(first|with_reducible(first|refine nx ?_|refine r_6 rfl ?_)|simp only[go_sem]))
 refine boxT fun q w1 hq hs1 hat1 ho1=>?_
 have hz1:=ho1.size
 have hc1:cellsAt w1 ⟨q,0,none⟩ 7=some cs:=by rw[cellsAt_at hat1 0 7 (by rw[hcs];simp),hcs];rfl
 have hg1:=hg.keep0 (Nat.le_refl _) hz1 ho1
 (repeat(first|with_reducible(first|refine nx ?_|refine r_6 rfl ?_)|simp only[go_sem,hc1,conv_u8 kn hkn,m64]))
 generalize hkd:bitI .or .i64 ((kn%64:Nat):Int) 32=kd at*
 refine callT (cWatched hg1 (hl.keep0' (Nat.le_refl _) hz1 ho1) kd 1 k1 k2 (by omega) (by omega)) ?_
 rintro v w2 ⟨a,c,x,hb,s0,s1,t,fa,fc,fx,fh,rfl,wt⟩
 obtain⟨r1,r2,r3⟩:=run_log wt.k0 wt.run k3
 have hlen:=wt.len
 have d1:=wt.d1
 have d2:=wt.d2
 have hge:=wt.ge
 obtain⟨bd,bo,vs,vl',fs,fl,M,hfx,hm⟩:=wt.bar
 have hMl:M.length≤60:=by have:=congrArg List.length hm.eq;simp only[List.length_map]at this;omega
 have hMr: ∀m,m∈M→ ∃k:Nat,m.o=((2*k:Nat):Int)∧s0.st.getD k 0=1∧m.r=(s0.obAt k).rf:=fun m hm'=>r1 m.im (by rw[hm.eq];exact List.mem_map.2 ⟨m,hm',rfl⟩)
 have hMrl: ∀m,m∈M→m.r.length≤1000:=fun m hm'=>by
  obtain⟨k,_,e2,e3⟩:=hMr m hm'
  have:=rf_le wt.k0.ok e2
  rw[e3];omega
 (repeat(first|with_reducible(first|refine nx ?_|refine r_6 rfl ?_)|simp only[go_sem]))
 refine callT (bLog hm.hb hm.hl hm.om (by omega) hMrl) ?_
 rintro v w3 ⟨ho3,M',fp',hs3,him,hok3,hge3⟩
 have hMM:M'.length=M.length:=by have:=congrArg List.length him;simpa using this
 have hM'r: ∀m,m∈M'→ ∃k:Nat,m.o=((2*k:Nat):Int)∧s0.st.getD k 0=1∧m.r=(s0.obAt k).rf:=fun m hm'=>r1 m.im (by rw[hm.eq,←him];exact List.mem_map.2 ⟨m,hm',rfl⟩)
 obtain⟨aL,cL,rfl⟩:=hs3.val
 have ent: ∀i,i<M'.length→ ∃gl,aL=some ⟨gl,0,none⟩∧ ∃k:Nat,(M'.getD i default).o=((2*k:Nat):Int)∧s0.st.getD k 0=1∧ ∀w',Only [] w3 w'→w'.cell? ⟨gl,i*2,none⟩=some (.int .i64 ((2*k:Nat):Int))∧w'.cell? ⟨gl,i*2+1,none⟩=some (M'.getD i default).v∧Sl w' 1 (M'.getD i default).v (s0.obAt k).rf.length (ints (s0.obAt k).rf) (M'.getD i default).f:=fun i c1=>by
  obtain⟨gl,cap,ys,e,hat,efl⟩:=hs3.posZ (by omega)
  cases e
  have hmem:M'.getD i default∈M':=by simp[c1]
  obtain⟨k,e1,e2,e3⟩:=hM'r _ hmem
  have hlen:=lgV_len M'
  have hrow: ∀j,j<2→(lgV M'++ys)[i*2+j]? =(M'.getD i default).V[j]? :=fun j hj=>by
   rw[←lgV_at ys c1,List.getElem?_take,if_pos hj,List.getElem?_drop]
  refine⟨gl,rfl,k,e1,e2,fun w' ho=>⟨?_,?_,?_⟩⟩
  ·have:=hrow 0 (by omega)
   rw[(hat.keep0 ho).cell];rw[Nat.add_zero]at this;rw[this,←e1];rfl
  ·rw[(hat.keep0 ho).cell,hrow 1 (by omega)];rfl
  ·have:=Sl.keep0 (hok3 _ hmem) ho
   rw[e3]at this
   exact this
 obtain⟨_,vOa,_,_,_,_,La,_,ha⟩:=id wt.was
 obtain⟨_,vOc,_,_,_,_,Lc,_,hc⟩:=id wt.now
 obtain⟨la,_⟩:=ha.ob (s0:=s0) rfl
 obtain⟨lc,_⟩:=hc.ob (s0:=s1) rfl
 have hob:s1.objs=s0.objs:=wt.k1.objs
 have hn:=wt.n40
 obtain⟨aa,ca,rfl⟩:=ha.valO
 obtain⟨ac,cc,rfl⟩:=hc.valO
 have o3:Only [] w w3:=(ho1.nil wt.o).nil ho3
 (repeat(first|with_reducible(first|refine nx ?_|refine r_6 rfl ?_)|simp only[go_sem]))
 refine run_loop (11::12::33::34::35::36::37::38::39::40::41::42::43::44::45::46::47::48::49::50::51::52::53::54::55::56::57::58::59::60::61::62::63::64::[]) (fun g w'=> ∃i:Nat,g 11=.int .i64 (i:Int)∧i≤M'.length∧Only [] w3 w') (fun g _=>upTo M'.length 11 g) ⟨0,by simp only[go_sem];rfl,by omega,Only.refl _ _⟩ fun g1 w4 hI hnext=>?_
 obtain⟨i,h11,hi,ho4⟩:=hI
 by_cases c1:i<M'.length
 ·obtain⟨gl,rfl,k,e1,hk,see⟩:=ent i c1
  have ci:(0:Int)≤(i:Int)∧(i:Int)<(M'.length:Int):=by omega
  obtain⟨s1',_,_⟩:=see w4 ho4
  (repeat(first|with_reducible(first|refine nx ?_|refine r_6 rfl ?_)|simp only[go_sem,h11,decide_eq_true ci.2,if_pos ci,Int.toNat_natCast,Nat.add_zero,s1']))
  refine callT0 (fIndex (wt.was.keep0 (ho3.nil ho4)) ((2*k:Nat):Int)) ?_
  obtain⟨q',hq',hqe⟩:=objs_index hk
  rw[abs_ix hq' hqe]
  have od:=(ho3.nil ho4).nil (Only.drew [] w4)
  have had:=ha.keep0 od
  obtain⟨gc,vr,fr,e2,see2⟩:=ha.refs hq'
  cases e2
  obtain⟨_,t5,tsl⟩:=see2 _ od
  obtain⟨_,u5,us⟩:=see _ (ho4.nil (Only.drew [] w4))
  rw[hqe]at tsl
  have cq:(0:Int)≤(q':Int)∧(q':Int)<(La.length:Int):=by omega
  (repeat(first|with_reducible(first|refine nx ?_|refine r_6 rfl ?_)|simp only[go_sem,show ixI (some q')=(q':Int)from rfl,h11,had.hb.cell,decide_eq_false (show¬(q':Int)<0 by omega),if_pos cq,if_pos ci,Int.toNat_natCast,t5,u5]))
  refine callT (cInts tsl us (by have:=rf_le wt.k0.ok hk;omega)) ?_
  rintro _ w5 ⟨rfl,ho5⟩
  (repeat(first|with_reducible(first|refine nx ?_|refine r_6 rfl ?_)|simp only[go_sem,decide_eq_true (rfl:(s0.obAt k).rf=(s0.obAt k).rf),h11,i64_succ i (by omega)]))
  refine hnext _ w5 ?_ ⟨i+1,?_,by omega,(ho4.nil (Only.drew [] w4)).nil ho5⟩ ?_
  ·(repeat(first|with_reducible exact k_1|with_reducible exact Keeps.ovr _ _ _|refine Keeps.put ?_ rfl _|exact k_1|exact Keeps.ovr _ _ _|refine Keeps.ovr2 ?_ rfl _))
  ·simp only[go_sem]
  ·rw[upTo_int (i:=i) h11,upTo_int (k:=.i64) (i:=i+1) (by simp only[go_sem])];omega
 (repeat(first|with_reducible(first|refine nx ?_|refine r_6 rfl ?_)|simp only[go_sem,h11,decide_eq_false (show¬(i:Int)<(M'.length:Int) by omega)]))
 refine run_loop (13::14::15::65::66::67::68::69::70::71::72::73::74::75::76::77::78::79::80::81::82::83::84::85::86::87::88::89::90::91::92::93::94::95::96::97::98::99::100::101::102::103::104::105::106::107::108::109::110::111::112::113::114::115::116::117::118::[]) (fun g w'=> ∃i:Nat,g 13=.int .i64 (i:Int)∧i≤s0.objs.length∧Only [] w3 w') (fun g _=>upTo s0.objs.length 13 g) ⟨0,by simp only[go_sem];rfl,by omega,ho4⟩ fun g2 w5 hI hnext2=>?_
 clear hnext ho4 c1 hi h11
 obtain⟨i,h13,hi,ho5⟩:=hI
 have hcw:=hc.keep0 (ho3.nil ho5)
 by_cases c1:i<s0.objs.length
 ·have ci:(0:Int)≤(i:Int)∧(i:Int)<(Lc.length:Int):=by rw[hob]at lc;omega
  have cia:(0:Int)≤(i:Int)∧(i:Int)<(La.length:Int):=by omega
  obtain⟨gc,vrc,frc,e2,seec⟩:=hc.refs (show i<s1.objs.length by rw[hob];exact c1)
  obtain⟨ga,vra,fra,e3,seea⟩:=ha.refs c1
  cases e2
  cases e3
  obtain⟨k,hkd'⟩: ∃k,k=s0.objs.getD i 0:=⟨_,rfl⟩
  have hk:s0.st.getD k 0=1:=mem_objs.1 (by rw[hkd'];simp[c1])
  rw[hob,←hkd']at seec
  rw[←hkd']at seea
  have aS: ∀j,j<M'.length→((M'.take (j+1)).any fun m=>m.o==((2*k:Nat):Int))=(((M'.take j).any fun m=>m.o==((2*k:Nat):Int))||(M'.getD j default).o==((2*k:Nat):Int)):=fun j hj=>by
   rw[List.take_succ_eq_append_getElem hj,List.any_append];simp[hj]
  (repeat(first|with_reducible(first|refine r_1 ?_|refine r_2 ?_|refine r_4 ?_|refine r_5 ?_|refine r_6 rfl ?_|refine r_7 ?_|refine r_8 ?_|refine r_9 ?_|refine r_0 ?_)|simp only[go_sem,h13,hcw.hb.cell,decide_eq_true ci.2]))
  refine run_block ?_
  (repeat(first|with_reducible(first|refine r_1 ?_|refine r_2 ?_|refine r_4 ?_|refine r_5 ?_|refine r_6 rfl ?_|refine r_7 ?_|refine r_8 ?_|refine r_9 ?_|refine r_0 ?_)|simp only[go_sem]))
  refine run_cut (15::14::74::75::76::77::78::79::80::81::82::83::84::85::86::87::88::89::90::91::92::93::94::95::96::[]) (fun ρ' w'=>ρ' 14=.bool (M'.any fun m=>m.o==((2*k:Nat):Int))∧Only [] w5 w') (fun kk hkk=>?_) (fun g3 w6 hJ=>?_)
  ·(repeat(first|with_reducible(first|refine nx ?_|refine r_6 rfl ?_)|simp only[go_sem]))
   refine run_loop (15::14::74::75::76::77::78::79::80::81::82::83::84::85::86::87::88::89::90::91::92::93::94::95::96::[]) (fun g w'=> ∃j:Nat,g 15=.int .i64 (j:Int)∧j≤M'.length∧g 14=.bool ((M'.take j).any fun m=>m.o==((2*k:Nat):Int))∧Only [] w5 w') (fun g _=>upTo M'.length 15 g) ⟨0,by simp only[go_sem];rfl,by omega,by simp only[go_sem,List.take_zero,List.any_nil],Only.refl _ _⟩ fun g3 w6 hJ hnext3=>?_
   obtain⟨j,h15,hj,h14,ho6⟩:=hJ
   by_cases c2:j<M'.length
   rotate_left
   ·(repeat(first|with_reducible(first|refine nx ?_|refine r_6 rfl ?_)|simp only[go_sem,h15,decide_eq_false (show¬(j:Int)<(M'.length:Int) by omega)]))
    rw[List.take_of_length_le (by omega)]at h14
    refine hkk _ w6 ?_ ⟨?_,ho6⟩
    ·(repeat(first|with_reducible exact k_1|with_reducible exact Keeps.ovr _ _ _|refine Keeps.put ?_ rfl _|exact k_1|exact Keeps.ovr _ _ _|refine Keeps.ovr2 ?_ rfl _))
    ·simp only[go_sem,h14]
   have cj:(0:Int)≤(j:Int)∧(j:Int)<(M'.length:Int):=by omega
   obtain⟨gl,e5,k',e1,hk',see⟩:=ent j c2
   have o6d:=(ho5.nil ho6).nil (Only.drew [] w6)
   obtain⟨t1,_,_⟩:=see _ o6d
   have hcd:=hc.keep0 (ho3.nil o6d)
   obtain⟨u0,_,_⟩:=seec _ (ho3.nil o6d)
   have zz:=i64_succ j (by omega)
   have e1':(M'.getD j default).o=((2*k':Nat):Int):=e1
   have aSj:=aS j c2
   rw[e1']at aSj
   cases hb14:(M'.take j).any fun m=>m.o==((2*k:Nat):Int)with
   |true=>
    rw[hb14]at h14 aSj
    (repeat(first|with_reducible(first|refine nx ?_|refine r_6 rfl ?_)|simp only[go_sem,h15,h14,decide_eq_true cj.2,zz]))
    refine hnext3 _ _ ?_ ⟨j+1,?_,by omega,?_,ho6.nil (Only.drew [] w6)⟩ ?_
    ·(repeat(first|with_reducible exact k_1|with_reducible exact Keeps.ovr _ _ _|refine Keeps.put ?_ rfl _|exact k_1|exact Keeps.ovr _ _ _|refine Keeps.ovr2 ?_ rfl _))
    ·simp only[go_sem]
    ·simp only[go_sem,h14];rw[aSj,Bool.true_or]
    ·rw[upTo_int (i:=j) h15,upTo_int (k:=.i64) (i:=j+1) (by simp only[go_sem])];omega
   |false=>
    rw[hb14]at h14 aSj
    cases e5
    (repeat(first|with_reducible(first|refine nx ?_|refine r_6 rfl ?_)|simp only[go_sem,h13,h15,h14,decide_eq_true cj.2,if_pos cj,if_pos ci,Int.toNat_natCast,Nat.add_zero,t1,hcd.hb.cell,u0,zz]))
    refine hnext3 _ _ ?_ ⟨j+1,?_,by omega,?_,ho6.nil (Only.drew [] w6)⟩ ?_
    ·(repeat(first|with_reducible exact k_1|with_reducible exact Keeps.ovr _ _ _|refine Keeps.put ?_ rfl _|exact k_1|exact Keeps.ovr _ _ _|refine Keeps.ovr2 ?_ rfl _))
    ·simp only[go_sem]
    ·simp only[go_sem];rw[aSj,Bool.false_or]
    ·rw[upTo_int (i:=j) h15,upTo_int (k:=.i64) (i:=j+1) (by simp only[go_sem])];omega
  obtain⟨h14,ho6⟩:=hJ
  have o6d:=(ho5.nil ho6).nil (Only.drew [] w6)
  have hcd:=hc.keep0 (ho3.nil o6d)
  have had:=ha.keep0 (ho3.nil o6d)
  obtain⟨_,u5,us⟩:=seec _ (ho3.nil o6d)
  obtain⟨_,t5,ts⟩:=seea _ (ho3.nil o6d)
  have z1:=i64_succ i (by omega)
  cases hb14:M'.any fun m=>m.o==((2*k:Nat):Int)with
  |true=>
   rw[hb14]at h14
   (repeat(first|with_reducible(first|refine nx ?_|refine r_6 rfl ?_)|simp only[go_sem,h14,h13,z1]))
   refine hnext2 _ _ ?_ ⟨i+1,?_,by omega,o6d⟩ ?_
   ·(repeat(first|with_reducible exact k_1|with_reducible exact Keeps.ovr _ _ _|refine Keeps.put ?_ rfl _|exact k_1|exact Keeps.ovr _ _ _|refine Keeps.ovr2 ?_ rfl _))
   ·simp only[go_sem]
   ·rw[upTo_int (i:=i) h13,upTo_int (k:=.i64) (i:=i+1) (by simp only[go_sem])];omega
  |false=>
   rw[hb14]at h14
   have hsame:s1.obAt k=s0.obAt k:=r3 k hk fun e he h=>by
    rw[hm.eq,←him]at he
    obtain⟨m,hm',rfl⟩:=List.mem_map.1 he
    have:=List.any_eq_false.1 hb14 m hm'
    exact this (by simp only[beq_iff_eq];exact h)
   rw[hsame]at us
   (repeat(first|with_reducible(first|refine nx ?_|refine r_6 rfl ?_)|simp only[go_sem,h14,h13,hcd.hb.cell,had.hb.cell,if_pos ci,if_pos cia,Int.toNat_natCast,u5,t5]))
   refine callT (cInts us ts (by have:=rf_le wt.k0.ok hk;omega)) ?_
   rintro _ w7 ⟨rfl,ho7⟩
   (repeat(first|with_reducible(first|refine nx ?_|refine r_6 rfl ?_)|simp only[go_sem,decide_eq_true (rfl:(s0.obAt k).rf=(s0.obAt k).rf),h13,z1]))
   refine hnext2 _ _ ?_ ⟨i+1,?_,by omega,o6d.nil ho7⟩ ?_
   ·(repeat(first|with_reducible exact k_1|with_reducible exact Keeps.ovr _ _ _|refine Keeps.put ?_ rfl _|exact k_1|exact Keeps.ovr _ _ _|refine Keeps.ovr2 ?_ rfl _))
   ·simp only[go_sem]
   ·rw[upTo_int (i:=i) h13,upTo_int (k:=.i64) (i:=i+1) (by simp only[go_sem])];omega
 (repeat(first|with_reducible(first|refine nx ?_|refine r_6 rfl ?_)|simp only[go_sem,h13,hcw.hb.cell,decide_eq_false (show¬(i:Int)<(Lc.length:Int) by rw[hob]at lc;omega)]))
 have o25:=ho3.nil ho5
 refine callT (bUndo (hm.keep0 o25) (wt.h.keep0 o25) wt.k1 r2 hMr wt.k0 wt.sn (by omega) fun y hy h=>(d1 y hy).1 (by rw[hfx];exact h)) ?_
 rintro _ w6 ⟨⟨n,rfl⟩,s2,w6',up,_,hh6,hb6,ho6⟩
 have lfh:=(wt.h.keep0 o25).lt
 have hbx:x∈fx:=by rw[hfx];simp
 have o56:Only (x::fh) w5 w6:=(up.o.weak fun y hy=>List.mem_cons_of_mem _ hy).same (ho6.weak fun y hy=>by simp only[List.mem_singleton]at hy;simp[hy])
 have hfa6:FM w6 a s0.abs fa:=(wt.was.keep0 o25).keep o56 fun y hy h=>by
  rcases List.mem_cons.1 h with rfl|h
  ·exact(d2 y hbx).1 hy
  ·exact(d1 y h).2.1 hy
 (repeat(first|with_reducible(first|refine nx ?_|refine r_6 rfl ?_)|simp only[go_sem,bne_int_false (rfl:(0:Int)=0)]))
 refine callT (bLog (M:=[]) hb6 ⟨rfl,.inl ⟨rfl,rfl,rfl⟩⟩ (fun m hm=>absurd hm (by simp)) (by simp) fun m hm=>absurd hm (by simp)) ?_
 rintro v w7 ⟨ho7,M2,fp2,hs7,him2,_,_⟩
 have hM2:M2=[]:=List.map_eq_nil_iff.1 him2
 subst hM2
 obtain⟨a7,c7,rfl⟩:=hs7.val
 (repeat(first|with_reducible(first|refine nx ?_|refine r_6 rfl ?_)|simp only[go_sem,bne_int_false (show(([]:List LM).length:Int)=0 from rfl),bne_int_false (show((0:Nat):Int)=0 from rfl)]))
 refine callT0 (bHeap (hb6.keep0 ho7)) ?_
 (repeat(first|with_reducible(first|refine nx ?_|refine r_6 rfl ?_)|simp only[go_sem]))
 refine callT (cRead (hh6.keep0 ho7) up.a.inv) ?_
 rintro v w8 ⟨ho8,c8,fc8,rfl,hc8,_⟩
 (repeat(first|with_reducible(first|refine nx ?_|refine r_6 rfl ?_)|simp only[go_sem]))
 have habs:s2.abs=s0.abs:=abs_eq up.a up.r fun k j hk=>by
  by_cases hlg: ∃m,m∈M∧m.o=((2*k:Nat):Int)
  ·obtain⟨m,h1,h2⟩:=hlg
   exact up.d m h1 k h2 j
  ·rcases up.e k j hk with h|h
   ·exact h
   ·rw[h]
    unfold HL.RF
    rw[r3 k hk fun e he h'=>hlg (by rw[hm.eq]at he;obtain⟨m,h1,rfl⟩:=List.mem_map.1 he;exact⟨m,h1,h'⟩)]
 rw[habs]at hc8
 refine callT (cSameHeap hc8 (hfa6.keep0 (ho7.nil ho8)) (by rw[abs_len];omega) fun o ho=>?_) ?_
 ·simp only[HL.abs,List.mem_map]at ho
  obtain⟨k,hk,rfl⟩:=ho
  have hk:=mem_objs.1 hk
  obtain⟨e1,e2,e3⟩:=obAt_len wt.k0.ok hk
  have:=rf_le wt.k0.ok hk
  obtain⟨_,w1,_,w2⟩:=words_le e3
  refine⟨by omega,by omega⟩
 rintro _ w9 ⟨rfl,ho9⟩
 (repeat(first|with_reducible(first|refine nx ?_|refine r_6 rfl ?_)|simp only[go_sem]))
 refine callT (law_awake w9) ?_
 rintro v w10 ⟨rfl,ho10⟩
 (repeat(first|with_reducible(first|refine nx ?_|refine r_6 rfl ?_)|simp only[go_sem]))
 have o26:Only [] w w6:=(o3.nil ho5).trans o56 fun y hy=>.inr (by
  have:=ho1.size
  rcases List.mem_cons.1 hy with rfl|h
  ·have:=hge y (by simp[hbx]);omega
  ·have:=hge y (by simp[h]);omega)
 exact(((o26.nil ho7).nil ho8).nil ho9).nil ho10
end Go.Proofs.YtgcofabdialaaaaGreat
end
section
namespace Go.Proofs.YtgcofabdialaaaaGreat
open Go.ChangeShapes Go.WideShapes Go.ChangeAt Go.RowKit
section
variable {H:Type} {enc:TypeId×Value→H} {P:Program}
theorem trodAll_below (hl:laidOutB P=true) {W W':World} (hb:Below W.heap.size W W'): ∀(ts:List TypeId) (vs:List Value) (ds:List (DataW H)) (ps:List MemPlace),(ts.all fun t=>P.readableRec t&&decide (t<P.types.size))=true→
  DataW.TrodAll enc P W 0 (fun _=>true) true ts vs ds ps→(∀x∈ps,x.block<W.heap.size)→DataW.TrodAll enc P W' 0 (fun b=>decide (b<W.heap.size)) true ts vs ds ps
 | [],[],[],_,_,h,_=>h
 | [],_::_,_,_,_,h,_=>h.elim
 | [],[],_::_,_,_,h,_=>h.elim
 |_::_,[],_,_,_,h,_=>by cases h
 |_::_,_::_,[],_,_,h,_=>by cases h
 |t::ts,v::vs,d::ds,ps,hc,h,hlt=>by
  obtain⟨p,q,h1,h2,rfl⟩:=h
  simp only[List.all_cons,Bool.and_eq_true,decide_eq_true_eq]at hc
  exact⟨p,q,Below.trod hl hc.1.1 hc.1.2 h1 hb (fun x hx=>hlt x (List.mem_append_left _ hx)),trodAll_below hl hb ts vs ds q hc.2 h2 (fun x hx=>hlt x (List.mem_append_right _ hx)),rfl⟩
theorem law_post {f:Func} {s:ChangeSpec} {W W':World} {args:Array Value} {ds:List (DataW H)} {p:List MemPlace} {b:TypeId} (hl:laidOutB P=true) (hc:(f.params.toList.all fun t=>P.readableRec t&&decide (t<P.types.size))=true)
  (hv:s.vars=[]) (hW:DataW.Whole enc P f.params.toList s.vars false W args.toList ds [] (p++[])) (hA:DataW.TrodAll enc P W 0 (fun _=>true) true f.params.toList args.toList ds p)
  (hs:s.fn H (ds++[])= {results:=[.lit (.bool true)],args:=ds}) (hr:f.resultTypes=#[b]) (hbt:P.underlying b=some .bool) (hb:Below W.heap.size W W'):
  s.post enc P f false true false false W args (.bool true) W':=by
 have hlt: ∀x∈p,x.block<W.heap.size:=fun x hx=>hW.lt x (List.mem_append_left _ hx)
 refine⟨ds,[],p++[],[],p,[],hW,?_,?_,?_,hb.frame _,fun h=>by cases h⟩
 ·rw[hs,hr]
  exact trodAll_mk1 (shut_bool hbt true)
 ·rw[hs]
  exact trodAll_below hl hb _ _ _ _ hc hA hlt
 ·rw[hs,hv];rfl
end
theorem law_end {P:Program} {f:FuncId} {args:List Value} {W:World} {Q:Value→World→Prop} (h:Cs P f args W fun r W'=>r=.bool true∧Only [] W W') (hq: ∀W',Below W.heap.size W W'→Q (.bool true) W'):
  Cs P f args W Q:=h.mono fun r W' ⟨e,ho⟩=>by rw[e];exact hq W' (ho.below (by simp))
end Go.Proofs.YtgcofabdialaaaaGreat
end
section
namespace Go.Proofs.YtgcofabdialaaaaGreat
open Go.ChangeShapes Go.WideShapes Go.ChangeAt Go.RowKit Go.Deep
theorem Tryz.own:ownKnob Tryz.prog.godebug=none:=by kernel_rfl
theorem Tryz.laidOut:laidOutB Tryz.prog=true:=by kernel_rfl
end Go.Proofs.YtgcofabdialaaaaGreat
end
section
namespace Go.Proofs.YtgcofabdialaaaaGreat
open Go.ChangeShapes Go.WideShapes Go.ChangeAt Go.RowKit Go.Deep
set_option maxRecDepth 100000
theorem cellsAt_of12 {w:World} {base:Nat} {a:Addr} {n:Nat} {cs:List Value} (h:w.cells? base a n=some cs):cs.length=n∧ ∀i,i<n→w.cell? (a.add i)=cs[i]? :=by
 obtain⟨_,hl,hc⟩:=World.cells?_some h
 exact⟨hl,fun i hi=>by rw[hc i hi]⟩
theorem choose_lt12 {α:Type} [Inhabited α] {n:Nat} {p:Nat→α→Prop} (h: ∀i,i<n→ ∃x,p i x): ∃F:Nat→α,∀i,i<n→p i (F i):=by
 refine⟨fun i=>if hi:i<n then Classical.choose (h i hi)else default,fun i hi=>?_⟩
 simp only[hi,dif_pos]
 exact Classical.choose_spec (h i hi)
theorem open_u8 {H:Type} {enc:TypeId×Value→H} {w:World} {base:Nat} {spare:Nat→Bool} {held:Bool} {n:Nat} {cs:List Value} {x:DataW H×List MemPlace} (h:DataW.trod enc Tryz.prog w base spare held n 5 cs=some x): ∃k:Nat,cs=[u8V k]∧k<256:=by
 obtain⟨k,e,_,hw⟩:=DataW.trod_int Tryz.underlying5 h
 have hb:=bounds_u8 hw
 exact⟨k.toNat,by rw[e];unfold u8V;rw[Int.toNat_of_nonneg hb.1],by omega⟩
theorem Tryz.cells12u8:Tryz.prog.cellsOf 5=1:=by kernel_rfl
theorem open_u8a {H:Type} {enc:TypeId×Value→H} {w:World} {base:Nat} {spare:Nat→Bool} {held:Bool} {m n:Nat} {ty:TypeId} {cs:List Value} {x:DataW H×List MemPlace} (ha:Tryz.prog.underlying ty=some (.array n 5)) (h:DataW.trod enc Tryz.prog w base spare held m ty cs=some x):
  ∃f:Nat→Nat,∀j,j<n→cs[j]? =some (u8V (f j))∧f j<256:=by
 obtain⟨xs,m',_,_,_,hxl,hx⟩:=DataW.trod_array ha h
 refine choose_lt12 (p:=fun j k=>cs[j]? =some (u8V k)∧k<256) fun j hj=>?_
 have h1:=hx j hj
 rw[Tryz.cells12u8,List.getElem?_eq_getElem (by omega),Nat.mul_one]at h1
 obtain⟨k,e,hk⟩:=open_u8 h1
 refine⟨k,?_,hk⟩
 have:((cs.drop j).take 1)[0]? =some (u8V k):=by rw[e];rfl
 rw[List.getElem?_take,if_pos (by omega),List.getElem?_drop]at this
 simpa using this
theorem open_u8s {H:Type} {enc:TypeId×Value→H} {W:World} {m n:Nat} {st ty:TypeId} {cs:List Value} {x:DataW H×List MemPlace} (hs:Tryz.prog.underlying st=some (.slice ty)) (ha:Tryz.prog.underlying ty=some (.array n 5)) (hn:Tryz.prog.cellsOf ty=n) (hn0:0<n) (h:DataW.trod enc Tryz.prog W 0 (fun _=>true) true m st cs=some x):
  ∃(v:Value) (len:Nat) (f:Nat→Nat→Nat),cs=[v]∧U8At W.heap.size W v len n f:=by
 rcases open_slice hs h with⟨e,_⟩|⟨a,len,cap,m',n',D,Pl,e,_,hle,hcap,hm,_,hel⟩
 ·exact⟨_,0,fun _ _=>0,e,none,0,rfl,fun _ _=>by dsimp only;omega,fun i hi=>by omega⟩
 ·rw[if_pos rfl]at hm
  obtain⟨F,hF⟩:=choose_lt12 (α:=Nat→Nat) (n:=len) (p:=fun i f=> ∀j,j<n→W.cell? ((a.add (i*n)).add j)=some (u8V (f j))∧f j<256) fun i hi=>by
   obtain⟨cs',h1,h2⟩:=hel i (by omega)
   rw[hn]at h1
   obtain⟨hl1,hc1⟩:=cellsAt_of12 h1
   obtain⟨f,hf⟩:=open_u8a ha h2
   exact⟨f,fun j hj=>by rw[hc1 j hj];exact hf j hj⟩
  refine⟨_,len,fun i j=>if i<len∧j<n then F i j else 0,e,some a,cap,rfl,fun i j=>?_,fun i hi=>⟨a,rfl,?_,fun j hj=>?_⟩⟩
  ·dsimp only
   split
   ·rename_i hc;exact(hF i hc.1 j hc.2).2
   ·omega
  ·have:=cell_lt (hF i hi 0 hn0).1
   rwa[add_block,add_block]at this
  ·dsimp only;rw[if_pos ⟨hi,hj⟩];exact(hF i hi j hj).1
theorem open_u8l {H:Type} {enc:TypeId×Value→H} {W:World} {m:Nat} {st:TypeId} {cs:List Value} {x:DataW H×List MemPlace} (hs:Tryz.prog.underlying st=some (.slice 5)) (h:DataW.trod enc Tryz.prog W 0 (fun _=>true) true m st cs=some x):
  ∃(v:Value) (len:Nat) (f:Nat→Nat→Nat),cs=[v]∧U8At W.heap.size W v len 1 f:=by
 rcases open_slice1 hs Tryz.cells12u8 h with⟨e,_⟩|⟨a,len,cap,m',n',V,D,Pl,e,_,hle,hcap,hm,_,hel⟩
 ·exact⟨_,0,fun _ _=>0,e,none,0,rfl,fun _ _=>by dsimp only;omega,fun i hi=>by omega⟩
 ·rw[if_pos rfl]at hm
  obtain⟨F,hF⟩:=choose_lt12 (α:=Nat) (n:=len) (p:=fun i k=>W.cell? (a.add i)=some (u8V k)∧k<256) fun i hi=>by
   obtain⟨h1,h2⟩:=hel i (by omega)
   obtain⟨k,e2,hk⟩:=open_u8 h2
   simp only[List.cons.injEq,and_true]at e2
   exact⟨k,by rw[h1,e2],hk⟩
  refine⟨_,len,fun i _=>if i<len then F i else 0,e,some a,cap,rfl,fun i j=>?_,fun i hi=>⟨a,rfl,?_,fun j hj=>?_⟩⟩
  ·dsimp only
   split
   ·rename_i hc;exact(hF i hc).2
   ·omega
  ·have:=cell_lt (hF i hi).1
   rwa[add_block]at this
  ·obtain rfl:j=0:=by omega
   dsimp only;rw[if_pos hi,Nat.mul_one];exact(hF i hi).1
theorem Tryz.cells12b:Tryz.prog.cellsOf 27=7:=by kernel_rfl
theorem Tryz.cells12o:Tryz.prog.cellsOf 22=1:=by kernel_rfl
theorem Tryz.cells12d:Tryz.prog.cellsOf 23=1:=by kernel_rfl
theorem Tryz.cells12l:Tryz.prog.cellsOf 24=1:=by kernel_rfl
theorem Tryz.cells12p:Tryz.prog.cellsOf 25=1:=by kernel_rfl
theorem open_begin {H:Type} {enc:TypeId×Value→H} {W:World} {v:Value} {d:DataW H} {ps:List MemPlace} {r:Reach} {b0:Nat} (hval:Value.okWide Tryz.prog W r b0 27 v) (h:DataW.Trod enc Tryz.prog W 0 (fun _=>true) true 27 v d ps):
  ∃(cs:List Value) (g:BG) (vO vD vL vP vN:Value),v=.agg ⟨cs⟩∧BegAt W.heap.size W cs g vO vD vL vP vN:=by
 obtain⟨⟨cs⟩,rfl,_⟩:=okWide_struct Tryz.underlying27 hval
 obtain⟨fuel,h⟩:=h
 obtain⟨xs,n,_,_,hl,hlen,hf⟩:=DataW.trod_struct Tryz.underlying27 h
 rw[Tryz.cells12b]at hl
 match xs,hlen with
 | [y0,y1,y2,y3,y4,y5,y6],_=>
 have g0:=by simpa using hf 0 _ rfl
 have g1:=by simpa using hf 1 _ rfl
 have g2:=by simpa using hf 2 _ rfl
 have g3:=by simpa using hf 3 _ rfl
 have g4:=by simpa using hf 4 _ rfl
 have g5:=by simpa using hf 5 _ rfl
 have g6:=by simpa using hf 6 _ rfl
 match cs,hl with
 | [c0,c1,c2,c3,c4,c5,c6],_=>
  obtain⟨k0,e0,l0⟩:=open_u8 g0
  obtain⟨k1,e1,l1⟩:=open_u8 g1
  obtain⟨vO,nO,fO,e2,hO⟩:=open_u8s Tryz.underlying22 Tryz.underlying141 (by kernel_rfl) (by omega) g2
  obtain⟨vD,nD,fD,e3,hD⟩:=open_u8l Tryz.underlying23 g3
  obtain⟨vL,nL,fL,e4,hL⟩:=open_u8s Tryz.underlying24 Tryz.underlying142 (by kernel_rfl) (by omega) g4
  obtain⟨vP,nP,fP,e5,hP⟩:=open_u8s Tryz.underlying25 Tryz.underlying144 (by kernel_rfl) (by omega) g5
  obtain⟨vN,nN,fN,e6,hN⟩:=open_u8l Tryz.underlying23 g6
  simp only[Tryz.cells12u8,Tryz.cells12o,Tryz.cells12d,Tryz.cells12l,Tryz.cells12p,Value.cells,List.tail_cons,List.drop_zero,List.take_succ_cons,List.take_zero,List.drop_succ_cons,List.cons.injEq,and_true]at e0 e1 e2 e3 e4 e5 e6
  exact⟨_,⟨k0,k1,nO,nD,nL,nP,nN,fO,fD,fL,fP,fN⟩,vO,vD,vL,vP,vN,rfl,by rw[e0,e1,e2,e3,e4,e5,e6],l0,l1,hO,hD,hL,hP,hN⟩
theorem Tryz.cells12s:Tryz.prog.cellsOf 51=4:=by kernel_rfl
theorem Tryz.cells12t:Tryz.prog.cellsOf 4=1:=by kernel_rfl
theorem open_stored {H:Type} {enc:TypeId×Value→H} {W:World} {v:Value} {d:DataW H} {ps:List MemPlace} {r:Reach} {b0:Nat} (hval:Value.okWide Tryz.prog W r b0 28 v) (h:DataW.Trod enc Tryz.prog W 0 (fun _=>true) true 28 v d ps):
  ∃l:List It,StAt W.heap.size W v l:=by
 obtain⟨a0,len0,cap0,rfl⟩:=okWide_slice Tryz.underlying28 hval
 obtain⟨fuel,h⟩:=h
 rcases open_slice Tryz.underlying28 h with⟨e,_⟩|⟨a,len,cap,m,n,D,Pl,e,_,hle,hcap,hm,_,hel⟩
 ·simp only[Value.cells,List.cons.injEq,and_true]at e
  exact⟨[],none,0,e,fun i hi=>by simp at hi⟩
 ·simp only[Value.cells,List.cons.injEq,and_true]at e
  rw[if_pos rfl]at hm
  obtain⟨F,hF⟩:=choose_lt12 (α:=It) (n:=len) (p:=fun i (x:It)=>x.1<256∧x.2.1<256∧x.2.2.1<256∧W.cell? (a.add (i*4))=some (u8V x.1)∧W.cell? ((a.add (i*4)).add 1)=some (u8V x.2.1)∧W.cell? ((a.add (i*4)).add 2)=some (u8V x.2.2.1)∧W.cell? ((a.add (i*4)).add 3)=some (.bool x.2.2.2)) fun i hi=>by
   obtain⟨cs',h1,h2⟩:=hel i (by omega)
   rw[Tryz.cells12s]at h1
   obtain⟨hl1,hc1⟩:=cellsAt_of12 h1
   obtain⟨xs,n',_,_,hl,hlen,hf⟩:=DataW.trod_struct Tryz.underlying51 h2
   match xs,hlen with
   | [y0,y1,y2,y3],_=>
   have g0:=by simpa using hf 0 _ rfl
   have g1:=by simpa using hf 1 _ rfl
   have g2:=by simpa using hf 2 _ rfl
   have g3:=by simpa using hf 3 _ rfl
   match cs',hl1 with
   | [c0,c1,c2,c3],_=>
    obtain⟨k0,e0,l0⟩:=open_u8 g0
    obtain⟨k1,e1,l1⟩:=open_u8 g1
    obtain⟨k2,e2,l2⟩:=open_u8 g2
    obtain⟨k3,e3,_⟩:=DataW.trod_bool Tryz.underlying4 g3
    simp only[Tryz.cells12u8,Tryz.cells12t,List.tail_cons,List.drop_zero,List.take_succ_cons,List.take_zero,List.drop_succ_cons,List.cons.injEq,and_true]at e0 e1 e2 e3
    refine⟨(k0,k1,k2,k3),l0,l1,l2,?_,?_,?_,?_⟩
    ·have:=hc1 0 (by omega);simpa[e0,Addr.add]using this
    ·have:=hc1 1 (by omega);rw[this,e1];rfl
    ·have:=hc1 2 (by omega);rw[this,e2];rfl
    ·have:=hc1 3 (by omega);rw[this,e3];rfl
  refine⟨(List.range len).map F,some a,cap,by rw[e];simp,fun i hi=>?_⟩
  have hi:i<len:=by simpa using hi
  have hg:((List.range len).map F).getD i default=F i:=by simp[hi]
  rw[hg]
  refine⟨a,rfl,?_,hF i hi⟩
  have:=cell_lt (hF i hi).2.2.2.1
  rwa[add_block]at this
theorem open_u8v {H:Type} {enc:TypeId×Value→H} {W:World} {v:Value} {d:DataW H} {ps:List MemPlace} {r:Reach} {b0:Nat} (hval:Value.okWide Tryz.prog W r b0 5 v) (h:DataW.Trod enc Tryz.prog W 0 (fun _=>true) true 5 v d ps): ∃k:Nat,v=.int .u8 (k:Int)∧k<256:=by
 obtain⟨n,rfl,_,_,hw⟩:=open_int Tryz.underlying5 hval h
 have hb:=bounds_u8 hw
 exact⟨n.toNat,by rw[Int.toNat_of_nonneg hb.1],by omega⟩
end Go.Proofs.YtgcofabdialaaaaGreat
end
section
namespace Go.Proofs.YtgcofabdialaaaaGreat
open Go.ChangeShapes Go.WideShapes Go.ChangeAt Go.RowKit
set_option maxRecDepth 100000 in
theorem barrierLog_lifted (os:Os) (started:os.Started) (H:Type) (enc:TypeId×Value→H):
  ReturnsInHanded {} Tryz.checked os 8 .any (Rows.barrierLogSpec.pre6 enc Tryz.prog Tryz.f8 Rows.barrierLogRow.domain false) (Rows.barrierLogSpec.post enc Tryz.prog Tryz.f8 false true false false):=by
 refine returnsInHanded_of_change (C:=Tryz.checked) Tryz.own started (by kernel_rfl) Tryz.func8
  (ChangeSpec.witness6 (enc:=enc) (C:=Tryz.checked) false ⟨#[],#[.agg #[.int .u8 0,.int .u8 0,.slice none 0 0,.slice none 0 0,.slice none 0 0,.slice none 0 0,.slice none 0 0],.int .u8 0,.slice none 0 0],[]⟩ 8 (by kernel_rfl) (by kernel_rfl) (by kernel_rfl) (by kernel_rfl)) ?_
 intro W base args ds gs before hval0 hW hcnd _
 have hval: ∀(j:Nat) t v,Tryz.f8.params[j]? =some t→args[j]? =some v→Value.okWide Tryz.prog W .any base t v:=hval0
 have hW':=hW
 obtain⟨p,q,hA0,hV,rfl,hfz,hnd⟩:=hW
 have hA:DataW.TrodAll enc Tryz.prog W 0 (fun _=>true) true Tryz.f8.params.toList args.toList ds p:=hA0
 have hA1:=hA
 obtain⟨rfl,rfl⟩:=trodVars_none hV
 rw[Tryz.params8]at hA hval
 obtain⟨v0,vs0,d0,ds0,p0,q0,hargs,rfl,rfl,h0,r0⟩:=trodAll_cons hA
 obtain⟨v1,vs1,d1,ds1,p1,q1,rfl,rfl,rfl,h1,r1⟩:=trodAll_cons r0
 obtain⟨v2,vs2,d2,ds2,p2,q2,rfl,rfl,rfl,h2,r2⟩:=trodAll_cons r1
 obtain⟨rfl,rfl,rfl⟩:=trodAll_nil r2
 obtain⟨args⟩:=args
 simp only at hargs
 subst hargs
 obtain⟨cs0,g0,wO0,wD0,wL0,wP0,wN0,rfl,hl0⟩:=open_begin (hval 0 27 v0 rfl rfl) h0
 obtain⟨x1,rfl,hx1⟩:=open_u8v (hval 1 5 v1 rfl rfl) h1
 obtain⟨l2,hl2⟩:=open_stored (hval 2 28 v2 rfl rfl) h2
 exact law_end (law_Log hl0 hl2 x1 hx1) fun W' hb=>law_post (b:=4) Tryz.laidOut (by kernel_rfl) rfl hW' hA1 rfl (by kernel_rfl) Tryz.underlying4 hb
theorem YtgcofabdialaaaaGreatBarrierLog:Rows.BarrierLogSaid:=
 OpenClaim.holds_of_wide 8 Tryz.f8 rfl rfl rfl rfl rfl rfl rfl ⟨rfl,rfl,rfl,rfl,rfl⟩ rfl rfl rfl rfl rfl (by kernel_rfl) Tryz.func8 (by kernel_rfl)
  (of_decide_eq_true (by kernel_rfl)) (by unfold Func.isWrapper;first|(rw[if_pos (by decide+kernel)];kernel_rfl)|(rw[if_neg (by decide+kernel)];exact⟨rfl,rfl⟩))
  (fun os started H enc _=>barrierLog_lifted os started H enc)
end Go.Proofs.YtgcofabdialaaaaGreat
end
