/- The law BarrierSnapshot: whatever comes in, it returns true, and what came in reads as it did. -/
import Derived.Test.YtgcofabdialaaaaGreatZPk3
import Derived.ChangeSlices
import Derived.ProofKit
import Derived.Deep.Slices
import Derived.Lib.SmallJoins
import Derived.Test.YtgcofabdialaaaaGreatRows
import Derived.OpenShut
import Derived.Deep.Strs
set_option linter.unusedSimpArgs false
set_option linter.unusedVariables false
section
namespace Go.Proofs.YtgcofabdialaaaaGreat
set_option maxRecDepth 8000
theorem SCs.bothR {w w1 w2:World} {b hb rb qb kb:Nat} {s:HL} {R R':Rt.MS} {fh fr ff fk fr' fk':List Nat} (h:SCs w b hb rb qb kb s R fh fr ff fk) (o1:Only fk w w1) (hk:Rt.RR w1 (some ⟨kb,0,none⟩) fk' (some R')) (sk: ∀x,x∈fk'→x∈fk∨w.heap.size≤x)
  (o2:Only fr w1 w2) (hr:Rt.PR w2 (some ⟨rb,0,none⟩) fr' (some R')) (sr: ∀x,x∈fr'→x∈fr∨w1.heap.size≤x):
  SCs w2 b hb rb qb kb s R' fh fr' ff fk'∧Only (b::(fh++(fr++(ff++fk)))) w w2∧ ∀x,x∈b::(fh++(fr'++(ff++fk')))→x∈b::(fh++(fr++(ff++fk)))∨w.heap.size≤x:=by
 have lt:=h.lt
 have hz:=o1.size
 have nk: ∀x,x∉fk→x<w.heap.size→x∉fk':=fun x q1 q2 q3=>by rcases sk x q3 with h4|h4;exact q1 h4;omega
 have nr: ∀x,x∉fr→x<w.heap.size→x∉fr':=fun x q1 q2 q3=>by rcases sr x q3 with h4|h4;exact q1 h4;omega
 have hkl:=hk.lt
 have krd: ∀x,x∈fk'→x∉fr:=fun x q1 q2=>by
  rcases sk x q1 with h4|h4
  ·exact(h.d3 x q2).2 h4
  ·have:=lt x (by simp[q2]);omega
 refine⟨⟨(h.at_.keep o1 h.d1.2.2.2).keep o2 h.d1.2.1,h.inv,(h.h.keep o1 fun x hx=>(h.d2 x hx).2.2).keep o2 fun x hx=>(h.d2 x hx).1,hr,(h.f.keep o1 fun x hx=>h.d4 x hx).keep o2 fun x hx hx2=>(h.d3 x hx2).1 hx,hk.keep o2 krd,
  ⟨h.d1.1,nr b h.d1.2.1 (lt b (by simp)),h.d1.2.2.1,nk b h.d1.2.2.2 (lt b (by simp))⟩,fun x hx=>⟨nr x (h.d2 x hx).1 (lt x (by simp[hx])),(h.d2 x hx).2.1,nk x (h.d2 x hx).2.2 (lt x (by simp[hx]))⟩,fun x hx=>⟨fun hx2=>?_,fun hx2=>?_⟩,fun x hx=>nk x (h.d4 x hx) (lt x (by simp[hx]))⟩,?_,?_⟩
 ·rcases sr x hx with h4|h4
  ·exact(h.d3 x h4).1 hx2
  ·have:=lt x (by simp[hx2]);omega
 ·rcases sr x hx with h4|h4
  ·exact krd x hx2 h4
  ·have:=hkl x hx2;omega
 ·exact(o1.weak fun x hx=>by simp[hx]).same (o2.weak fun x hx=>by simp[hx])
 ·intro x hx
  simp only[List.mem_cons,List.mem_append]at hx⊢
  rcases hx with rfl|hx|hx|hx|hx
  ·simp
  ·simp[hx]
  ·rcases sr x hx with h4|h4
   ·simp[h4]
   ·exact .inr (by omega)
  ·simp[hx]
  ·rcases sk x hx with h4|h4
   ·simp[h4]
   ·exact .inr h4
def whereP (R:Rt.MS) (n:Nat):Rt.PT:=
 if n%40<24 then(0,((n%40%R.M:Nat):Int),((n%40/4:Nat):Int))else if n%40<36 then(1,0,((n%40-24:Nat):Int))else(2,0,((n%40-36:Nat):Int))
theorem SCs.Rok {w:World} {b hb rb qb kb:Nat} {s:HL} {R:Rt.MS} {fh fr ff fk:List Nat} (h:SCs w b hb rb qb kb s R fh fr ff fk):R.Ok:=by
 obtain⟨_,_,_,_,_,_,_,_,_,_,hm⟩:=h.k
 exact hm.ok
theorem cWhere {w:World} {b hb rb qb kb:Nat} {s:HL} {R:Rt.MS} {fh fr ff fk:List Nat} (h:SCs w b hb rb qb kb s R fh fr ff fk) (n:Nat) (hn:n<100000):Cs Tryz.prog 157 [.pointer (some ⟨b,0,none⟩),.int .i64 (n:Int)] w fun v w'=>v=.agg ⟨Rt.plV (whereP R n)⟩∧Only [] w w':=by
 have hM:=h.Rok.m1
 have e0:max (n:Int) 0=(n:Int):=by omega
 have e1:((n:Int).tmod 40)=((n%40:Nat):Int):=tmodN n 40
 refine enter_law12_Scene_Where rfl ?_
 unfold x_law12_Scene_Where
 (repeat(first|with_reducible(first|refine nx ?_|refine r_6 rfl ?_)|simp only[go_sem]))
 refine boxT fun q w1 hq hs1 hat1 ho1=>?_
 have h1:=h.keep0 ho1
 have fin: ∀(w2:World),Only [q] w1 w2→Only [] w w2:=fun w2 o=>ho1.trans o fun x hx=>by simp only[List.mem_singleton]at hx;subst hx;exact .inr (by omega)
 (repeat(first|with_reducible(first|refine nx ?_|refine r_6 rfl ?_)|simp only[go_sem,e0,e1]))
 by_cases c1:n%40<24
 ·have e2:((n%40:Nat):Int).tmod (R.M:Int)=((n%40%R.M:Nat):Int):=tmodN _ _
  have e3:IntKind.i64.wrap (((n%40:Nat):Int).tdiv 4)=((n%40/4:Nat):Int):=by
   rw[Int.tdiv_eq_ediv_of_nonneg (by omega),IntWalk.i64_in _ (by omega)];omega
  have hM0:(Rt.mutO (some R))=(R.M:Int):=rfl
  have hw:whereP R n=(0,((n%40%R.M:Nat):Int),((n%40/4:Nat):Int)):=by unfold whereP;rw[if_pos c1]
  (repeat(first|with_reducible(first|refine nx ?_|refine r_6 rfl ?_)|simp only[go_sem,decide_eq_true (show((n%40:Nat):Int)<24 by omega),h1.at_.cell]))
  refine callT0 (Rt.rMutators h1.k) ?_
  rw[hM0]
  (repeat(first|with_reducible(first|refine nx ?_|refine r_6 rfl ?_)|simp only[go_sem,divO_of (show(R.M:Int)≠0 by omega) (.int .i64 ((n%40%R.M:Nat):Int)),e2,e3]))
  rw[fillL_one rfl rfl,fillL_one rfl rfl,fillL_one rfl rfl]
  (repeat(first|with_reducible(first|refine nx ?_|refine r_6 rfl ?_)|simp only[go_sem]))
  refine stNT hat1 rfl (by simp) (by simp[oneC]) fun w2 hs2 hat2 ho2=>?_
  have hat2':At w2 q (Rt.plV (whereP R n)):=by rw[hw];simpa[Rt.plV,setL]using hat2
  have hc:cellsAt w2 ⟨q,0,none⟩ 3=some (Rt.plV (whereP R n)):=cellsAt_at hat2' 0 3 (by simp[Rt.plV])
  (repeat(first|with_reducible(first|refine nx ?_|refine r_6 rfl ?_)|simp only[go_sem,hc]))
  exact fin w2 ho2
 by_cases c2:n%40<36
 ·have e3:IntKind.i64.wrap (((n%40:Nat):Int)-24)=((n%40-24:Nat):Int):=by rw[IntWalk.i64_in _ (by omega)];omega
  have hw:whereP R n=(1,0,((n%40-24:Nat):Int)):=by unfold whereP;rw[if_neg c1,if_pos c2]
  (repeat(first|with_reducible(first|refine nx ?_|refine r_6 rfl ?_)|simp only[go_sem,decide_eq_false (show¬((n%40:Nat):Int)<24 by omega),decide_eq_true (show((n%40:Nat):Int)<36 by omega),e3]))
  rw[fillL_one rfl rfl,fillL_one rfl rfl]
  (repeat(first|with_reducible(first|refine nx ?_|refine r_6 rfl ?_)|simp only[go_sem]))
  refine stNT hat1 rfl (by simp) (by simp[oneC]) fun w2 hs2 hat2 ho2=>?_
  have hat2':At w2 q (Rt.plV (whereP R n)):=by rw[hw];simpa[Rt.plV,setL]using hat2
  have hc:cellsAt w2 ⟨q,0,none⟩ 3=some (Rt.plV (whereP R n)):=cellsAt_at hat2' 0 3 (by simp[Rt.plV])
  (repeat(first|with_reducible(first|refine nx ?_|refine r_6 rfl ?_)|simp only[go_sem,hc]))
  exact fin w2 ho2
 ·have e3:IntKind.i64.wrap (((n%40:Nat):Int)-36)=((n%40-36:Nat):Int):=by rw[IntWalk.i64_in _ (by omega)];omega
  have hw:whereP R n=(2,0,((n%40-36:Nat):Int)):=by unfold whereP;rw[if_neg c1,if_neg c2]
  (repeat(first|with_reducible(first|refine nx ?_|refine r_6 rfl ?_)|simp only[go_sem,decide_eq_false (show¬((n%40:Nat):Int)<24 by omega),decide_eq_false (show¬((n%40:Nat):Int)<36 by omega),e3]))
  rw[fillL_one rfl rfl,fillL_one rfl rfl]
  (repeat(first|with_reducible(first|refine nx ?_|refine r_6 rfl ?_)|simp only[go_sem]))
  refine stNT hat1 rfl (by simp) (by simp[oneC]) fun w2 hs2 hat2 ho2=>?_
  have hat2':At w2 q (Rt.plV (whereP R n)):=by rw[hw];simpa[Rt.plV,setL]using hat2
  have hc:cellsAt w2 ⟨q,0,none⟩ 3=some (Rt.plV (whereP R n)):=cellsAt_at hat2' 0 3 (by simp[Rt.plV])
  (repeat(first|with_reducible(first|refine nx ?_|refine r_6 rfl ?_)|simp only[go_sem,hc]))
  exact fin w2 ho2
def rootsSet (R:Rt.MS) (p:Rt.PT) (y:Int):Rt.MO:=if p.1=2∧(R.Q.length:Int)≤p.2.2 then(Rt.pushO (some R) y).2 else(Rt.setO (some R) p y).2
theorem setO_some (R:Rt.MS) (p:Rt.PT) (y:Int): ∃R',(Rt.setO (some R) p y).2=some R':=by
 unfold Rt.setO
 dsimp only
 split
 ·exact⟨_,rfl⟩
 ·split
  ·exact⟨_,rfl⟩
  ·exact⟨_,rfl⟩
theorem pushO_some (R:Rt.MS) (y:Int): ∃R',(Rt.pushO (some R) y).2=some R':=by
 unfold Rt.pushO
 dsimp only
 split
 ·exact⟨_,rfl⟩
 ·split
  ·exact⟨_,rfl⟩
  ·exact⟨_,rfl⟩
theorem cSet {w:World} {b hb rb qb kb:Nat} {s:HL} {R:Rt.MS} {fh fr ff fk:List Nat} (h:SCs w b hb rb qb kb s R fh fr ff fk) (n:Nat) (hn:n<100000) (y:Int):Cs Tryz.prog 97 [.pointer (some ⟨b,0,none⟩),.int .i64 (n:Int),.int .i64 y] w fun v w'=>v=.bool true∧ ∃R' fr' fk',rootsSet R (whereP R n) y=some R'∧SCs w' b hb rb qb kb s R' fh fr' ff fk'∧Only (b::(fh++(fr++(ff++fk)))) w w'∧ ∀x,x∈b::(fh++(fr'++(ff++fk')))→x∈b::(fh++(fr++(ff++fk)))∨w.heap.size≤x:=by
 refine enter_law12_Scene_Set rfl ?_
 unfold x_law12_Scene_Set
 (repeat(first|with_reducible(first|refine nx ?_|refine r_6 rfl ?_)|simp only[go_sem]))
 refine callT1 (cWhere h n hn) fun w1 ho1=>?_
 generalize hp:whereP R n=p
 (repeat(first|with_reducible(first|refine nx ?_|refine r_6 rfl ?_)|simp only[go_sem]))
 refine boxT fun q w2 hq hs2 hat2 ho2=>?_
 (repeat(first|with_reducible(first|refine nx ?_|refine r_6 rfl ?_)|simp only[go_sem]))
 refine stNT (cs:=Rt.plV p) hat2 rfl (by simp[Rt.plV]) Rt.plV_one fun w3 hs3 hat3 ho3=>?_
 have hat3:At w3 q (Rt.plV p):=by
  have e:setL [Value.int IntKind.i64 0,Value.int IntKind.i64 0,Value.int IntKind.i64 0] 0 (Rt.plV p)=Rt.plV p:=by simp[setL,Rt.plV]
  rw[e]at hat3;exact hat3
 have o13:Only [] w1 w3:=ho2.trans ho3 fun x hx=>by simp only[List.mem_singleton]at hx;subst hx;exact .inr (by omega)
 have o3:Only [] w w3:=ho1.nil o13
 have hz1:=ho1.size
 have hz3:=o3.size
 have h3:=h.keep0 o3
 have hqn: ∀x,x∈b::(fh++(fr++(ff++fk)))→x≠q:=fun x hx=>by have:=h.lt x hx;omega
 have hc3: ∀w',Only [] w3 w'→cellsAt w' ⟨q,0,none⟩ 3=some (Rt.plV p):=fun w' o=>cellsAt_at (hat3.keep0 o) 0 3 (by simp[Rt.plV])
 have fin: ∀ {w1 w2:World} {R':Rt.MS} {fr' fk':List Nat},Only [] w w1→SCs w2 b hb rb qb kb s R' fh fr' ff fk'∧Only (b::(fh++(fr++(ff++fk)))) w1 w2∧(∀x,x∈b::(fh++(fr'++(ff++fk')))→x∈b::(fh++(fr++(ff++fk)))∨w1.heap.size≤x)→rootsSet R p y=some R'→
   ∃R' fr' fk',rootsSet R p y=some R'∧SCs w2 b hb rb qb kb s R' fh fr' ff fk'∧Only (b::(fh++(fr++(ff++fk)))) w w2∧ ∀x,x∈b::(fh++(fr'++(ff++fk')))→x∈b::(fh++(fr++(ff++fk)))∨w.heap.size≤x:=fun o g e=>
  ⟨_,_,_,e,g.1,o.of_nil.same g.2.1,fun x hx=>(g.2.2 x hx).imp id fun hx=>by have:=o.size;omega⟩
 have hcell0: ∀w',Only [] w3 w'→w'.cell? ⟨q,0,none⟩=some (.int .i64 p.1):=fun w' o=>by rw[(hat3.keep0 o).cell];rfl
 have hcell2: ∀w',Only [] w3 w'→w'.cell? ⟨q,2,none⟩=some (.int .i64 p.2.2):=fun w' o=>by rw[(hat3.keep0 o).cell];rfl
 -- the way of Set
 have setcase:(h4:World)→True:=fun _=>trivial
 clear setcase
 (repeat(first|with_reducible(first|refine nx ?_|refine r_6 rfl ?_)|simp only[go_sem]))
 refine run_drt [b,q] ?_
 have od:=Only.drew [] w3
 have hd:=h3.keep0 od
 have hzd:w3.drew.heap.size=w3.heap.size:=rfl
 have hbq: ∀z,z∈[b,q]→z<w3.drew.heap.size:=fun z hz=>by
  simp only[List.mem_cons,List.not_mem_nil,or_false]at hz
  rcases hz with rfl|rfl
  ·exact hd.at_.lt
  ·exact hat3.lt
 by_cases c1:p.1=2
 ·(repeat(first|with_reducible(first|refine nx ?_|refine r_6 rfl ?_)|simp only[go_sem,hcell0 w3.drew od,hcell2 w3.drew od,c1,beq_int_true (rfl:(2:Int)=2),hd.at_.cell]))
  refine callS (Rt.rQueue hd.k) ?_
  rintro v w4 ⟨ho4,fq,hs4,_⟩
  refine⟨.inr ((SB.refl _ _).only ho4 fun z hz=>⟨hbq z hz,by simp⟩),?_⟩
  obtain⟨a4,c4,rfl⟩:=hs4.val
  have o4:=od.nil ho4
  have h4:=h3.keep0 o4
  have hQ:(Rt.queueO (some R)).length=R.Q.length:=rfl
  rw[hQ]
  by_cases c2:(R.Q.length:Int)≤p.2.2
  ·(repeat(first|with_reducible(first|refine nx ?_|refine r_6 rfl ?_)|simp only[go_sem,decide_eq_true c2]))
   refine run_drt [b] ?_
   have o4d:=o4.nil (Only.drew [] w4)
   have h4d:=h3.keep0 o4d
   (repeat(first|with_reducible(first|refine nx ?_|refine r_6 rfl ?_)|simp only[go_sem,h4d.at_.cell]))
   refine callS (Rt.rPush h4d.k y) ?_
   rintro v w5 ⟨rfl,ho5,fk',hk5,sk⟩
   obtain⟨R',e5⟩:=pushO_some R y
   rw[e5]at hk5
   refine⟨.inr ((SB.refl _ _).only ho5 fun z hz=>by simp only[List.mem_singleton]at hz;subst hz;exact⟨h4d.at_.lt,h.d1.2.2.2⟩),?_⟩
   (repeat(first|with_reducible(first|refine nx ?_|refine r_6 rfl ?_)|simp only[go_sem]))
   refine callS (Rt.Push_m (h4d.r.keep ho5 fun z hz=>(h.d3 z hz).2) y) ?_
   rintro v w6 ⟨rfl,ho6,_,fr',hr6,sr⟩
   rw[e5]at hr6
   refine⟨.inl rfl,?_⟩
   (repeat(first|with_reducible(first|refine nx ?_|refine r_6 rfl ?_)|simp only[go_sem,beq_int_true (rfl:(Rt.pushO (some R) y).1=(Rt.pushO (some R) y).1)]))
   simpa only[List.mem_cons]using fin (o3.nil o4d) (h4d.bothR ho5 hk5 sk ho6 hr6 sr) (by unfold rootsSet;rw[if_pos ⟨c1,c2⟩];exact e5)
  ·(repeat(first|with_reducible(first|refine nx ?_|refine r_6 rfl ?_)|simp only[go_sem,decide_eq_false c2]))
   have o4d:=o4.nil (Only.drew [] w4)
   refine run_drt [b,q] ?_
   have h4d:=h3.keep0 o4d
   (repeat(first|with_reducible(first|refine nx ?_|refine r_6 rfl ?_)|simp only[go_sem,h4d.at_.cell,hc3 _ o4d]))
   refine callS (Rt.rSet h4d.k p y) ?_
   rintro v w5 ⟨rfl,hk5,ho5⟩
   obtain⟨R',e5⟩:=setO_some R p y
   rw[e5]at hk5
   have hq5:q∉fk:=fun e=>hqn q (by simp[e]) rfl
   refine⟨.inr ((SB.refl _ _).only ho5 fun z hz=>by
    simp only[List.mem_cons,List.not_mem_nil,or_false]at hz
    rcases hz with rfl|rfl
    ·exact⟨h4d.at_.lt,h.d1.2.2.2⟩
    ·exact⟨(hat3.keep0 o4d).lt,hq5⟩),?_⟩
   (repeat(first|with_reducible(first|refine nx ?_|refine r_6 rfl ?_)|simp only[go_sem]))
   refine callS (Rt.Set_m (h4d.r.keep ho5 fun z hz=>(h.d3 z hz).2) p y) ?_
   rintro v w6 ⟨rfl,hr6,ho6,_⟩
   rw[e5]at hr6
   refine⟨.inl rfl,?_⟩
   (repeat(first|with_reducible(first|refine nx ?_|refine r_6 rfl ?_)|simp only[go_sem,beq_int_true (rfl:(Rt.setO (some R) p y).1=(Rt.setO (some R) p y).1)]))
   simpa only[List.mem_cons]using fin (o3.nil o4d) (h4d.bothR ho5 hk5 (fun x hx=>.inl hx) ho6 hr6 fun x hx=>.inl hx) (by unfold rootsSet;rw[if_neg (fun h=>c2 h.2)];exact e5)
 ·(repeat(first|with_reducible(first|refine nx ?_|refine r_6 rfl ?_)|simp only[go_sem,hcell0 w3.drew od,beq_int_false c1]))
  have o4d:=od.nil (Only.drew [] w3.drew)
  refine run_drt [b,q] ?_
  have h4d:=h3.keep0 o4d
  (repeat(first|with_reducible(first|refine nx ?_|refine r_6 rfl ?_)|simp only[go_sem,h4d.at_.cell,hc3 _ o4d]))
  refine callS (Rt.rSet h4d.k p y) ?_
  rintro v w5 ⟨rfl,hk5,ho5⟩
  obtain⟨R',e5⟩:=setO_some R p y
  rw[e5]at hk5
  have hq5:q∉fk:=fun e=>hqn q (by simp[e]) rfl
  refine⟨.inr ((SB.refl _ _).only ho5 fun z hz=>by
   simp only[List.mem_cons,List.not_mem_nil,or_false]at hz
   rcases hz with rfl|rfl
   ·exact⟨h4d.at_.lt,h.d1.2.2.2⟩
   ·exact⟨(hat3.keep0 o4d).lt,hq5⟩),?_⟩
  (repeat(first|with_reducible(first|refine nx ?_|refine r_6 rfl ?_)|simp only[go_sem]))
  refine callS (Rt.Set_m (h4d.r.keep ho5 fun z hz=>(h.d3 z hz).2) p y) ?_
  rintro v w6 ⟨rfl,hr6,ho6,_⟩
  rw[e5]at hr6
  refine⟨.inl rfl,?_⟩
  (repeat(first|with_reducible(first|refine nx ?_|refine r_6 rfl ?_)|simp only[go_sem,beq_int_true (rfl:(Rt.setO (some R) p y).1=(Rt.setO (some R) p y).1)]))
  simpa only[List.mem_cons]using fin (o3.nil o4d) (h4d.bothR ho5 hk5 (fun x hx=>.inl hx) ho6 hr6 fun x hx=>.inl hx) (by unfold rootsSet;rw[if_neg (fun h=>c1 h.1)];exact e5)
end Go.Proofs.YtgcofabdialaaaaGreat
end
section
namespace Go.Proofs.YtgcofabdialaaaaGreat
set_option maxRecDepth 8000
def U8At (h0:Nat) (w:World) (v:Value) (n sz:Nat) (f:Nat→Nat→Nat):Prop:= ∃(a:Option Addr) (cap:Nat),v=.slice a n cap∧(∀i j,f i j<256)∧ ∀i,i<n→ ∃p,a=some p∧p.block<h0∧ ∀j,j<sz→w.cell? ((p.add (i*sz)).add j)=some (u8V (f i j))
theorem U8At.keep {h0:Nat} {w w':World} {v:Value} {n sz:Nat} {f:Nat→Nat→Nat} {S:List Nat} (h:U8At h0 w v n sz f) (hz:h0≤w.heap.size) (o:Only S w w') (hs: ∀x,x∈S→h0≤x):U8At h0 w' v n sz f:=by
 obtain⟨a,c,e,hf,hc⟩:=h
 refine⟨a,c,e,hf,fun i hi=>?_⟩
 obtain⟨p,e1,e2,e3⟩:=hc i hi
 refine⟨p,e1,e2,fun j hj=>?_⟩
 rw[cell_of_heap (w:=w) (w':=w') (by rw[add_block,add_block];exact o.block _ (by omega) fun hx=>by have:=hs _ hx;omega)]
 exact e3 j hj
theorem cellsAt_fn {w:World} {a:Addr} {n:Nat} (f:Nat→Value) (h: ∀j,j<n→w.cell? (a.add j)=some (f j)):cellsAt w a n=some ((List.range n).map f):=by
 unfold cellsAt
 exact Go.ChangeShapes.mapM_range_of n h
structure BG where
 bl:Nat
 mu:Nat
 nO:Nat
 nD:Nat
 nL:Nat
 nP:Nat
 nN:Nat
 fO:Nat→Nat→Nat
 fD:Nat→Nat→Nat
 fL:Nat→Nat→Nat
 fP:Nat→Nat→Nat
 fN:Nat→Nat→Nat
structure BegAt (h0:Nat) (w:World) (cs:List Value) (g:BG) (vO vD vL vP vN:Value):Prop where
 e:cs=[u8V g.bl,u8V g.mu,vO,vD,vL,vP,vN]
 l0:g.bl<256
 l1:g.mu<256
 o:U8At h0 w vO g.nO 4 g.fO
 d:U8At h0 w vD g.nD 1 g.fD
 l:U8At h0 w vL g.nL 3 g.fL
 p:U8At h0 w vP g.nP 2 g.fP
 n:U8At h0 w vN g.nN 1 g.fN
def Sz (s:HL) (n nb:Nat):Prop:=s.born≤n∧s.objs.length≤n∧s.B.length=nb∧RfOk s.abs
theorem Sz.mono {s:HL} {n m nb:Nat} (h:Sz s n nb) (hm:n≤m):Sz s m nb:=⟨by have:=h.1;omega,by have:=h.2.1;omega,h.2.2⟩
theorem Sz.step {s s':HL} {n nb:Nat} (h:Sz s n nb) (e:Step s s'):Sz s' (n+1) nb:=⟨by have:=h.1;have:=e.2.1;omega,by have:=h.2.1;have:=e.2.2.1;omega,by rw[e.2.2.2.1];exact h.2.2.1,e.2.2.2.2 h.2.2.2⟩
theorem killM_len (s:RL) (x:Int):(s.killM x).O.length≤s.O.length:=by
 unfold RL.killM
 split
 ·exact Nat.le_refl _
 ·show(s.O.eraseIdx _).length≤_
  rw[List.length_eraseIdx];split<;>omega
def OpI (w1 w:World) (b n nb:Nat):Prop:= ∃s R fp,SC w b s R fp∧(∀x,x∈fp→w1.heap.size≤x)∧Only [] w1 w∧Sz s n nb
theorem OpI.mono {w1 w:World} {b n m nb:Nat} (h:OpI w1 w b n nb) (hm:n≤m):OpI w1 w b m nb:=by
 obtain⟨s,R,fp,h1,h2,h3,h4⟩:=h
 exact⟨s,R,fp,h1,h2,h3,h4.mono hm⟩
theorem OpI.keep0 {w1 w w':World} {b n nb:Nat} (h:OpI w1 w b n nb) (o:Only [] w w'):OpI w1 w' b n nb:=by
 obtain⟨s,R,fp,⟨hb,rb,qb,kb,fh,fr,ff,fk,e,h1⟩,h2,h3,h4⟩:=h
 exact⟨s,R,fp,⟨hb,rb,qb,kb,fh,fr,ff,fk,e,h1.keep0 o⟩,h2,h3.nil o,h4⟩
theorem OpI.next {w1 w w':World} {b n nb:Nat} {hb rb qb kb:Nat} {s':HL} {R':Rt.MS} {fh fr ff fk fh' fr' ff' fk':List Nat} (h2: ∀x,x∈b::(fh++(fr++(ff++fk)))→w1.heap.size≤x) (h3:Only [] w1 w) (h:SCs w' b hb rb qb kb s' R' fh' fr' ff' fk')
  (o:Only (b::(fh++(fr++(ff++fk)))) w w') (hn: ∀x,x∈b::(fh'++(fr'++(ff'++fk')))→x∈b::(fh++(fr++(ff++fk)))∨w.heap.size≤x) (hz:Sz s' n nb):OpI w1 w' b n nb:=
 ⟨s',R',_,⟨hb,rb,qb,kb,fh',fr',ff',fk',rfl,h⟩,fun x hx=>(hn x hx).elim (h2 x) fun h=>by have:=h3.size;omega,h3.trans o fun x hx=>.inr (h2 x hx),hz⟩
theorem oAt {w1 w:World} {b m nb:Nat} (h:OpI w1 w b m nb) (n:Nat) (hn:n<100):Cs Tryz.prog 92 [.pointer (some ⟨b,0,none⟩),.int .i64 (n:Int)] w fun v w'=>(∃y:Int,v=.int .i64 y∧0≤y∧y≤4096)∧Only [] w w':=by
 obtain⟨s,R,fp,⟨hb,rb,qb,kb,fh,fr,ff,fk,e,h1⟩,h2,h3,h4⟩:=h
 refine(cAt h1 n hn).mono ?_
 rintro v w' ⟨rfl,ho⟩
 exact⟨⟨_,rfl,atS_le h1.inv.ok n⟩,ho⟩
theorem oPlace {w1 w:World} {b m nb:Nat} (h:OpI w1 w b m nb) (sh:Sh) (hv:validS sh=true) (sp:Int) (hm:m≤1000):Cs Tryz.prog 90 [.pointer (some ⟨b,0,none⟩),.agg ⟨shV sh⟩,.int .i64 sp] w fun v w'=>v=.bool true∧OpI w1 w' b (m+1) nb∧ ∃S,(∀x,x∈S→w1.heap.size≤x)∧Only S w w':=by
 obtain⟨s,R,fp,⟨hb,rb,qb,kb,fh,fr,ff,fk,rfl,h1⟩,h2,h3,h4⟩:=h
 refine(cPlace h1 sh hv sp (by have:=h4.1;omega) (by have:=h4.2.1;omega)).mono ?_
 rintro v w' ⟨rfl,s',ff',e1,e2,e3,e4⟩
 refine⟨rfl,OpI.next h2 h3 e2 e3 (fun x hx=>?_) (h4.step e1),_,h2,e3⟩
 simp only[List.mem_cons,List.mem_append]at hx⊢
 rcases hx with hx|hx|hx|hx|hx
 ·simp[hx]
 ·simp[hx]
 ·simp[hx]
 ·rcases e4 x hx with h|h
  ·simp[h]
  ·exact .inr h
 ·simp[hx]
theorem oSet {w1 w:World} {b m nb:Nat} (h:OpI w1 w b m nb) (n:Nat) (hn:n<100000) (y:Int):Cs Tryz.prog 97 [.pointer (some ⟨b,0,none⟩),.int .i64 (n:Int),.int .i64 y] w fun v w'=>v=.bool true∧OpI w1 w' b m nb∧ ∃S,(∀x,x∈S→w1.heap.size≤x)∧Only S w w':=by
 obtain⟨s,R,fp,⟨hb,rb,qb,kb,fh,fr,ff,fk,rfl,h1⟩,h2,h3,h4⟩:=h
 refine(cSet h1 n hn y).mono ?_
 rintro v w' ⟨rfl,R',fr',fk',_,e2,e3,e4⟩
 exact⟨rfl,OpI.next h2 h3 e2 e3 e4 h4,_,h2,e3⟩
theorem oLink {w1 w:World} {b m nb:Nat} (h:OpI w1 w b m nb) (x i to:Int) (hx:x≤4611686018427387904) (hto:0≤to∧to≤4096):Cs Tryz.prog 96 [.pointer (some ⟨b,0,none⟩),.int .i64 x,.int .i64 i,.int .i64 to] w fun v w'=>v=.bool true∧OpI w1 w' b m nb∧ ∃S,(∀x,x∈S→w1.heap.size≤x)∧Only S w w':=by
 obtain⟨s,R,fp,⟨hb,rb,qb,kb,fh,fr,ff,fk,rfl,h1⟩,h2,h3,h4⟩:=h
 refine(cLink h1 x i to hx (by omega)).mono ?_
 rintro v w' ⟨rfl,s',e1,e2,e3⟩
 obtain⟨t,g1,g2,g3,g4,g5,g6⟩:=abs_setRef h1.inv.ok x i to
 have hts:s'=t:=Option.some.inj (e1.symm.trans g1)
 subst hts
 refine⟨rfl,OpI.next h2 h3 e2 e3 (fun x hx=>.inl hx) ⟨by rw[g5];exact h4.1,?_,by rw[g3];exact h4.2.2.1,by rw[g2];exact h4.2.2.2.setRefM _ _ _ hto⟩,_,h2,e3⟩
 have:HL.objs s'=s.objs:=by unfold HL.objs;rw[g4]
 rw[this];exact h4.2.1
theorem cOpen1 {w:World} {cs:List Value} {g:BG} {vO vD vL vP vN:Value} (h:BegAt w.heap.size w cs g vO vD vL vP vN):Cs Tryz.prog 39 [.agg ⟨cs⟩] w fun v w'=> ∃b,v=.pointer (some ⟨b,0,none⟩)∧OpI w w' b 40 (2+g.bl%23):=by
 obtain⟨rfl,l0,l1,hO,hD,hL,hP,hN⟩:=h
 have m23:((g.bl:Int).tmod 23)=((g.bl%23:Nat):Int):=tmodN g.bl 23
 have m4:((g.mu:Int).tmod 4)=((g.mu%4:Nat):Int):=tmodN g.mu 4
 have e1:IntKind.i64.wrap (2+((g.bl%23:Nat):Int))=((2+g.bl%23:Nat):Int):=by rw[IntWalk.i64_in _ (by omega)];omega
 have e2:IntKind.i64.wrap (1+((g.mu%4:Nat):Int))=((1+g.mu%4:Nat):Int):=by rw[IntWalk.i64_in _ (by omega)];omega
 refine enter_law12_Begin_Open rfl ?_
 unfold x_law12_Begin_Open
 (repeat(first|with_reducible(first|refine nx ?_|refine r_6 rfl ?_)|simp only[go_sem]))
 refine boxT fun q w1 hq hs1 hat1 ho1=>?_
 (repeat(first|with_reducible(first|refine nx ?_|refine r_6 rfl ?_)|simp only[go_sem,hat1.cell,hat1.drew.cell,u8V,conv_u8 g.bl l0,conv_u8 g.mu l1,m23,m4,e1,e2]))
 obtain⟨s0,n1,n2,n3,n4,n5⟩:=new_inv (n:=2+g.bl%23) (by omega) (by omega)
 have r1:Rt.newO ((1+g.mu%4:Nat):Int)=some ⟨1+g.mu%4,List.replicate (16*(1+g.mu%4)) 0,List.replicate 16 0,[]⟩:=by
  unfold Rt.newO;rw[if_pos (by omega),Int.toNat_natCast]
 generalize hR0:(⟨1+g.mu%4,List.replicate (16*(1+g.mu%4)) 0,List.replicate 16 0,[]⟩:Rt.MS)=R0 at r1
 have i1:(some s0).isSome=true:=rfl
 have i2:(some R0).isSome=true:=rfl
 refine callT (hNew _ _) ?_
 rintro v w2 ⟨ah,fh,rfl,hh2,_,gh,ho2⟩
 replace ho2:Only [] w1 w2:=(Only.drew [] w1).nil ho2
 replace gh: ∀y,y∈fh→w1.heap.size≤y:=gh
 rw[n1]at hh2⊢
 obtain⟨hb,rfl,hrest⟩:=hh2
 have hh2:HR w2 (some ⟨hb,0,none⟩) fh (some s0):=⟨hb,rfl,hrest⟩
 clear hrest
 (repeat(first|with_reducible(first|refine nx ?_|refine r_6 rfl ?_)|simp only[go_sem,i1]))
 refine callT (Rt.New_m w2 _) ?_
 rintro v w3 ⟨ho3,ar,fr,rfl,hr3,_,gr⟩
 rw[r1]at hr3⊢
 obtain⟨rb,rfl,hrest⟩:=hr3
 have hr3:Rt.PR w3 (some ⟨rb,0,none⟩) fr (some R0):=⟨rb,rfl,hrest⟩
 clear hrest
 (repeat(first|with_reducible(first|refine nx ?_|refine r_6 rfl ?_)|simp only[go_sem,i2,bne_int_false (rfl:(0:Int)=0)]))
 rw[fillL_one rfl rfl,fillL_one rfl rfl]
 (repeat(first|with_reducible(first|refine nx ?_|refine r_6 rfl ?_)|simp only[go_sem]))
 refine boxT fun b w4 hb4 hs4 hat4 ho4=>?_
 (repeat(first|with_reducible(first|refine nx ?_|refine r_6 rfl ?_)|simp only[go_sem]))
 refine callT (fNew w4 _ (by omega) (by omega)) ?_
 rintro v w5 ⟨ho5,qb,ff,rfl,hf5,gf⟩
 rw[Int.toNat_natCast,←n3]at hf5
 have hat5:=hat4.keep0 ho5
 (repeat(first|with_reducible(first|refine nx ?_|refine r_6 rfl ?_)|simp only[go_sem]))
 refine stT hat5 (by simp) rfl fun w6 hs6 hat6 ho6=>?_
 (repeat(first|with_reducible(first|refine nx ?_|refine r_6 rfl ?_)|simp only[go_sem]))
 refine callT (Rt.rNew w6 _) ?_
 rintro v w7 ⟨ho7,ak,fk,rfl,hk7,_,gk⟩
 rw[r1]at hk7⊢
 obtain⟨kb,rfl,hrest⟩:=hk7
 have hk7:Rt.RR w7 (some ⟨kb,0,none⟩) fk (some R0):=⟨kb,rfl,hrest⟩
 clear hrest
 (repeat(first|with_reducible(first|refine nx ?_|refine r_6 rfl ?_)|simp only[go_sem]))
 refine stT (hat6.keep0 ho7) (by simp) rfl fun w8 hs8 hat8 ho8=>?_
 simp only[List.set_cons_zero,List.set_cons_succ]at hat8
 have z1:=ho1.size;have z2:=ho2.size;have z3:=ho3.size;have z4:=ho4.size;have z5:=ho5.size;have z6:=ho6.size;have z7:=ho7.size;have z8:=ho8.size
 have lh:=hh2.lt;have lr:=hr3.lt;have lf:=hf5.lt;have lk:=hk7.lt
 have oh:Only [b] w2 w8:=((((((ho3.nil ho4).nil ho5).of_nil (T:=[b])).same ho6).nil ho7).same ho8)
 have or:Only [b] w3 w8:=(((((ho4.nil ho5).of_nil (T:=[b])).same ho6).nil ho7).same ho8)
 have of:Only [b] w5 w8:=(ho6.nil ho7).same ho8
 have nh:b∉fh:=fun hx=>by have:=lh b hx;omega
 have nr:b∉fr:=fun hx=>by have:=lr b hx;omega
 have nf:b∉ff:=fun hx=>by have:=gf b hx;omega
 have nk:b∉fk:=fun hx=>by have:=gk b hx;omega
 have hsc:SCs w8 b hb rb qb kb s0 R0 fh fr ff fk:=⟨hat8,n2,hh2.keep oh (fun x hx=>off1 (fun e=>nh (e▸hx))),hr3.keep or (fun x hx=>off1 (fun e=>nr (e▸hx))),hf5.keep of (fun x hx=>off1 (fun e=>nf (e▸hx))),hk7.keep ho8 (fun x hx=>off1 (fun e=>nk (e▸hx))),
  ⟨nh,nr,nf,nk⟩,fun x hx=>⟨fun hy=>by have:=lh x hx;have:=gr x hy;omega,fun hy=>by have:=lh x hx;have:=gf x hy;omega,fun hy=>by have:=lh x hx;have:=gk x hy;omega⟩,fun x hx=>⟨fun hy=>by have:=lr x hx;have:=gf x hy;omega,fun hy=>by have:=lr x hx;have:=gk x hy;omega⟩,fun x hx hy=>by have:=lf x hx;have:=gk x hy;omega⟩
 have o18:Only [] w1 w8:=(ho2.nil ho3).trans ((((ho4.nil ho5).of_nil (T:=[b])).same ho6).nil ho7|>.same ho8) fun x hx=>by simp only[List.mem_singleton]at hx;subst hx;exact .inr (by omega)
 have hI0:OpI w1 w8 b 0 (2+g.bl%23):=⟨s0,R0,_,⟨hb,rb,qb,kb,fh,fr,ff,fk,rfl,hsc⟩,fun x hx=>by
  simp only[List.mem_cons,List.mem_append]at hx
  rcases hx with rfl|hx|hx|hx|hx
  ·omega
  ·exact gh x hx
  ·have:=gr x hx;omega
  ·have:=gf x hx;omega
  ·have:=gk x hx;omega,o18,⟨by omega,by have:s0.objs.length=s0.abs.O.length:=(abs_len s0).symm;rw[this,n3];exact Nat.le_refl 0,n5,by rw[n3];intro o ho;cases ho⟩⟩
 generalize hnb:2+g.bl%23=nb at*
 have hq1: ∀w',Only [] w1 w'→At w' q [u8V g.bl,u8V g.mu,vO,vD,vL,vP,vN]:=fun w' o=>hat1.keep0 o
 have kU: ∀ {v:Value} {n sz:Nat} {f:Nat→Nat→Nat},U8At w.heap.size w v n sz f→ ∀w',Only [] w1 w'→U8At w.heap.size w' v n sz f:=fun h w' o=>h.keep (Nat.le_refl _) (ho1.nil o) (by simp)
 have hOp: ∀ {w':World} {n:Nat},OpI w1 w' b n nb→Only [] w1 w':=fun h=>by obtain⟨_,_,_,_,_,h,_⟩:=h;exact h
 obtain⟨aO,cO,rfl,bO,_⟩:=id hO
 obtain⟨aD,cD,rfl,bD,_⟩:=id hD
 obtain⟨aL,cL,rfl,bL,_⟩:=id hL
 obtain⟨aP,cP,rfl,bP,_⟩:=id hP
 obtain⟨aN,cN,rfl,bN,_⟩:=id hN
 have hqs:q<w1.heap.size:=by omega
 clear hh2 hr3 hf5 hk7 hsc hat4 hat5 hat6 hat8 oh or of o18 nh nr nf nk lh lr lf lk gh gr gf gk ho2 ho3 ho4 ho5 ho6 ho7 ho8
 simp only[go_sem]
 refine run_seq ?_
 refine run_cut (10::75::76::77::78::79::80::81::82::83::84::85::86::87::88::89::90::91::92::93::94::95::96::97::98::99::100::101::102::[]) (fun _ w'=>OpI w1 w' b 40 nb) (fun kk hkk=>?_) (fun g1 w9 hI1=>?_)
 ·(repeat(first|with_reducible(first|refine nx ?_|refine r_6 rfl ?_)|simp only[go_sem]))
  refine run_loop (10::75::76::77::78::79::80::81::82::83::84::85::86::87::88::89::90::91::92::93::94::95::96::97::98::99::100::101::102::[]) (fun g' w'=> ∃i:Nat,g' 10=.int .i64 i∧i≤40∧OpI w1 w' b i nb) (fun g' _=>upTo 40 10 g') ⟨0,by simp only[go_sem];rfl,by omega,hI0⟩ fun g' w' hI hnext=>?_
  obtain⟨i,h10,hi40,hI⟩:=hI
  have o':=hOp hI
  have hq':=hq1 w' o'
  by_cases c1:i<g.nO
  rotate_left
  ·(repeat(first|with_reducible(first|refine nx ?_|refine r_6 rfl ?_)|simp only[go_sem,h10,hq'.cell,decide_eq_false (show¬(i:Int)<(g.nO:Int) by omega)]))
   refine hkk _ w' ?_ (hI.mono hi40)
   (repeat(first|with_reducible exact k_1|with_reducible exact Keeps.ovr _ _ _|refine Keeps.put ?_ rfl _|exact k_1|exact Keeps.ovr _ _ _|refine Keeps.ovr2 ?_ rfl _))
  by_cases c2:i<40
  rotate_left
  ·(repeat(first|with_reducible(first|refine nx ?_|refine r_6 rfl ?_)|simp only[go_sem,h10,hq'.cell,decide_eq_true (show(i:Int)<(g.nO:Int) by omega),decide_eq_false (show¬(i:Int)<40 by omega)]))
   refine hkk _ w' ?_ (hI.mono hi40)
   (repeat(first|with_reducible exact k_1|with_reducible exact Keeps.ovr _ _ _|refine Keeps.put ?_ rfl _|exact k_1|exact Keeps.ovr _ _ _|refine Keeps.ovr2 ?_ rfl _))
  (repeat(first|with_reducible(first|refine nx ?_|refine r_6 rfl ?_)|simp only[go_sem,h10,hq'.cell,decide_eq_true (show(i:Int)<(g.nO:Int) by omega),decide_eq_true (show(i:Int)<40 by omega)]))
  obtain⟨a',c',e',_,hc'⟩:=kU hO w'.drew (o'.nil (Only.drew [] w'))
  cases e'
  obtain⟨p,rfl,hp1,hp2⟩:=hc' i c1
  refine run_drt [q,p.block] ?_
  have hcs:cellsAt w'.drew (p.add (i*4)) 4=some [u8V (g.fO i 0),u8V (g.fO i 1),u8V (g.fO i 2),u8V (g.fO i 3)]:=cellsAt_fn (fun j=>u8V (g.fO i j)) hp2
  have hc3:w'.drew.cell? ⟨p.block,(p.add (i*4)).off+3,none⟩=some (u8V (g.fO i 3)):=by
   have:=hp2 3 (by omega)
   rw[←add_block p (i*4)];exact this
  have q4:((4:Nat):Int)=4:=rfl
  have t3:Int.toNat 3*1=3:=rfl
  have n1': ∀n,inL [q,p.block] (.pointer (some (p.add n)))=True:=fun n=>by simp[inL,add_block]
  have m3:((g.fO i 3:Nat):Int).tmod 3=((g.fO i 3%3:Nat):Int):=tmodN _ 3
  (repeat(first|with_reducible(first|refine nx ?_|refine r_6 rfl ?_)|simp only[go_sem,h10,hq'.drew.cell,if_pos (show(0:Int)≤(i:Int)∧(i:Int)<(g.nO:Int) by omega),Int.toNat_natCast,hcs,q4,t3,add_block,hc3,n1',u8V,conv_u8 (g.fO i 3) (bO i 3),m3]))
  have h1d:OpI w1 w'.drew b i nb:=hI.keep0 (Only.drew [] w')
  have hzd:w1.heap.size≤w'.drew.heap.size:=(hOp h1d).size
  have hbl: ∀z,z∈[q,p.block]→z<w1.heap.size:=fun z hz=>by
   simp only[List.mem_cons,List.not_mem_nil,or_false]at hz
   rcases hz with rfl|rfl<;>omega
  refine callS1 (cShape w'.drew _ _ _ (g.fO i 3) (bO i 0) (bO i 1) (bO i 2)) (.inr ⟨SB.refl _ _,fun z hz=>⟨by have:=hbl z hz;omega,by simp⟩⟩) fun w5 ho5=>?_
  (repeat(first|with_reducible(first|refine nx ?_|refine r_6 rfl ?_)|simp only[go_sem]))
  refine callS (oPlace (h1d.keep0 ho5) (shapeB _ _ _) (shapeB_valid _ _ _) _ (by omega)) ?_
  rintro v w6 ⟨rfl,hI6,S,hS,hoS⟩
  refine⟨.inl rfl,?_⟩
  have z1:IntKind.i64.wrap ((i:Int)+1)=((i+1:Nat):Int):=by rw[IntWalk.i64_in _ (by omega)];omega
  (repeat(first|with_reducible(first|refine nx ?_|refine r_6 rfl ?_)|simp only[go_sem,h10,z1]))
  refine hnext _ w6 ?_ ⟨i+1,?_,by omega,hI6⟩ ?_
  ·(repeat(first|with_reducible exact k_1|with_reducible exact Keeps.ovr _ _ _|refine Keeps.put ?_ rfl _|exact k_1|exact Keeps.ovr _ _ _|refine Keeps.ovr2 ?_ rfl _))
  ·simp only[go_sem]
  ·rw[upTo_int (i:=i) h10,upTo_int (k:=.i64) (i:=i+1) (by simp only[go_sem])];omega
 refine run_seq ?_
 refine run_cut (11::12::103::104::105::106::107::108::109::110::111::112::113::114::115::116::117::118::119::120::121::122::123::124::125::126::127::128::129::130::131::132::133::134::135::[]) (fun _ w'=>OpI w1 w' b 40 nb) (fun kk hkk=>?_) (fun g2 w10 hI2=>?_)
 ·(repeat(first|with_reducible(first|refine nx ?_|refine r_6 rfl ?_)|simp only[go_sem]))
  refine run_loop (11::12::103::104::105::106::107::108::109::110::111::112::113::114::115::116::117::118::119::120::121::122::123::124::125::126::127::128::129::130::131::132::133::134::135::[]) (fun g' w'=> ∃i:Nat,g' 11=.int .i64 i∧i≤20∧OpI w1 w' b 40 nb) (fun g' _=>upTo 20 11 g') ⟨0,by simp only[go_sem];rfl,by omega,hI1⟩ fun g' w' hI hnext=>?_
  obtain⟨i,h10,hi40,hI⟩:=hI
  have o':=hOp hI
  have hq':=hq1 w' o'
  by_cases c1:i<g.nD
  rotate_left
  ·(repeat(first|with_reducible(first|refine nx ?_|refine r_6 rfl ?_)|simp only[go_sem,h10,hq'.cell,decide_eq_false (show¬(i:Int)<(g.nD:Int) by omega)]))
   refine hkk _ w' ?_ hI
   (repeat(first|with_reducible exact k_1|with_reducible exact Keeps.ovr _ _ _|refine Keeps.put ?_ rfl _|exact k_1|exact Keeps.ovr _ _ _|refine Keeps.ovr2 ?_ rfl _))
  by_cases c2:i<20
  rotate_left
  ·(repeat(first|with_reducible(first|refine nx ?_|refine r_6 rfl ?_)|simp only[go_sem,h10,hq'.cell,decide_eq_true (show(i:Int)<(g.nD:Int) by omega),decide_eq_false (show¬(i:Int)<20 by omega)]))
   refine hkk _ w' ?_ hI
   (repeat(first|with_reducible exact k_1|with_reducible exact Keeps.ovr _ _ _|refine Keeps.put ?_ rfl _|exact k_1|exact Keeps.ovr _ _ _|refine Keeps.ovr2 ?_ rfl _))
  have ci:(0:Int)≤(i:Int)∧(i:Int)<(g.nD:Int):=by omega
  have z1:IntKind.i64.wrap ((i:Int)+1)=((i+1:Nat):Int):=by rw[IntWalk.i64_in _ (by omega)];omega
  obtain⟨a',c',e',_,hc'⟩:=kU hD w' o'
  cases e'
  obtain⟨p,rfl,hp1,hp2⟩:=hc' i c1
  have m100:((g.fD i 0:Nat):Int).tmod 100=((g.fD i 0%100:Nat):Int):=tmodN _ 100
  have hc0:w'.cell? (p.add i)=some (u8V (g.fD i 0)):=by
   have:=hp2 0 (by omega)
   rw[Nat.mul_one]at this
   exact this
  (repeat(first|with_reducible(first|refine nx ?_|refine r_6 rfl ?_)|simp only[go_sem,h10,hq'.cell,decide_eq_true (show(i:Int)<(g.nD:Int) by omega),decide_eq_true (show(i:Int)<20 by omega),if_pos ci,Int.toNat_natCast,Nat.mul_one,hc0,u8V,conv_u8 (g.fD i 0) (bD i 0),m100]))
  refine callT (oAt hI (g.fD i 0%100) (by omega)) ?_
  rintro v w5 ⟨⟨y,rfl,y0,y1⟩,ho5⟩
  obtain⟨s,R,fp,⟨hb',rb',qb',kb',fh',fr',ff',fk',rfl,h1⟩,h2,h3,h4⟩:=hI.keep0 ho5
  have h1d:=h1.keep0 (Only.drew [] w5)
  (repeat(first|with_reducible(first|refine nx ?_|refine r_6 rfl ?_)|simp only[go_sem]))
  refine run_drt [b] ?_
  (repeat(first|with_reducible(first|refine nx ?_|refine r_6 rfl ?_)|simp only[go_sem,h1d.at_.cell]))
  obtain⟨s',e1,e2,e3,e4,_⟩:=abs_kill h1.inv.ok y
  refine callS (fKill h1d.f y) ?_
  rintro v w6 ⟨rfl,ho6,ff6,hf6,hsub⟩
  refine⟨.inr ((SB.refl _ _).only ho6 fun z hz=>by simp only[List.mem_singleton]at hz;subst hz;exact⟨h1d.at_.lt,h1.d1.2.2.1⟩),?_⟩
  (repeat(first|with_reducible(first|refine nx ?_|refine r_6 rfl ?_)|simp only[go_sem]))
  refine callS (hKill (h1d.h.keep ho6 fun z hz=>(h1.d2 z hz).2.1) y (by omega)) ?_
  rintro v w7 ⟨rfl,hh7,ho7⟩
  refine⟨.inl rfl,?_⟩
  rw[e1]at hh7
  rw[←e2]at hf6
  have g5:=h1d.both (h1.inv.kill e1 (hh7.ok s' rfl)) ho6 hf6 hsub ho7 hh7
  have hz5:Sz s' 40 nb:=⟨by rw[e4];exact h4.1,by have:=h4.2.1;have:=killM_len s.abs y;rw[←e2,abs_len,abs_len]at this;omega,by rw[e3];exact h4.2.2.1,by rw[e2];exact h4.2.2.2.killM _⟩
  have hI7:OpI w1 w7 b 40 nb:=OpI.next h2 h3 g5.1 ((Only.drew _ w5).same g5.2) (fun x hx=>by
   simp only[List.mem_cons,List.mem_append]at hx⊢
   rcases hx with hx|hx|hx|hx|hx
   ·simp[hx]
   ·simp[hx]
   ·simp[hx]
   ·rcases hsub x hx with h|h
    ·simp[h]
    ·exact .inr h
   ·simp[hx]) hz5
  (repeat(first|with_reducible(first|refine nx ?_|refine r_6 rfl ?_)|simp only[go_sem,h10,z1,abs_lacks h1.inv.ok y,bne_int_false (rfl:objE (some s) y=objE (some s) y)]))
  refine hnext _ w7 ?_ ⟨i+1,?_,by omega,hI7⟩ ?_
  ·(repeat(first|with_reducible exact k_1|with_reducible exact Keeps.ovr _ _ _|refine Keeps.put ?_ rfl _|exact k_1|exact Keeps.ovr _ _ _|refine Keeps.ovr2 ?_ rfl _))
  ·simp only[go_sem]
  ·rw[upTo_int (i:=i) h10,upTo_int (k:=.i64) (i:=i+1) (by simp only[go_sem])];omega
 refine run_seq ?_
 refine run_cut (13::14::15::16::17::136::137::138::139::140::141::142::143::144::145::146::147::148::149::150::151::152::153::154::155::156::157::158::159::160::161::162::163::164::165::166::167::168::169::170::171::172::173::174::175::176::177::178::179::180::181::182::183::184::185::186::187::188::189::190::191::[]) (fun _ w'=>OpI w1 w' b 40 nb) (fun kk hkk=>?_) (fun g3 w11 hI3=>?_)
 ·(repeat(first|with_reducible(first|refine nx ?_|refine r_6 rfl ?_)|simp only[go_sem]))
  refine run_loop (13::14::15::16::17::136::137::138::139::140::141::142::143::144::145::146::147::148::149::150::151::152::153::154::155::156::157::158::159::160::161::162::163::164::165::166::167::168::169::170::171::172::173::174::175::176::177::178::179::180::181::182::183::184::185::186::187::188::189::190::191::[]) (fun g' w'=> ∃i:Nat,g' 13=.int .i64 i∧i≤120∧OpI w1 w' b 40 nb) (fun g' _=>upTo 120 13 g') ⟨0,by simp only[go_sem];rfl,by omega,hI2⟩ fun g' w' hI hnext=>?_
  obtain⟨i,h10,hi40,hI⟩:=hI
  have o':=hOp hI
  have hq':=hq1 w' o'
  by_cases c1:i<g.nL
  rotate_left
  ·(repeat(first|with_reducible(first|refine nx ?_|refine r_6 rfl ?_)|simp only[go_sem,h10,hq'.cell,decide_eq_false (show¬(i:Int)<(g.nL:Int) by omega)]))
   refine hkk _ w' ?_ hI
   (repeat(first|with_reducible exact k_1|with_reducible exact Keeps.ovr _ _ _|refine Keeps.put ?_ rfl _|exact k_1|exact Keeps.ovr _ _ _|refine Keeps.ovr2 ?_ rfl _))
  by_cases c2:i<120
  rotate_left
  ·(repeat(first|with_reducible(first|refine nx ?_|refine r_6 rfl ?_)|simp only[go_sem,h10,hq'.cell,decide_eq_true (show(i:Int)<(g.nL:Int) by omega),decide_eq_false (show¬(i:Int)<120 by omega)]))
   refine hkk _ w' ?_ hI
   (repeat(first|with_reducible exact k_1|with_reducible exact Keeps.ovr _ _ _|refine Keeps.put ?_ rfl _|exact k_1|exact Keeps.ovr _ _ _|refine Keeps.ovr2 ?_ rfl _))
  have ci:(0:Int)≤(i:Int)∧(i:Int)<(g.nL:Int):=by omega
  have z1:IntKind.i64.wrap ((i:Int)+1)=((i+1:Nat):Int):=by rw[IntWalk.i64_in _ (by omega)];omega
  obtain⟨a',c',e',_,hc'⟩:=kU hL w' o'
  cases e'
  obtain⟨p,rfl,hp1,hp2⟩:=hc' i c1
  have m100:((g.fL i 0:Nat):Int).tmod 100=((g.fL i 0%100:Nat):Int):=tmodN _ 100
  have m100b:((g.fL i 2:Nat):Int).tmod 100=((g.fL i 2%100:Nat):Int):=tmodN _ 100
  have q4:((3:Nat):Int)=3:=rfl
  have t0:Int.toNat 0*1=0:=rfl
  have t1:Int.toNat 1*1=1:=rfl
  have t2:Int.toNat 2*1=2:=rfl
  have hcs:cellsAt w' (p.add (i*3)) 3=some [u8V (g.fL i 0),u8V (g.fL i 1),u8V (g.fL i 2)]:=cellsAt_fn (fun j=>u8V (g.fL i j)) hp2
  (repeat(first|with_reducible(first|refine nx ?_|refine r_6 rfl ?_)|simp only[go_sem,h10,hq'.cell,decide_eq_true (show(i:Int)<(g.nL:Int) by omega),decide_eq_true (show(i:Int)<120 by omega),if_pos ci,Int.toNat_natCast,hcs]))
  refine boxT fun x w2' hx hsx hatx hox=>?_
  (repeat(first|with_reducible(first|refine nx ?_|refine r_6 rfl ?_)|simp only[go_sem]))
  refine stNT hatx rfl (by simp) (by simp[oneC,u8V]) fun w3' hsx3 hatx3 hox3=>?_
  have hatx3:At w3' x [u8V (g.fL i 0),u8V (g.fL i 1),u8V (g.fL i 2)]:=hatx3
  have o3:Only [] w' w3':=hox.trans hox3 fun y hy=>by simp only[List.mem_singleton]at hy;subst hy;exact .inr (by omega)
  have hI3':=hI.keep0 o3
  (repeat(first|with_reducible(first|refine nx ?_|refine r_6 rfl ?_)|simp only[go_sem,q4,t0,hatx3.cell,u8V,conv_u8 (g.fL i 0) (bL i 0),m100]))
  refine callT (oAt hI3' (g.fL i 0%100) (by omega)) ?_
  rintro v w5 ⟨⟨y,rfl,y0,y1⟩,ho5⟩
  have hI5':=hI3'.keep0 ho5
  obtain⟨s,R,fp,⟨hb',rb',qb',kb',fh',fr',ff',fk',rfl,h1⟩,h2,h3,h4⟩:=id hI5'
  (repeat(first|with_reducible(first|refine nx ?_|refine r_6 rfl ?_)|simp only[go_sem,h1.at_.cell]))
  refine callT (fShape h1.f y) ?_
  rintro v w6 ⟨rfl,ho6⟩
  obtain⟨⟨sh,er⟩,e⟩: ∃x,x=s.abs.shapeR y:=⟨_,rfl⟩
  rw[←e]
  (repeat(first|with_reducible(first|refine nx ?_|refine r_6 rfl ?_)|simp only[go_sem]))
  refine boxT fun u w7' hu hsu hatu hou=>?_
  (repeat(first|with_reducible(first|refine nx ?_|refine r_6 rfl ?_)|simp only[go_sem]))
  refine stNT (cs:=shV sh) hatu rfl (by simp[shV]) (shV_one _) fun w8' hsu8 hatu8 hou8=>?_
  rw[setL_sh]at hatu8
  have o8:Only [] w5 w8':=ho6.nil (hou.trans hou8 fun y hy=>by simp only[List.mem_singleton]at hy;subst hy;exact .inr (by omega))
  have hI8:=hI5'.keep0 o8
  have hx8:At w8' x [u8V (g.fL i 0),u8V (g.fL i 1),u8V (g.fL i 2)]:=(hatx3.keep0 ho5).keep0 o8
  have hu0:w8'.drew.cell? ⟨u,0,none⟩=some (.int .i64 sh.1):=by rw[hatu8.drew.cell];rfl
  have hId:=hI8.keep0 (Only.drew [] w8')
  have hlx:=hx8.lt
  have hlu:=hatu8.lt
  (repeat(first|with_reducible(first|refine nx ?_|refine r_6 rfl ?_)|simp only[go_sem]))
  refine run_drt [x,u] ?_
  by_cases ce:er=0
  rotate_left
  ·(repeat(first|with_reducible(first|refine nx ?_|refine r_6 rfl ?_)|simp only[go_sem,beq_int_false ce]))
   (repeat(first|with_reducible(first|refine nx ?_|refine r_6 rfl ?_)|simp only[go_sem,h10,z1]))
   refine hnext _ _ ?_ ⟨i+1,?_,by omega,hId⟩ ?_
   ·(repeat(first|with_reducible exact k_1|with_reducible exact Keeps.ovr _ _ _|refine Keeps.put ?_ rfl _|exact k_1|exact Keeps.ovr _ _ _|refine Keeps.ovr2 ?_ rfl _))
   ·simp only[go_sem]
   ·rw[upTo_int (i:=i) h10,upTo_int (k:=.i64) (i:=i+1) (by simp only[go_sem])];omega
  by_cases cr:0<sh.1
  rotate_left
  ·(repeat(first|with_reducible(first|refine nx ?_|refine r_6 rfl ?_)|simp only[go_sem,beq_int_true ce,hu0,decide_eq_false cr]))
   (repeat(first|with_reducible(first|refine nx ?_|refine r_6 rfl ?_)|simp only[go_sem,h10,z1]))
   refine hnext _ _ ?_ ⟨i+1,?_,by omega,hId⟩ ?_
   ·(repeat(first|with_reducible exact k_1|with_reducible exact Keeps.ovr _ _ _|refine Keeps.put ?_ rfl _|exact k_1|exact Keeps.ovr _ _ _|refine Keeps.ovr2 ?_ rfl _))
   ·simp only[go_sem]
   ·rw[upTo_int (i:=i) h10,upTo_int (k:=.i64) (i:=i+1) (by simp only[go_sem])];omega
  (repeat(first|with_reducible(first|refine nx ?_|refine r_6 rfl ?_)|simp only[go_sem,beq_int_true ce,hu0,decide_eq_true cr,q4,t0,t1,t2,hx8.drew.cell,u8V,conv_u8 (g.fL i 1) (bL i 1),conv_u8 (g.fL i 2) (bL i 2),m100b,divO_of (show sh.1≠0 by omega) (.int .i64 (((g.fL i 1:Nat):Int).tmod sh.1))]))
  refine callS (oAt hId (g.fL i 2%100) (by omega)) ?_
  rintro v w9' ⟨⟨to,rfl,t0',t1'⟩,ho9⟩
  refine⟨.inr ((SB.refl _ _).only ho9 fun z hz=>⟨by
   simp only[List.mem_cons,List.not_mem_nil,or_false]at hz
   rcases hz with rfl|rfl
   ·exact hlx
   ·exact hlu,by simp⟩),?_⟩
  (repeat(first|with_reducible(first|refine nx ?_|refine r_6 rfl ?_)|simp only[go_sem]))
  refine callS (oLink (hId.keep0 ho9) y _ to (by omega) ⟨t0',t1'⟩) ?_
  rintro v wA ⟨rfl,hIA,S,hS,hoS⟩
  refine⟨.inl rfl,?_⟩
  (repeat(first|with_reducible(first|refine nx ?_|refine r_6 rfl ?_)|simp only[go_sem]))
  (repeat(first|with_reducible(first|refine nx ?_|refine r_6 rfl ?_)|simp only[go_sem,h10,z1]))
  refine hnext _ _ ?_ ⟨i+1,?_,by omega,hIA⟩ ?_
  ·(repeat(first|with_reducible exact k_1|with_reducible exact Keeps.ovr _ _ _|refine Keeps.put ?_ rfl _|exact k_1|exact Keeps.ovr _ _ _|refine Keeps.ovr2 ?_ rfl _))
  ·simp only[go_sem]
  ·rw[upTo_int (i:=i) h10,upTo_int (k:=.i64) (i:=i+1) (by simp only[go_sem])];omega
 refine run_seq ?_
 refine run_cut (18::192::193::194::195::196::197::198::199::200::201::202::203::204::205::206::207::208::209::210::211::212::213::214::215::216::217::218::219::220::221::222::[]) (fun _ w'=>OpI w1 w' b 40 nb) (fun kk hkk=>?_) (fun g4 w12 hI4=>?_)
 ·(repeat(first|with_reducible(first|refine nx ?_|refine r_6 rfl ?_)|simp only[go_sem]))
  refine run_loop (18::192::193::194::195::196::197::198::199::200::201::202::203::204::205::206::207::208::209::210::211::212::213::214::215::216::217::218::219::220::221::222::[]) (fun g' w'=> ∃i:Nat,g' 18=.int .i64 i∧i≤20∧OpI w1 w' b 40 nb) (fun g' _=>upTo 20 18 g') ⟨0,by simp only[go_sem];rfl,by omega,hI3⟩ fun g' w' hI hnext=>?_
  obtain⟨i,h10,hi40,hI⟩:=hI
  have o':=hOp hI
  have hq':=hq1 w' o'
  by_cases c1:i<g.nP
  rotate_left
  ·(repeat(first|with_reducible(first|refine nx ?_|refine r_6 rfl ?_)|simp only[go_sem,h10,hq'.cell,decide_eq_false (show¬(i:Int)<(g.nP:Int) by omega)]))
   refine hkk _ w' ?_ hI
   (repeat(first|with_reducible exact k_1|with_reducible exact Keeps.ovr _ _ _|refine Keeps.put ?_ rfl _|exact k_1|exact Keeps.ovr _ _ _|refine Keeps.ovr2 ?_ rfl _))
  by_cases c2:i<20
  rotate_left
  ·(repeat(first|with_reducible(first|refine nx ?_|refine r_6 rfl ?_)|simp only[go_sem,h10,hq'.cell,decide_eq_true (show(i:Int)<(g.nP:Int) by omega),decide_eq_false (show¬(i:Int)<20 by omega)]))
   refine hkk _ w' ?_ hI
   (repeat(first|with_reducible exact k_1|with_reducible exact Keeps.ovr _ _ _|refine Keeps.put ?_ rfl _|exact k_1|exact Keeps.ovr _ _ _|refine Keeps.ovr2 ?_ rfl _))
  have ci:(0:Int)≤(i:Int)∧(i:Int)<(g.nP:Int):=by omega
  have z1:IntKind.i64.wrap ((i:Int)+1)=((i+1:Nat):Int):=by rw[IntWalk.i64_in _ (by omega)];omega
  obtain⟨a',c',e',_,hc'⟩:=kU hP w' o'
  cases e'
  obtain⟨p,rfl,hp1,hp2⟩:=hc' i c1
  (repeat(first|with_reducible(first|refine nx ?_|refine r_6 rfl ?_)|simp only[go_sem,h10,hq'.cell,decide_eq_true (show(i:Int)<(g.nP:Int) by omega),decide_eq_true (show(i:Int)<20 by omega)]))
  have q4:((2:Nat):Int)=2:=rfl
  have t0:Int.toNat 0*1=0:=rfl
  have t1:Int.toNat 1*1=1:=rfl
  have ta:(p.add (i*2)).add 0=p.add (i*2):=rfl
  have m100:((g.fP i 1:Nat):Int).tmod 100=((g.fP i 1%100:Nat):Int):=tmodN _ 100
  have hc0:w'.drew.cell? (p.add (i*2))=some (u8V (g.fP i 0)):=hp2 0 (by omega)
  have hc1:w'.drew.cell? ⟨p.block,(p.add (i*2)).off+1,none⟩=some (u8V (g.fP i 1)):=by
   have:w'.drew.cell? _=_:=hp2 1 (by omega)
   rw[←add_block p (i*2)];exact this
  have n1': ∀n,inL [q,p.block] (.pointer (some (p.add n)))=True:=fun n=>by simp[inL,add_block]
  have hId:=hI.keep0 (Only.drew [] w')
  have hzd:w1.heap.size≤w'.drew.heap.size:=(hOp hId).size
  have hbl: ∀z,z∈[q,p.block]→z<w1.heap.size:=fun z hz=>by
   simp only[List.mem_cons,List.not_mem_nil,or_false]at hz
   rcases hz with rfl|rfl<;>omega
  refine run_drt [q,p.block] ?_
  (repeat(first|with_reducible(first|refine nx ?_|refine r_6 rfl ?_)|simp only[go_sem,h10,hq'.drew.cell,if_pos ci,Int.toNat_natCast,q4,t0,t1,ta,add_block,n1',hc0,hc1,u8V,conv_u8 (g.fP i 0) (bP i 0),conv_u8 (g.fP i 1) (bP i 1),m100]))
  refine callS (oAt hId (g.fP i 1%100) (by omega)) ?_
  rintro v w5 ⟨⟨y,rfl,y0,y1⟩,ho5⟩
  refine⟨.inr ((SB.refl _ _).only ho5 fun z hz=>⟨by have:=hbl z hz;omega,by simp⟩),?_⟩
  (repeat(first|with_reducible(first|refine nx ?_|refine r_6 rfl ?_)|simp only[go_sem]))
  refine callS (oSet (hId.keep0 ho5) (g.fP i 0) (by have:=bP i 0;omega) y) ?_
  rintro v w7 ⟨rfl,hI7,S,hS,hoS⟩
  refine⟨.inl rfl,?_⟩
  (repeat(first|with_reducible(first|refine nx ?_|refine r_6 rfl ?_)|simp only[go_sem,h10,z1]))
  refine hnext _ w7 ?_ ⟨i+1,?_,by omega,hI7⟩ ?_
  ·(repeat(first|with_reducible exact k_1|with_reducible exact Keeps.ovr _ _ _|refine Keeps.put ?_ rfl _|exact k_1|exact Keeps.ovr _ _ _|refine Keeps.ovr2 ?_ rfl _))
  ·simp only[go_sem]
  ·rw[upTo_int (i:=i) h10,upTo_int (k:=.i64) (i:=i+1) (by simp only[go_sem])];omega
 refine run_seq ?_
 refine run_cut (19::20::223::224::225::226::227::228::229::230::231::232::233::234::235::236::237::238::239::240::241::242::243::244::245::246::247::248::249::250::251::252::253::254::255::[]) (fun _ w'=>OpI w1 w' b 40 nb) (fun kk hkk=>?_) (fun g5 w13 hI5=>?_)
 ·(repeat(first|with_reducible(first|refine nx ?_|refine r_6 rfl ?_)|simp only[go_sem]))
  refine run_loop (19::20::223::224::225::226::227::228::229::230::231::232::233::234::235::236::237::238::239::240::241::242::243::244::245::246::247::248::249::250::251::252::253::254::255::[]) (fun g' w'=> ∃i:Nat,g' 19=.int .i64 i∧i≤8∧OpI w1 w' b 40 nb) (fun g' _=>upTo 8 19 g') ⟨0,by simp only[go_sem];rfl,by omega,hI4⟩ fun g' w' hI hnext=>?_
  obtain⟨i,h10,hi40,hI⟩:=hI
  have o':=hOp hI
  have hq':=hq1 w' o'
  by_cases c1:i<g.nN
  rotate_left
  ·(repeat(first|with_reducible(first|refine nx ?_|refine r_6 rfl ?_)|simp only[go_sem,h10,hq'.cell,decide_eq_false (show¬(i:Int)<(g.nN:Int) by omega)]))
   refine hkk _ w' ?_ hI
   (repeat(first|with_reducible exact k_1|with_reducible exact Keeps.ovr _ _ _|refine Keeps.put ?_ rfl _|exact k_1|exact Keeps.ovr _ _ _|refine Keeps.ovr2 ?_ rfl _))
  by_cases c2:i<8
  rotate_left
  ·(repeat(first|with_reducible(first|refine nx ?_|refine r_6 rfl ?_)|simp only[go_sem,h10,hq'.cell,decide_eq_true (show(i:Int)<(g.nN:Int) by omega),decide_eq_false (show¬(i:Int)<8 by omega)]))
   refine hkk _ w' ?_ hI
   (repeat(first|with_reducible exact k_1|with_reducible exact Keeps.ovr _ _ _|refine Keeps.put ?_ rfl _|exact k_1|exact Keeps.ovr _ _ _|refine Keeps.ovr2 ?_ rfl _))
  have ci:(0:Int)≤(i:Int)∧(i:Int)<(g.nN:Int):=by omega
  have z1:IntKind.i64.wrap ((i:Int)+1)=((i+1:Nat):Int):=by rw[IntWalk.i64_in _ (by omega)];omega
  obtain⟨a',c',e',_,hc'⟩:=kU hN w' o'
  cases e'
  obtain⟨p,rfl,hp1,hp2⟩:=hc' i c1
  have m100:((g.fN i 0:Nat):Int).tmod 100=((g.fN i 0%100:Nat):Int):=tmodN _ 100
  have hc0:w'.cell? (p.add i)=some (u8V (g.fN i 0)):=by
   have:=hp2 0 (by omega)
   rw[Nat.mul_one]at this
   exact this
  (repeat(first|with_reducible(first|refine nx ?_|refine r_6 rfl ?_)|simp only[go_sem,h10,hq'.cell,decide_eq_true (show(i:Int)<(g.nN:Int) by omega),decide_eq_true (show(i:Int)<8 by omega),if_pos ci,Int.toNat_natCast,Nat.mul_one,hc0,u8V,conv_u8 (g.fN i 0) (bN i 0),m100]))
  refine callT (oAt hI (g.fN i 0%100) (by omega)) ?_
  rintro v w5 ⟨⟨y,rfl,y0,y1⟩,ho5⟩
  obtain⟨s,R,fp,⟨hb',rb',qb',kb',fh',fr',ff',fk',rfl,h1⟩,h2,h3,h4⟩:=hI.keep0 ho5
  have h1d:=h1.keep0 (Only.drew [] w5)
  (repeat(first|with_reducible(first|refine nx ?_|refine r_6 rfl ?_)|simp only[go_sem]))
  refine run_drt [b] ?_
  (repeat(first|with_reducible(first|refine nx ?_|refine r_6 rfl ?_)|simp only[go_sem,h1d.at_.cell]))
  obtain⟨s',e1,e2,e3,_,e5,e6,e7⟩:=abs_pin h1.inv.ok y 1 (by omega)
  have hst:HL.objs s'=s.objs:=by unfold HL.objs;rw[e5]
  refine callS (fPin h1d.f y) ?_
  rintro v w6 ⟨rfl,hf6,ho6⟩
  refine⟨.inr ((SB.refl _ _).only ho6 fun z hz=>by simp only[List.mem_singleton]at hz;subst hz;exact⟨h1d.at_.lt,h1.d1.2.2.1⟩),?_⟩
  (repeat(first|with_reducible(first|refine nx ?_|refine r_6 rfl ?_)|simp only[go_sem]))
  refine callS (hPin (h1d.h.keep ho6 fun z hz=>(h1.d2 z hz).2.1) y (by omega)) ?_
  rintro v w7 ⟨rfl,hh7,ho7⟩
  refine⟨.inl rfl,?_⟩
  rw[e1]at hh7
  rw[show s.abs.pinM y true=s'.abs from e2.symm]at hf6
  have g5:=h1d.both (h1.inv.pin e1 (hh7.ok s' rfl) e7) ho6 hf6 (fun x hx=>.inl hx) ho7 hh7
  have hI7:OpI w1 w7 b 40 nb:=OpI.next h2 h3 g5.1 ((Only.drew _ w5).same g5.2) (fun x hx=>.inl hx) ⟨by rw[e6];exact h4.1,by rw[hst];exact h4.2.1,by rw[e3];exact h4.2.2.1,by rw[e2];exact h4.2.2.2.pinM _ _⟩
  (repeat(first|with_reducible(first|refine nx ?_|refine r_6 rfl ?_)|simp only[go_sem,h10,z1,abs_lacks h1.inv.ok y,bne_int_false (rfl:objE (some s) y=objE (some s) y)]))
  refine hnext _ w7 ?_ ⟨i+1,?_,by omega,hI7⟩ ?_
  ·(repeat(first|with_reducible exact k_1|with_reducible exact Keeps.ovr _ _ _|refine Keeps.put ?_ rfl _|exact k_1|exact Keeps.ovr _ _ _|refine Keeps.ovr2 ?_ rfl _))
  ·simp only[go_sem]
  ·rw[upTo_int (i:=i) h10,upTo_int (k:=.i64) (i:=i+1) (by simp only[go_sem])];omega
 (repeat(first|with_reducible(first|refine nx ?_|refine r_6 rfl ?_)|simp only[go_sem]))
 obtain⟨s,R,fp,h1,h2,h3,h4⟩:=hI5
 exact⟨b,rfl,s,R,fp,h1,fun x hx=>by have:=h2 x hx;omega,ho1.nil h3,h4⟩
end Go.Proofs.YtgcofabdialaaaaGreat
end
section
namespace Go.Proofs.YtgcofabdialaaaaGreat
set_option maxRecDepth 8000
abbrev It:=Nat×Nat×Nat×Bool
def stepS (s0:HL) (it:It) (st:HL×BS):HL×BS:=
 if(shapeO (some st.1) (atS s0 (it.1%100))).2=0∧(shapeO (some st.1) (atS s0 (it.1%100))).1.1≠0 then
  match setRefM (some st.1) (atS s0 (it.1%100)) ((it.2.1%(shapeO (some st.1) (atS s0 (it.1%100))).1.1.toNat:Nat):Int) (if 200≤it.2.2.1 then 0 else atS s0 (it.2.2.1%100))with
  |some s'=>(s',st.2.note (some s') (atS s0 (it.1%100)).toNat (it.2.1%(shapeO (some st.1) (atS s0 (it.1%100))).1.1.toNat) (refsO (some st.1) (atS s0 (it.1%100))) (if 200≤it.2.2.1 then 0 else atS s0 (it.2.2.1%100)))
  |none=>st
 else st
def toS (s0:HL) (it:It):Int:=if 200≤it.2.2.1 then 0 else atS s0 (it.2.2.1%100)
structure Akin (s s':HL):Prop where
 ok:s'.Ok
 inv:s'.Inv
 st:s'.st=s.st
 B:s'.B=s.B
 bn:s'.born=s.born
 rf:RfOk s'.abs
theorem Akin.objs {s s':HL} (h:Akin s s'):s'.objs=s.objs:=by unfold HL.objs;rw[h.st]
theorem atS_ok {s s':HL} (h:Akin s s') (n:Nat):okTo s' (atS s n):=by
 unfold atS
 split
 ·exact .inl rfl
 ·rename_i h0
  have hlt:n%s.objs.length<s.objs.length:=Nat.mod_lt _ (by omega)
  refine .inr ⟨_,rfl,?_⟩
  rw[h.st]
  exact mem_objs.1 (show s.objs.getD (n%s.objs.length) 0∈s.objs by simp[hlt])
theorem toS_ok {s s':HL} (h:Akin s s') (it:It):okTo s' (toS s it):=by
 unfold toS
 split
 ·exact .inl rfl
 ·exact atS_ok h _
theorem Akin.ref {s s':HL} (h:Akin s s') {k j:Nat} (hk:s'.st.getD k 0=1) (hj:j<(s'.obAt k).rf.length):0≤(s'.obAt k).rf.getD j 0∧(s'.obAt k).rf.getD j 0≤4096:=by
 refine h.rf (s'.obAt k) ?_ _ ?_
 ·simp only[HL.abs,List.mem_map];exact⟨k,mem_objs.2 hk,rfl⟩
 ·simp[hj]
theorem shape_live {s:HL} (h:s.Ok) {x:Int} (e:(shapeO (some s) x).2=0): ∃k:Nat,x=((2*k:Nat):Int)∧s.st.getD k 0=1:=by
 unfold shapeO at e
 cases hh:hasO (some s) x with
 |true=>exact(has_iff h).1 hh
 |false=>simp[objE,hh]at e
theorem stepS_skip {s0:HL} {it:It} {s:HL} {t:BS} (h: ¬((shapeO (some s) (atS s0 (it.1%100))).2=0∧(shapeO (some s) (atS s0 (it.1%100))).1.1≠0)):stepS s0 it (s,t)=(s,t):=by
 unfold stepS;exact if_neg h
theorem stepS_do {s0:HL} {it:It} {s s':HL} {t:BS} {k:Nat} (hok:s.Ok) (hk:s.st.getD k 0=1) (ha:atS s0 (it.1%100)=((2*k:Nat):Int)) (hr:(s.obAt k).rf.length≠0)
  (e:setRefM (some s) ((2*k:Nat):Int) ((it.2.1%(s.obAt k).rf.length:Nat):Int) (toS s0 it)=some s'):stepS s0 it (s,t)=(s',t.note (some s') (2*k) (it.2.1%(s.obAt k).rf.length) (s.obAt k).rf (toS s0 it)):=by
 obtain⟨h1,_,_⟩:=obAt_len hok hk
 have e2:(s.obAt k).sh.1.toNat=(s.obAt k).rf.length:=by omega
 unfold toS at e⊢
 unfold stepS
 simp only[ha,at_shape hok hk,refsO_at hok hk,e2,Int.toNat_natCast]
 rw[if_pos (show True∧(s.obAt k).sh.1≠0 from⟨trivial,by omega⟩),e]
def runI (s0:HL):List It→HL×BS→HL×BS
 | [],st=>st
 |it::l,st=>runI s0 l (stepS s0 it st)
theorem runI_snoc (s0:HL) (l:List It) (it:It) (st:HL×BS):runI s0 (l++[it]) st=stepS s0 it (runI s0 l st):=by
 induction l generalizing st with
 |nil=>rfl
 |cons a l ih=>exact ih _
theorem runI_take_succ (s0:HL) (l:List It) (i:Nat) (hi:i<l.length) (st:HL×BS):runI s0 (l.take (i+1)) st=stepS s0 (l.getD i default) (runI s0 (l.take i) st):=by
 rw[List.take_succ_eq_append_getElem hi,runI_snoc]
 simp[hi]
theorem note_len (m:HO) (t:BS) (x i:Nat) (refs:List Int) (now:Int):(t.note m x i refs now).S.length≤t.S.length+2∧(t.note m x i refs now).L.length≤t.L.length+1:=by
 unfold BS.note
 obtain⟨_,_,c1,_,_⟩:=BS.note1_k t x refs
 have c1L:(t.note1 x refs).L.length≤t.L.length+1:=by unfold BS.note1;split<;>simp
 generalize t.note1 x refs=t1 at*
 obtain⟨_,_,c2,_,_,c2L⟩:=BS.note2_k t1 (refs.getD i 0)
 generalize t1.note2 (refs.getD i 0)=t2 at*
 obtain⟨_,_,c3,_,c3L⟩:=BS.note3_k t2 (((x+2+i)/8:Nat):Int)
 generalize t2.note3 (((x+2+i)/8:Nat):Int)=t3 at*
 obtain⟨_,_,c4,_,c4L⟩:=BS.note4_k m t3 x now
 generalize BS.note4 m t3 x now=t4 at*
 have c5:(t4.note5 now).S.length≤t4.S.length+1∧(t4.note5 now).L=t4.L:=by
  unfold BS.note5;split
  ·exact⟨shadeL_len _ _,rfl⟩
  ·exact⟨by omega,rfl⟩
 rw[c5.2,c4L,c3L,c2L]
 rw[c4,c3]at c5
 rw[c1]at c2
 exact⟨by omega,c1L⟩
theorem setRef_akin {s0 s s':HL} (h:Akin s0 s) {x i to:Int} (ht:0≤to∧to≤4096) (e:setRefM (some s) x i to=some s') (hok:s'.Ok):Akin s0 s':=by
 obtain⟨t,e1,e2,e3,e4,e5,e6⟩:=abs_setRef h.ok x i to
 have hts:s'=t:=Option.some.inj (e.symm.trans e1)
 subst hts
 exact⟨hok,h.inv.setRef e hok,by rw[e4,h.st],by rw[e3,h.B],by rw[e5,h.bn],by rw[e2];exact h.rf.setRefM _ _ _ ht⟩
theorem obAt_setRef {s s':HL} (h:s.Ok) (hok:s'.Ok) {k j:Nat} {to:Int} (hk:s.st.getD k 0=1) (hj:j<(s.obAt k).rf.length) (ht:okTo s to) (e:setRefM (some s) ((2*k:Nat):Int) (j:Int) to=some s') (i:Nat) (hi:s.st.getD i 0=1):
  s'.obAt i=if i=k then {s.obAt k with rf:=(s.obAt k).rf.set j to}else s.obAt i:=by
 obtain⟨t,e1,e2,e3,e4,e5,e6⟩:=abs_setRef h ((2*k:Nat):Int) (j:Int) to
 have hts:s'=t:=Option.some.inj (e.symm.trans e1)
 subst hts
 have ho:s'.objs=s.objs:=by unfold HL.objs;rw[e4]
 obtain⟨a,ha,hae⟩:=objs_index hk
 obtain⟨c,hc,hce⟩:=objs_index hi
 have hE:s.abs.setRefR ((2*k:Nat):Int) (j:Int) to=0:=by rw[abs_setRefE h];exact setRef_ok h hk hj ht
 have g1:s'.abs.O.getD c default=s'.obAt i:=abs_get (by rw[ho];exact hc) (by rw[ho];exact hce)
 have g2:s.abs.O.getD c default=s.obAt i:=abs_get hc hce
 have g3:s.abs.O.getD a default=s.obAt k:=abs_get ha hae
 rw[←g1,e2]
 unfold RL.setRefM
 rw[if_pos hE]
 unfold RL.upd
 rw[abs_ix ha hae]
 show(s.abs.O.set a {s.abs.O.getD a default with rf:=(s.abs.O.getD a default).rf.set (j:Int).toNat to}).getD c default=_
 have hl:s.abs.O.length=s.objs.length:=abs_len s
 rw[g3,Int.toNat_natCast]
 by_cases hik:i=k
 ·subst hik
  rw[if_pos rfl]
  have hac:a=c:=by
   have:=(abs_ix ha hae).symm.trans (abs_ix hc hce)
   exact Option.some.inj this
  subst hac
  rw[List.getD_eq_getElem?_getD,List.getElem?_set_self (by omega)];rfl
 ·rw[if_neg hik]
  have hac:a≠c:=fun e=>hik (by rw[←hce,←hae,e])
  rw[List.getD_eq_getElem?_getD,List.getElem?_set_ne hac,←List.getD_eq_getElem?_getD,g2]
def StAt (h0:Nat) (w:World) (v:Value) (l:List It):Prop:= ∃(a:Option Addr) (cap:Nat),v=.slice a l.length cap∧ ∀i,i<l.length→ ∃p,a=some p∧p.block<h0∧(l.getD i default).1<256∧(l.getD i default).2.1<256∧(l.getD i default).2.2.1<256∧
 w.cell? (p.add (i*4))=some (u8V (l.getD i default).1)∧w.cell? ((p.add (i*4)).add 1)=some (u8V (l.getD i default).2.1)∧w.cell? ((p.add (i*4)).add 2)=some (u8V (l.getD i default).2.2.1)∧w.cell? ((p.add (i*4)).add 3)=some (.bool (l.getD i default).2.2.2)
theorem StAt.keep {h0:Nat} {w w':World} {v:Value} {l:List It} {S:List Nat} (h:StAt h0 w v l) (hz:h0≤w.heap.size) (o:Only S w w') (hs: ∀x,x∈S→h0≤x):StAt h0 w' v l:=by
 obtain⟨a,c,e,hc⟩:=h
 refine⟨a,c,e,fun i hi=>?_⟩
 obtain⟨p,e1,e2,l1,l2,l3,g0,g1,g2,g3⟩:=hc i hi
 have hb:w'.heap[p.block]? =w.heap[p.block]? :=o.block _ (by omega) fun hx=>by have:=hs _ hx;omega
 refine⟨p,e1,e2,l1,l2,l3,?_,?_,?_,?_⟩
 ·rw[cell_of_heap (w:=w) (w':=w') (by rw[add_block];exact hb)];exact g0
 ·rw[cell_of_heap (w:=w) (w':=w') (by rw[add_block,add_block];exact hb)];exact g1
 ·rw[cell_of_heap (w:=w) (w':=w') (by rw[add_block,add_block];exact hb)];exact g2
 ·rw[cell_of_heap (w:=w) (w':=w') (by rw[add_block,add_block];exact hb)];exact g3
end Go.Proofs.YtgcofabdialaaaaGreat
end
section
namespace Go.Proofs.YtgcofabdialaaaaGreat
set_option maxRecDepth 8000
theorem cStored {w:World} {h0 sb hb rb kb qb b:Nat} {s0 s1:HL} {ff fh fp:List Nat} {t1:BS} {vl:Value} {l:List It} (hz:h0≤w.heap.size) (hat:At w sb [.pointer (some ⟨hb,0,none⟩),.pointer (some ⟨rb,0,none⟩),.pointer (some ⟨qb,0,none⟩),.pointer (some ⟨kb,0,none⟩)]) (hf:FM w qb s0.abs ff)
  (hh:HR w (some ⟨hb,0,none⟩) fh (some s1)) (hk:Akin s0 s1) (hB:BM w b ⟨hb,0,none⟩ t1 fp) (d1:sb∉fh∧sb∉fp) (d2: ∀y,y∈ff→y∉fh∧y∉fp) (d3: ∀y,y∈fh→y∉fp) (hl:StAt h0 w vl l) (hge: ∀x,x∈fh++fp→h0≤x) (hS:t1.S.length≤1000) (hL:t1.L.length≤1000):
  Cs Tryz.prog 44 [.pointer (some ⟨sb,0,none⟩),.pointer (some ⟨b,0,none⟩),vl] w fun v w'=>v=.bool true∧ ∃s' t' fp',runI s0 (l.take 60) (s1,t1)=(s',t')∧Akin s0 s'∧HR w' (some ⟨hb,0,none⟩) fh (some s')∧BM w' b ⟨hb,0,none⟩ t' fp'∧(∀y,y∈fp'→y∈fp∨w.heap.size≤y)∧Only (fh++fp) w w':=by
 obtain⟨aL,cL,rfl,_⟩:=id hl
 have hlh:=hh.lt
 have hlf:=hf.lt
 have hlb:=hB.lt
 have hsb:=hat.lt
 refine enter_law12_stored rfl ?_
 unfold x_law12_stored
 (repeat(first|with_reducible(first|refine nx ?_|refine r_6 rfl ?_)|simp only[go_sem]))
 refine run_loop (7::8::9::10::11::12::13::14::15::16::17::18::19::20::21::22::23::24::25::26::27::28::29::30::31::32::33::34::35::36::37::38::39::40::41::42::43::44::45::46::47::48::49::50::51::52::53::54::55::56::57::58::59::60::61::62::63::64::65::66::67::68::69::70::71::72::73::74::75::76::77::78::79::80::81::82::83::84::85::86::87::88::89::90::91::92::93::94::95::96::97::98::99::100::101::102::103::104::105::106::107::108::109::110::111::112::113::114::115::116::[]) (fun g w'=> ∃(i:Nat) (s':HL) (t':BS) (fp':List Nat),g 7=.int .i64 (i:Int)∧i≤l.length∧i≤60∧runI s0 (l.take i) (s1,t1)=(s',t')∧t'.S.length≤1000+2*i∧t'.L.length≤1000+i∧Akin s0 s'∧HR w' (some ⟨hb,0,none⟩) fh (some s')∧BM w' b ⟨hb,0,none⟩ t' fp'∧(∀y,y∈fp'→y∈fp∨w.heap.size≤y)∧Only (fh++fp) w w') (fun g _=>upTo 60 7 g)
  ⟨0,s1,t1,fp,by simp only[go_sem];rfl,by omega,by omega,rfl,by omega,by omega,hk,hh,hB,fun y hy=>.inl hy,Only.refl _ _⟩ fun g w' hI hnext=>?_
 obtain⟨i,s',t',fp',h7,hil,hi60,hrun,hS',hL',hk',hh',hB',hsub,ho⟩:=hI
 by_cases c1:i<l.length
 rotate_left
 ·obtain rfl:i=l.length:=by omega
  (repeat(first|with_reducible(first|refine nx ?_|refine r_6 rfl ?_)|simp only[go_sem,h7,decide_eq_false (show¬((l.length:Nat):Int)<(l.length:Int) by omega)]))
  refine⟨s',t',fp',?_,hk',hh',hB',hsub,ho⟩
  rw[List.take_of_length_le (by omega)]at hrun⊢;exact hrun
 by_cases c2:i<60
 rotate_left
 ·obtain rfl:i=60:=by omega
  (repeat(first|with_reducible(first|refine nx ?_|refine r_6 rfl ?_)|simp only[go_sem,h7,decide_eq_true (show((60:Nat):Int)<(l.length:Int) by omega),decide_eq_false (show¬((60:Nat):Int)<60 by omega)]))
  exact⟨s',t',fp',hrun,hk',hh',hB',hsub,ho⟩
 have hz':=ho.size
 have hatT:At w' sb _:=hat.keep ho (by simp[d1])
 have hfT:FM w' qb s0.abs ff:=hf.keep ho fun y hy=>by simp[d2 y hy]
 obtain⟨a',c',e',hc'⟩:=hl.keep hz ho hge
 cases e'
 obtain⟨p,rfl,hp1,l1,l2,l3,g0,g1,g2,g3⟩:=hc' i c1
 obtain⟨it,hit⟩: ∃it,it=l.getD i default:=⟨_,rfl⟩
 rw[←hit]at l1 l2 l3 g0 g1 g2 g3
 have ci:(0:Int)≤(i:Int)∧(i:Int)<(l.length:Int):=by omega
 have g1:w'.cell? ⟨p.block,(p.add (i*4)).off+1,none⟩=some (u8V it.2.1):=by rw[←add_block p (i*4)];exact g1
 have g2:w'.cell? ⟨p.block,(p.add (i*4)).off+2,none⟩=some (u8V it.2.2.1):=by rw[←add_block p (i*4)];exact g2
 have g3:w'.cell? ⟨p.block,(p.add (i*4)).off+3,none⟩=some (.bool it.2.2.2):=by rw[←add_block p (i*4)];exact g3
 have hin: ∀n,inL [p.block] (.pointer (some (p.add n)))=True:=fun n=>by simp[inL,add_block]
 have ta:(p.add (i*4)).add 0=p.add (i*4):=rfl
 have m1:((it.1:Nat):Int).tmod 100=((it.1%100:Nat):Int):=tmodN _ 100
 have m2:((it.2.2.1:Nat):Int).tmod 100=((it.2.2.1%100:Nat):Int):=tmodN _ 100
 have hrun1:runI s0 (l.take (i+1)) (s1,t1)=stepS s0 it (s',t'):=by rw[runI_take_succ s0 l i c1,hrun,hit]
 (repeat(first|with_reducible(first|refine nx ?_|refine r_6 rfl ?_)|simp only[go_sem,h7,decide_eq_true (show(i:Int)<(l.length:Int) by omega),decide_eq_true (show(i:Int)<60 by omega)]))
 have od:=Only.drew [] w'
 have hpd:p.block<w'.drew.heap.size:=by show p.block<w'.heap.size;omega
 refine run_drt [p.block] ?_
 (repeat(first|with_reducible(first|refine nx ?_|refine r_6 rfl ?_)|simp only[go_sem,h7,if_pos ci,Int.toNat_natCast,ta,add_block,hin,g0,g1,g2,g3,u8V,conv_u8 it.1 l1,conv_u8 it.2.2.1 l3,m1,m2]))
 have sbd: ∀z,z∈[p.block]→z<w'.drew.heap.size∧z∉([]:List Nat):=fun z hz=>⟨by simp only[List.mem_singleton]at hz;subst hz;exact hpd,by simp⟩
 refine callS1 (cAtF hatT.drew (hfT.keep0 od) (it.1%100) (by omega)) (.inr ⟨SB.refl _ _,sbd⟩) fun w5 ho5=>?_
 (repeat(first|with_reducible(first|refine nx ?_|refine r_6 rfl ?_)|simp only[go_sem]))
 refine callS1 (cAtF (hatT.drew.keep0 ho5) ((hfT.keep0 od).keep0 ho5) (it.2.2.1%100) (by omega)) (.inl rfl) fun w6 ho6=>?_
 have o6:Only [] w' w6:=(od.nil ho5).nil ho6
 simp only[go_sem]
 refine run_seq ?_
 refine run_cut (9::43::44::45::46::47::48::[]) (fun ρ' w7=>ρ' 9=.int .i64 (toS s0 it)∧w7=w6) (fun kk hkk=>?_) (fun g9 w7 hJ=>?_)
 ·have hc2:w6.cell? ⟨p.block,(p.add (i*4)).off+2,none⟩=some (u8V it.2.2.1):=by
   rw[cell_of_heap (w:=w') (w':=w6) (o6.block _ (by show p.block<_;omega) (by simp))];exact g2
  by_cases c3:200≤it.2.2.1
  ·(repeat(first|with_reducible(first|refine nx ?_|refine r_6 rfl ?_)|simp only[go_sem,h7,if_pos ci,Int.toNat_natCast,add_block,hc2,u8V,decide_eq_true (show(200:Int)≤(it.2.2.1:Int) by omega)]))
   refine hkk _ w6 ?_ ⟨?_,rfl⟩
   ·(repeat(first|with_reducible exact k_1|with_reducible exact Keeps.ovr _ _ _|refine Keeps.put ?_ rfl _|exact k_1|exact Keeps.ovr _ _ _|refine Keeps.ovr2 ?_ rfl _))
   ·simp only[go_sem]
    unfold toS;rw[if_pos c3]
  ·(repeat(first|with_reducible(first|refine nx ?_|refine r_6 rfl ?_)|simp only[go_sem,h7,if_pos ci,Int.toNat_natCast,add_block,hc2,u8V,decide_eq_false (show¬(200:Int)≤(it.2.2.1:Int) by omega)]))
   refine hkk _ w6 ?_ ⟨?_,rfl⟩
   ·(repeat(first|with_reducible exact k_1|with_reducible exact Keeps.ovr _ _ _|refine Keeps.put ?_ rfl _|exact k_1|exact Keeps.ovr _ _ _|refine Keeps.ovr2 ?_ rfl _))
   ·simp only[go_sem]
    unfold toS;rw[if_neg c3]
 obtain⟨h9,e7⟩:=hJ
 rw[e7]
 clear e7 w7
 have hat6:=hatT.keep0 o6
 have hh6:=hh'.keep0 o6
 have hB6:=hB'.keep0 o6
 have hok':=hk'.ok
 have haok:=atS_ok hk' (it.1%100)
 have hale:=haok.le hok'
 have htok:=toS_ok hk' it
 have htle:=htok.le hok'
 have hls:w.heap.size≤w6.heap.size:=by have:=o6.size;omega
 (repeat(first|with_reducible(first|refine nx ?_|refine r_6 rfl ?_)|simp only[go_sem,hat6.cell]))
 refine callT1 (hShape hh6 (atS s0 (it.1%100)) (by omega)) fun w7 ho7=>?_
 obtain⟨⟨sh,er⟩,hshe⟩: ∃x,x=shapeO (some s') (atS s0 (it.1%100)):=⟨_,rfl⟩
 rw[←hshe]
 (repeat(first|with_reducible(first|refine nx ?_|refine r_6 rfl ?_)|simp only[go_sem]))
 refine boxT fun u w8 hu hs8 hat8 ho8=>?_
 (repeat(first|with_reducible(first|refine nx ?_|refine r_6 rfl ?_)|simp only[go_sem]))
 refine stNT (cs:=shV sh) hat8 rfl (by simp[shV]) (shV_one _) fun w9 hs9 hat9 ho9=>?_
 rw[setL_sh]at hat9
 have o9:Only [] w' w9:=(o6.nil ho7).nil (ho8.trans ho9 fun y hy=>by simp only[List.mem_singleton]at hy;subst hy;exact .inr (by omega))
 have oo9:Only (fh++fp) w w9:=ho.nil o9
 have hh9:=hh'.keep0 o9
 have hB9:=hB'.keep0 o9
 have hat9':=hatT.keep0 o9
 have hu0:w9.cell? ⟨u,0,none⟩=some (.int .i64 sh.1):=by rw[hat9.cell];rfl
 have z1:IntKind.i64.wrap ((i:Int)+1)=((i+1:Nat):Int):=by rw[IntWalk.i64_in _ (by omega)];omega
 by_cases c4:er=0∧sh.1≠0
 rotate_left
 ·have hsk:stepS s0 it (s',t')=(s',t'):=stepS_skip (by rw[←hshe];exact c4)
  have hfin: ∀(g2:Env),g2 7=.int .i64 ((i+1:Nat):Int)→ ∃(j:Nat) (s2:HL) (t2:BS) (fp2:List Nat),g2 7=.int .i64 (j:Int)∧j≤l.length∧j≤60∧runI s0 (l.take j) (s1,t1)=(s2,t2)∧t2.S.length≤1000+2*j∧t2.L.length≤1000+j∧Akin s0 s2∧HR w9 (some ⟨hb,0,none⟩) fh (some s2)∧BM w9 b ⟨hb,0,none⟩ t2 fp2∧(∀y,y∈fp2→y∈fp∨w.heap.size≤y)∧Only (fh++fp) w w9:=fun g2 e=>⟨i+1,s',t',fp',e,by omega,by omega,by rw[hrun1,hsk],by omega,by omega,hk',hh9,hB9,hsub,oo9⟩
  by_cases c5:er=0
  ·have c6:sh.1=0:=Decidable.byContradiction fun h=>c4 ⟨c5,h⟩
   (repeat(first|with_reducible(first|refine nx ?_|refine r_6 rfl ?_)|simp only[go_sem,bne_int_false c5,hu0,beq_int_true c6,h7,z1]))
   refine hnext _ w9 ?_ (hfin _ ?_) ?_
   ·(repeat(first|with_reducible exact k_1|with_reducible exact Keeps.ovr _ _ _|refine Keeps.put ?_ rfl _|exact k_1|exact Keeps.ovr _ _ _|refine Keeps.ovr2 ?_ rfl _))
   ·simp only[go_sem]
   ·rw[upTo_int (i:=i) h7,upTo_int (k:=.i64) (i:=i+1) (by simp only[go_sem])];omega
  ·(repeat(first|with_reducible(first|refine nx ?_|refine r_6 rfl ?_)|simp only[go_sem,bne_int_true c5,h7,z1]))
   refine hnext _ w9 ?_ (hfin _ ?_) ?_
   ·(repeat(first|with_reducible exact k_1|with_reducible exact Keeps.ovr _ _ _|refine Keeps.put ?_ rfl _|exact k_1|exact Keeps.ovr _ _ _|refine Keeps.ovr2 ?_ rfl _))
   ·simp only[go_sem]
   ·rw[upTo_int (i:=i) h7,upTo_int (k:=.i64) (i:=i+1) (by simp only[go_sem])];omega
 obtain⟨c5,c6⟩:=c4
 obtain⟨k,hka,hkl⟩:=shape_live hok' (x:=atS s0 (it.1%100)) (by rw[←hshe];exact c5)
 obtain⟨hrl,_,_⟩:=obAt_len hok' hkl
 have hsh2:sh=(s'.obAt k).sh:=by
  have:=at_shape hok' hkl
  rw[←hka,←hshe]at this
  exact congrArg Prod.fst this
 rw[←hsh2]at hrl
 have hr0:(s'.obAt k).rf.length≠0:=by omega
 have hjlt:it.2.1%(s'.obAt k).rf.length<(s'.obAt k).rf.length:=Nat.mod_lt _ (by omega)
 have hrl15:=rf_le hok' hkl
 obtain⟨s2,e1,e2,e3,e4,e5,e6⟩:=abs_setRef hok' ((2*k:Nat):Int) ((it.2.1%(s'.obAt k).rf.length:Nat):Int) (toS s0 it)
 have hstep:=stepS_do (s0:=s0) (it:=it) (t:=t') hok' hkl hka hr0 e1
 have hjm:((it.2.1:Nat):Int).tmod sh.1=((it.2.1%(s'.obAt k).rf.length:Nat):Int):=by rw[←hrl];exact tmodN _ _
 have hnl:=note_len (some s2) t' (2*k) (it.2.1%(s'.obAt k).rf.length) (s'.obAt k).rf (toS s0 it)
 generalize hj:it.2.1%(s'.obAt k).rf.length=j at*
 have ck: ∀ {w2:World} (o:Nat) {v:Value},Only [] w' w2→w'.cell? ⟨p.block,(p.add (i*4)).off+o,none⟩=some v→w2.cell? ⟨p.block,(p.add (i*4)).off+o,none⟩=some v:=fun o v oo e=>by
  rw[cell_of_heap (w:=w') (oo.block _ (by show p.block<_;omega) (by simp))];exact e
 have o9d:=o9.nil (Only.drew [] w9)
 have hu0d:w9.drew.cell? ⟨u,0,none⟩=some (.int .i64 sh.1):=by rw[hat9.drew.cell];rfl
 (repeat(first|with_reducible(first|refine nx ?_|refine r_6 rfl ?_)|simp only[go_sem,bne_int_false c5,hu0,beq_int_false c6,hu0d,h7,if_pos ci,Int.toNat_natCast,add_block,ck 1 o9d g1,ck 3 o9d g3,u8V,conv_u8 it.2.1 l2,hjm,divO_of c6 (.int .i64 (j:Int))]))
 have hh10:=hh'.keep0 o9d
 have hB10:=hB'.keep0 o9d
 have d3': ∀y,y∈fh→y∉fp':=fun y hy hy2=>by
  rcases hsub y hy2 with h|h
  ·exact d3 y hy h
  ·have:=hlh y hy;omega
 have hz10:w.heap.size≤w9.drew.heap.size:=(ho.nil o9d).size
 have hO10: ∀ {w2:World},Only (fh++fp') w9.drew w2→Only (fh++fp) w w2:=fun o=>(ho.nil o9d).trans o fun y hy=>by
  rcases List.mem_append.1 hy with h|h
  ·exact .inl (by simp[h])
  ·rcases hsub y h with h|h
   ·exact .inl (by simp[h])
   ·exact .inr h
 cases hpast:it.2.2.2 with
 |false=>
  (repeat(first|with_reducible(first|refine nx ?_|refine r_6 rfl ?_)|simp only[go_sem,h9,hka]))
  refine callT (bStoreT hB10 hh10 d3' hkl (by omega) htok e1 (by omega) (by omega)) ?_
  rintro v w11 ⟨rfl,hh11,ho11,fp2,hB11,hs11⟩
  (repeat(first|with_reducible(first|refine nx ?_|refine r_6 rfl ?_)|simp only[go_sem,bne_int_false (rfl:(0:Int)=0),h7,z1]))
  refine hnext _ w11 ?_ ⟨i+1,s2,_,fp2,?_,by omega,by omega,by rw[hrun1,hstep],by omega,by omega,setRef_akin hk' htle e1 (hh11.ok s2 rfl),hh11,hB11,fun y hy=>?_,hO10 ho11⟩ ?_
  ·(repeat(first|with_reducible exact k_1|with_reducible exact Keeps.ovr _ _ _|refine Keeps.put ?_ rfl _|exact k_1|exact Keeps.ovr _ _ _|refine Keeps.ovr2 ?_ rfl _))
  ·simp only[go_sem]
  ·rcases hs11 y hy with h|h
   ·exact hsub y h
   ·exact .inr (by omega)
  ·rw[upTo_int (i:=i) h7,upTo_int (k:=.i64) (i:=i+1) (by simp only[go_sem])];omega
 |true=>
  (repeat(first|with_reducible(first|refine nx ?_|refine r_6 rfl ?_)|simp only[go_sem,(hat9'.drew).cell,hka]))
  have href:=at_ref hok' hkl (show j<(s'.obAt k).rf.length by omega)
  have hbnd:=hk'.ref hkl (show j<(s'.obAt k).rf.length by omega)
  refine callT1 (hRef hh10 ((2*k:Nat):Int) (j:Int) (by omega)) fun w11 ho11=>?_
  rw[href]
  have hhB:=hh10.keep0 ho11
  (repeat(first|with_reducible(first|refine nx ?_|refine r_6 rfl ?_)|simp only[go_sem,bne_int_false (rfl:(0:Int)=0),((hat9'.drew).keep0 ho11).cell,h9]))
  refine callT (hSetRef hhB ((2*k:Nat):Int) (j:Int) (toS s0 it) (by omega) (by omega)) ?_
  rintro v w12 ⟨rfl,hh12,ho12⟩
  rw[setRef_ok hok' hkl (by omega) htok]
  rw[e1]at hh12
  have hok2:=hh12.ok s2 rfl
  have hk2:s2.st.getD k 0=1:=by rw[e4];exact hkl
  have hob:=obAt_setRef hok' hok2 hkl (show j<(s'.obAt k).rf.length by omega) htok e1 k hkl
  rw[if_pos rfl]at hob
  have hB12:=(hB10.keep0 ho11).keep ho12 fun y hy hy2=>d3' y hy2 hy
  have hrfn:(s2.obAt k).rf=(s'.obAt k).rf.set j (toS s0 it):=by rw[hob]
  have hrfl:(s2.obAt k).rf.length=(s'.obAt k).rf.length:=by rw[hrfn,List.length_set]
  have hnow:(s2.obAt k).rf.getD j 0=toS s0 it:=by rw[hrfn,List.getD_eq_getElem?_getD,List.getElem?_set_self (by omega)];rfl
  have hold:(s2.obAt k).rf.set j ((s'.obAt k).rf.getD j 0)=(s'.obAt k).rf:=by
   rw[hrfn,List.set_set]
   have hjl:j<(s'.obAt k).rf.length:=by omega
   rw[List.getD_eq_getElem?_getD,List.getElem?_eq_getElem hjl,Option.getD_some,List.set_getElem_self]
  have hk2':=setRef_akin hk' htle e1 hok2
  have ho2':okTo s2 ((s2.obAt k).rf.getD j 0):=by rw[hnow];exact toS_ok hk2' it
  (repeat(first|with_reducible(first|refine nx ?_|refine r_6 rfl ?_)|simp only[go_sem,bne_int_false (rfl:(0:Int)=0)]))
  refine callT (bNoteT hB12 hh12 d3' hk2 (by omega) hbnd.1 ho2' (by omega) (by omega)) ?_
  rintro v w13 ⟨rfl,ho13,fp2,hB13,hs13⟩
  rw[hold,hnow]at hB13
  have o13:Only (fh++fp') w9.drew w13:=((ho11.of_nil (T:=fh++fp')).same (ho12.weakT fun y hy=>by simp[hy])).same (ho13.weakT fun y hy=>by simp[hy])
  have hz11:=ho11.size
  have hz12:=ho12.size
  (repeat(first|with_reducible(first|refine nx ?_|refine r_6 rfl ?_)|simp only[go_sem,bne_int_false (rfl:(0:Int)=0),h7,z1]))
  refine hnext _ w13 ?_ ⟨i+1,s2,_,fp2,?_,by omega,by omega,by rw[hrun1,hstep],by omega,by omega,hk2',hh12.keep ho13 d3',hB13,fun y hy=>?_,hO10 o13⟩ ?_
  ·(repeat(first|with_reducible exact k_1|with_reducible exact Keeps.ovr _ _ _|refine Keeps.put ?_ rfl _|exact k_1|exact Keeps.ovr _ _ _|refine Keeps.ovr2 ?_ rfl _))
  ·simp only[go_sem]
  ·rcases hs13 y hy with h|h
   ·exact hsub y h
   ·exact .inr (by omega)
  ·rw[upTo_int (i:=i) h7,upTo_int (k:=.i64) (i:=i+1) (by simp only[go_sem])];omega
end Go.Proofs.YtgcofabdialaaaaGreat
end
section
namespace Go.Proofs.YtgcofabdialaaaaGreat
set_option maxRecDepth 8000
theorem RetV_ttt (t u v:Nat) (ρ:Env) (w:World) (R:Value→World→Prop):RetV [.t t,.t u,.t v] ρ w R=R (.tuple #[ρ t,ρ u,ρ v]) w:=by unfold RetV;rfl
attribute [go_sem] RetV_ttt
theorem U8At.up {h0 h1:Nat} {w:World} {v:Value} {n sz:Nat} {f:Nat→Nat→Nat} (h:U8At h0 w v n sz f) (hh:h0≤h1):U8At h1 w v n sz f:=by
 obtain⟨a,c,e,hf,hc⟩:=h
 exact⟨a,c,e,hf,fun i hi=>by obtain⟨p,e1,e2,e3⟩:=hc i hi;exact⟨p,e1,by omega,e3⟩⟩
theorem BegAt.keep0 {h0 h1:Nat} {w w':World} {cs:List Value} {g:BG} {vO vD vL vP vN:Value} (h:BegAt h0 w cs g vO vD vL vP vN) (hz:h0≤w.heap.size) (hh:h0≤h1) (o:Only [] w w'):BegAt h1 w' cs g vO vD vL vP vN:=
 ⟨h.e,h.l0,h.l1,(h.o.keep hz o (by simp)).up hh,(h.d.keep hz o (by simp)).up hh,(h.l.keep hz o (by simp)).up hh,(h.p.keep hz o (by simp)).up hh,(h.n.keep hz o (by simp)).up hh⟩
theorem StAt.keep0' {h0 h1:Nat} {w w':World} {v:Value} {l:List It} (h:StAt h0 w v l) (hz:h0≤w.heap.size) (hh:h0≤h1) (o:Only [] w w'):StAt h1 w' v l:=by
 obtain⟨a,c,e,hc⟩:=h.keep hz o (by simp)
 exact⟨a,c,e,fun i hi=>by obtain⟨p,e1,e2,e3⟩:=hc i hi;exact⟨p,e1,by omega,e3⟩⟩
def BS0 (kd yg:Int):BS:=⟨kd,yg,[],[],[],[]⟩
theorem Akin.self {s:HL} (h:s.Inv) (hr:RfOk s.abs):Akin s s:=⟨h.ok,h,rfl,rfl,rfl,hr⟩
structure Wt (w0 w:World) (a c x hb:Nat) (s0 s1:HL) (t:BS) (l:List It) (kd yg:Int) (fa fc fx fh:List Nat):Prop where
 run:runI s0 (l.take 60) (s0,BS0 kd yg)=(s1,t)
 k0:Akin s0 s0
 k1:Akin s0 s1
 n40:s0.objs.length≤40
 was:FM w a s0.abs fa
 now:FM w c s1.abs fc
 bar:BM w x ⟨hb,0,none⟩ t fx
 h:HR w (some ⟨hb,0,none⟩) fh (some s1)
 d1: ∀y,y∈fh→y∉fx∧y∉fa∧y∉fc
 d2: ∀y,y∈fx→y∉fa∧y∉fc
 ge: ∀y,y∈fa++(fc++(fx++fh))→w0.heap.size≤y
 o:Only [] w0 w
theorem cWatched {w:World} {cs:List Value} {g:BG} {vO vD vL vP vN vl:Value} {l:List It} (hg:BegAt w.heap.size w cs g vO vD vL vP vN) (hl:StAt w.heap.size w vl l) (kd yg:Int) (k1:1≤kd) (k2:kd≤63) (y0:0≤yg) (y1:yg<8):
  Cs Tryz.prog 11 [.agg ⟨cs⟩,.int .i64 kd,.int .i64 yg,vl] w fun v w'=> ∃a c x hb s0 s1 t fa fc fx fh,v=.tuple #[.pointer (some ⟨a,0,none⟩),.pointer (some ⟨c,0,none⟩),.pointer (some ⟨x,0,none⟩)]∧Wt w w' a c x hb s0 s1 t l kd yg fa fc fx fh:=by
 have hcs:=hg.e
 refine enter_law12_watched rfl ?_
 unfold x_law12_watched
 (repeat(first|with_reducible(first|refine nx ?_|refine r_6 rfl ?_)|simp only[go_sem]))
 refine boxT fun q w1 hq hs1 hat1 ho1=>?_
 have hz1:=ho1.size
 have hc1:cellsAt w1 ⟨q,0,none⟩ 7=some cs:=by rw[cellsAt_at hat1 0 7 (by rw[hcs];simp),hcs];rfl
 have hg1:=hg.keep0 (Nat.le_refl _) hz1 ho1
 (repeat(first|with_reducible(first|refine nx ?_|refine r_6 rfl ?_)|simp only[go_sem,hc1]))
 refine callT (cOpen1 hg1) ?_
 rintro v w2 ⟨sb,rfl,s0,R,fp,⟨hb,rb,qb,kb,fh,fr,ff,fk,rfl,hsc⟩,hge2,ho2,hsz⟩
 have hk0:Akin s0 s0:=.self hsc.inv hsz.2.2.2
 have lt2:=hsc.lt
 have z2:=ho2.size
 (repeat(first|with_reducible(first|refine nx ?_|refine r_6 rfl ?_)|simp only[go_sem,hsc.at_.cell]))
 refine callT (bNewS hsc.h kd yg k1 k2 y0 y1) ?_
 rintro v w3 ⟨x,bd,bo,rfl,hx3,hd3,ho3m,g1,g2,g3,ho3⟩
 have z3:=ho3.size
 have hsc3:=hsc.keep0 ho3
 have hB3:BM w3 x ⟨hb,0,none⟩ (BS0 kd yg) [x,bd,bo]:=⟨bd,bo,.slice none 0 0,.slice none 0 0,[],[],[],rfl,hx3,hd3,ho3m,⟨rfl,.inl ⟨rfl,rfl,rfl⟩⟩,⟨rfl,.inl ⟨rfl,rfl,rfl⟩⟩,rfl,by simp,by simp[lgF];omega⟩
 have lt3:=hB3.lt
 (repeat(first|with_reducible(first|refine nx ?_|refine r_6 rfl ?_)|simp only[go_sem,bne_int_false (rfl:(0:Int)=0),hsc3.at_.cell]))
 refine callT (cRead hsc3.h hsc3.inv) ?_
 rintro v w4 ⟨ho4,a,fa,rfl,ha4,gfa⟩
 have z4:=ho4.size
 have hsc4:=hsc3.keep0 ho4
 have hB4:=hB3.keep0 ho4
 have lt4:=ha4.lt
 (repeat(first|with_reducible(first|refine nx ?_|refine r_6 rfl ?_)|simp only[go_sem]))
 have hfh: ∀y,y∈fh→w1.heap.size≤y∧y<w2.heap.size:=fun y hy=>⟨hge2 y (by simp[hy]),lt2 y (by simp[hy])⟩
 have hxx: ∀y,y∈[x,bd,bo]→w2.heap.size≤y∧y<w3.heap.size:=fun y hy=>⟨by simp only[List.mem_cons,List.not_mem_nil,or_false]at hy;omega,lt3 y hy⟩
 have o14:Only [] w w4:=((ho1.nil ho2).nil ho3).nil ho4
 refine callT (cStored (h0:=w.heap.size) o14.size hsc4.at_ hsc4.f hsc4.h hk0 hB4 ⟨hsc.d1.1,fun hy=>by have:=hxx sb hy;have:=lt2 sb (by simp);omega⟩ (fun y hy=>⟨fun h=>(hsc.d2 y h).2.1 hy,fun h=>by have:=hxx y h;have:=lt2 y (by simp[hy]);omega⟩) (fun y hy h=>by have:=hxx y h;have:=hfh y hy;omega) (hl.keep (Nat.le_refl _) o14 (by simp)) (fun y hy=>by
  rcases List.mem_append.1 hy with h|h
  ·have:=hfh y h;omega
  ·have:=hxx y h;omega) (Nat.zero_le _) (Nat.zero_le _)) ?_
 rintro v w5 ⟨rfl,s1,t,fx,hrun,hk1,hh5,hB5,hsub,ho5⟩
 have z5:=ho5.size
 have hat5:=hsc4.at_.keep ho5 fun hy=>by
  rcases List.mem_append.1 hy with h|h
  ·exact hsc.d1.1 h
  ·have:=hxx sb h;have:=lt2 sb (by simp);omega
 have ha5:=ha4.keep ho5 fun y hy h=>by
  have:=gfa y hy
  rcases List.mem_append.1 h with h|h
  ·have:=hfh y h;omega
  ·have:=hxx y h;omega
 (repeat(first|with_reducible(first|refine nx ?_|refine r_6 rfl ?_)|simp only[go_sem,hat5.cell]))
 refine callT (cRead hh5 hk1.inv) ?_
 rintro v w6 ⟨ho6,c,fc,rfl,hc6,gfc⟩
 (repeat(first|with_reducible(first|refine nx ?_|refine r_6 rfl ?_)|simp only[go_sem]))
 have lb5:=hB5.lt
 have hfx: ∀y,y∈fx→w2.heap.size≤y∧y<w5.heap.size∧(y<w3.heap.size∨w4.heap.size≤y):=fun y hy=>by
  have:=lb5 y hy
  rcases hsub y hy with h|h
  ·have:=hxx y h;omega
  ·omega
 refine⟨a,c,x,hb,s0,s1,t,fa,fc,fx,fh,rfl,hrun,hk0,hk1,hsz.2.1,ha5.keep0 ho6,hc6,hB5.keep0 ho6,hh5.keep0 ho6,fun y hy=>?_,fun y hy=>?_,fun y hy=>?_,(o14.trans ho5 fun y hy=>.inr ?_).nil ho6⟩
 ·have:=hfh y hy
  exact⟨fun h=>by have:=hfx y h;omega,fun h=>by have:=gfa y h;omega,fun h=>by have:=gfc y h;omega⟩
 ·have:=hfx y hy
  exact⟨fun h=>by have:=gfa y h;have:=lt4 y h;omega,fun h=>by have:=gfc y h;omega⟩
 ·simp only[List.mem_append]at hy
  rcases hy with h|h|h|h
  ·have:=gfa y h;omega
  ·have:=gfc y h;omega
  ·have:=hfx y h;omega
  ·have:=hfh y h;omega
 ·rcases List.mem_append.1 hy with h|h
  ·have:=hfh y h;omega
  ·have:=hxx y h;omega
end Go.Proofs.YtgcofabdialaaaaGreat
end
section
namespace Go.Proofs.YtgcofabdialaaaaGreat
set_option maxRecDepth 8000
theorem setRef_Ok {s s':HL} (h:s.Ok) {x i to:Int} (e:setRefM (some s) x i to=some s'):s'.Ok:=by
 unfold setRefM at e
 by_cases c:setRefE (some s) x i to=0
 rotate_left
 ·simp only[if_neg c,Option.some.injEq]at e;subst e;exact h
 simp only[if_pos c,Option.some.injEq]at e
 subst e
 have hf:(fieldO (some s) x i false).2=0:=by
  unfold setRefE at c
  by_cases c2:(fieldO (some s) x i false).2=0
  ·exact c2
  ·simp only[ne_eq,c2,not_false_eq_true,if_true]at c
 obtain⟨o,k,rfl,ho,hk,k1,k2,k3⟩:=field_spec h hf
 rw[hk,Int.toNat_natCast]
 exact h.setW (h.inside ho k1 k2)
theorem mem_keys_put {m:IM} {k:Int} {v:Value} {y:Int}:y∈(putM m k v).keys↔y=k∨y∈m.keys:=by
 induction m with
 |nil=>simp[putM,IM.keys]
 |cons p m ih=>
  unfold putM
  split
  ·rename_i hp
   simp only[IM.keys,List.map_cons,List.mem_cons,hp]
   exact⟨fun h=>h.elim .inl fun h=>.inr (.inr h),fun h=>h.elim .inl id⟩
  ·simp only[IM.keys,List.map_cons,List.mem_cons]at ih⊢
   rw[ih]
   exact⟨fun h=>h.elim (fun h=>.inr (.inl h)) fun h=>h.elim .inl fun h=>.inr (.inr h),fun h=>h.elim (fun h=>.inr (.inl h)) fun h=>h.elim .inl fun h=>.inr (.inr h)⟩
theorem mem_shadeL {S:List Int} {x y:Int}:y∈shadeL S x↔y∈S∨(x≠0∧y=x):=by
 unfold shadeL
 by_cases c:x≠0∧S.contains x=false
 ·rw[if_pos c];simp only[List.mem_append,List.mem_singleton];exact⟨fun h=>h.imp id fun h=>⟨c.1,h⟩,fun h=>h.imp id fun h=>h.2⟩
 ·rw[if_neg c]
  refine⟨.inl,fun h=>h.elim id fun⟨h1,h2⟩=>?_⟩
  subst h2
  cases hc:S.contains y with
  |true=>exact List.contains_iff_mem.1 hc
  |false=>exact absurd ⟨h1,hc⟩ c
theorem note_spec (m:HO) (t:BS) (x i:Nat) (refs:List Int) (now:Int):
  (t.note m x i refs now).kinds=t.kinds∧(t.note m x i refs now).young=t.young∧
  (t.note m x i refs now).D=(if isB t.kinds 1 then putM t.D (((x+2+i)/8:Nat):Int) unitV else t.D)∧
  (t.note m x i refs now).O=(if isB t.kinds 2&&(!youngO m t.young x&&youngO m t.young now)then putM t.O x unitV else t.O)∧
  (t.note m x i refs now).L=(if isB t.kinds 32&&(imgO t.L x).isNone then t.L++[((x:Int),refs)]else t.L)∧
  (t.note m x i refs now).S=(if isB t.kinds 4 then shadeL (if isB t.kinds 8 then shadeL t.S (refs.getD i 0)else t.S) now else(if isB t.kinds 8 then shadeL t.S (refs.getD i 0)else t.S)):=by
 unfold BS.note
 have e1:(t.note1 x refs).L=(if isB t.kinds 32&&(imgO t.L x).isNone then t.L++[((x:Int),refs)]else t.L):=by unfold BS.note1;split<;>rfl
 obtain⟨a1,b1,c1,d1,f1⟩:=BS.note1_k t x refs
 generalize t.note1 x refs=t1 at*
 have e2:(t1.note2 (refs.getD i 0)).S=(if isB t1.kinds 8 then shadeL t1.S (refs.getD i 0)else t1.S):=by unfold BS.note2;split<;>rfl
 obtain⟨a2,b2,_,d2,f2,g2⟩:=BS.note2_k t1 (refs.getD i 0)
 generalize t1.note2 (refs.getD i 0)=t2 at*
 have e3:(t2.note3 (((x+2+i)/8:Nat):Int)).D=(if isB t2.kinds 1 then putM t2.D (((x+2+i)/8:Nat):Int) unitV else t2.D):=by unfold BS.note3;split<;>rfl
 obtain⟨a3,b3,c3,f3,g3⟩:=BS.note3_k t2 (((x+2+i)/8:Nat):Int)
 generalize t2.note3 (((x+2+i)/8:Nat):Int)=t3 at*
 have e4:(BS.note4 m t3 x now).O=(if isB t3.kinds 2&&(!youngO m t3.young x&&youngO m t3.young now)then putM t3.O x unitV else t3.O):=by unfold BS.note4;split<;>rfl
 obtain⟨a4,b4,c4,d4,g4⟩:=BS.note4_k m t3 x now
 generalize BS.note4 m t3 x now=t4 at*
 have e5:(t4.note5 now).S=(if isB t4.kinds 4 then shadeL t4.S now else t4.S)∧(t4.note5 now).kinds=t4.kinds∧(t4.note5 now).young=t4.young∧(t4.note5 now).D=t4.D∧(t4.note5 now).O=t4.O∧(t4.note5 now).L=t4.L:=by unfold BS.note5;split<;>exact⟨rfl,rfl,rfl,rfl,rfl,rfl⟩
 obtain⟨h1,h2,h3,h4,h5,h6⟩:=e5
 refine⟨by rw[h2,a4,a3,a2,a1],by rw[h3,b4,b3,b2,b1],?_,?_,?_,?_⟩
 ·rw[h4,d4,e3,d2,d1,a2,a1]
 ·rw[h5,e4,a3,a2,a1,b3,b2,b1,f3,f2,f1]
 ·rw[h6,g4,g3,g2,e1]
 ·rw[h1,a4,a3,a2,a1,c4,c3,e2,a1,c1]
theorem step_cases {s0:HL} {it:It} {s:HL} {t:BS} (h:Akin s0 s):stepS s0 it (s,t)=(s,t)∨ ∃(k j:Nat) (to:Int) (s':HL),s.st.getD k 0=1∧j<(s.obAt k).rf.length∧okTo s to∧setRefM (some s) ((2*k:Nat):Int) (j:Int) to=some s'∧Akin s0 s'∧
  stepS s0 it (s,t)=(s',t.note (some s') (2*k) j (s.obAt k).rf to):=by
 by_cases c:(shapeO (some s) (atS s0 (it.1%100))).2=0∧(shapeO (some s) (atS s0 (it.1%100))).1.1≠0
 rotate_left
 ·exact .inl (stepS_skip c)
 obtain⟨k,hka,hkl⟩:=shape_live h.ok c.1
 have c2:=c.2
 rw[hka,at_shape h.ok hkl]at c2
 obtain⟨hrl,_,_⟩:=obAt_len h.ok hkl
 have hr0:(s.obAt k).rf.length≠0:=by simp only at c2;omega
 obtain⟨s2,e1,e2,e3,e4,e5,e6⟩:=abs_setRef h.ok ((2*k:Nat):Int) ((it.2.1%(s.obAt k).rf.length:Nat):Int) (toS s0 it)
 have ht:=toS_ok h it
 exact .inr ⟨k,it.2.1%(s.obAt k).rf.length,toS s0 it,s2,hkl,Nat.mod_lt _ (by omega),ht,e1,setRef_akin h (ht.le h.ok) e1 (setRef_Ok h.ok e1),stepS_do h.ok hkl hka hr0 e1⟩
theorem run_ind {s0:HL} {P:HL→BS→Prop} (hs: ∀(s:HL) (t:BS) (k j:Nat) (to:Int) (s':HL),Akin s0 s→P s t→s.st.getD k 0=1→j<(s.obAt k).rf.length→okTo s to→setRefM (some s) ((2*k:Nat):Int) (j:Int) to=some s'→Akin s0 s'→P s' (t.note (some s') (2*k) j (s.obAt k).rf to)):
  ∀(l:List It) (s:HL) (t:BS),Akin s0 s→P s t→P (runI s0 l (s,t)).1 (runI s0 l (s,t)).2
 | [],s,t,_,h=>h
 |it::l,s,t,hk,h=>by
  show P (runI s0 l (stepS s0 it (s,t))).1 (runI s0 l (stepS s0 it (s,t))).2
  rcases step_cases (it:=it) (t:=t) hk with e|⟨k,j,to,s',h1,h2,h3,h4,h5,e⟩
  ·rw[e];exact run_ind hs l s t hk h
  ·rw[e];exact run_ind hs l s' _ h5 (hs s t k j to s' hk h h1 h2 h3 h4 h5)
end Go.Proofs.YtgcofabdialaaaaGreat
end
section
namespace Go.Proofs.YtgcofabdialaaaaGreat
set_option maxRecDepth 8000
def HL.RF (s:HL) (i j:Nat):Int:=(s.obAt i).rf.getD j 0
section
variable {s0 s s':HL} {k j:Nat} {to:Int}
theorem RF_step (h:s.Ok) (hk:s.st.getD k 0=1) (hj:j<(s.obAt k).rf.length) (ht:okTo s to) (e:setRefM (some s) ((2*k:Nat):Int) (j:Int) to=some s') (i:Nat) (hi:s.st.getD i 0=1):
  (s'.obAt i).rf.length=(s.obAt i).rf.length∧ ∀a,s'.RF i a=if i=k∧a=j then to else s.RF i a:=by
 have hob:=obAt_setRef h (setRef_Ok h e) hk hj ht e i hi
 unfold HL.RF
 by_cases c:i=k
 ·subst c
  rw[if_pos rfl]at hob
  rw[hob]
  refine⟨List.length_set,fun a=>?_⟩
  simp only[true_and]
  by_cases ca:a=j
  ·subst ca
   rw[if_pos rfl,List.getD_eq_getElem?_getD,List.getElem?_set_self hj];rfl
  ·rw[if_neg ca,List.getD_eq_getElem?_getD,List.getElem?_set_ne (Ne.symm ca),←List.getD_eq_getElem?_getD]
 ·rw[if_neg c]at hob
  rw[hob]
  exact⟨rfl,fun a=>by rw[if_neg (fun h=>c h.1)]⟩
theorem young_akin (h:Akin s0 s) (yg x:Int):youngO (some s) yg x=youngO (some s0) yg x:=by
 have e1:hasO (some s) x=hasO (some s0) x:=by
  show(decide (0≤x)&&decide (x%2=0)&&decide (MT.get (some (1,s.st)) (x/2)=1))=(decide (0≤x)&&decide (x%2=0)&&decide (MT.get (some (1,s0.st)) (x/2)=1))
  rw[h.st]
 have e2:stateO (some s) (x/64)=stateO (some s0) (x/64):=by
  show(if 0≤x/64∧x/64<(s.B.length:Int)then(s.B.getD (x/64).toNat (0,0)).1 else-1)=(if 0≤x/64∧x/64<(s0.B.length:Int)then(s0.B.getD (x/64).toNat (0,0)).1 else-1)
  rw[h.B]
 have e3:bspaceO (some s) (x/64)=bspaceO (some s0) (x/64):=by
  show(if 0≤x/64∧x/64<(s.B.length:Int)then(s.B.getD (x/64).toNat (0,0)).2 else-1)=(if 0≤x/64∧x/64<(s0.B.length:Int)then(s0.B.getD (x/64).toNat (0,0)).2 else-1)
  rw[h.B]
 unfold youngO
 rw[e1,e2,e3]
end
def LenI (s0 s:HL):Prop:= ∀i,s0.st.getD i 0=1→(s.obAt i).rf.length=(s0.obAt i).rf.length
theorem run_spec {s0 s1:HL} {t:BS} {l:List It} {kd yg:Int} (h0:Akin s0 s0) (e:runI s0 l (s0,BS0 kd yg)=(s1,t)):
  t.kinds=kd∧t.young=yg∧LenI s0 s1∧
  (isB kd 1=true→ ∀i j,s0.st.getD i 0=1→s1.RF i j≠s0.RF i j→(((2*i+2+j)/8:Nat):Int)∈t.D.keys)∧
  (isB kd 4=true→ ∀i j,s0.st.getD i 0=1→s1.RF i j≠s0.RF i j→s1.RF i j≠0→s1.RF i j∈t.S)∧
  (isB kd 2=true→(∀i j,s0.st.getD i 0=1→j<(s0.obAt i).rf.length→youngO (some s0) yg ((2*i:Nat):Int)=false→youngO (some s0) yg (s0.RF i j)=false)→ ∀i j,s0.st.getD i 0=1→j<(s0.obAt i).rf.length→youngO (some s0) yg ((2*i:Nat):Int)=false→youngO (some s0) yg (s1.RF i j)=true→((2*i:Nat):Int)∈t.O.keys)∧
  (isB kd 8=true→ ∀i j,s0.st.getD i 0=1→s0.RF i j≠0→s1.RF i j=s0.RF i j∨s0.RF i j∈t.S):=by
 have key:=run_ind (s0:=s0) (P:=fun s t=>t.kinds=kd∧t.young=yg∧LenI s0 s∧
  (isB kd 1=true→ ∀i j,s0.st.getD i 0=1→s.RF i j≠s0.RF i j→(((2*i+2+j)/8:Nat):Int)∈t.D.keys)∧
  (isB kd 4=true→ ∀i j,s0.st.getD i 0=1→s.RF i j≠s0.RF i j→s.RF i j≠0→s.RF i j∈t.S)∧
  (isB kd 2=true→(∀i j,s0.st.getD i 0=1→j<(s0.obAt i).rf.length→youngO (some s0) yg ((2*i:Nat):Int)=false→youngO (some s0) yg (s0.RF i j)=false)→ ∀i j,s0.st.getD i 0=1→j<(s0.obAt i).rf.length→youngO (some s0) yg ((2*i:Nat):Int)=false→youngO (some s0) yg (s.RF i j)=true→((2*i:Nat):Int)∈t.O.keys)∧
  (isB kd 8=true→ ∀i j,s0.st.getD i 0=1→s0.RF i j≠0→s.RF i j=s0.RF i j∨s0.RF i j∈t.S)) ?_ l s0 (BS0 kd yg) h0 ?_
 ·rw[e]at key;exact key
 rotate_left
 ·refine⟨rfl,rfl,fun i hi=>rfl,fun _ i j _ h=>absurd rfl h,fun _ i j _ h=>absurd rfl h,?_,fun _ i j _ _=>.inl rfl⟩
  intro _ hno i j hi hl h1 h2
  rw[hno i j hi hl h1]at h2;cases h2
 rintro s t k j to s' hk ⟨p1,p2,p3,p4,p5,p6,p7⟩ hkl hj ht e1 hk'
 obtain⟨n1,n2,n3,n4,n5,n6⟩:=note_spec (some s') t (2*k) j (s.obAt k).rf to
 have hst: ∀i,s0.st.getD i 0=1→s.st.getD i 0=1:=fun i hi=>by rw[hk.st];exact hi
 have step:=fun i hi=>RF_step hk.ok hkl hj ht e1 i (hst i hi)
 refine⟨by rw[n1,p1],by rw[n2,p2],fun i hi=>by rw[(step i hi).1];exact p3 i hi,fun hb i a hi hne=>?_,fun hb i a hi hne hz=>?_,fun hb hno i a hi hl h1 h2=>?_,fun hb i a hi hz=>?_⟩
 ·rw[n3,p1,hb,if_pos rfl,mem_keys_put]
  rw[(step i hi).2 a]at hne
  by_cases c:i=k∧a=j
  ·obtain⟨rfl,rfl⟩:=c;exact .inl rfl
  ·rw[if_neg c]at hne;exact .inr (p4 hb i a hi hne)
 ·rw[n6,p1,hb,if_pos rfl,mem_shadeL]
  rw[(step i hi).2 a]at hne hz⊢
  by_cases c:i=k∧a=j
  ·rw[if_pos c]at hz⊢;exact .inr ⟨hz,rfl⟩
  ·rw[if_neg c]at hne hz⊢
   left
   have:=p5 hb i a hi hne hz
   split
   ·exact mem_shadeL.2 (.inl this)
   ·exact this
 ·rw[(step i hi).2 a]at h2
  rw[n4,p1,p2]
  by_cases c:i=k∧a=j
  ·obtain⟨rfl,rfl⟩:=c
   rw[if_pos ⟨rfl,rfl⟩]at h2
   rw[young_akin hk',young_akin hk',h1,h2,hb]
   exact mem_keys_put.2 (.inl rfl)
  ·rw[if_neg c]at h2
   have:=p6 hb hno i a hi hl h1 h2
   split
   ·exact mem_keys_put.2 (.inr this)
   ·exact this
 ·rw[(step i hi).2 a,n6,p1,hb,if_pos rfl]
  have hin: ∀y,y∈t.S∨(s.RF k j≠0∧y=s.RF k j)→y∈(if isB kd 4=true then shadeL (shadeL t.S ((s.obAt k).rf.getD j 0)) to else shadeL t.S ((s.obAt k).rf.getD j 0)):=fun y hy=>by
   have:y∈shadeL t.S ((s.obAt k).rf.getD j 0):=mem_shadeL.2 hy
   split
   ·exact mem_shadeL.2 (.inl this)
   ·exact this
  by_cases c:i=k∧a=j
  ·rw[if_pos c]
   obtain⟨rfl,rfl⟩:=c
   rcases p7 hb i a hi hz with h|h
   ·right;exact hin _ (.inr ⟨by rw[h];exact hz,h.symm⟩)
   ·right;exact hin _ (.inl h)
  ·rw[if_neg c]
   rcases p7 hb i a hi hz with h|h
   ·exact .inl h
   ·right;exact hin _ (.inl h)
end Go.Proofs.YtgcofabdialaaaaGreat
end
section
namespace Go.Proofs.YtgcofabdialaaaaGreat
set_option maxRecDepth 8000
theorem putM_len (m:IM) (k:Int) (v:Value):(putM m k v).length≤m.length+1:=by
 induction m with
 |nil=>simp[putM]
 |cons p m ih=>
  unfold putM;split
  ·simp
  ·simp only[List.length_cons];omega
theorem run_len {s0:HL}: ∀(l:List It) (s:HL) (t:BS),Akin s0 s→(runI s0 l (s,t)).2.D.length≤t.D.length+l.length∧(runI s0 l (s,t)).2.O.length≤t.O.length+l.length∧(runI s0 l (s,t)).2.S.length≤t.S.length+2*l.length∧(runI s0 l (s,t)).2.L.length≤t.L.length+l.length
 | [],s,t,_=>⟨by simp[runI],by simp[runI],by simp[runI],by simp[runI]⟩
 |it::l,s,t,hk=>by
  show(runI s0 l (stepS s0 it (s,t))).2.D.length≤_∧(runI s0 l (stepS s0 it (s,t))).2.O.length≤_∧(runI s0 l (stepS s0 it (s,t))).2.S.length≤_∧(runI s0 l (stepS s0 it (s,t))).2.L.length≤_
  simp only[List.length_cons]
  rcases step_cases (it:=it) (t:=t) hk with e|⟨k,j,to,s',h1,h2,h3,h4,h5,e⟩
  ·rw[e];have:=run_len l s t hk;omega
  ·rw[e]
   have ih:=run_len l s' (t.note (some s') (2*k) j (s.obAt k).rf to) h5
   obtain⟨n1,n2,n3,n4,n5,n6⟩:=note_spec (some s') t (2*k) j (s.obAt k).rf to
   have hD:(t.note (some s') (2*k) j (s.obAt k).rf to).D.length≤t.D.length+1:=by rw[n3];split;exact putM_len _ _ _;omega
   have hO:(t.note (some s') (2*k) j (s.obAt k).rf to).O.length≤t.O.length+1:=by rw[n4];split;exact putM_len _ _ _;omega
   have:=note_len (some s') t (2*k) j (s.obAt k).rf to
   omega
theorem Wt.len {w0 w:World} {a c x hb:Nat} {s0 s1:HL} {t:BS} {l:List It} {kd yg:Int} {fa fc fx fh:List Nat} (h:Wt w0 w a c x hb s0 s1 t l kd yg fa fc fx fh):t.D.length≤60∧t.O.length≤60∧t.S.length≤120∧t.L.length≤60:=by
 have:=run_len (l.take 60) s0 (BS0 kd yg) h.k0
 rw[h.run]at this
 have e:(l.take 60).length≤60:=by simp;omega
 simp only[BS0,List.length_nil]at this
 omega
theorem FMs.ob {w:World} {b:Nat} {s s0:HL} {vB vO vF:Value} {fB fO fF:List Nat} {L:List OM} (h:FMs w b s.abs vB vO vF fB fO fF L) (he:s.objs=s0.objs):L.length=s0.objs.length∧ ∀i,i<s0.objs.length→(L.getD i default).o=s.obAt (s0.objs.getD i 0)∧L.getD i default∈L:=by
 have h1:s.objs.map s.obAt=L.map OM.o:=h.eq
 have hl:L.length=s0.objs.length:=by have:=congrArg List.length h1;simp only[List.length_map]at this;rw[←he];exact this.symm
 refine⟨hl,fun i hi=>⟨?_,by simp[hl,hi]⟩⟩
 have h2:(s.objs.map s.obAt)[i]? =(L.map OM.o)[i]? :=by rw[h1]
 rw[List.getElem?_map,List.getElem?_map,he,List.getElem?_eq_getElem hi,List.getElem?_eq_getElem (by omega)]at h2
 simp only[Option.map_some,Option.some.injEq]at h2
 simp only[List.getD_eq_getElem?_getD,List.getElem?_eq_getElem hi,List.getElem?_eq_getElem (show i<L.length by omega),Option.getD_some]
 exact h2.symm
theorem orB (kn:Nat) (c:Nat) (hc:c=1∨c=2∨c=4∨c=8∨c=32):1≤bitI .or .i64 ((kn%64:Nat):Int) (c:Int)∧bitI .or .i64 ((kn%64:Nat):Int) (c:Int)≤63∧isB (bitI .or .i64 ((kn%64:Nat):Int) (c:Int)) (c:Int)=true:=by
 have h: ∀k,k∈List.range 64→ ∀d,d∈[1,2,4,8,32]→(1≤bitI .or .i64 ((k:Nat):Int) ((d:Nat):Int)∧bitI .or .i64 ((k:Nat):Int) ((d:Nat):Int)≤63∧isB (bitI .or .i64 ((k:Nat):Int) ((d:Nat):Int)) ((d:Nat):Int)=true):=by decide+kernel
 exact h (kn%64) (List.mem_range.2 (Nat.mod_lt _ (by omega))) c (by rcases hc with rfl|rfl|rfl|rfl|rfl<;>simp)
end Go.Proofs.YtgcofabdialaaaaGreat
end
section
namespace Go.Proofs.YtgcofabdialaaaaGreat
set_option maxRecDepth 8000
end Go.Proofs.YtgcofabdialaaaaGreat
end
section
namespace Go.Proofs.YtgcofabdialaaaaGreat
set_option maxRecDepth 8000
def posI:List Int→Int→Nat
 | [],_=>0
 |y::l,x=>if y<x then posI l x+1 else 0
def putI (l:List Int) (x:Int):List Int:=if posI l x<l.length∧l.getD (posI l x) 0=x then l else l.take (posI l x)++[x]++l.drop (posI l x)
theorem posI_le: ∀(l:List Int) (x:Int),posI l x≤l.length
 | [],_=>Nat.le_refl _
 |y::l,x=>by
  unfold posI
  split
  ·have:=posI_le l x;simp only[List.length_cons];omega
  ·omega
theorem posI_at: ∀ {l:List Int} {x:Int} {k:Nat},k≤l.length→(∀j,j<k→l.getD j 0<x)→(k<l.length→ ¬l.getD k 0<x)→posI l x=k
 | [],x,k,h,_,_=>by simp at h;subst h;rfl
 |y::l,x,0,_,_,h=>by
  have:=h (by simp)
  simp only[List.getD_cons_zero]at this
  unfold posI;rw[if_neg this]
 |y::l,x,k+1,hl,h1,h2=>by
  have:=h1 0 (by omega)
  simp only[List.getD_cons_zero]at this
  unfold posI
  rw[if_pos this,posI_at (k:=k) (by simpa using hl) (fun j hj=>by have:=h1 (j+1) (by omega);simpa using this) fun hk=>by have:=h2 (by simpa using hk);simpa using this]
theorem mem_putI {l:List Int} {x y:Int}:y∈putI l x↔y=x∨y∈l:=by
 unfold putI
 by_cases c:posI l x<l.length∧l.getD (posI l x) 0=x
 ·rw[if_pos c]
  refine⟨.inr,fun h=>h.elim (fun e=>?_) id⟩
  rw[e,←c.2];simp[c.1]
 ·rw[if_neg c]
  have e:l=l.take (posI l x)++l.drop (posI l x):=(List.take_append_drop _ _).symm
  constructor
  ·intro h
   simp only[List.mem_append,List.mem_singleton]at h
   rcases h with(h|h)|h
   ·exact .inr (List.mem_of_mem_take h)
   ·exact .inl h
   ·exact .inr (List.mem_of_mem_drop h)
  ·intro h
   simp only[List.mem_append,List.mem_singleton]
   rcases h with h|h
   ·exact .inl (.inr h)
   ·rw[e,List.mem_append]at h
    exact h.elim (fun h=>.inl (.inl h)) .inr
end Go.Proofs.YtgcofabdialaaaaGreat
end
section
namespace Go.Proofs.YtgcofabdialaaaaGreat
set_option maxRecDepth 8000
theorem slc_headI {w:World} {v:Value} {n k:Nat} {l:List Int} {fp:List Nat} (h:Sl w 1 v n (ints l) fp) (hk:k≤n): ∃v1,slcO 1 v none (some (.int .i64 (k:Int)))=some v1∧SrcIs w 1 v1 k (ints (l.take k)):=by
 have hl:(ints l).length=n*1:=h.1
 rcases h.2 with⟨rfl,rfl,_⟩|⟨g,cap,ys,T,rfl,_,h3,h5,h6⟩
 ·obtain rfl:k=0:=by omega
  exact⟨.slice none 0 0,rfl,rfl,.inl ⟨0,rfl,rfl⟩⟩
 ·obtain⟨v1,e1,s1⟩:=slc_head (k:=.i64) (sz:=1) (⟨T,h3⟩:At w g (ints l++ys)) hl hk h6
  refine⟨v1,e1,?_⟩
  have:(ints l).take (k*1)=ints (l.take k):=by unfold ints;rw[Nat.mul_one,List.map_take]
  rw[this]at s1
  exact s1
theorem slc_tailI {w:World} {v:Value} {n k:Nat} {l:List Int} {fp:List Nat} (h:Sl w 1 v n (ints l) fp) (hk:k≤n): ∃v1,slcO 1 v (some (.int .i64 (k:Int))) none=some v1∧SrcIs w 1 v1 (n-k) (ints (l.drop k)):=by
 have hl:(ints l).length=n*1:=h.1
 rcases h.2 with⟨rfl,rfl,_⟩|⟨g,cap,ys,T,rfl,_,h3,h5,h6⟩
 ·obtain rfl:k=0:=by omega
  exact⟨.slice none 0 0,rfl,by simpa[ints]using hl,.inl ⟨0,rfl,rfl⟩⟩
 ·obtain⟨v1,e1,s1⟩:=slc_tail (k:=.i64) (sz:=1) (⟨T,h3⟩:At w g (ints l++ys)) hl hk h6
  refine⟨v1,e1,?_⟩
  have:(ints l).drop (k*1)=ints (l.drop k):=by unfold ints;rw[Nat.mul_one,List.map_drop]
  rw[this]at s1
  exact s1
theorem hPut12 {w:World} {v:Value} {n:Nat} {l:List Int} {fp:List Nat} (h:Sl w 1 v n (ints l) fp) (hn:n≤100000) (x:Int):Cs Tryz.prog 51 [v,.int .i64 x] w fun r w'=>Only [] w w'∧ ∃fp',Sl w' 1 r (putI l x).length (ints (putI l x)) fp'∧ ∀y,y∈fp'→y∈fp∨w.heap.size≤y:=by
 have hl:l.length=n:=by have:=h.1;rw[ints_length]at this;omega
 have hp:=posI_le l x
 obtain⟨a0,c0,rfl⟩:=h.val
 have hget: ∀i:Nat,i<n→ ∃g,a0=some ⟨g,0,none⟩∧w.cell? ⟨g,i,none⟩=some (.int .i64 (l.getD i 0)):=fun i hi=>by
  obtain⟨g,cap,ys,e,hat,_,_⟩:=h.pos (by omega)
  cases e
  exact⟨g,rfl,by rw[hat.cell];exact ints_append_get ys (by omega)⟩
 refine enter_ref12_Put rfl ?_
 unfold x_ref12_Put
 (repeat(first|with_reducible(first|refine r_1 ?_|refine r_2 ?_|refine r_4 ?_|refine r_5 ?_|refine r_6 rfl ?_|refine r_7 ?_|refine r_8 ?_|refine r_9 ?_|refine r_0 ?_)|simp only[go_sem]))
 refine run_cut (5::6::7::8::9::10::11::12::13::14::15::16::17::18::19::[]) (fun ρ' w'=>ρ' 5=.int .i64 ((posI l x:Nat):Int)∧w'=w) (fun kk hkk=>?_) (fun g w1 hJ=>?_)
 ·(repeat(first|with_reducible(first|refine nx ?_|refine r_6 rfl ?_)|simp only[go_sem]))
  refine run_loop (5::6::7::8::9::10::11::12::13::14::15::16::17::18::19::[]) (fun g w'=> ∃i:Nat,g 5=.int .i64 (i:Int)∧i≤n∧(∀j,j<i→l.getD j 0<x)∧w'=w) (fun g _=>upTo n 5 g) ⟨0,by simp only[go_sem];rfl,by omega,fun j hj=>absurd hj (by omega),rfl⟩ fun g1 w2 hI hnext=>?_
  obtain⟨i,h5,hi,hlt,rfl⟩:=hI
  by_cases c1:i<n
  rotate_left
  ·(repeat(first|with_reducible(first|refine nx ?_|refine r_6 rfl ?_)|simp only[go_sem,h5,decide_eq_false (show¬(i:Int)<(n:Int) by omega)]))
   refine hkk _ _ ?_ ⟨?_,rfl⟩
   ·(repeat(first|with_reducible exact k_1|with_reducible exact Keeps.ovr _ _ _|refine Keeps.put ?_ rfl _|exact k_1|exact Keeps.ovr _ _ _|refine Keeps.ovr2 ?_ rfl _))
   ·rw[posI_at (k:=i) (by omega) hlt (fun h=>absurd h (by omega))];simp only[go_sem,h5]
  obtain⟨g,rfl,hcell⟩:=hget i c1
  have ci:(0:Int)≤(i:Int)∧(i:Int)<(n:Int):=by omega
  have z1:=i64_succ i (by omega)
  by_cases c2:l.getD i 0<x
  ·(repeat(first|with_reducible(first|refine nx ?_|refine r_6 rfl ?_)|simp only[go_sem,h5,decide_eq_true ci.2,if_pos ci,Int.toNat_natCast,Nat.mul_one,hcell,decide_eq_true c2,z1]))
   refine hnext _ _ ?_ ⟨i+1,?_,by omega,fun j hj=>?_,rfl⟩ ?_
   ·(repeat(first|with_reducible exact k_1|with_reducible exact Keeps.ovr _ _ _|refine Keeps.put ?_ rfl _|exact k_1|exact Keeps.ovr _ _ _|refine Keeps.ovr2 ?_ rfl _))
   ·simp only[go_sem]
   ·by_cases e:j=i
    ·rw[e];exact c2
    ·exact hlt j (by omega)
   ·rw[upTo_int (i:=i) h5,upTo_int (k:=.i64) (i:=i+1) (by simp only[go_sem])];omega
  ·(repeat(first|with_reducible(first|refine nx ?_|refine r_6 rfl ?_)|simp only[go_sem,h5,decide_eq_true ci.2,if_pos ci,Int.toNat_natCast,Nat.mul_one,hcell,decide_eq_false c2]))
   refine hkk _ _ ?_ ⟨?_,rfl⟩
   ·(repeat(first|with_reducible exact k_1|with_reducible exact Keeps.ovr _ _ _|refine Keeps.put ?_ rfl _|exact k_1|exact Keeps.ovr _ _ _|refine Keeps.ovr2 ?_ rfl _))
   ·rw[posI_at (k:=i) (by omega) hlt (fun _=>c2)];simp only[go_sem,h5]
 obtain⟨h5,rfl⟩:=hJ
 obtain⟨k,hk⟩: ∃k,k=posI l x:=⟨_,rfl⟩
 rw[←hk]at h5 hp
 have hput:putI l x=if k<l.length∧l.getD k 0=x then l else l.take k++[x]++l.drop k:=by rw[hk];rfl
 have hin: ∀(c:k<l.length∧l.getD k 0=x),Sl w1 1 (.slice a0 n c0) (putI l x).length (ints (putI l x)) fp:=fun c=>by rw[hput,if_pos c,hl];exact h
 obtain⟨v36,e36,s36⟩:=slc_headI h (show k≤n by omega)
 obtain⟨v43,e43,s43⟩:=slc_tailI h (show k≤n by omega)
 have hout: ∀(c: ¬(k<l.length∧l.getD k 0=x)) {w1':World} {v:Value} {m:Nat} {fp':List Nat},m=(putI l x).length→Sl w1' 1 v m (ints (l.take k)++[.int .i64 x]++ints (l.drop k)) fp'→Sl w1' 1 v (putI l x).length (ints (putI l x)) fp':=fun c w1' v m fp' e hs=>by
  rw[e]at hs
  have:ints (putI l x)=ints (l.take k)++[.int .i64 x]++ints (l.drop k):=by rw[hput,if_neg c];simp[ints]
  rw[this];exact hs
 have hlen: ∀(c: ¬(k<l.length∧l.getD k 0=x)),k+1+(n-k)=(putI l x).length:=fun c=>by
  rw[hput,if_neg c];simp only[List.length_append,List.length_take,List.length_drop,List.length_singleton];omega
 refine run_seq ?_
 refine run_cut (4::20::21::22::23::24::25::26::27::28::29::30::31::32::[]) (fun _ w1'=> ¬(k<l.length∧l.getD k 0=x)∧w1'=w1) (fun kk hkk=>?_) (fun g2 w2 hJ2=>?_)
 ·by_cases c3:k<n
  rotate_left
  ·(repeat(first|with_reducible(first|refine nx ?_|refine r_6 rfl ?_)|simp only[go_sem,h5,decide_eq_false (show¬(k:Int)<(n:Int) by omega)]))
   refine hkk _ _ ?_ ⟨fun h=>c3 (by omega),rfl⟩
   (repeat(first|with_reducible exact k_1|with_reducible exact Keeps.ovr _ _ _|refine Keeps.put ?_ rfl _|exact k_1|exact Keeps.ovr _ _ _|refine Keeps.ovr2 ?_ rfl _))
  obtain⟨g,rfl,hcell⟩:=hget k c3
  have ci:(0:Int)≤(k:Int)∧(k:Int)<(n:Int):=by omega
  by_cases c4:l.getD k 0=x
  ·(repeat(first|with_reducible(first|refine nx ?_|refine r_6 rfl ?_)|simp only[go_sem,h5,decide_eq_true ci.2,if_pos ci,Int.toNat_natCast,Nat.mul_one,hcell,beq_int_true c4]))
   exact⟨Only.refl _ _,fp,hin ⟨by omega,c4⟩,fun y hy=>.inl hy⟩
  ·(repeat(first|with_reducible(first|refine nx ?_|refine r_6 rfl ?_)|simp only[go_sem,h5,decide_eq_true ci.2,if_pos ci,Int.toNat_natCast,Nat.mul_one,hcell,beq_int_false c4]))
   refine hkk _ _ ?_ ⟨fun h=>c4 h.2,rfl⟩
   (repeat(first|with_reducible exact k_1|with_reducible exact Keeps.ovr _ _ _|refine Keeps.put ?_ rfl _|exact k_1|exact Keeps.ovr _ _ _|refine Keeps.ovr2 ?_ rfl _))
 obtain⟨hc,rfl⟩:=hJ2
 have hd:w2.drew.heap.size=w2.heap.size:=rfl
 (repeat(first|with_reducible(first|refine nx ?_|refine r_6 rfl ?_)|simp only[go_sem]))
 refine run_drt [] ?_
 (repeat(first|with_reducible(first|refine nx ?_|refine r_6 rfl ?_)|simp only[go_sem,h5,e36,e43]))
 refine⟨?_,?_⟩
 ·skip
  refine bslS fun q33 w33 hq33 hs33 hat33 ho33=>⟨.inl rfl,?_⟩
  have o33:Only [] w2 w33:=(Only.drew [] w2).nil ho33
  have z33:=o33.size
  (repeat(first|with_reducible(first|refine nx ?_|refine r_6 rfl ?_)|simp only[go_sem]))
  refine⟨?_,?_⟩
  ·skip
   refine appS (Sl.empty1 hat33) (s36.keep0 o33) ints_one (by omega) (by omega) ?_
   intro v37 w37 f37 hs37 hf37 ho37 _
   refine⟨.inl rfl,?_⟩
   have o37:Only [] w2 w37:=(o33).trans ho37 fun y hy=>.inr (by simp only[List.mem_singleton]at hy;omega)
   have z37:=o37.size
   have ge37: ∀y,y∈f37→w2.heap.size≤y:=fun y hy=>by
    rcases hf37 with e|e<;>rw[e]at hy<;>simp only[List.mem_singleton]at hy<;>omega
   (repeat(first|with_reducible(first|refine nx ?_|refine r_6 rfl ?_)|simp only[go_sem]))
   refine bslS fun q39 w39 hq39 hs39 hat39 ho39=>⟨.inl rfl,?_⟩
   have o39:Only [] w2 w39:=(o37).nil ho39
   have z39:=o39.size
   (repeat(first|with_reducible(first|refine nx ?_|refine r_6 rfl ?_)|simp only[go_sem]))
   have hs37k:=hs37.keep0 ho39
   have hat39k:=hat39
   refine appS hs37k (SrcIs.at (us:=[.int .i64 x]) hat39k rfl) (by simp[oneC]) (by omega) (by omega) ?_
   intro v40 w40 f40 hs40 hf40 ho40 _
   refine⟨.inl rfl,?_⟩
   have hz40:=ho40.size
   have o40:Only [] w2 w40:=o39.trans ho40 fun y hy=>.inr (ge37 y hy)
   have ge40: ∀y,y∈f40→w2.heap.size≤y:=fun y hy=>by
    have:=o39.size
    rcases hf40 with e|e<;>rw[e]at hy
    ·exact ge37 y hy
    ·simp only[List.mem_singleton]at hy;omega
   (repeat(first|with_reducible(first|refine nx ?_|refine r_6 rfl ?_)|simp only[go_sem]))
   refine appS hs40 (s43.keep0 o40) ints_one (by omega) (by omega) ?_
   intro v44 w44 f44 hs44 hf44 ho44 _
   refine⟨.inl rfl,?_⟩
   have o44:Only [] w2 w44:=o40.trans ho44 fun y hy=>.inr (ge40 y hy)
   (repeat(first|with_reducible(first|refine nx ?_|refine r_6 rfl ?_)|simp only[go_sem]))
   refine⟨o44,f44,hout hc ((by omega:0+k+1+(n-k)=k+1+(n-k)).trans (hlen hc)) hs44,fun y hy=>.inr ?_⟩
   have:=o40.size
   rcases hf44 with e|e<;>rw[e]at hy
   ·exact ge40 y hy
   ·simp only[List.mem_singleton]at hy;omega
  ·skip
   refine bslS fun q39 w39 hq39 hs39 hat39 ho39=>⟨.inl rfl,?_⟩
   have o39:Only [] w2 w39:=(o33).nil ho39
   have z39:=o39.size
   (repeat(first|with_reducible(first|refine nx ?_|refine r_6 rfl ?_)|simp only[go_sem]))
   refine appS (Sl.empty1 (hat33.keep0 ho39)) (s36.keep0 o39) ints_one (by omega) (by omega) ?_
   intro v37 w37 f37 hs37 hf37 ho37 _
   refine⟨.inl rfl,?_⟩
   have o37:Only [] w2 w37:=(o39).trans ho37 fun y hy=>.inr (by simp only[List.mem_singleton]at hy;omega)
   have z37:=o37.size
   have ge37: ∀y,y∈f37→w2.heap.size≤y:=fun y hy=>by
    rcases hf37 with e|e<;>rw[e]at hy<;>simp only[List.mem_singleton]at hy<;>omega
   (repeat(first|with_reducible(first|refine nx ?_|refine r_6 rfl ?_)|simp only[go_sem]))
   have hs37k:=hs37
   have hat39k:=hat39.keep ho37 (by simp only[List.mem_singleton];omega)
   refine appS hs37k (SrcIs.at (us:=[.int .i64 x]) hat39k rfl) (by simp[oneC]) (by omega) (by omega) ?_
   intro v40 w40 f40 hs40 hf40 ho40 _
   refine⟨.inl rfl,?_⟩
   have hz40:=ho40.size
   have o40:Only [] w2 w40:=o37.trans ho40 fun y hy=>.inr (ge37 y hy)
   have ge40: ∀y,y∈f40→w2.heap.size≤y:=fun y hy=>by
    have:=o37.size
    rcases hf40 with e|e<;>rw[e]at hy
    ·exact ge37 y hy
    ·simp only[List.mem_singleton]at hy;omega
   (repeat(first|with_reducible(first|refine nx ?_|refine r_6 rfl ?_)|simp only[go_sem]))
   refine appS hs40 (s43.keep0 o40) ints_one (by omega) (by omega) ?_
   intro v44 w44 f44 hs44 hf44 ho44 _
   refine⟨.inl rfl,?_⟩
   have o44:Only [] w2 w44:=o40.trans ho44 fun y hy=>.inr (ge40 y hy)
   (repeat(first|with_reducible(first|refine nx ?_|refine r_6 rfl ?_)|simp only[go_sem]))
   refine⟨o44,f44,hout hc ((by omega:0+k+1+(n-k)=k+1+(n-k)).trans (hlen hc)) hs44,fun y hy=>.inr ?_⟩
   have:=o40.size
   rcases hf44 with e|e<;>rw[e]at hy
   ·exact ge40 y hy
   ·simp only[List.mem_singleton]at hy;omega
 ·skip
  refine bslS fun q39 w39 hq39 hs39 hat39 ho39=>⟨.inl rfl,?_⟩
  have o39:Only [] w2 w39:=(Only.drew [] w2).nil ho39
  have z39:=o39.size
  (repeat(first|with_reducible(first|refine nx ?_|refine r_6 rfl ?_)|simp only[go_sem]))
  refine bslS fun q33 w33 hq33 hs33 hat33 ho33=>⟨.inl rfl,?_⟩
  have o33:Only [] w2 w33:=(o39).nil ho33
  have z33:=o33.size
  (repeat(first|with_reducible(first|refine nx ?_|refine r_6 rfl ?_)|simp only[go_sem]))
  refine appS (Sl.empty1 hat33) (s36.keep0 o33) ints_one (by omega) (by omega) ?_
  intro v37 w37 f37 hs37 hf37 ho37 _
  refine⟨.inl rfl,?_⟩
  have o37:Only [] w2 w37:=(o33).trans ho37 fun y hy=>.inr (by simp only[List.mem_singleton]at hy;omega)
  have z37:=o37.size
  have ge37: ∀y,y∈f37→w2.heap.size≤y:=fun y hy=>by
   rcases hf37 with e|e<;>rw[e]at hy<;>simp only[List.mem_singleton]at hy<;>omega
  (repeat(first|with_reducible(first|refine nx ?_|refine r_6 rfl ?_)|simp only[go_sem]))
  have hs37k:=hs37
  have hat39k:=(hat39.keep0 ho33).keep ho37 (by simp only[List.mem_singleton];omega)
  refine appS hs37k (SrcIs.at (us:=[.int .i64 x]) hat39k rfl) (by simp[oneC]) (by omega) (by omega) ?_
  intro v40 w40 f40 hs40 hf40 ho40 _
  refine⟨.inl rfl,?_⟩
  have hz40:=ho40.size
  have o40:Only [] w2 w40:=o37.trans ho40 fun y hy=>.inr (ge37 y hy)
  have ge40: ∀y,y∈f40→w2.heap.size≤y:=fun y hy=>by
   have:=o37.size
   rcases hf40 with e|e<;>rw[e]at hy
   ·exact ge37 y hy
   ·simp only[List.mem_singleton]at hy;omega
  (repeat(first|with_reducible(first|refine nx ?_|refine r_6 rfl ?_)|simp only[go_sem]))
  refine appS hs40 (s43.keep0 o40) ints_one (by omega) (by omega) ?_
  intro v44 w44 f44 hs44 hf44 ho44 _
  refine⟨.inl rfl,?_⟩
  have o44:Only [] w2 w44:=o40.trans ho44 fun y hy=>.inr (ge40 y hy)
  (repeat(first|with_reducible(first|refine nx ?_|refine r_6 rfl ?_)|simp only[go_sem]))
  refine⟨o44,f44,hout hc ((by omega:0+k+1+(n-k)=k+1+(n-k)).trans (hlen hc)) hs44,fun y hy=>.inr ?_⟩
  have:=o40.size
  rcases hf44 with e|e<;>rw[e]at hy
  ·exact ge40 y hy
  ·simp only[List.mem_singleton]at hy;omega
end Go.Proofs.YtgcofabdialaaaaGreat
end
section
namespace Go.Proofs.YtgcofabdialaaaaGreat
set_option maxRecDepth 8000
def Rise (l:List Int):Prop:=l.Pairwise (· < ·)
def insI:List Int→Int→List Int
 | [],x=>[x]
 |y::l,x=>if y<x then y::insI l x else if y=x then y::l else x::y::l
theorem putI_ins: ∀(l:List Int) (x:Int),putI l x=insI l x
 | [],x=>by simp[putI,insI,posI]
 |y::l,x=>by
  unfold insI
  by_cases c:y<x
  ·rw[if_pos c,←putI_ins l x]
   have e:posI (y::l) x=posI l x+1:=if_pos c
   unfold putI
   rw[e]
   by_cases c2:posI l x<l.length∧l.getD (posI l x) 0=x
   ·rw[if_pos c2,if_pos (by simp only[List.length_cons,List.getD_cons_succ];exact⟨by omega,c2.2⟩)]
   ·rw[if_neg c2,if_neg (by simp only[List.length_cons,List.getD_cons_succ];exact fun h=>c2 ⟨by omega,h.2⟩)]
    simp
  ·have e:posI (y::l) x=0:=if_neg c
   rw[if_neg c]
   unfold putI
   rw[e]
   by_cases c2:y=x
   ·rw[if_pos c2,if_pos (by simp[c2])]
   ·rw[if_neg c2,if_neg (by simp[c2])]
    simp
theorem mem_insI {l:List Int} {x y:Int}:y∈insI l x↔y=x∨y∈l:=by rw[←putI_ins];exact mem_putI
theorem insI_rise: ∀ {l:List Int} (x:Int),Rise l→Rise (insI l x)
 | [],x,_=>by simp[insI,Rise]
 |y::l,x,h=>by
  obtain⟨h1,h2⟩:=List.pairwise_cons.1 h
  unfold insI
  by_cases c:y<x
  ·rw[if_pos c]
   refine List.pairwise_cons.2 ⟨fun z hz=>?_,insI_rise x h2⟩
   rcases mem_insI.1 hz with rfl|hz
   ·exact c
   ·exact h1 z hz
  ·rw[if_neg c]
   by_cases c2:y=x
   ·rw[if_pos c2];exact h
   ·rw[if_neg c2]
    refine List.pairwise_cons.2 ⟨fun z hz=>?_,h⟩
    rcases List.mem_cons.1 hz with rfl|hz
    ·omega
    ·have:=h1 z hz;omega
theorem putI_rise {l:List Int} (x:Int) (h:Rise l):Rise (putI l x):=by rw[putI_ins];exact insI_rise x h
theorem insI_len: ∀ {l:List Int} (x:Int),x∉l→(insI l x).length=l.length+1
 | [],x,_=>rfl
 |y::l,x,h=>by
  unfold insI
  by_cases c:y<x
  ·rw[if_pos c];simp only[List.length_cons];rw[insI_len x fun e=>h (by simp[e])]
  ·rw[if_neg c,if_neg (fun e=>h (by simp[e]))];rfl
theorem putI_len1 {l:List Int} {x:Int} (h:x∉l):(putI l x).length=l.length+1:=by rw[putI_ins];exact insI_len x h
theorem rise_le: ∀ {l m:List Int},Rise l→(∀x,x∈l→x∈m)→l.length≤m.length
 | [],_,_,_=>Nat.zero_le _
 |y::l,m,h,hm=>by
  obtain⟨h1,h2⟩:=List.pairwise_cons.1 h
  have hy:y∈m:=hm y (by simp)
  have:=rise_le (m:=m.erase y) h2 fun x hx=>by
   have:x≠y:=fun e=>by have:=h1 x hx;omega
   exact(List.mem_erase_of_ne this).2 (hm x (by simp[hx]))
  rw[List.length_erase_of_mem hy]at this
  have:=List.length_pos_of_mem hy
  simp only[List.length_cons]
  omega
theorem Rise.le_objs {s:HL} {R:List Int} (h:Rise R) (hr: ∀x,x∈R→ ∃k:Nat,x=((2*k:Nat):Int)∧s.st.getD k 0=1):R.length≤s.objs.length:=by
 have:=rise_le (m:=s.objs.map fun k=>((2*k:Nat):Int)) h fun x hx=>by
  obtain⟨k,rfl,hk⟩:=hr x hx
  exact List.mem_map.2 ⟨k,mem_objs.2 hk,rfl⟩
 simpa using this
end Go.Proofs.YtgcofabdialaaaaGreat
end
section
namespace Go.Proofs.YtgcofabdialaaaaGreat
set_option maxRecDepth 8000
theorem FMs.see {w:World} {b i n0 cv:Nat} {s:HL} {av:Option Addr} {vB vF:Value} {fB fO fF:List Nat} {L:List OM} (h:FMs w b s.abs vB (.slice av n0 cv) vF fB fO fF L) (hi:i<s.objs.length):
  ∃g r cp gr,av=some ⟨g,0,none⟩∧(0<(s.obAt (s.objs.getD i 0)).rf.length→r=some ⟨gr,0,none⟩)∧ ∀w',Only [] w w'→w'.cell? ⟨g,i*8,none⟩=some (.int .i64 ((2*s.objs.getD i 0:Nat):Int))∧
   w'.cell? ⟨g,i*8+5,none⟩=some (.slice r (s.obAt (s.objs.getD i 0)).rf.length cp)∧ ∀j,j<(s.obAt (s.objs.getD i 0)).rf.length→w'.cell? ⟨gr,j,none⟩=some (.int .i64 (s.RF (s.objs.getD i 0) j)):=by
 obtain⟨lc,rc⟩:=h.ob (s0:=s) rfl
 obtain⟨oc,mc⟩:=rc i hi
 obtain⟨gc,cc',yc,ec,rowc,_,_⟩:=h.row (by omega)
 cases ec
 have okcr:=(h.om _ mc).r
 rw[oc]at okcr
 have c5:=omV_cell (j:=5) yc (show i<L.length by omega) (by omega)
 have c0:=omV_cell (j:=0) yc (show i<L.length by omega) (by omega)
 have c0':(L.getD i default).V[0]? =some (.int .i64 ((2*s.objs.getD i 0:Nat):Int)):=by show some (Value.int .i64 (L.getD i default).o.a)=_;rw[oc];rfl
 have c5':(L.getD i default).V[5]? =some (L.getD i default).vr:=rfl
 rw[c0']at c0
 rw[c5']at c5
 generalize (L.getD i default).vr=vc at*
 obtain⟨cr,ccp,rfl⟩:=okcr.val
 by_cases hz:0<(s.obAt (s.objs.getD i 0)).rf.length
 ·obtain⟨gr,cap1,y1,er1,atr1,_,_⟩:=okcr.pos hz
  obtain rfl:cr=some ⟨gr,0,none⟩:=by cases er1;rfl
  refine⟨gc,_,ccp,gr,rfl,fun _=>rfl,fun w' ho=>⟨?_,?_,fun j hj=>?_⟩⟩
  ·rw[(rowc.keep0 ho).cell];exact c0
  ·rw[(rowc.keep0 ho).cell];exact c5
  ·rw[(atr1.keep0 ho).cell];exact ints_append_get y1 hj
 ·refine⟨gc,cr,ccp,0,rfl,fun h=>absurd h hz,fun w' ho=>⟨?_,?_,fun j hj=>absurd hj (by omega)⟩⟩
  ·rw[(rowc.keep0 ho).cell];exact c0
  ·rw[(rowc.keep0 ho).cell];exact c5
end Go.Proofs.YtgcofabdialaaaaGreat
end
section
namespace Go.Proofs.YtgcofabdialaaaaGreat
set_option maxRecDepth 8000
theorem hCopy12 {w:World} {v:Value} {m:Nat} {l:List Int} (h:SrcIs w 1 v m (ints l)) (hm:m≤100000):Cs Tryz.prog 54 [v] w fun r w'=>Only [] w w'∧ ∃fp',Sl w' 1 r m (ints l) fp'∧ ∀y,y∈fp'→w.heap.size≤y:=by
 refine enter_ref12_Copy rfl ?_
 unfold x_ref12_Copy
 (repeat(first|with_reducible(first|refine nx ?_|refine r_6 rfl ?_)|simp only[go_sem]))
 refine bslT fun q w1 hq hs1 hat1 ho1=>?_
 (repeat(first|with_reducible(first|refine nx ?_|refine r_6 rfl ?_)|simp only[go_sem]))
 refine appT (Sl.empty1 hat1) (h.keep0 ho1) ints_one (by omega) (by omega) ?_
 intro v2 w2 f2 hs2 hf2 ho2 _
 (repeat(first|with_reducible(first|refine nx ?_|refine r_6 rfl ?_)|simp only[go_sem]))
 refine⟨(ho1.trans ho2 fun y hy=>.inr (by simp only[List.mem_singleton]at hy;omega)),f2,by simpa using hs2,fun y hy=>?_⟩
 have:=ho1.size
 rcases hf2 with e|e<;>rw[e]at hy<;>simp only[List.mem_singleton]at hy<;>omega
def Liv (s:HL) (x:Int):Prop:= ∃k:Nat,x=((2*k:Nat):Int)∧s.st.getD k 0=1
theorem has_liv {s:HL} (h:s.Ok) {x:Int}:hasO (some s) x=true↔Liv s x:=has_iff h
structure Rch (s:HL) (l R:List Int):Prop where
 up:Rise R
 liv: ∀x,x∈R→Liv s x
 ind: ∀P:Int→Prop,(∀x,x∈l→Liv s x→P x)→(∀k j,s.st.getD k 0=1→j<(s.obAt k).rf.length→P ((2*k:Nat):Int)→Liv s (s.RF k j)→P (s.RF k j))→ ∀x,x∈R→P x
theorem Rch.put {s:HL} {l R:List Int} (h:Rch s l R) {x:Int} (hx:Liv s x) (hi: ∀P:Int→Prop,(∀x,x∈l→Liv s x→P x)→(∀k j,s.st.getD k 0=1→j<(s.obAt k).rf.length→P ((2*k:Nat):Int)→Liv s (s.RF k j)→P (s.RF k j))→P x):Rch s l (putI R x):=
 ⟨putI_rise x h.up,fun y hy=>(mem_putI.1 hy).elim (fun e=>e▸hx) (h.liv y),fun P h1 h2 y hy=>(mem_putI.1 hy).elim (fun e=>e▸hi P h1 h2) (h.ind P h1 h2 y)⟩
theorem Rch.len {s:HL} {l R:List Int} (h:Rch s l R):R.length≤s.objs.length:=h.up.le_objs h.liv
def Full (s:HL) (R:List Int):Prop:= ∀k j,s.st.getD k 0=1→j<(s.obAt k).rf.length→((2*k:Nat):Int)∈R→Liv s (s.RF k j)→s.RF k j∈R
structure RSt (w w':World) (s:HL) (l R0 R:List Int) (v5 v7:Value) (fp:List Nat) (mo:Bool):Prop where
 o:Only [] w w'
 sl:Sl w' 1 v5 R.length (ints R) fp
 ge: ∀y,y∈fp→w.heap.size≤y
 r:Rch s l R
 st: ∀x,x∈l→Liv s x→x∈R
 m:v7=.bool mo
 sub: ∀x,x∈R0→x∈R
 e0:mo=false→R=R0
 e1:R0.length+(if mo then 1 else 0)≤R.length
theorem RSt.mono {w w' w2:World} {s:HL} {l R0 R:List Int} {v5 v7 v5' v7':Value} {fp:List Nat} {mo:Bool} (h:RSt w w' s l R0 R v5 v7 fp mo) (k:Only [] w' w2) (e5:v5'=v5) (e7:v7'=v7):RSt w w2 s l R0 R v5' v7' fp mo:=by
 subst e5;subst e7
 exact⟨h.o.nil k,h.sl.keep0 k,h.ge,h.r,h.st,h.m,h.sub,h.e0,h.e1⟩
def vlen:Value→Nat
 |.slice _ n _=>n
 |_=>0
def vbit:Value→Nat
 |.bool true=>1
 |_=>0
theorem cReached {w:World} {b:Nat} {s0 s:HL} {fp fl:List Nat} {vl:Value} {l:List Int} (hk:Akin s0 s) (hn:s.objs.length≤40) (h:FM w b s.abs fp) (hl:Sl w 1 vl l.length (ints l) fl) (hll:l.length≤1000):Cs Tryz.prog 18 [.pointer (some ⟨b,0,none⟩),vl] w fun v w'=>Only [] w w'∧ ∃R fp',Sl w' 1 v R.length (ints R) fp'∧(∀y,y∈fp'→w.heap.size≤y)∧Rch s l R∧(∀x,x∈l→Liv s x→x∈R)∧Full s R:=by
 obtain⟨_,vO,_,_,_,_,L,hfpe,hm⟩:=h
 have hfm:FM w b s.abs fp:=⟨_,_,_,_,_,_,_,hfpe,hm⟩
 obtain⟨lL,_⟩:=hm.ob (s0:=s) rfl
 obtain⟨av,cv,rfl⟩:=hm.valO
 obtain⟨al,cl,rfl⟩:=hl.val
 have hok:=hk.ok
 have hget: ∀i:Nat,i<l.length→ ∃g,al=some ⟨g,0,none⟩∧ ∀w',Only [] w w'→w'.cell? ⟨g,i,none⟩=some (.int .i64 (l.getD i 0)):=fun i hi=>by
  obtain⟨g,cap,ys,e,hat,_,_⟩:=hl.pos (by omega)
  cases e
  exact⟨g,rfl,fun w' ho=>by rw[(hat.keep0 ho).cell];exact ints_append_get ys (by omega)⟩
 refine enter_law12_reached rfl ?_
 unfold x_law12_reached
 (repeat(first|with_reducible(first|refine nx ?_|refine r_6 rfl ?_)|simp only[go_sem]))
 refine bslT fun q w1 hq hs1 hat1 ho1=>?_
 (repeat(first|with_reducible(first|refine r_1 ?_|refine r_2 ?_|refine r_4 ?_|refine r_5 ?_|refine r_6 rfl ?_|refine r_7 ?_|refine r_8 ?_|refine r_9 ?_|refine r_0 ?_)|simp only[go_sem]))
 refine run_cut (5::6::13::14::15::16::17::18::19::20::21::22::23::24::25::26::27::28::29::30::[]) (fun ρ' w'=> ∃(R:List Int) (fp':List Nat),Only [] w w'∧Sl w' 1 (ρ' 5) R.length (ints R) fp'∧(∀y,y∈fp'→w.heap.size≤y)∧Rch s l R∧(∀x,x∈l→Liv s x→x∈R)) (fun kk hkk=>?_) (fun g0 w2 hJ=>?_)
 ·(repeat(first|with_reducible(first|refine nx ?_|refine r_6 rfl ?_)|simp only[go_sem]))
  refine run_loop (5::6::13::14::15::16::17::18::19::20::21::22::23::24::25::26::27::28::29::30::[]) (fun g w'=> ∃(i:Nat) (R:List Int) (fp':List Nat),g 6=.int .i64 (i:Int)∧i≤l.length∧Only [] w w'∧Sl w' 1 (g 5) R.length (ints R) fp'∧(∀y,y∈fp'→w.heap.size≤y)∧Rch s l R∧(∀j,j<i→Liv s (l.getD j 0)→l.getD j 0∈R))
   (fun g _=>upTo l.length 6 g) ⟨0,[],[q],by simp only[go_sem];rfl,by omega,ho1,by simp only[go_sem];exact Sl.empty1 hat1,fun y hy=>by simp only[List.mem_singleton]at hy;omega,⟨List.Pairwise.nil,fun x hx=>absurd hx (by simp),fun P _ _ x hx=>absurd hx (by simp)⟩,fun j hj=>absurd hj (by omega)⟩ fun g1 w3 hI hnext=>?_
  obtain⟨i,R,fR,h6,hi,ho3,hR,gR,rch,all⟩:=hI
  by_cases c1:i<l.length
  rotate_left
  ·(repeat(first|with_reducible(first|refine nx ?_|refine r_6 rfl ?_)|simp only[go_sem,h6,decide_eq_false (show¬(i:Int)<(l.length:Int) by omega)]))
   refine hkk _ _ ?_ ⟨R,fR,ho3,?_,gR,rch,fun x hx hv=>?_⟩
   ·(repeat(first|with_reducible exact k_1|with_reducible exact Keeps.ovr _ _ _|refine Keeps.put ?_ rfl _|exact k_1|exact Keeps.ovr _ _ _|refine Keeps.ovr2 ?_ rfl _))
   ·simp only[go_sem];exact hR
   ·obtain⟨j,hj,rfl⟩:=List.mem_iff_getElem.1 hx
    have:=all j (by omega)
    simp only[List.getD_eq_getElem?_getD,List.getElem?_eq_getElem hj,Option.getD_some]at this
    exact this hv
  obtain⟨g,rfl,hc⟩:=hget i c1
  have ci:(0:Int)≤(i:Int)∧(i:Int)<(l.length:Int):=by omega
  have z1:=i64_succ i (by omega)
  have hm3:=hm.keep0 ho3
  (repeat(first|with_reducible(first|refine nx ?_|refine r_6 rfl ?_)|simp only[go_sem,h6,decide_eq_true ci.2,if_pos ci,Int.toNat_natCast,Nat.mul_one,hc w3 ho3]))
  refine callT0 (fHas (hfm.keep0 ho3) (l.getD i 0)) ?_
  rw[abs_has hok]
  cases hh:hasO (some s) (l.getD i 0)with
  |false=>
   (repeat(first|with_reducible(first|refine nx ?_|refine r_6 rfl ?_)|simp only[go_sem,h6,z1]))
   refine hnext _ w3 ?_ ⟨i+1,R,fR,?_,by omega,ho3,?_,gR,rch,fun j hj hv=>?_⟩ ?_
   ·(repeat(first|with_reducible exact k_1|with_reducible exact Keeps.ovr _ _ _|refine Keeps.put ?_ rfl _|exact k_1|exact Keeps.ovr _ _ _|refine Keeps.ovr2 ?_ rfl _))
   ·simp only[go_sem]
   ·simp only[go_sem];exact hR
   ·by_cases e:j=i
    ·subst e;rw[(has_liv hok).2 hv]at hh;cases hh
    ·exact all j (by omega) hv
   ·rw[upTo_int (i:=i) h6,upTo_int (k:=.i64) (i:=i+1) (by simp only[go_sem])];omega
  |true=>
   have hlv:=(has_liv hok).1 hh
   (repeat(first|with_reducible(first|refine nx ?_|refine r_6 rfl ?_)|simp only[go_sem,h6,if_pos ci,Int.toNat_natCast,Nat.mul_one,hc w3 ho3]))
   refine callT (hPut12 hR (by have:=rch.len;omega) (l.getD i 0)) ?_
   rintro vR w4 ⟨ho4,fR2,hR2,gR2⟩
   (repeat(first|with_reducible(first|refine nx ?_|refine r_6 rfl ?_)|simp only[go_sem,h6,z1]))
   refine hnext _ w4 ?_ ⟨i+1,putI R (l.getD i 0),fR2,?_,by omega,ho3.nil ho4,?_,fun y hy=>(gR2 y hy).elim (gR y) fun h=>by have:=ho3.size;omega,rch.put hlv fun P h1 _=>h1 _ (by simp[c1]) hlv,fun j hj hv=>?_⟩ ?_
   ·(repeat(first|with_reducible exact k_1|with_reducible exact Keeps.ovr _ _ _|refine Keeps.put ?_ rfl _|exact k_1|exact Keeps.ovr _ _ _|refine Keeps.ovr2 ?_ rfl _))
   ·simp only[go_sem]
   ·simp only[go_sem];exact hR2
   ·by_cases e:j=i
    ·subst e;exact mem_putI.2 (.inl rfl)
    ·exact mem_putI.2 (.inr (all j (by omega) hv))
   ·rw[upTo_int (i:=i) h6,upTo_int (k:=.i64) (i:=i+1) (by simp only[go_sem])];omega
 obtain⟨R0,f0,ho2,hR0,gR0,rch0,st0⟩:=hJ
 (repeat(first|with_reducible(first|refine nx ?_|refine r_6 rfl ?_)|simp only[go_sem]))
 refine run_loop (5::7::8::9::10::11::31::32::33::34::35::36::37::38::39::40::41::42::43::44::45::46::47::48::49::50::51::52::53::54::55::56::57::58::59::60::61::62::63::64::65::66::67::68::69::70::71::72::73::74::75::76::77::78::79::[]) (fun g w'=> ∃(R:List Int) (fp':List Nat) (mo:Bool),Only [] w w'∧Sl w' 1 (g 5) R.length (ints R) fp'∧(∀y,y∈fp'→w.heap.size≤y)∧Rch s l R∧(∀x,x∈l→Liv s x→x∈R)∧g 7=.bool mo∧(mo=false→Full s R)) (fun g _=>2*(40-vlen (g 5))+vbit (g 7))
  ⟨R0,f0,true,ho2,by simp only[go_sem];exact hR0,gR0,rch0,st0,by simp only[go_sem],fun h=>by cases h⟩ fun g1 w3 hI hnext=>?_
 clear R0 f0 ho2 hR0 gR0 rch0 st0
 obtain⟨R0,f0,mo,ho3,hR0,gR0,rch0,st0,h7,hfull⟩:=hI
 have hlen0:=rch0.len
 obtain⟨a0,c0,h5⟩:=hR0.val
 cases mo with
 |false=>
  (repeat(first|with_reducible(first|refine nx ?_|refine r_6 rfl ?_)|simp only[go_sem,h7]))
  exact⟨ho3,R0,f0,hR0,gR0,rch0,st0,hfull rfl⟩
 |true=>
 (repeat(first|with_reducible(first|refine nx ?_|refine r_6 rfl ?_)|simp only[go_sem,h7]))
 refine callT (hCopy12 hR0.src (by omega)) ?_
 rintro vF w4 ⟨ho4,fF,hF,gF⟩
 obtain⟨aF,cF,rfl⟩:=hF.val
 have hgetF: ∀i:Nat,i<R0.length→ ∃g,aF=some ⟨g,0,none⟩∧g<w4.heap.size∧ ∀w',Only [] w4 w'→w'.cell? ⟨g,i,none⟩=some (.int .i64 (R0.getD i 0)):=fun i hi=>by
  obtain⟨g,cap,ys,e,hat,_,_⟩:=hF.pos (by omega)
  cases e
  exact⟨g,rfl,hat.lt,fun w' ho=>by rw[(hat.keep0 ho).cell];exact ints_append_get ys (by omega)⟩
 have start:RSt w w4 s l R0 R0 (g1 5) (.bool false) f0 false:=⟨ho3.nil ho4,hR0.keep0 ho4,gR0,rch0,st0,rfl,fun _ h=>h,fun _=>rfl,by simp⟩
 (repeat(first|with_reducible(first|refine nx ?_|refine r_6 rfl ?_)|simp only[go_sem]))
 refine run_loop (5::7::9::10::11::34::35::36::37::38::39::40::41::42::43::44::45::46::47::48::49::50::51::52::53::54::55::56::57::58::59::60::61::62::63::64::65::66::67::68::69::70::71::72::73::74::75::76::77::78::79::[]) (fun g w'=> ∃(i:Nat) (R:List Int) (fp':List Nat) (mo:Bool),g 9=.int .i64 (i:Int)∧i≤R0.length∧Only [] w4 w'∧RSt w w' s l R0 R (g 5) (g 7) fp' mo∧ ∀a,a<i→ ∀k j,R0.getD a 0=((2*k:Nat):Int)→s.st.getD k 0=1→j<(s.obAt k).rf.length→Liv s (s.RF k j)→s.RF k j∈R)
  (fun g _=>upTo R0.length 9 g) ⟨0,R0,f0,false,by simp only[go_sem];rfl,by omega,Only.refl _ _,by simp only[go_sem];exact start,fun a ha=>absurd ha (by omega)⟩ fun g2 w5 hI4 hnext4=>?_
 obtain⟨i,R,fR,mo,h9,hi,ho5,hst,done⟩:=hI4
 have h7':=hst.m
 by_cases c1:i<R0.length
 rotate_left
 ·have hRl:=hst.r.len
  have hl1:=hst.e1
  obtain⟨a5,c5,e5⟩:=hst.sl.val
  (repeat(first|with_reducible(first|refine nx ?_|refine r_6 rfl ?_)|simp only[go_sem,h9,decide_eq_false (show¬(i:Int)<(R0.length:Int) by omega)]))
  refine hnext _ w5 ?_ ⟨R,fR,mo,hst.o,?_,hst.ge,hst.r,hst.st,?_,fun e k j hk hj hin hv=>?_⟩ ?_
  ·(repeat(first|with_reducible exact k_1|with_reducible exact Keeps.ovr _ _ _|refine Keeps.put ?_ rfl _|exact k_1|exact Keeps.ovr _ _ _|refine Keeps.ovr2 ?_ rfl _))
  ·simp only[go_sem];exact hst.sl
  ·simp only[go_sem];exact h7'
  ·have e0:=hst.e0 e
   rw[e0]at hin
   obtain⟨a,ha,hae⟩:=List.mem_iff_getElem.1 hin
   exact done a (by omega) k j (by rw[List.getD_eq_getElem?_getD,List.getElem?_eq_getElem ha];exact hae) hk hj hv
  ·simp only[go_sem,e5,h7',h5,h7]
   show 2*(40-R.length)+vbit (.bool mo)<2*(40-R0.length)+1
   cases mo with
   |false=>rw[hst.e0 rfl];show _+0<_;omega
   |true=>simp only[if_true]at hl1;show _+1<_;omega
 obtain⟨gF1,rfl,gFlt,hcF⟩:=hgetF i c1
 have ci:(0:Int)≤(i:Int)∧(i:Int)<(R0.length:Int):=by omega
 obtain⟨k,hke,hk0⟩:=rch0.liv (R0.getD i 0) (by simp[c1])
 obtain⟨q',hq',hqe⟩:=objs_index hk0
 obtain⟨gc,cr,cp,gr,e1,e2,see⟩:=hm.see hq'
 cases e1
 rw[hqe]at e2 see
 have o5d:=hst.o.nil (Only.drew [] w5)
 have hm5:=hm.keep0 o5d
 obtain⟨s0c,s5c,srf⟩:=see _ o5d
 have cq:(0:Int)≤(q':Int)∧(q':Int)<(L.length:Int):=by omega
 have rk15:=rf_le hok hk0
 have hix:s.abs.O=s.abs.O:=rfl
 (repeat(first|with_reducible(first|refine nx ?_|refine r_6 rfl ?_)|simp only[go_sem,h9,decide_eq_true ci.2]))
 refine run_drt [b,gF1,gc] ?_
 (repeat(first|with_reducible(first|refine nx ?_|refine r_6 rfl ?_)|simp only[go_sem,h9,hm5.hb.cell,if_pos ci,Int.toNat_natCast,Nat.mul_one,hcF _ (ho5.nil (Only.drew [] w5))]))
 refine callS0 (fIndex (hfm.keep0 o5d) (R0.getD i 0)) (.inr (SB.refl _ _)) ?_
 rw[hke,abs_ix hq' hqe]
 (repeat(first|with_reducible(first|refine nx ?_|refine r_6 rfl ?_)|simp only[go_sem,show ixI (some q')=(q':Int)from rfl,if_pos cq,Int.toNat_natCast,s5c]))
 refine run_loop (5::7::11::53::54::55::56::57::58::59::60::61::62::63::64::65::66::67::68::69::70::71::72::73::74::75::76::77::78::79::[]) (fun g w'=> ∃(j:Nat) (R:List Int) (fp':List Nat) (mo:Bool),g 11=.int .i64 (j:Int)∧j≤(s.obAt k).rf.length∧Only [] w4 w'∧RSt w w' s l R0 R (g 5) (g 7) fp' mo∧(∀a,a<i→ ∀k j,R0.getD a 0=((2*k:Nat):Int)→s.st.getD k 0=1→j<(s.obAt k).rf.length→Liv s (s.RF k j)→s.RF k j∈R)∧ ∀j',j'<j→Liv s (s.RF k j')→s.RF k j'∈R)
  (fun g _=>upTo (s.obAt k).rf.length 11 g) ⟨0,R,fR,mo,by simp only[go_sem];rfl,by omega,ho5.nil (Only.drew [] w5),hst.mono (Only.drew [] w5) (by simp only[go_sem]) (by simp only[go_sem]),done,fun j' hj=>absurd hj (by omega)⟩ fun g3 w6 hI6 hnext6=>?_
 clear R fR mo ho5 hst done h7'
 obtain⟨j,R,fR,mo,h11,hj,ho6,hst,done,donej⟩:=hI6
 have h7':=hst.m
 by_cases c2:j<(s.obAt k).rf.length
 rotate_left
 ·(repeat(first|with_reducible(first|refine nx ?_|refine r_6 rfl ?_)|simp only[go_sem,h9,h11,decide_eq_false (show¬(j:Int)<((s.obAt k).rf.length:Int) by omega),i64_succ i (by omega)]))
  refine hnext4 _ w6 ?_ ⟨i+1,R,fR,mo,?_,by omega,ho6,hst.mono (Only.refl _ _) (by simp only[go_sem]) (by simp only[go_sem]),fun a ha k' j' hk' hs' hj' hv'=>?_⟩ ?_
  ·(repeat(first|with_reducible exact k_1|with_reducible exact Keeps.ovr _ _ _|refine Keeps.put ?_ rfl _|exact k_1|exact Keeps.ovr _ _ _|refine Keeps.ovr2 ?_ rfl _))
  ·simp only[go_sem]
  ·by_cases e:a=i
   ·subst e
    rw[hke]at hk'
    obtain rfl:k=k':=by omega
    exact donej j' (by omega) hv'
   ·exact done a (by omega) k' j' hk' hs' hj' hv'
  ·rw[upTo_int (i:=i) h9,upTo_int (k:=.i64) (i:=i+1) (by simp only[go_sem])];omega
 have cj:(0:Int)≤(j:Int)∧(j:Int)<((s.obAt k).rf.length:Int):=by omega
 have z1:=i64_succ j (by omega)
 obtain rfl:=e2 (by omega)
 obtain⟨_,_,trf⟩:=see w6 hst.o
 have tj:=trf j c2
 have hRl:=hst.r.len
 (repeat(first|with_reducible(first|refine nx ?_|refine r_6 rfl ?_)|simp only[go_sem,h11,decide_eq_true cj.2,if_pos cj,Int.toNat_natCast,Nat.mul_one,tj]))
 refine callT0 (fHas (hfm.keep0 hst.o) (s.RF k j)) ?_
 rw[abs_has hok]
 have nxt: ∀(g4:Env),g4 11=.int .i64 ((j+1:Nat):Int)→g4 5=g3 5→g4 7=g3 7→(Liv s (s.RF k j)→s.RF k j∈R)→ ∃(j:Nat) (R:List Int) (fp':List Nat) (mo:Bool),g4 11=.int .i64 (j:Int)∧j≤(s.obAt k).rf.length∧Only [] w4 w6∧RSt w w6 s l R0 R (g4 5) (g4 7) fp' mo∧(∀a,a<i→ ∀k j,R0.getD a 0=((2*k:Nat):Int)→s.st.getD k 0=1→j<(s.obAt k).rf.length→Liv s (s.RF k j)→s.RF k j∈R)∧ ∀j',j'<j→Liv s (s.RF k j')→s.RF k j'∈R:=fun g4 e11 e5 e7 hin=>⟨j+1,R,fR,mo,e11,by omega,ho6,hst.mono (Only.refl _ _) e5 e7,done,fun j' hj' hv=>by
  by_cases e:j'=j
  ·subst e;exact hin hv
  ·exact donej j' (by omega) hv⟩
 cases hh:hasO (some s) (s.RF k j)with
 |false=>
  (repeat(first|with_reducible(first|refine nx ?_|refine r_6 rfl ?_)|simp only[go_sem,h11,z1]))
  refine hnext6 _ w6 ?_ (nxt _ ?_ ?_ ?_ fun hv=>by rw[(has_liv hok).2 hv]at hh;cases hh) ?_
  ·(repeat(first|with_reducible exact k_1|with_reducible exact Keeps.ovr _ _ _|refine Keeps.put ?_ rfl _|exact k_1|exact Keeps.ovr _ _ _|refine Keeps.ovr2 ?_ rfl _))
  ·simp only[go_sem]
  ·simp only[go_sem]
  ·simp only[go_sem]
  ·rw[upTo_int (i:=j) h11,upTo_int (k:=.i64) (i:=j+1) (by simp only[go_sem])];omega
 |true=>
  have hlv:=(has_liv hok).1 hh
  (repeat(first|with_reducible(first|refine nx ?_|refine r_6 rfl ?_)|simp only[go_sem,h11,if_pos cj,Int.toNat_natCast,Nat.mul_one,tj]))
  refine callT0 (hHas12 hst.sl.rd (by omega) (s.RF k j)) ?_
  cases hcn:R.contains (s.RF k j)with
  |true=>
   (repeat(first|with_reducible(first|refine nx ?_|refine r_6 rfl ?_)|simp only[go_sem,h11,z1]))
   refine hnext6 _ w6 ?_ (nxt _ ?_ ?_ ?_ fun _=>List.contains_iff_mem.1 hcn) ?_
   ·(repeat(first|with_reducible exact k_1|with_reducible exact Keeps.ovr _ _ _|refine Keeps.put ?_ rfl _|exact k_1|exact Keeps.ovr _ _ _|refine Keeps.ovr2 ?_ rfl _))
   ·simp only[go_sem]
   ·simp only[go_sem]
   ·simp only[go_sem]
   ·rw[upTo_int (i:=j) h11,upTo_int (k:=.i64) (i:=j+1) (by simp only[go_sem])];omega
  |false=>
   have hni:s.RF k j∉R:=fun h=>by rw[List.contains_iff_mem.2 h]at hcn;cases hcn
   (repeat(first|with_reducible(first|refine nx ?_|refine r_6 rfl ?_)|simp only[go_sem,h11,if_pos cj,Int.toNat_natCast,Nat.mul_one,tj]))
   refine callT (hPut12 hst.sl (by omega) (s.RF k j)) ?_
   rintro vR w7 ⟨ho7,fR2,hR2,gR2⟩
   (repeat(first|with_reducible(first|refine nx ?_|refine r_6 rfl ?_)|simp only[go_sem,h11,z1]))
   have hsz:=hst.o.size
   have hl1:=putI_len1 hni
   have hl2:=hst.e1
   refine hnext6 _ w7 ?_ ⟨j+1,putI R (s.RF k j),fR2,true,?_,by omega,ho6.nil ho7,⟨hst.o.nil ho7,?_,fun y hy=>(gR2 y hy).elim (hst.ge y) fun h=>by omega,hst.r.put hlv fun P h1 h2=>h2 k j hk0 c2 ?_ hlv,fun x hx hv=>mem_putI.2 (.inr (hst.st x hx hv)),?_,fun x hx=>mem_putI.2 (.inr (hst.sub x hx)),fun e=>(by cases e),?_⟩,fun a ha k' j' h1 h2 h3 h4=>mem_putI.2 (.inr (done a ha k' j' h1 h2 h3 h4)),fun j' hj' hv=>?_⟩ ?_
   ·(repeat(first|with_reducible exact k_1|with_reducible exact Keeps.ovr _ _ _|refine Keeps.put ?_ rfl _|exact k_1|exact Keeps.ovr _ _ _|refine Keeps.ovr2 ?_ rfl _))
   ·simp only[go_sem]
   ·simp only[go_sem];exact hR2
   ·exact rch0.ind P h1 h2 _ (by rw[←hke];simp[c1])
   ·simp only[go_sem]
   ·rw[hl1];simp only[if_true];omega
   ·by_cases e:j'=j
    ·subst e;exact mem_putI.2 (.inl rfl)
    ·exact mem_putI.2 (.inr (donej j' (by omega) hv))
   ·rw[upTo_int (i:=j) h11,upTo_int (k:=.i64) (i:=j+1) (by simp only[go_sem])];omega
end Go.Proofs.YtgcofabdialaaaaGreat
end
section
namespace Go.Proofs.YtgcofabdialaaaaGreat
set_option maxRecDepth 8000
theorem law_Snapshot {w:World} {cs:List Value} {g:BG} {vO vD vL vP vN vl:Value} {l:List It} (hg:BegAt w.heap.size w cs g vO vD vL vP vN) (hl:StAt w.heap.size w vl l) (kn:Nat) (hkn:kn<256) (yn:Nat) (hyn:yn<256):
  Cs Tryz.prog 6 [.agg ⟨cs⟩,.int .u8 (kn:Int),.int .u8 (yn:Int),vl] w fun v w'=>v=.bool true∧Only [] w w':=by
 have hcs:=hg.e
 obtain⟨k1,k2,k3⟩:=orB kn 8 (.inr (.inr (.inr (.inl rfl))))
 have m64:((kn:Nat):Int).tmod 64=((kn%64:Nat):Int):=tmodN kn 64
 refine enter_law12_BarrierSnapshot rfl ?_
 unfold x_law12_BarrierSnapshot
 (repeat(first|with_reducible(first|refine nx ?_|refine r_6 rfl ?_)|simp only[go_sem]))
 refine boxT fun q w1 hq hs1 hat1 ho1=>?_
 have hz1:=ho1.size
 have hc1:cellsAt w1 ⟨q,0,none⟩ 7=some cs:=by rw[cellsAt_at hat1 0 7 (by rw[hcs];simp),hcs];rfl
 have hg1:=hg.keep0 (Nat.le_refl _) hz1 ho1
 (repeat(first|with_reducible(first|refine nx ?_|refine r_6 rfl ?_)|simp only[go_sem,hc1,conv_u8 kn hkn,m64]))
 generalize hkd:bitI .or .i64 ((kn%64:Nat):Int) 8=kd at*
 refine callT (cWatched hg1 (hl.keep0' (Nat.le_refl _) hz1 ho1) kd 1 k1 k2 (by omega) (by omega)) ?_
 rintro v w2 ⟨a,c,x,hb,s0,s1,t,fa,fc,fx,fh,rfl,wt⟩
 obtain⟨r1,r2,r3,_,_,_,r4⟩:=run_spec wt.k0 wt.run
 have hlen:=wt.len
 obtain⟨bd,bo,vs,vl',fs,fl,M,hfx,hm⟩:=wt.bar
 have hn:=wt.n40
 have o2:Only [] w w2:=ho1.nil wt.o
 obtain⟨_,vOa,_,_,_,_,La,_,ha⟩:=wt.was
 obtain⟨la,_⟩:=ha.ob (s0:=s0) rfl
 obtain⟨aa,ca,rfl⟩:=ha.valO
 by_cases c0:s0.objs.length=0
 ·(repeat(first|with_reducible(first|refine nx ?_|refine r_6 rfl ?_)|simp only[go_sem,ha.hb.cell,beq_int_true (show(La.length:Int)=0 by omega)]))
  refine callT (law_awake w2) ?_
  rintro v w3 ⟨rfl,ho3⟩
  (repeat(first|with_reducible(first|refine nx ?_|refine r_6 rfl ?_)|simp only[go_sem]))
  exact o2.nil ho3
 (repeat(first|with_reducible(first|refine nx ?_|refine r_6 rfl ?_)|simp only[go_sem,ha.hb.cell,beq_int_false (show¬(La.length:Int)=0 by omega)]))
 have od:Only [] w2 w2.drew:=Only.drew [] w2
 have had:=ha.keep0 od
 have mL:(yn:Int).tmod (La.length:Int)=((yn%La.length:Nat):Int):=tmodN yn La.length
 have hidx:yn%La.length<s0.objs.length:=by rw[←la];exact Nat.mod_lt _ (by omega)
 obtain⟨ix,hix⟩: ∃ix,ix=yn%La.length:=⟨_,rfl⟩
 rw[←hix]at mL hidx
 obtain⟨gc,cr,cp,gr,e1,_,see⟩:=ha.see hidx
 cases e1
 obtain⟨k,hkd2⟩: ∃k,k=s0.objs.getD ix 0:=⟨_,rfl⟩
 have hk0:s0.st.getD k 0=1:=mem_objs.1 (by rw[hkd2];simp[hidx])
 rw[←hkd2]at see
 obtain⟨s0c,_,_⟩:=see _ od
 have ci:(0:Int)≤(ix:Int)∧(ix:Int)<(La.length:Int):=by omega
 have hne: ¬(La.length:Int)=0:=by omega
 (repeat(first|with_reducible(first|refine nx ?_|refine r_6 rfl ?_)|simp only[go_sem,had.hb.cell,conv_u8 yn hyn,mL,divO_of hne,if_pos ci,Int.toNat_natCast,Nat.add_zero,s0c]))
 refine bslT fun q3 w3 hq3 hs3 hat3 ho3=>?_
 have o3:=od.nil ho3
 have hS3:Sl w3 1 (.slice (some ⟨q3,0,none⟩) 1 1) 1 (ints [((2*k:Nat):Int)]) [q3]:=Sl.mk1 (ys:=[]) hat3 rfl rfl
 (repeat(first|with_reducible(first|refine nx ?_|refine r_6 rfl ?_)|simp only[go_sem]))
 refine callT (cReached wt.k0 hn (wt.was.keep0 o3) hS3 (by simp)) ?_
 rintro v w4 ⟨ho4,R1,f1,hR1,gR1,rch1,_,_⟩
 have o4:=o3.nil ho4
 (repeat(first|with_reducible(first|refine nx ?_|refine r_6 rfl ?_)|simp only[go_sem]))
 refine bslT fun q5 w5 hq5 hs5 hat5 ho5=>?_
 have o5:=o4.nil ho5
 have hS5:Sl w5 1 (.slice (some ⟨q5,0,none⟩) 1 1) 1 (ints [((2*k:Nat):Int)]) [q5]:=Sl.mk1 (ys:=[]) hat5 rfl rfl
 (repeat(first|with_reducible(first|refine nx ?_|refine r_6 rfl ?_)|simp only[go_sem]))
 refine callT (bShaded (hm.hb.keep0 o5) (hm.hs.keep0 o5) (by omega)) ?_
 rintro v w6 ⟨ho6,fd,hs6,hfd⟩
 have o6:=o5.nil ho6
 (repeat(first|with_reducible(first|refine nx ?_|refine r_6 rfl ?_)|simp only[go_sem]))
 refine appT (hS5.keep0 ho6) hs6.src ints_one (by omega) (by omega) ?_
 intro v7 w7 f7 hs7 hf7 ho7 _
 have o7:Only [] w2 w7:=o6.trans ho7 fun y hy=>.inr (by simp only[List.mem_singleton]at hy;have:=o4.size;omega)
 have hl7:Sl w7 1 v7 (((2*k:Nat):Int)::t.S).length (ints (((2*k:Nat):Int)::t.S)) f7:=by
  have e:(((2*k:Nat):Int)::t.S).length=1+t.S.length:=by simp;omega
  rw[e];exact hs7
 (repeat(first|with_reducible(first|refine nx ?_|refine r_6 rfl ?_)|simp only[go_sem]))
 have hob:s1.objs=s0.objs:=wt.k1.objs
 refine callT (cReached wt.k1 (by rw[hob];exact hn) (wt.now.keep0 o7) hl7 (by simp;omega)) ?_
 rintro v w8 ⟨ho8,R2,f2,hR2,gR2,rch2,st2,full2⟩
 have o8:=o7.nil ho8
 have hst:s1.st=s0.st:=wt.k1.st
 have key: ∀x,x∈R1→x∈R2:=by
  have liv: ∀ {x},Liv s0 x→Liv s1 x:=fun⟨k,e,h⟩=>⟨k,e,by rw[hst];exact h⟩
  refine rch1.ind (· ∈R2) (fun x hx hv=>?_) fun k' j hk hj hin hv=>?_
  ·simp only[List.mem_singleton]at hx
   exact st2 x (by simp[hx]) (liv hv)
  ·have hnz:s0.RF k' j≠0:=fun e=>by
    obtain⟨z,hz,hz1⟩:=hv
    obtain rfl:z=0:=by omega
    exact wt.k0.inv.z0 hz1
   rcases r4 k3 k' j hk hnz with h|h
   ·have:=full2 k' j (by rw[hst];exact hk) (by rw[r3 k' hk];exact hj) hin (by rw[h];exact liv hv)
    rw[h]at this;exact this
   ·exact st2 _ (by simp[h]) (liv hv)
 have hR1l:=rch1.len
 have hR2l:=rch2.len
 rw[hob]at hR2l
 obtain⟨aR1,cR1,rfl⟩:=hR1.val
 obtain⟨aR2,cR2,rfl⟩:=hR2.val
 have o48:Only [] w4 w8:=((ho5.nil ho6).trans ho7 fun y hy=>.inr (by simp only[List.mem_singleton]at hy;omega)).nil ho8
 (repeat(first|with_reducible(first|refine nx ?_|refine r_6 rfl ?_)|simp only[go_sem]))
 refine run_loop (15::62::63::64::65::66::67::68::69::70::71::72::73::74::[]) (fun g w'=> ∃i:Nat,g 15=.int .i64 (i:Int)∧i≤R1.length∧Only [] w8 w') (fun g _=>upTo R1.length 15 g) ⟨0,by simp only[go_sem];rfl,by omega,Only.refl _ _⟩ fun g1 w9 hI hnext=>?_
 obtain⟨i,h15,hi,ho9⟩:=hI
 by_cases c1:i<R1.length
 rotate_left
 ·(repeat(first|with_reducible(first|refine nx ?_|refine r_6 rfl ?_)|simp only[go_sem,h15,decide_eq_false (show¬(i:Int)<(R1.length:Int) by omega)]))
  refine callT (law_awake w9) ?_
  rintro v w10 ⟨rfl,ho10⟩
  (repeat(first|with_reducible(first|refine nx ?_|refine r_6 rfl ?_)|simp only[go_sem]))
  exact((o2.nil o8).nil ho9).nil ho10
 have ci:(0:Int)≤(i:Int)∧(i:Int)<(R1.length:Int):=by omega
 obtain⟨gr,cap1,y1,er1,atr1,_,_⟩:=((hR1.keep0 o48).keep0 ho9).pos (by omega)
 cases er1
 have v1:w9.cell? ⟨gr,i,none⟩=some (.int .i64 (R1.getD i 0)):=by rw[atr1.cell];exact ints_append_get y1 (by omega)
 (repeat(first|with_reducible(first|refine nx ?_|refine r_6 rfl ?_)|simp only[go_sem,h15,decide_eq_true ci.2,if_pos ci,Int.toNat_natCast,Nat.mul_one,v1]))
 refine callT0 (hHas12 ((hR2.keep0 ho9).rd) (by omega) (R1.getD i 0)) ?_
 rw[List.contains_iff_mem.2 (key _ (by simp[c1]))]
 (repeat(first|with_reducible(first|refine nx ?_|refine r_6 rfl ?_)|simp only[go_sem,h15,i64_succ i (by omega)]))
 refine hnext _ w9 ?_ ⟨i+1,?_,by omega,ho9⟩ ?_
 ·(repeat(first|with_reducible exact k_1|with_reducible exact Keeps.ovr _ _ _|refine Keeps.put ?_ rfl _|exact k_1|exact Keeps.ovr _ _ _|refine Keeps.ovr2 ?_ rfl _))
 ·simp only[go_sem]
 ·rw[upTo_int (i:=i) h15,upTo_int (k:=.i64) (i:=i+1) (by simp only[go_sem])];omega
end Go.Proofs.YtgcofabdialaaaaGreat
end
section
namespace Go.Proofs.YtgcofabdialaaaaGreat
open Go.ChangeShapes Go.WideShapes Go.ChangeAt Go.RowKit
section
variable {H:Type} {enc:TypeId×Value→H} {P:Program}
theorem trodAll_below (hl:laidOutB P=true) {W W':World} (hb:Below W.heap.size W W'): ∀(ts:List TypeId) (vs:List Value) (ds:List (DataW H)) (ps:List MemPlace),(ts.all fun t=>P.readableRec t&&decide (t<P.types.size))=true→
  DataW.TrodAll enc P W 0 (fun _=>true) true ts vs ds ps→(∀x∈ps,x.block<W.heap.size)→DataW.TrodAll enc P W' 0 (fun b=>decide (b<W.heap.size)) true ts vs ds ps
 | [],[],[],_,_,h,_=>h
 | [],_::_,_,_,_,h,_=>h.elim
 | [],[],_::_,_,_,h,_=>h.elim
 |_::_,[],_,_,_,h,_=>by cases h
 |_::_,_::_,[],_,_,h,_=>by cases h
 |t::ts,v::vs,d::ds,ps,hc,h,hlt=>by
  obtain⟨p,q,h1,h2,rfl⟩:=h
  simp only[List.all_cons,Bool.and_eq_true,decide_eq_true_eq]at hc
  exact⟨p,q,Below.trod hl hc.1.1 hc.1.2 h1 hb (fun x hx=>hlt x (List.mem_append_left _ hx)),trodAll_below hl hb ts vs ds q hc.2 h2 (fun x hx=>hlt x (List.mem_append_right _ hx)),rfl⟩
theorem law_post {f:Func} {s:ChangeSpec} {W W':World} {args:Array Value} {ds:List (DataW H)} {p:List MemPlace} {b:TypeId} (hl:laidOutB P=true) (hc:(f.params.toList.all fun t=>P.readableRec t&&decide (t<P.types.size))=true)
  (hv:s.vars=[]) (hW:DataW.Whole enc P f.params.toList s.vars false W args.toList ds [] (p++[])) (hA:DataW.TrodAll enc P W 0 (fun _=>true) true f.params.toList args.toList ds p)
  (hs:s.fn H (ds++[])= {results:=[.lit (.bool true)],args:=ds}) (hr:f.resultTypes=#[b]) (hbt:P.underlying b=some .bool) (hb:Below W.heap.size W W'):
  s.post enc P f false true false false W args (.bool true) W':=by
 have hlt: ∀x∈p,x.block<W.heap.size:=fun x hx=>hW.lt x (List.mem_append_left _ hx)
 refine⟨ds,[],p++[],[],p,[],hW,?_,?_,?_,hb.frame _,fun h=>by cases h⟩
 ·rw[hs,hr]
  exact trodAll_mk1 (shut_bool hbt true)
 ·rw[hs]
  exact trodAll_below hl hb _ _ _ _ hc hA hlt
 ·rw[hs,hv];rfl
end
theorem law_end {P:Program} {f:FuncId} {args:List Value} {W:World} {Q:Value→World→Prop} (h:Cs P f args W fun r W'=>r=.bool true∧Only [] W W') (hq: ∀W',Below W.heap.size W W'→Q (.bool true) W'):
  Cs P f args W Q:=h.mono fun r W' ⟨e,ho⟩=>by rw[e];exact hq W' (ho.below (by simp))
end Go.Proofs.YtgcofabdialaaaaGreat
end
section
namespace Go.Proofs.YtgcofabdialaaaaGreat
open Go.ChangeShapes Go.WideShapes Go.ChangeAt Go.RowKit Go.Deep
theorem Tryz.own:ownKnob Tryz.prog.godebug=none:=by kernel_rfl
theorem Tryz.laidOut:laidOutB Tryz.prog=true:=by kernel_rfl
end Go.Proofs.YtgcofabdialaaaaGreat
end
section
namespace Go.Proofs.YtgcofabdialaaaaGreat
open Go.ChangeShapes Go.WideShapes Go.ChangeAt Go.RowKit Go.Deep
set_option maxRecDepth 100000
theorem cellsAt_of12 {w:World} {base:Nat} {a:Addr} {n:Nat} {cs:List Value} (h:w.cells? base a n=some cs):cs.length=n∧ ∀i,i<n→w.cell? (a.add i)=cs[i]? :=by
 obtain⟨_,hl,hc⟩:=World.cells?_some h
 exact⟨hl,fun i hi=>by rw[hc i hi]⟩
theorem choose_lt12 {α:Type} [Inhabited α] {n:Nat} {p:Nat→α→Prop} (h: ∀i,i<n→ ∃x,p i x): ∃F:Nat→α,∀i,i<n→p i (F i):=by
 refine⟨fun i=>if hi:i<n then Classical.choose (h i hi)else default,fun i hi=>?_⟩
 simp only[hi,dif_pos]
 exact Classical.choose_spec (h i hi)
theorem open_u8 {H:Type} {enc:TypeId×Value→H} {w:World} {base:Nat} {spare:Nat→Bool} {held:Bool} {n:Nat} {cs:List Value} {x:DataW H×List MemPlace} (h:DataW.trod enc Tryz.prog w base spare held n 5 cs=some x): ∃k:Nat,cs=[u8V k]∧k<256:=by
 obtain⟨k,e,_,hw⟩:=DataW.trod_int Tryz.underlying5 h
 have hb:=bounds_u8 hw
 exact⟨k.toNat,by rw[e];unfold u8V;rw[Int.toNat_of_nonneg hb.1],by omega⟩
theorem Tryz.cells12u8:Tryz.prog.cellsOf 5=1:=by kernel_rfl
theorem open_u8a {H:Type} {enc:TypeId×Value→H} {w:World} {base:Nat} {spare:Nat→Bool} {held:Bool} {m n:Nat} {ty:TypeId} {cs:List Value} {x:DataW H×List MemPlace} (ha:Tryz.prog.underlying ty=some (.array n 5)) (h:DataW.trod enc Tryz.prog w base spare held m ty cs=some x):
  ∃f:Nat→Nat,∀j,j<n→cs[j]? =some (u8V (f j))∧f j<256:=by
 obtain⟨xs,m',_,_,_,hxl,hx⟩:=DataW.trod_array ha h
 refine choose_lt12 (p:=fun j k=>cs[j]? =some (u8V k)∧k<256) fun j hj=>?_
 have h1:=hx j hj
 rw[Tryz.cells12u8,List.getElem?_eq_getElem (by omega),Nat.mul_one]at h1
 obtain⟨k,e,hk⟩:=open_u8 h1
 refine⟨k,?_,hk⟩
 have:((cs.drop j).take 1)[0]? =some (u8V k):=by rw[e];rfl
 rw[List.getElem?_take,if_pos (by omega),List.getElem?_drop]at this
 simpa using this
theorem open_u8s {H:Type} {enc:TypeId×Value→H} {W:World} {m n:Nat} {st ty:TypeId} {cs:List Value} {x:DataW H×List MemPlace} (hs:Tryz.prog.underlying st=some (.slice ty)) (ha:Tryz.prog.underlying ty=some (.array n 5)) (hn:Tryz.prog.cellsOf ty=n) (hn0:0<n) (h:DataW.trod enc Tryz.prog W 0 (fun _=>true) true m st cs=some x):
  ∃(v:Value) (len:Nat) (f:Nat→Nat→Nat),cs=[v]∧U8At W.heap.size W v len n f:=by
 rcases open_slice hs h with⟨e,_⟩|⟨a,len,cap,m',n',D,Pl,e,_,hle,hcap,hm,_,hel⟩
 ·exact⟨_,0,fun _ _=>0,e,none,0,rfl,fun _ _=>by dsimp only;omega,fun i hi=>by omega⟩
 ·rw[if_pos rfl]at hm
  obtain⟨F,hF⟩:=choose_lt12 (α:=Nat→Nat) (n:=len) (p:=fun i f=> ∀j,j<n→W.cell? ((a.add (i*n)).add j)=some (u8V (f j))∧f j<256) fun i hi=>by
   obtain⟨cs',h1,h2⟩:=hel i (by omega)
   rw[hn]at h1
   obtain⟨hl1,hc1⟩:=cellsAt_of12 h1
   obtain⟨f,hf⟩:=open_u8a ha h2
   exact⟨f,fun j hj=>by rw[hc1 j hj];exact hf j hj⟩
  refine⟨_,len,fun i j=>if i<len∧j<n then F i j else 0,e,some a,cap,rfl,fun i j=>?_,fun i hi=>⟨a,rfl,?_,fun j hj=>?_⟩⟩
  ·dsimp only
   split
   ·rename_i hc;exact(hF i hc.1 j hc.2).2
   ·omega
  ·have:=cell_lt (hF i hi 0 hn0).1
   rwa[add_block,add_block]at this
  ·dsimp only;rw[if_pos ⟨hi,hj⟩];exact(hF i hi j hj).1
theorem open_u8l {H:Type} {enc:TypeId×Value→H} {W:World} {m:Nat} {st:TypeId} {cs:List Value} {x:DataW H×List MemPlace} (hs:Tryz.prog.underlying st=some (.slice 5)) (h:DataW.trod enc Tryz.prog W 0 (fun _=>true) true m st cs=some x):
  ∃(v:Value) (len:Nat) (f:Nat→Nat→Nat),cs=[v]∧U8At W.heap.size W v len 1 f:=by
 rcases open_slice1 hs Tryz.cells12u8 h with⟨e,_⟩|⟨a,len,cap,m',n',V,D,Pl,e,_,hle,hcap,hm,_,hel⟩
 ·exact⟨_,0,fun _ _=>0,e,none,0,rfl,fun _ _=>by dsimp only;omega,fun i hi=>by omega⟩
 ·rw[if_pos rfl]at hm
  obtain⟨F,hF⟩:=choose_lt12 (α:=Nat) (n:=len) (p:=fun i k=>W.cell? (a.add i)=some (u8V k)∧k<256) fun i hi=>by
   obtain⟨h1,h2⟩:=hel i (by omega)
   obtain⟨k,e2,hk⟩:=open_u8 h2
   simp only[List.cons.injEq,and_true]at e2
   exact⟨k,by rw[h1,e2],hk⟩
  refine⟨_,len,fun i _=>if i<len then F i else 0,e,some a,cap,rfl,fun i j=>?_,fun i hi=>⟨a,rfl,?_,fun j hj=>?_⟩⟩
  ·dsimp only
   split
   ·rename_i hc;exact(hF i hc).2
   ·omega
  ·have:=cell_lt (hF i hi).1
   rwa[add_block]at this
  ·obtain rfl:j=0:=by omega
   dsimp only;rw[if_pos hi,Nat.mul_one];exact(hF i hi).1
theorem Tryz.cells12b:Tryz.prog.cellsOf 27=7:=by kernel_rfl
theorem Tryz.cells12o:Tryz.prog.cellsOf 22=1:=by kernel_rfl
theorem Tryz.cells12d:Tryz.prog.cellsOf 23=1:=by kernel_rfl
theorem Tryz.cells12l:Tryz.prog.cellsOf 24=1:=by kernel_rfl
theorem Tryz.cells12p:Tryz.prog.cellsOf 25=1:=by kernel_rfl
theorem open_begin {H:Type} {enc:TypeId×Value→H} {W:World} {v:Value} {d:DataW H} {ps:List MemPlace} {r:Reach} {b0:Nat} (hval:Value.okWide Tryz.prog W r b0 27 v) (h:DataW.Trod enc Tryz.prog W 0 (fun _=>true) true 27 v d ps):
  ∃(cs:List Value) (g:BG) (vO vD vL vP vN:Value),v=.agg ⟨cs⟩∧BegAt W.heap.size W cs g vO vD vL vP vN:=by
 obtain⟨⟨cs⟩,rfl,_⟩:=okWide_struct Tryz.underlying27 hval
 obtain⟨fuel,h⟩:=h
 obtain⟨xs,n,_,_,hl,hlen,hf⟩:=DataW.trod_struct Tryz.underlying27 h
 rw[Tryz.cells12b]at hl
 match xs,hlen with
 | [y0,y1,y2,y3,y4,y5,y6],_=>
 have g0:=by simpa using hf 0 _ rfl
 have g1:=by simpa using hf 1 _ rfl
 have g2:=by simpa using hf 2 _ rfl
 have g3:=by simpa using hf 3 _ rfl
 have g4:=by simpa using hf 4 _ rfl
 have g5:=by simpa using hf 5 _ rfl
 have g6:=by simpa using hf 6 _ rfl
 match cs,hl with
 | [c0,c1,c2,c3,c4,c5,c6],_=>
  obtain⟨k0,e0,l0⟩:=open_u8 g0
  obtain⟨k1,e1,l1⟩:=open_u8 g1
  obtain⟨vO,nO,fO,e2,hO⟩:=open_u8s Tryz.underlying22 Tryz.underlying141 (by kernel_rfl) (by omega) g2
  obtain⟨vD,nD,fD,e3,hD⟩:=open_u8l Tryz.underlying23 g3
  obtain⟨vL,nL,fL,e4,hL⟩:=open_u8s Tryz.underlying24 Tryz.underlying142 (by kernel_rfl) (by omega) g4
  obtain⟨vP,nP,fP,e5,hP⟩:=open_u8s Tryz.underlying25 Tryz.underlying144 (by kernel_rfl) (by omega) g5
  obtain⟨vN,nN,fN,e6,hN⟩:=open_u8l Tryz.underlying23 g6
  simp only[Tryz.cells12u8,Tryz.cells12o,Tryz.cells12d,Tryz.cells12l,Tryz.cells12p,Value.cells,List.tail_cons,List.drop_zero,List.take_succ_cons,List.take_zero,List.drop_succ_cons,List.cons.injEq,and_true]at e0 e1 e2 e3 e4 e5 e6
  exact⟨_,⟨k0,k1,nO,nD,nL,nP,nN,fO,fD,fL,fP,fN⟩,vO,vD,vL,vP,vN,rfl,by rw[e0,e1,e2,e3,e4,e5,e6],l0,l1,hO,hD,hL,hP,hN⟩
theorem Tryz.cells12s:Tryz.prog.cellsOf 51=4:=by kernel_rfl
theorem Tryz.cells12t:Tryz.prog.cellsOf 4=1:=by kernel_rfl
theorem open_stored {H:Type} {enc:TypeId×Value→H} {W:World} {v:Value} {d:DataW H} {ps:List MemPlace} {r:Reach} {b0:Nat} (hval:Value.okWide Tryz.prog W r b0 28 v) (h:DataW.Trod enc Tryz.prog W 0 (fun _=>true) true 28 v d ps):
  ∃l:List It,StAt W.heap.size W v l:=by
 obtain⟨a0,len0,cap0,rfl⟩:=okWide_slice Tryz.underlying28 hval
 obtain⟨fuel,h⟩:=h
 rcases open_slice Tryz.underlying28 h with⟨e,_⟩|⟨a,len,cap,m,n,D,Pl,e,_,hle,hcap,hm,_,hel⟩
 ·simp only[Value.cells,List.cons.injEq,and_true]at e
  exact⟨[],none,0,e,fun i hi=>by simp at hi⟩
 ·simp only[Value.cells,List.cons.injEq,and_true]at e
  rw[if_pos rfl]at hm
  obtain⟨F,hF⟩:=choose_lt12 (α:=It) (n:=len) (p:=fun i (x:It)=>x.1<256∧x.2.1<256∧x.2.2.1<256∧W.cell? (a.add (i*4))=some (u8V x.1)∧W.cell? ((a.add (i*4)).add 1)=some (u8V x.2.1)∧W.cell? ((a.add (i*4)).add 2)=some (u8V x.2.2.1)∧W.cell? ((a.add (i*4)).add 3)=some (.bool x.2.2.2)) fun i hi=>by
   obtain⟨cs',h1,h2⟩:=hel i (by omega)
   rw[Tryz.cells12s]at h1
   obtain⟨hl1,hc1⟩:=cellsAt_of12 h1
   obtain⟨xs,n',_,_,hl,hlen,hf⟩:=DataW.trod_struct Tryz.underlying51 h2
   match xs,hlen with
   | [y0,y1,y2,y3],_=>
   have g0:=by simpa using hf 0 _ rfl
   have g1:=by simpa using hf 1 _ rfl
   have g2:=by simpa using hf 2 _ rfl
   have g3:=by simpa using hf 3 _ rfl
   match cs',hl1 with
   | [c0,c1,c2,c3],_=>
    obtain⟨k0,e0,l0⟩:=open_u8 g0
    obtain⟨k1,e1,l1⟩:=open_u8 g1
    obtain⟨k2,e2,l2⟩:=open_u8 g2
    obtain⟨k3,e3,_⟩:=DataW.trod_bool Tryz.underlying4 g3
    simp only[Tryz.cells12u8,Tryz.cells12t,List.tail_cons,List.drop_zero,List.take_succ_cons,List.take_zero,List.drop_succ_cons,List.cons.injEq,and_true]at e0 e1 e2 e3
    refine⟨(k0,k1,k2,k3),l0,l1,l2,?_,?_,?_,?_⟩
    ·have:=hc1 0 (by omega);simpa[e0,Addr.add]using this
    ·have:=hc1 1 (by omega);rw[this,e1];rfl
    ·have:=hc1 2 (by omega);rw[this,e2];rfl
    ·have:=hc1 3 (by omega);rw[this,e3];rfl
  refine⟨(List.range len).map F,some a,cap,by rw[e];simp,fun i hi=>?_⟩
  have hi:i<len:=by simpa using hi
  have hg:((List.range len).map F).getD i default=F i:=by simp[hi]
  rw[hg]
  refine⟨a,rfl,?_,hF i hi⟩
  have:=cell_lt (hF i hi).2.2.2.1
  rwa[add_block]at this
theorem open_u8v {H:Type} {enc:TypeId×Value→H} {W:World} {v:Value} {d:DataW H} {ps:List MemPlace} {r:Reach} {b0:Nat} (hval:Value.okWide Tryz.prog W r b0 5 v) (h:DataW.Trod enc Tryz.prog W 0 (fun _=>true) true 5 v d ps): ∃k:Nat,v=.int .u8 (k:Int)∧k<256:=by
 obtain⟨n,rfl,_,_,hw⟩:=open_int Tryz.underlying5 hval h
 have hb:=bounds_u8 hw
 exact⟨n.toNat,by rw[Int.toNat_of_nonneg hb.1],by omega⟩
end Go.Proofs.YtgcofabdialaaaaGreat
end
section
namespace Go.Proofs.YtgcofabdialaaaaGreat
open Go.ChangeShapes Go.WideShapes Go.ChangeAt Go.RowKit
set_option maxRecDepth 100000 in
theorem barrierSnapshot_lifted (os:Os) (started:os.Started) (H:Type) (enc:TypeId×Value→H):
  ReturnsInHanded {} Tryz.checked os 6 .any (Rows.barrierSnapshotSpec.pre6 enc Tryz.prog Tryz.f6 Rows.barrierSnapshotRow.domain false) (Rows.barrierSnapshotSpec.post enc Tryz.prog Tryz.f6 false true false false):=by
 refine returnsInHanded_of_change (C:=Tryz.checked) Tryz.own started (by kernel_rfl) Tryz.func6
  (ChangeSpec.witness6 (enc:=enc) (C:=Tryz.checked) false ⟨#[],#[.agg #[.int .u8 0,.int .u8 0,.slice none 0 0,.slice none 0 0,.slice none 0 0,.slice none 0 0,.slice none 0 0],.int .u8 0,.int .u8 0,.slice none 0 0],[]⟩ 8 (by kernel_rfl) (by kernel_rfl) (by kernel_rfl) (by kernel_rfl)) ?_
 intro W base args ds gs before hval0 hW hcnd _
 have hval: ∀(j:Nat) t v,Tryz.f6.params[j]? =some t→args[j]? =some v→Value.okWide Tryz.prog W .any base t v:=hval0
 have hW':=hW
 obtain⟨p,q,hA0,hV,rfl,hfz,hnd⟩:=hW
 have hA:DataW.TrodAll enc Tryz.prog W 0 (fun _=>true) true Tryz.f6.params.toList args.toList ds p:=hA0
 have hA1:=hA
 obtain⟨rfl,rfl⟩:=trodVars_none hV
 rw[Tryz.params6]at hA hval
 obtain⟨v0,vs0,d0,ds0,p0,q0,hargs,rfl,rfl,h0,r0⟩:=trodAll_cons hA
 obtain⟨v1,vs1,d1,ds1,p1,q1,rfl,rfl,rfl,h1,r1⟩:=trodAll_cons r0
 obtain⟨v2,vs2,d2,ds2,p2,q2,rfl,rfl,rfl,h2,r2⟩:=trodAll_cons r1
 obtain⟨v3,vs3,d3,ds3,p3,q3,rfl,rfl,rfl,h3,r3⟩:=trodAll_cons r2
 obtain⟨rfl,rfl,rfl⟩:=trodAll_nil r3
 obtain⟨args⟩:=args
 simp only at hargs
 subst hargs
 obtain⟨cs0,g0,wO0,wD0,wL0,wP0,wN0,rfl,hl0⟩:=open_begin (hval 0 27 v0 rfl rfl) h0
 obtain⟨x1,rfl,hx1⟩:=open_u8v (hval 1 5 v1 rfl rfl) h1
 obtain⟨x2,rfl,hx2⟩:=open_u8v (hval 2 5 v2 rfl rfl) h2
 obtain⟨l3,hl3⟩:=open_stored (hval 3 28 v3 rfl rfl) h3
 exact law_end (law_Snapshot hl0 hl3 x1 hx1 x2 hx2) fun W' hb=>law_post (b:=4) Tryz.laidOut (by kernel_rfl) rfl hW' hA1 rfl (by kernel_rfl) Tryz.underlying4 hb
theorem YtgcofabdialaaaaGreatBarrierSnapshot:Rows.BarrierSnapshotSaid:=
 OpenClaim.holds_of_wide 6 Tryz.f6 rfl rfl rfl rfl rfl rfl rfl ⟨rfl,rfl,rfl,rfl,rfl⟩ rfl rfl rfl rfl rfl (by kernel_rfl) Tryz.func6 (by kernel_rfl)
  (of_decide_eq_true (by kernel_rfl)) (by unfold Func.isWrapper;first|(rw[if_pos (by decide+kernel)];kernel_rfl)|(rw[if_neg (by decide+kernel)];exact⟨rfl,rfl⟩))
  (fun os started H enc _=>barrierSnapshot_lifted os started H enc)
end Go.Proofs.YtgcofabdialaaaaGreat
end
