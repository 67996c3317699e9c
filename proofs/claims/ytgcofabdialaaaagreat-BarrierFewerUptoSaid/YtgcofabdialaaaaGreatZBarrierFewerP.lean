/- The law BarrierFewer: whatever comes in, it returns true, and what came in reads as it did. -/
import Derived.Test.YtgcofabdialaaaaGreatZPk3
import Derived.ChangeSlices
import Derived.ProofKit
import Derived.Deep.Slices
import Derived.Lib.SmallJoins
import Derived.Test.YtgcofabdialaaaaGreatRows
import Derived.OpenShut
import Derived.Deep.Strs
import Derived.JoinedCond
set_option linter.unusedSimpArgs false
set_option linter.unusedVariables false
section
namespace Go.Proofs.YtgcofabdialaaaaGreat
set_option maxRecDepth 8000
theorem tmodN (n m:Nat):((n:Int).tmod (m:Int))=((n%m:Nat):Int):=by rw[Int.tmod_eq_emod_of_nonneg (by omega)];omega
def u8V (a:Nat):Value:=.int .u8 (a:Int)
theorem conv_u8 (a:Nat) (h:a<256):IntKind.i64.wrap (a:Int)=(a:Int):=IntWalk.i64_in _ (by omega)
theorem dv5 (v:Value):divO 5 v=some v:=Eq.trans rfl rfl
theorem dv6 (v:Value):divO 6 v=some v:=Eq.trans rfl rfl
theorem dv3 (v:Value):divO 3 v=some v:=Eq.trans rfl rfl
theorem dv100 (v:Value):divO 100 v=some v:=Eq.trans rfl rfl
theorem dv23 (v:Value):divO 23 v=some v:=Eq.trans rfl rfl
theorem dv4 (v:Value):divO 4 v=some v:=Eq.trans rfl rfl
theorem dv40 (v:Value):divO 40 v=some v:=Eq.trans rfl rfl
attribute [go_sem] dv5 dv6 dv3 dv100 dv23 dv4 dv40
def shapeB (x0 x1 x2:Nat):Sh:=
 if x0%8=4 then(((1+x1%5%3:Nat):Int),((x2%6:Nat):Int),1)else if x0%8=5 then(((2+x1%5%3:Nat):Int),((x2%6:Nat):Int),2)else if x0%8=6 then(((x1%5:Nat):Int),((x2%6:Nat):Int),3)
 else if x0%8=7 then(((x1%5:Nat):Int),((32+x2%100:Nat):Int),0)else(((x1%5:Nat):Int),((x2%6:Nat):Int),0)
theorem shapeB_valid (x0 x1 x2:Nat):validS (shapeB x0 x1 x2)=true:=by
 unfold shapeB
 split
 ·simp[validS];omega
 split
 ·simp[validS];omega
 split
 ·simp[validS];omega
 split
 ·simp[validS];omega
 ·simp[validS];omega
theorem cShape (w:World) (x0 x1 x2 x3:Nat) (h0:x0<256) (h1:x1<256) (h2:x2<256):Cs Tryz.prog 91 [.agg ⟨[u8V x0,u8V x1,u8V x2,u8V x3]⟩] w fun v w'=>v=.agg ⟨shV (shapeB x0 x1 x2)⟩∧Only [] w w':=by
 have m5:((x1:Int).tmod 5)=((x1%5:Nat):Int):=tmodN x1 5
 have m6:((x2:Int).tmod 6)=((x2%6:Nat):Int):=tmodN x2 6
 have m100:((x2:Int).tmod 100)=((x2%100:Nat):Int):=tmodN x2 100
 have m8:((x0:Int).tmod 8)=((x0%8:Nat):Int):=tmodN x0 8
 have m3:(((x1%5:Nat):Int).tmod 3)=((x1%5%3:Nat):Int):=tmodN (x1%5) 3
 have i0:(0:Int)≤0∧(0:Int)<((4:Nat):Int):=by decide
 have i1:(0:Int)≤1∧(1:Int)<((4:Nat):Int):=by decide
 have i2:(0:Int)≤2∧(2:Int)<((4:Nat):Int):=by decide
 have n0:Int.toNat 0=0:=rfl
 have n1:Int.toNat 1=1:=rfl
 have n2:Int.toNat 2=2:=rfl
 refine enter_law12_Shape rfl ?_
 unfold x_law12_Shape
 (repeat(first|with_reducible(first|refine nx ?_|refine r_6 rfl ?_)|simp only[go_sem]))
 refine boxT fun q w1 hq hs1 hat1 ho1=>?_
 (repeat(first|with_reducible(first|refine nx ?_|refine r_6 rfl ?_)|simp only[go_sem]))
 refine boxT fun p w2 hp hs2 hat2 ho2=>?_
 have hq2:At w2 q [u8V x0,u8V x1,u8V x2,u8V x3]:=hat1.keep0 ho2
 (repeat(first|with_reducible(first|refine nx ?_|refine r_6 rfl ?_)|simp only[go_sem,show((4:Nat):Int)=4 from rfl,n1,n2,Nat.mul_one,hq2.cell,u8V,conv_u8 x1 h1,conv_u8 x2 h2,m5,m6]))
 rw[fillL_one rfl rfl,fillL_one rfl rfl]
 (repeat(first|with_reducible(first|refine nx ?_|refine r_6 rfl ?_)|simp only[go_sem]))
 refine boxT fun t w3 ht hs3 hat3 ho3=>?_
 (repeat(first|with_reducible(first|refine nx ?_|refine r_6 rfl ?_)|simp only[go_sem]))
 refine stNT hat3 rfl (by simp) (by simp[oneC]) fun w4 hs4 hat4 ho4=>?_
 have hat4':At w4 t [.int .i64 ((x1%5:Nat):Int),.int .i64 ((x2%6:Nat):Int),.int .i64 0]:=hat4
 have o34:Only [] w2 w4:=ho3.trans ho4 fun y hy=>by simp only[List.mem_singleton]at hy;subst hy;exact .inr (by omega)
 have hq4:At w4 q [u8V x0,u8V x1,u8V x2,u8V x3]:=hq2.keep0 o34
 have hp4:=hat2.keep0 o34
 have o4:Only [] w w4:=(ho1.nil ho2).nil o34
 have end_: ∀(w5:World) (sh:Sh),At w5 t (shV sh)→Only [t] w4 w5→sh=shapeB x0 x1 x2→ ∀(kx:List XI) (ρ:Env),True:=fun _ _ _ _ _ _ _=>trivial
 clear end_
 simp only[go_sem]
 refine run_seq ?_
 refine run_cut (13::14::15::16::17::18::19::20::21::22::23::24::25::26::27::28::29::30::31::32::33::34::35::36::37::38::39::40::41::42::[]) (fun _ w5=>At w5 t (shV (shapeB x0 x1 x2))∧Only [t] w4 w5) (fun kk hkk=>?_) (fun g w5 hJ=>?_)
 ·(repeat(first|with_reducible(first|refine nx ?_|refine r_6 rfl ?_)|simp only[go_sem,show((4:Nat):Int)=4 from rfl,n0,Nat.mul_one,Nat.zero_mul,hq4.cell,u8V,m8]))
  by_cases c4:x0%8=4
  ·have e1:IntKind.i64.wrap (1+((x1%5%3:Nat):Int))=((1+x1%5%3:Nat):Int):=by rw[IntWalk.i64_in _ (by omega)];omega
   (repeat(first|with_reducible(first|refine nx ?_|refine r_6 rfl ?_)|simp only[go_sem,beq_int_true (show((x0%8:Nat):Int)=4 by omega),hat4'.cell,m3,e1]))
   refine stT hat4' (by simp) rfl fun w5 hs5 hat5 ho5=>?_
   (repeat(first|with_reducible(first|refine nx ?_|refine r_6 rfl ?_)|simp only[go_sem]))
   refine stT hat5 (by simp) rfl fun w6 hs6 hat6 ho6=>?_
   (repeat(first|with_reducible(first|refine nx ?_|refine r_6 rfl ?_)|simp only[go_sem]))
   refine hkk _ w6 ?_ ⟨?_,ho5.same ho6⟩
   ·(repeat(first|with_reducible exact k_1|with_reducible exact Keeps.ovr _ _ _|refine Keeps.put ?_ rfl _|exact k_1|exact Keeps.ovr _ _ _|refine Keeps.ovr2 ?_ rfl _))
   ·have:shapeB x0 x1 x2=(((1+x1%5%3:Nat):Int),((x2%6:Nat):Int),1):=by unfold shapeB;rw[if_pos c4]
    rw[this];exact hat6
  by_cases c5:x0%8=5
  ·have e1:IntKind.i64.wrap (2+((x1%5%3:Nat):Int))=((2+x1%5%3:Nat):Int):=by rw[IntWalk.i64_in _ (by omega)];omega
   (repeat(first|with_reducible(first|refine nx ?_|refine r_6 rfl ?_)|simp only[go_sem,beq_int_false (show¬((x0%8:Nat):Int)=4 by omega),beq_int_true (show((x0%8:Nat):Int)=5 by omega),hat4'.cell,m3,e1]))
   refine stT hat4' (by simp) rfl fun w5 hs5 hat5 ho5=>?_
   (repeat(first|with_reducible(first|refine nx ?_|refine r_6 rfl ?_)|simp only[go_sem]))
   refine stT hat5 (by simp) rfl fun w6 hs6 hat6 ho6=>?_
   (repeat(first|with_reducible(first|refine nx ?_|refine r_6 rfl ?_)|simp only[go_sem]))
   refine hkk _ w6 ?_ ⟨?_,ho5.same ho6⟩
   ·(repeat(first|with_reducible exact k_1|with_reducible exact Keeps.ovr _ _ _|refine Keeps.put ?_ rfl _|exact k_1|exact Keeps.ovr _ _ _|refine Keeps.ovr2 ?_ rfl _))
   ·have:shapeB x0 x1 x2=(((2+x1%5%3:Nat):Int),((x2%6:Nat):Int),2):=by unfold shapeB;rw[if_neg c4,if_pos c5]
    rw[this];exact hat6
  by_cases c6:x0%8=6
  ·(repeat(first|with_reducible(first|refine nx ?_|refine r_6 rfl ?_)|simp only[go_sem,beq_int_false (show¬((x0%8:Nat):Int)=4 by omega),beq_int_false (show¬((x0%8:Nat):Int)=5 by omega),beq_int_true (show((x0%8:Nat):Int)=6 by omega)]))
   refine stT hat4' (by simp) rfl fun w5 hs5 hat5 ho5=>?_
   (repeat(first|with_reducible(first|refine nx ?_|refine r_6 rfl ?_)|simp only[go_sem]))
   refine hkk _ w5 ?_ ⟨?_,ho5⟩
   ·(repeat(first|with_reducible exact k_1|with_reducible exact Keeps.ovr _ _ _|refine Keeps.put ?_ rfl _|exact k_1|exact Keeps.ovr _ _ _|refine Keeps.ovr2 ?_ rfl _))
   ·have:shapeB x0 x1 x2=(((x1%5:Nat):Int),((x2%6:Nat):Int),3):=by unfold shapeB;rw[if_neg c4,if_neg c5,if_pos c6]
    rw[this];exact hat5
  by_cases c7:x0%8=7
  ·have e1:IntKind.i64.wrap (32+((x2%100:Nat):Int))=((32+x2%100:Nat):Int):=by rw[IntWalk.i64_in _ (by omega)];omega
   (repeat(first|with_reducible(first|refine nx ?_|refine r_6 rfl ?_)|simp only[go_sem,beq_int_false (show¬((x0%8:Nat):Int)=4 by omega),beq_int_false (show¬((x0%8:Nat):Int)=5 by omega),beq_int_false (show¬((x0%8:Nat):Int)=6 by omega),beq_int_true (show((x0%8:Nat):Int)=7 by omega),show((4:Nat):Int)=4 from rfl,n2,Nat.mul_one,hq4.cell,u8V,conv_u8 x2 h2,m100,e1]))
   refine stT hat4' (by simp) rfl fun w5 hs5 hat5 ho5=>?_
   (repeat(first|with_reducible(first|refine nx ?_|refine r_6 rfl ?_)|simp only[go_sem]))
   refine hkk _ w5 ?_ ⟨?_,ho5⟩
   ·(repeat(first|with_reducible exact k_1|with_reducible exact Keeps.ovr _ _ _|refine Keeps.put ?_ rfl _|exact k_1|exact Keeps.ovr _ _ _|refine Keeps.ovr2 ?_ rfl _))
   ·have:shapeB x0 x1 x2=(((x1%5:Nat):Int),((32+x2%100:Nat):Int),0):=by unfold shapeB;rw[if_neg c4,if_neg c5,if_neg c6,if_pos c7]
    rw[this];exact hat5
  (repeat(first|with_reducible(first|refine nx ?_|refine r_6 rfl ?_)|simp only[go_sem,beq_int_false (show¬((x0%8:Nat):Int)=4 by omega),beq_int_false (show¬((x0%8:Nat):Int)=5 by omega),beq_int_false (show¬((x0%8:Nat):Int)=6 by omega),beq_int_false (show¬((x0%8:Nat):Int)=7 by omega)]))
  refine hkk _ w4 ?_ ⟨?_,Only.refl _ _⟩
  ·(repeat(first|with_reducible exact k_1|with_reducible exact Keeps.ovr _ _ _|refine Keeps.put ?_ rfl _|exact k_1|exact Keeps.ovr _ _ _|refine Keeps.ovr2 ?_ rfl _))
  ·have:shapeB x0 x1 x2=(((x1%5:Nat):Int),((x2%6:Nat):Int),0):=by unfold shapeB;rw[if_neg c4,if_neg c5,if_neg c6,if_neg c7]
   rw[this];exact hat4'
 obtain⟨hat5,ho5⟩:=hJ
 have hc5:cellsAt w5 ⟨t,0,none⟩ 3=some (shV (shapeB x0 x1 x2)):=cellsAt_at hat5 0 3 (by simp[shV])
 have hpt:p≠t:=by omega
 have hp5:=hp4.keep ho5 (off1 hpt)
 (repeat(first|with_reducible(first|refine nx ?_|refine r_6 rfl ?_)|simp only[go_sem,hc5]))
 refine stNT (cs:=shV (shapeB x0 x1 x2)) hp5 rfl (by simp) (shV_one _) fun w6 hs6 hat6 ho6=>?_
 rw[setL_sh]at hat6
 have hc6:cellsAt w6 ⟨p,0,none⟩ 3=some (shV (shapeB x0 x1 x2)):=cellsAt_at hat6 0 3 (by simp[shV])
 (repeat(first|with_reducible(first|refine nx ?_|refine r_6 rfl ?_)|simp only[go_sem,hc6]))
 exact(o4.trans ho5 fun y hy=>by simp only[List.mem_singleton]at hy;subst hy;exact .inr (by omega)).trans ho6 fun y hy=>by simp only[List.mem_singleton]at hy;subst hy;exact .inr (by omega)
theorem abs_state {s:HL} (k:Int):s.abs.stateR k=stateO (some s) k:=rfl
theorem Only.weak {S T:List Nat} {a b:World} (h:Only S a b) (hs: ∀x,x∈S→x∈T):Only T a b:=h.mono fun x hx=>.inl (hs x hx)
def RfP (P:Int→Prop) (q:RL):Prop:= ∀o,o∈q.O→ ∀r,r∈o.rf→P r
abbrev RfOk (q:RL):Prop:=RfP (fun r=>0≤r∧r≤4096) q
theorem RfP.mono {P Q:Int→Prop} {q:RL} (h:RfP P q) (hp: ∀x,P x→Q x):RfP Q q:=fun o ho r hr=>hp r (h o ho r hr)
theorem RfP.claimM {P:Int→Prop} {q:RL} (h:RfP P q) (k sp:Int):RfP P (q.claimM k sp):=by
 unfold RL.claimM;split
 ·exact h
 ·exact h
theorem RfP.claimLM {P:Int→Prop} {q:RL} (h:RfP P q) (k n sp:Int):RfP P (q.claimLM k n sp):=by
 unfold RL.claimLM;split
 ·exact h
 ·exact h
theorem RfP.placeM {P:Int→Prop} {q:RL} (h:RfP P q) (h0:P 0) (a:Int) (sh:Sh):RfP P (q.placeM a sh):=by
 unfold RL.placeM
 split
 ·intro o ho
  simp only[RL.putM,List.mem_append,List.mem_singleton]at ho
  rcases ho with(ho|rfl)|ho
  ·exact h o (List.mem_of_mem_take ho)
  ·intro r hr
   simp only[RL.newOb,List.mem_replicate]at hr
   rw[hr.2];exact h0
  ·exact h o (List.mem_of_mem_drop ho)
 ·exact h
theorem mem_upd {q:RL} {x:Int} {f:Ob→Ob} {o:Ob} (h:o∈(q.upd x f).O):o∈q.O∨ ∃p,p∈q.O∧o=f p:=by
 unfold RL.upd at h
 split at h
 ·exact .inl h
 ·rename_i k hk
  have hl:=(ixO_spec hk).1
  rcases List.mem_or_eq_of_mem_set h with h|h
  ·exact .inl h
  ·exact .inr ⟨_,by simp[hl],h⟩
theorem RfP.pinM {P:Int→Prop} {q:RL} (h:RfP P q) (x:Int) (p:Bool):RfP P (q.pinM x p):=by
 intro o ho
 rcases mem_upd ho with ho|⟨p',hp,rfl⟩
 ·exact h o ho
 ·exact h p' hp
theorem RfP.killM {P:Int→Prop} {q:RL} (h:RfP P q) (x:Int):RfP P (q.killM x):=by
 unfold RL.killM;split
 ·exact h
 ·exact fun o ho=>h o (List.mem_of_mem_eraseIdx ho)
theorem RfP.setRefM {P:Int→Prop} {q:RL} (h:RfP P q) (x i to:Int) (ht:P to):RfP P (q.setRefM x i to):=by
 unfold RL.setRefM;split
 ·intro o ho
  rcases mem_upd ho with ho|⟨p',hp,rfl⟩
  ·exact h o ho
  ·intro r hr
   rcases List.mem_or_eq_of_mem_set hr with hr|hr
   ·exact h p' hp r hr
   ·rw[hr];exact ht
 ·exact h
def Step (s s':HL):Prop:=s'.Inv∧s'.born≤s.born+1∧s'.objs.length≤s.objs.length+1∧s'.B.length=s.B.length∧ ∀P:Int→Prop,P 0→RfP P s.abs→RfP P s'.abs
theorem placeM_len (s:RL) (a:Int) (sh:Sh):(s.placeM a sh).O.length≤s.O.length+1:=by
 unfold RL.placeM
 split
 ·simp only[RL.putM,List.length_append,List.length_take,List.length_drop,List.length_singleton];omega
 ·omega
theorem abs_len (s:HL):s.abs.O.length=s.objs.length:=by simp[HL.abs]
theorem objs_of_abs {s t:HL} (h:s.abs.O.length=t.abs.O.length):s.objs.length=t.objs.length:=by rw[←abs_len,←abs_len];exact h
def ClaimU (s:HL) (sh:Sh) (sp a:Int) (c:Nat) (s3:HL):Prop:=(c=1∧s3=s)∨(c=2∧claimM (some s) (a/64) ((wordsS sh+63)/64) (2,sp) (3,sp)=some s3)∨(c=3∧claimM (some s) (a/64) 1 (1,sp) (0,0)=some s3)
def PlaceU (s:HL) (sh:Sh) (sp:Int) (s':HL):Prop:= ∃a c,s.abs.FirstU sh sp a c∧((c=0∧s'=s)∨ ∃s3,ClaimU s sh sp a c s3∧placeM (some s3) a sh=some s')
theorem PlaceU.uniq {s s1 s2:HL} {sh:Sh} {sp:Int} (h:PlaceU s sh sp s1) (h':PlaceU s sh sp s2):s1=s2:=by
 obtain⟨a,c,u,h⟩:=h
 obtain⟨a',c',u',h'⟩:=h'
 obtain⟨rfl,ha⟩:=u.uniq u'
 rcases h with⟨h0,rfl⟩|⟨s3,h1,h2⟩<;>rcases h' with⟨g0,rfl⟩|⟨s4,g1,g2⟩
 ·rfl
 ·subst h0;rcases g1 with⟨h,_⟩|⟨h,_⟩|⟨h,_⟩<;>cases h
 ·subst g0;rcases h1 with⟨h,_⟩|⟨h,_⟩|⟨h,_⟩<;>cases h
 ·have hc:c≠0:=fun e=>by subst e;rcases h1 with⟨h,_⟩|⟨h,_⟩|⟨h,_⟩<;>cases h
  obtain rfl:=ha hc
  have:s3=s4:=by
   rcases h1 with⟨h,e⟩|⟨h,e⟩|⟨h,e⟩<;>rcases g1 with⟨g,f⟩|⟨g,f⟩|⟨g,f⟩<;>first|(rw[e,f];done)|exact Option.some.inj (e.symm.trans f)|(exfalso;omega)
  subst this
  exact Option.some.inj (h2.symm.trans g2)
theorem cPlace {w:World} {b hb rb qb kb:Nat} {s:HL} {R:Rt.MS} {fh fr ff fk:List Nat} (h:SCs w b hb rb qb kb s R fh fr ff fk) (sh:Sh) (hv:validS sh=true) (sp:Int) (hb1:s.born≤1000) (hb2:s.objs.length≤1000):
  Cs Tryz.prog 90 [.pointer (some ⟨b,0,none⟩),.agg ⟨shV sh⟩,.int .i64 sp] w fun v w'=>v=.bool true∧ ∃s' ff',(Step s s'∧PlaceU s sh sp s')∧SCs w' b hb rb qb kb s' R fh fr ff' fk∧Only (b::(fh++(fr++(ff++fk)))) w w'∧ ∀x,x∈ff'→x∈ff∨w.heap.size≤x:=by
 refine enter_law12_Scene_Place rfl ?_
 unfold x_law12_Scene_Place
 (repeat(first|with_reducible(first|refine nx ?_|refine r_6 rfl ?_)|simp only[go_sem]))
 refine boxT fun q w1 hq hs1 hat1 ho1=>?_
 have h1:=h.keep0 ho1
 have hlt1:=h.lt
 have hqn: ∀x,x∈b::(fh++(fr++(ff++fk)))→x≠q:=fun x hx=>by have:=hlt1 x hx;omega
 have hc1:cellsAt w1.drew ⟨q,0,none⟩ 3=some (shV sh):=cellsAt_at hat1.drew 0 3 (by simp[shV])
 have hd:=h1.keep0 (Only.drew [] w1)
 have o1:=ho1.nil (Only.drew [] w1)
 (repeat(first|with_reducible(first|refine nx ?_|refine r_6 rfl ?_)|simp only[go_sem]))
 refine run_drt [b,q] ?_
 (repeat(first|with_reducible(first|refine nx ?_|refine r_6 rfl ?_)|simp only[go_sem,hd.at_.cell,hc1]))
 refine callS (fFirst hd.f sh sp) ?_
 rintro v w2 ⟨a,ok,t,c,rfl,hf2,ho2,hok,hfu⟩
 refine⟨.inl rfl,?_⟩
 have hq2:At w2 q (shV sh):=hat1.drew.keep ho2 fun e=>(hqn q (by simp[e])) rfl
 have hcq: ∀w' S,Only S w2 w'→q∉S→cellsAt w' ⟨q,0,none⟩ 3=some (shV sh):=fun w' S o hS=>cellsAt_at (hq2.keep o hS) 0 3 (by simp[shV])
 obtain⟨g1,g2,g3,g4,d1,d2,d3,d4⟩:=hd.setF ho2 hf2 (fun x hx=>.inl hx)
 have ot: ∀ {u v:World},Only ff u v→Only (b::(fh++(fr++(ff++fk)))) u v:=fun o=>o.weak fun x hx=>by simp[hx]
 have oh: ∀ {u v:World},Only fh u v→Only (b::(fh++(fr++(ff++fk)))) u v:=fun o=>o.weak fun x hx=>by simp[hx]
 have o2:Only (b::(fh++(fr++(ff++fk)))) w w2:=o1.of_nil.same (ot ho2)
 have hpu0:c=0→PlaceU s sh sp s:=fun e=>⟨a,c,hfu,.inl ⟨e,rfl⟩⟩
 have hpu: ∀s3 s',ClaimU s sh sp a c s3→placeM (some s3) a sh=some s'→PlaceU s sh sp s':=fun s3 s' h1 h2=>⟨a,c,hfu,.inr ⟨s3,h1,h2⟩⟩
 rcases hok with⟨rfl,rfl,hc0⟩|⟨rfl,k,hk,hcase⟩
 ·(repeat(first|with_reducible(first|refine nx ?_|refine r_6 rfl ?_)|simp only[go_sem]))
  exact⟨s,ff,⟨⟨h.inv,by omega,by omega,rfl,fun _ _ h=>h⟩,hpu0 hc0⟩,⟨g1,h.inv,g2,g3,hf2,g4,d1,d2,d3,d4⟩,o2,fun x hx=>.inl hx⟩
 -- both places
 have fin: ∀(w3:World) (s3:HL) (a3:Int),0≤a3→a3≤5000→s3.Inv→s3.born=s.born→s3.objs.length=s.objs.length→s3.B.length=s.B.length→FM w3 qb s3.abs ff→HR w3 (some ⟨hb,0,none⟩) fh (some s3)→Only fh w2 w3→
   ∀(ρ:Env),ρ 0=.pointer (some ⟨b,0,none⟩)→ρ 4=.pointer (some ⟨q,0,none⟩)→ρ 7=.int .i64 a3→True:=fun _ _ _ _ _ _ _ _ _ _ _ _ _ _ _ _=>trivial
 clear fin
 have hinv:=h.inv
 have hB64:=h.inv.ok.b64
 (repeat(first|with_reducible(first|refine r_1 ?_|refine r_2 ?_|refine r_3 ?_|refine r_4 ?_|refine r_5 ?_|refine r_6 rfl ?_)|simp only[go_sem]))
 refine run_condT ?_
 simp only[go_sem]
 refine run_skip (run_seq ?_)
 refine run_cut (9::10::27::28::29::30::31::32::33::34::35::36::37::38::39::40::41::42::43::44::45::46::47::48::49::50::51::52::53::54::55::[]) (fun _ w3=> ∃s3,(ClaimU s sh sp a c s3∧ ∀P:Int→Prop,P 0→RfP P s.abs→RfP P s3.abs)∧s3.Inv∧s3.born=s.born∧s3.objs.length=s.objs.length∧s3.B.length=s.B.length∧FM w3 qb s3.abs ff∧HR w3 (some ⟨hb,0,none⟩) fh (some s3)∧Only fh w2 w3∧0≤a∧a≤5000) (fun kk hkk=>?_) (fun g w3 hJ=>?_)
 ·rcases hcase with⟨c32,k1,k2,k3,k4,k5,rfl,hc1⟩|⟨c32,rfl,ce,rfl,hc1⟩|⟨c32,rfl,ce,rfl,hc1⟩
  ·obtain⟨na,rfl⟩: ∃n:Nat,a=n:=⟨a.toNat,by omega⟩
   have e1:((na/64:Nat):Int)=(k:Int):=by omega
   have hst:stateO (some s) (k:Int)=1:=k3
   (repeat(first|with_reducible(first|refine nx ?_|refine r_6 rfl ?_)|simp only[go_sem,tdiv64 na (by omega),e1,g1.cell]))
   refine callT0 (hState g2 (k:Int)) ?_
   (repeat(first|with_reducible(first|refine nx ?_|refine r_6 rfl ?_)|simp only[go_sem,hst,beq_int_false (show¬(1:Int)=0 by omega)]))
   refine hkk _ w2 ?_ ⟨s,⟨.inl ⟨hc1,rfl⟩,fun _ _ h=>h⟩,hinv,rfl,rfl,rfl,hf2,g2,Only.refl _ _,by omega,by omega⟩
   (repeat(first|with_reducible exact k_1|with_reducible exact Keeps.ovr _ _ _|refine Keeps.put ?_ rfl _|exact k_1|exact Keeps.ovr _ _ _|refine Keeps.ovr2 ?_ rfl _))
  ·obtain⟨n,hn⟩: ∃n:Nat,(wordsS sh+63)/64=n:=⟨((wordsS sh+63)/64).toNat,by omega⟩
   rw[hn]at ce hf2
   obtain⟨hE,s3,e1,e2,e3,e4,e5⟩:=abs_claimL hinv k n sp
   rw[←e2]at hf2
   have hn64:(n:Int)≤64:=by
    have hc:=ce
    unfold RL.claimLE at hc
    by_cases c1: ¬(1≤(k:Int)∧(k:Int)<(s.abs.B.length:Int))∨(n:Int)<1∨(s.abs.B.length:Int)-(k:Int)<(n:Int)∨spaceB sp=false
    ·rw[if_pos c1]at hc;cases hc
    have c1b: ¬(s.abs.B.length:Int)-(k:Int)<(n:Int):=fun e=>c1 (.inr (.inr (.inl e)))
    have:s.abs.B.length=s.B.length:=rfl
    omega
   have hfree:stateO (some s) (k:Int)=0:=by
    have hc:=ce
    unfold RL.claimLE at hc
    by_cases c1: ¬(1≤(k:Int)∧(k:Int)<(s.abs.B.length:Int))∨(n:Int)<1∨(s.abs.B.length:Int)-(k:Int)<(n:Int)∨spaceB sp=false
    ·rw[if_pos c1]at hc;cases hc
    rw[if_neg c1]at hc
    have c1a:1≤(k:Int)∧(k:Int)<(s.abs.B.length:Int):=Decidable.byContradiction fun e=>c1 (.inl e)
    have c1b: ¬(n:Int)<1:=fun e=>c1 (.inr (.inl e))
    by_cases c2:(List.range (n:Int).toNat).any (fun j=>(s.abs.B.getD ((k:Int).toNat+j) (0,0)).1 !=0)=true
    ·rw[if_pos c2]at hc;cases hc
    ·have hz:(s.abs.B.getD k (0,0)).1=0:=by
      refine Decidable.byContradiction fun e=>c2 (List.any_eq_true.2 ⟨0,List.mem_range.2 (by omega),?_⟩)
      simpa using e
     rw[←abs_state]
     unfold RL.stateR
     rw[if_pos ⟨by omega,c1a.2⟩,Int.toNat_natCast];exact hz
   have e6:IntKind.i64.wrap (((64*k:Nat):Int).tdiv 64)=(k:Int):=by rw[tdiv64 (64*k) (by omega)];omega
   (repeat(first|with_reducible(first|refine nx ?_|refine r_6 rfl ?_)|simp only[go_sem,e6,g1.cell]))
   refine callT0 (hState g2 (k:Int)) ?_
   (repeat(first|with_reducible(first|refine nx ?_|refine r_6 rfl ?_)|simp only[go_sem,hfree,beq_int_true (rfl:(0:Int)=0),hcq w2 [] (Only.refl _ _) (by simp)]))
   refine callT1 (fLarge w2 sh) fun w4 ho4=>?_
   have hq4:=hcq w4.drew [] (ho4.nil (Only.drew [] w4)) (by simp)
   have hl4:=((hq2.keep0 ho4).drew).lt
   have hb4:=((g1.keep0 ho4).drew).lt
   have hsb: ∀z,z∈[b,q]→z<w4.drew.heap.size∧z∉([]:List Nat):=fun z hz=>⟨by simp only[List.mem_cons,List.not_mem_nil,or_false]at hz;rcases hz with rfl|rfl;exact hb4;exact hl4,by simp⟩
   (repeat(first|with_reducible(first|refine nx ?_|refine r_6 rfl ?_)|simp only[go_sem,decide_eq_true c32]))
   refine run_drt [b,q] ?_
   (repeat(first|with_reducible(first|refine nx ?_|refine r_6 rfl ?_)|simp only[go_sem,((g1.keep0 ho4).drew).cell,hq4]))
   refine callS1 (fNeed w4.drew sh) (.inr ⟨SB.refl _ _,hsb⟩) fun w5 ho5=>?_
   have o5:=(ho4.nil (Only.drew [] w4)).nil ho5
   rw[hn]
   (repeat(first|with_reducible(first|refine nx ?_|refine r_6 rfl ?_)|simp only[go_sem]))
   refine callS (hClaimLarge (g2.keep0 o5) (k:Int) (n:Int) sp (by omega) (by omega)) ?_
   rintro v w6 ⟨rfl,hh6,ho6⟩
   refine⟨.inl rfl,?_⟩
   rw[e1]at hh6
   have ce':claimE (some s) (k:Int) (n:Int) (2,sp)=0:=by rw[←hE];exact ce
   (repeat(first|with_reducible(first|refine nx ?_|refine r_6 rfl ?_)|simp only[go_sem,ce',bne_int_false (rfl:(0:Int)=0)]))
   refine hkk _ w6 ?_ ⟨s3,⟨.inr (.inl ⟨hc1,by rw[show((64*k:Nat):Int)/64=(k:Int) by omega,hn];exact e1⟩),fun _ _ hr=>by rw[e2];exact hr.claimLM _ _ _⟩,e3,e4,?_,e5,(hf2.keep0 o5).keep ho6 fun x hx hx2=>(d2 x hx2).2.1 hx,hh6,o5.of_nil.same ho6,by omega,by omega⟩
   ·(repeat(first|with_reducible exact k_1|with_reducible exact Keeps.ovr _ _ _|refine Keeps.put ?_ rfl _|exact k_1|exact Keeps.ovr _ _ _|refine Keeps.ovr2 ?_ rfl _))
   ·refine objs_of_abs ?_
    rw[e2];unfold RL.claimLM;rw[if_pos ce]
  ·obtain⟨hE,s3,e1,e2,e3,e4,e5⟩:=abs_claim hinv k sp
   rw[←e2]at hf2
   have hfree:stateO (some s) (k:Int)=0:=by
    have hc:=ce
    unfold RL.claimE at hc
    by_cases c1: ¬(1≤(k:Int)∧(k:Int)<(s.abs.B.length:Int))∨spaceB sp=false
    ·rw[if_pos c1]at hc;cases hc
    rw[if_neg c1]at hc
    have c1a:1≤(k:Int)∧(k:Int)<(s.abs.B.length:Int):=Decidable.byContradiction fun e=>c1 (.inl e)
    by_cases c2:(s.abs.B.getD (k:Int).toNat (0,0)).1≠0
    ·rw[if_pos c2]at hc;cases hc
    ·rw[←abs_state]
     unfold RL.stateR
     rw[if_pos ⟨by omega,c1a.2⟩]
     exact Decidable.byContradiction fun e=>c2 e
   have e6:IntKind.i64.wrap (((64*k:Nat):Int).tdiv 64)=(k:Int):=by rw[tdiv64 (64*k) (by omega)];omega
   (repeat(first|with_reducible(first|refine nx ?_|refine r_6 rfl ?_)|simp only[go_sem,e6,g1.cell]))
   refine callT0 (hState g2 (k:Int)) ?_
   (repeat(first|with_reducible(first|refine nx ?_|refine r_6 rfl ?_)|simp only[go_sem,hfree,beq_int_true (rfl:(0:Int)=0),hcq w2 [] (Only.refl _ _) (by simp)]))
   refine callT1 (fLarge w2 sh) fun w4 ho4=>?_
   (repeat(first|with_reducible(first|refine nx ?_|refine r_6 rfl ?_)|simp only[go_sem,decide_eq_false (show¬32<wordsS sh by omega),(g1.keep0 ho4).cell]))
   refine callT (hClaim (g2.keep0 ho4) (k:Int) sp (by omega)) ?_
   rintro v w6 ⟨rfl,hh6,ho6⟩
   rw[e1]at hh6
   have ce':claimE (some s) (k:Int) 1 (1,sp)=0:=by rw[←hE];exact ce
   (repeat(first|with_reducible(first|refine nx ?_|refine r_6 rfl ?_)|simp only[go_sem,ce',bne_int_false (rfl:(0:Int)=0)]))
   refine hkk _ w6 ?_ ⟨s3,⟨.inr (.inr ⟨hc1,by rw[show((64*k:Nat):Int)/64=(k:Int) by omega];exact e1⟩),fun _ _ hr=>by rw[e2];exact hr.claimM _ _⟩,e3,e4,?_,e5,(hf2.keep0 ho4).keep ho6 fun x hx hx2=>(d2 x hx2).2.1 hx,hh6,ho4.of_nil.same ho6,by omega,by omega⟩
   ·(repeat(first|with_reducible exact k_1|with_reducible exact Keeps.ovr _ _ _|refine Keeps.put ?_ rfl _|exact k_1|exact Keeps.ovr _ _ _|refine Keeps.ovr2 ?_ rfl _))
   ·refine objs_of_abs ?_
    rw[e2];unfold RL.claimM;rw[if_pos ce]
 obtain⟨s3,⟨hcu,r3⟩,i3,b3,l3,B3,hf3,hh3,ho3,a0,a1⟩:=hJ
 have hat3:=g1.keep ho3 d1.1
 have hq3n:q∉fh:=fun e=>hqn q (by simp[e]) rfl
 have hq3f:q∉ff:=fun e=>hqn q (by simp[e]) rfl
 have hr3:=g3.keep ho3 fun x hx hx2=>(d2 x hx2).1 hx
 have hk3:=g4.keep ho3 fun x hx hx2=>(d2 x hx2).2.2 hx
 obtain⟨s4,e1,e2,e3,e4,e5⟩:=abs_place i3 a sh
 have hPR:=abs_placeR i3 a sh
 (repeat(first|with_reducible(first|refine nx ?_|refine r_6 rfl ?_)|simp only[go_sem]))
 refine run_drt [b,q] ?_
 (repeat(first|with_reducible(first|refine nx ?_|refine r_6 rfl ?_)|simp only[go_sem,hat3.drew.cell,hcq w3.drew fh (ho3.nil (Only.drew [] w3)) hq3n]))
 refine callS (fPlace (hf3.keep0 (Only.drew [] w3)) a sh (by omega) (by show s3.born≤_;omega) (by rw[abs_len];omega)) ?_
 rintro v w4 ⟨rfl,ho4,ff',hf4,hsub4⟩
 refine⟨.inl rfl,?_⟩
 rw[←e2]at hf4
 have hat4:=hat3.drew.keep ho4 d1.2.2.1
 have hh4:=(hh3.keep0 (Only.drew [] w3)).keep ho4 fun x hx=>(d2 x hx).2.1
 have hq4:At w4 q (shV sh):=((hq2.keep ho3 hq3n).drew).keep ho4 hq3f
 have hc4:cellsAt w4.drew ⟨q,0,none⟩ 3=some (shV sh):=cellsAt_at hq4.drew 0 3 (by simp[shV])
 (repeat(first|with_reducible(first|refine nx ?_|refine r_6 rfl ?_)|simp only[go_sem]))
 refine run_drt [b,q] ?_
 (repeat(first|with_reducible(first|refine nx ?_|refine r_6 rfl ?_)|simp only[go_sem,hat4.drew.cell,hc4]))
 refine callS (hPlaceG (hh4.keep0 (Only.drew [] w4)) a sh (by omega) fun t ht=>by cases ht;omega) ?_
 rintro v w5 ⟨rfl,hh5,ho5⟩
 refine⟨.inl rfl,?_⟩
 rw[e1]at hh5
 (repeat(first|with_reducible(first|refine nx ?_|refine r_6 rfl ?_)|simp only[go_sem,hPR,beq_int_true (rfl:(placeR (some s3) a sh).1=(placeR (some s3) a sh).1),beq_int_true (rfl:(placeR (some s3) a sh).2=(placeR (some s3) a sh).2)]))
 have hs12:w.heap.size≤w2.heap.size:=o2.size
 have hs13:w2.heap.size≤w3.heap.size:=ho3.size
 have hnew: ∀x,x∈ff'→x∈ff∨w.heap.size≤x:=fun x hx=>by
  rcases hsub4 x hx with h|h
  ·exact .inl h
  ·exact .inr (by have:w3.heap.size≤x:=h;omega)
 have hn: ∀x,x∉ff→x<w.heap.size→x∉ff':=fun x q1 q2 q3=>by rcases hnew x q3 with h4|h4;exact q1 h4;omega
 have o5:=(Only.drew [] w4).of_nil.same ho5
 have o4:=(Only.drew [] w3).of_nil.same ho4
 refine⟨s4,ff',⟨⟨e3,by omega,?_,by rw[e4,B3],fun P h0 hr=>by rw[e2];exact(r3 P h0 hr).placeM h0 _ _⟩,hpu s3 s4 hcu e1⟩,⟨hat4.keep o5 d1.1,e3,hh5,(hr3.keep o4 fun x hx=>(d3 x hx).1).keep o5 fun x hx hx2=>(d2 x hx2).1 hx,hf4.keep o5 fun x hx hx2=>?_,(hk3.keep o4 fun x hx hx2=>d4 x hx2 hx).keep o5 fun x hx hx2=>(d2 x hx2).2.2 hx,
  ⟨d1.1,d1.2.1,hn b d1.2.2.1 (hlt1 b (by simp)),d1.2.2.2⟩,fun x hx=>⟨(d2 x hx).1,hn x (d2 x hx).2.1 (hlt1 x (by simp[hx])),(d2 x hx).2.2⟩,fun x hx=>⟨hn x (d3 x hx).1 (hlt1 x (by simp[hx])),(d3 x hx).2⟩,fun x hx hx2=>?_⟩,((o2.same (oh ho3)).same (ot o4)).same (oh o5),hnew⟩
 ·rw[←abs_len,e2,←l3,←abs_len];exact placeM_len _ _ _
 ·exact hn x (d2 x hx2).2.1 (hlt1 x (by simp[hx2])) hx
 ·rcases hnew x hx with h4|h4
  ·exact d4 x h4 hx2
  ·have:=hlt1 x (by simp[hx2]);omega
end Go.Proofs.YtgcofabdialaaaaGreat
end
section
namespace Go.Proofs.YtgcofabdialaaaaGreat
set_option maxRecDepth 8000
theorem SCs.bothR {w w1 w2:World} {b hb rb qb kb:Nat} {s:HL} {R R':Rt.MS} {fh fr ff fk fr' fk':List Nat} (h:SCs w b hb rb qb kb s R fh fr ff fk) (o1:Only fk w w1) (hk:Rt.RR w1 (some ⟨kb,0,none⟩) fk' (some R')) (sk: ∀x,x∈fk'→x∈fk∨w.heap.size≤x)
  (o2:Only fr w1 w2) (hr:Rt.PR w2 (some ⟨rb,0,none⟩) fr' (some R')) (sr: ∀x,x∈fr'→x∈fr∨w1.heap.size≤x):
  SCs w2 b hb rb qb kb s R' fh fr' ff fk'∧Only (b::(fh++(fr++(ff++fk)))) w w2∧ ∀x,x∈b::(fh++(fr'++(ff++fk')))→x∈b::(fh++(fr++(ff++fk)))∨w.heap.size≤x:=by
 have lt:=h.lt
 have hz:=o1.size
 have nk: ∀x,x∉fk→x<w.heap.size→x∉fk':=fun x q1 q2 q3=>by rcases sk x q3 with h4|h4;exact q1 h4;omega
 have nr: ∀x,x∉fr→x<w.heap.size→x∉fr':=fun x q1 q2 q3=>by rcases sr x q3 with h4|h4;exact q1 h4;omega
 have hkl:=hk.lt
 have krd: ∀x,x∈fk'→x∉fr:=fun x q1 q2=>by
  rcases sk x q1 with h4|h4
  ·exact(h.d3 x q2).2 h4
  ·have:=lt x (by simp[q2]);omega
 refine⟨⟨(h.at_.keep o1 h.d1.2.2.2).keep o2 h.d1.2.1,h.inv,(h.h.keep o1 fun x hx=>(h.d2 x hx).2.2).keep o2 fun x hx=>(h.d2 x hx).1,hr,(h.f.keep o1 fun x hx=>h.d4 x hx).keep o2 fun x hx hx2=>(h.d3 x hx2).1 hx,hk.keep o2 krd,
  ⟨h.d1.1,nr b h.d1.2.1 (lt b (by simp)),h.d1.2.2.1,nk b h.d1.2.2.2 (lt b (by simp))⟩,fun x hx=>⟨nr x (h.d2 x hx).1 (lt x (by simp[hx])),(h.d2 x hx).2.1,nk x (h.d2 x hx).2.2 (lt x (by simp[hx]))⟩,fun x hx=>⟨fun hx2=>?_,fun hx2=>?_⟩,fun x hx=>nk x (h.d4 x hx) (lt x (by simp[hx]))⟩,?_,?_⟩
 ·rcases sr x hx with h4|h4
  ·exact(h.d3 x h4).1 hx2
  ·have:=lt x (by simp[hx2]);omega
 ·rcases sr x hx with h4|h4
  ·exact krd x hx2 h4
  ·have:=hkl x hx2;omega
 ·exact(o1.weak fun x hx=>by simp[hx]).same (o2.weak fun x hx=>by simp[hx])
 ·intro x hx
  simp only[List.mem_cons,List.mem_append]at hx⊢
  rcases hx with rfl|hx|hx|hx|hx
  ·simp
  ·simp[hx]
  ·rcases sr x hx with h4|h4
   ·simp[h4]
   ·exact .inr (by omega)
  ·simp[hx]
  ·rcases sk x hx with h4|h4
   ·simp[h4]
   ·exact .inr h4
def whereP (R:Rt.MS) (n:Nat):Rt.PT:=
 if n%40<24 then(0,((n%40%R.M:Nat):Int),((n%40/4:Nat):Int))else if n%40<36 then(1,0,((n%40-24:Nat):Int))else(2,0,((n%40-36:Nat):Int))
theorem SCs.Rok {w:World} {b hb rb qb kb:Nat} {s:HL} {R:Rt.MS} {fh fr ff fk:List Nat} (h:SCs w b hb rb qb kb s R fh fr ff fk):R.Ok:=by
 obtain⟨_,_,_,_,_,_,_,_,_,_,hm⟩:=h.k
 exact hm.ok
theorem cWhere {w:World} {b hb rb qb kb:Nat} {s:HL} {R:Rt.MS} {fh fr ff fk:List Nat} (h:SCs w b hb rb qb kb s R fh fr ff fk) (n:Nat) (hn:n<100000):Cs Tryz.prog 157 [.pointer (some ⟨b,0,none⟩),.int .i64 (n:Int)] w fun v w'=>v=.agg ⟨Rt.plV (whereP R n)⟩∧Only [] w w':=by
 have hM:=h.Rok.m1
 have e0:max (n:Int) 0=(n:Int):=by omega
 have e1:((n:Int).tmod 40)=((n%40:Nat):Int):=tmodN n 40
 refine enter_law12_Scene_Where rfl ?_
 unfold x_law12_Scene_Where
 (repeat(first|with_reducible(first|refine nx ?_|refine r_6 rfl ?_)|simp only[go_sem]))
 refine boxT fun q w1 hq hs1 hat1 ho1=>?_
 have h1:=h.keep0 ho1
 have fin: ∀(w2:World),Only [q] w1 w2→Only [] w w2:=fun w2 o=>ho1.trans o fun x hx=>by simp only[List.mem_singleton]at hx;subst hx;exact .inr (by omega)
 (repeat(first|with_reducible(first|refine nx ?_|refine r_6 rfl ?_)|simp only[go_sem,e0,e1]))
 by_cases c1:n%40<24
 ·have e2:((n%40:Nat):Int).tmod (R.M:Int)=((n%40%R.M:Nat):Int):=tmodN _ _
  have e3:IntKind.i64.wrap (((n%40:Nat):Int).tdiv 4)=((n%40/4:Nat):Int):=by
   rw[Int.tdiv_eq_ediv_of_nonneg (by omega),IntWalk.i64_in _ (by omega)];omega
  have hM0:(Rt.mutO (some R))=(R.M:Int):=rfl
  have hw:whereP R n=(0,((n%40%R.M:Nat):Int),((n%40/4:Nat):Int)):=by unfold whereP;rw[if_pos c1]
  (repeat(first|with_reducible(first|refine nx ?_|refine r_6 rfl ?_)|simp only[go_sem,decide_eq_true (show((n%40:Nat):Int)<24 by omega),h1.at_.cell]))
  refine callT0 (Rt.rMutators h1.k) ?_
  rw[hM0]
  (repeat(first|with_reducible(first|refine nx ?_|refine r_6 rfl ?_)|simp only[go_sem,divO_of (show(R.M:Int)≠0 by omega) (.int .i64 ((n%40%R.M:Nat):Int)),e2,e3]))
  rw[fillL_one rfl rfl,fillL_one rfl rfl,fillL_one rfl rfl]
  (repeat(first|with_reducible(first|refine nx ?_|refine r_6 rfl ?_)|simp only[go_sem]))
  refine stNT hat1 rfl (by simp) (by simp[oneC]) fun w2 hs2 hat2 ho2=>?_
  have hat2':At w2 q (Rt.plV (whereP R n)):=by rw[hw];simpa[Rt.plV,setL]using hat2
  have hc:cellsAt w2 ⟨q,0,none⟩ 3=some (Rt.plV (whereP R n)):=cellsAt_at hat2' 0 3 (by simp[Rt.plV])
  (repeat(first|with_reducible(first|refine nx ?_|refine r_6 rfl ?_)|simp only[go_sem,hc]))
  exact fin w2 ho2
 by_cases c2:n%40<36
 ·have e3:IntKind.i64.wrap (((n%40:Nat):Int)-24)=((n%40-24:Nat):Int):=by rw[IntWalk.i64_in _ (by omega)];omega
  have hw:whereP R n=(1,0,((n%40-24:Nat):Int)):=by unfold whereP;rw[if_neg c1,if_pos c2]
  (repeat(first|with_reducible(first|refine nx ?_|refine r_6 rfl ?_)|simp only[go_sem,decide_eq_false (show¬((n%40:Nat):Int)<24 by omega),decide_eq_true (show((n%40:Nat):Int)<36 by omega),e3]))
  rw[fillL_one rfl rfl,fillL_one rfl rfl]
  (repeat(first|with_reducible(first|refine nx ?_|refine r_6 rfl ?_)|simp only[go_sem]))
  refine stNT hat1 rfl (by simp) (by simp[oneC]) fun w2 hs2 hat2 ho2=>?_
  have hat2':At w2 q (Rt.plV (whereP R n)):=by rw[hw];simpa[Rt.plV,setL]using hat2
  have hc:cellsAt w2 ⟨q,0,none⟩ 3=some (Rt.plV (whereP R n)):=cellsAt_at hat2' 0 3 (by simp[Rt.plV])
  (repeat(first|with_reducible(first|refine nx ?_|refine r_6 rfl ?_)|simp only[go_sem,hc]))
  exact fin w2 ho2
 ·have e3:IntKind.i64.wrap (((n%40:Nat):Int)-36)=((n%40-36:Nat):Int):=by rw[IntWalk.i64_in _ (by omega)];omega
  have hw:whereP R n=(2,0,((n%40-36:Nat):Int)):=by unfold whereP;rw[if_neg c1,if_neg c2]
  (repeat(first|with_reducible(first|refine nx ?_|refine r_6 rfl ?_)|simp only[go_sem,decide_eq_false (show¬((n%40:Nat):Int)<24 by omega),decide_eq_false (show¬((n%40:Nat):Int)<36 by omega),e3]))
  rw[fillL_one rfl rfl,fillL_one rfl rfl]
  (repeat(first|with_reducible(first|refine nx ?_|refine r_6 rfl ?_)|simp only[go_sem]))
  refine stNT hat1 rfl (by simp) (by simp[oneC]) fun w2 hs2 hat2 ho2=>?_
  have hat2':At w2 q (Rt.plV (whereP R n)):=by rw[hw];simpa[Rt.plV,setL]using hat2
  have hc:cellsAt w2 ⟨q,0,none⟩ 3=some (Rt.plV (whereP R n)):=cellsAt_at hat2' 0 3 (by simp[Rt.plV])
  (repeat(first|with_reducible(first|refine nx ?_|refine r_6 rfl ?_)|simp only[go_sem,hc]))
  exact fin w2 ho2
def rootsSet (R:Rt.MS) (p:Rt.PT) (y:Int):Rt.MO:=if p.1=2∧(R.Q.length:Int)≤p.2.2 then(Rt.pushO (some R) y).2 else(Rt.setO (some R) p y).2
theorem setO_some (R:Rt.MS) (p:Rt.PT) (y:Int): ∃R',(Rt.setO (some R) p y).2=some R':=by
 unfold Rt.setO
 dsimp only
 split
 ·exact⟨_,rfl⟩
 ·split
  ·exact⟨_,rfl⟩
  ·exact⟨_,rfl⟩
theorem pushO_some (R:Rt.MS) (y:Int): ∃R',(Rt.pushO (some R) y).2=some R':=by
 unfold Rt.pushO
 dsimp only
 split
 ·exact⟨_,rfl⟩
 ·split
  ·exact⟨_,rfl⟩
  ·exact⟨_,rfl⟩
theorem cSet {w:World} {b hb rb qb kb:Nat} {s:HL} {R:Rt.MS} {fh fr ff fk:List Nat} (h:SCs w b hb rb qb kb s R fh fr ff fk) (n:Nat) (hn:n<100000) (y:Int):Cs Tryz.prog 97 [.pointer (some ⟨b,0,none⟩),.int .i64 (n:Int),.int .i64 y] w fun v w'=>v=.bool true∧ ∃R' fr' fk',rootsSet R (whereP R n) y=some R'∧SCs w' b hb rb qb kb s R' fh fr' ff fk'∧Only (b::(fh++(fr++(ff++fk)))) w w'∧ ∀x,x∈b::(fh++(fr'++(ff++fk')))→x∈b::(fh++(fr++(ff++fk)))∨w.heap.size≤x:=by
 refine enter_law12_Scene_Set rfl ?_
 unfold x_law12_Scene_Set
 (repeat(first|with_reducible(first|refine nx ?_|refine r_6 rfl ?_)|simp only[go_sem]))
 refine callT1 (cWhere h n hn) fun w1 ho1=>?_
 generalize hp:whereP R n=p
 (repeat(first|with_reducible(first|refine nx ?_|refine r_6 rfl ?_)|simp only[go_sem]))
 refine boxT fun q w2 hq hs2 hat2 ho2=>?_
 (repeat(first|with_reducible(first|refine nx ?_|refine r_6 rfl ?_)|simp only[go_sem]))
 refine stNT (cs:=Rt.plV p) hat2 rfl (by simp[Rt.plV]) Rt.plV_one fun w3 hs3 hat3 ho3=>?_
 have hat3:At w3 q (Rt.plV p):=by
  have e:setL [Value.int IntKind.i64 0,Value.int IntKind.i64 0,Value.int IntKind.i64 0] 0 (Rt.plV p)=Rt.plV p:=by simp[setL,Rt.plV]
  rw[e]at hat3;exact hat3
 have o13:Only [] w1 w3:=ho2.trans ho3 fun x hx=>by simp only[List.mem_singleton]at hx;subst hx;exact .inr (by omega)
 have o3:Only [] w w3:=ho1.nil o13
 have hz1:=ho1.size
 have hz3:=o3.size
 have h3:=h.keep0 o3
 have hqn: ∀x,x∈b::(fh++(fr++(ff++fk)))→x≠q:=fun x hx=>by have:=h.lt x hx;omega
 have hc3: ∀w',Only [] w3 w'→cellsAt w' ⟨q,0,none⟩ 3=some (Rt.plV p):=fun w' o=>cellsAt_at (hat3.keep0 o) 0 3 (by simp[Rt.plV])
 have fin: ∀ {w1 w2:World} {R':Rt.MS} {fr' fk':List Nat},Only [] w w1→SCs w2 b hb rb qb kb s R' fh fr' ff fk'∧Only (b::(fh++(fr++(ff++fk)))) w1 w2∧(∀x,x∈b::(fh++(fr'++(ff++fk')))→x∈b::(fh++(fr++(ff++fk)))∨w1.heap.size≤x)→rootsSet R p y=some R'→
   ∃R' fr' fk',rootsSet R p y=some R'∧SCs w2 b hb rb qb kb s R' fh fr' ff fk'∧Only (b::(fh++(fr++(ff++fk)))) w w2∧ ∀x,x∈b::(fh++(fr'++(ff++fk')))→x∈b::(fh++(fr++(ff++fk)))∨w.heap.size≤x:=fun o g e=>
  ⟨_,_,_,e,g.1,o.of_nil.same g.2.1,fun x hx=>(g.2.2 x hx).imp id fun hx=>by have:=o.size;omega⟩
 have hcell0: ∀w',Only [] w3 w'→w'.cell? ⟨q,0,none⟩=some (.int .i64 p.1):=fun w' o=>by rw[(hat3.keep0 o).cell];rfl
 have hcell2: ∀w',Only [] w3 w'→w'.cell? ⟨q,2,none⟩=some (.int .i64 p.2.2):=fun w' o=>by rw[(hat3.keep0 o).cell];rfl
 -- the way of Set
 have setcase:(h4:World)→True:=fun _=>trivial
 clear setcase
 (repeat(first|with_reducible(first|refine nx ?_|refine r_6 rfl ?_)|simp only[go_sem]))
 refine run_drt [b,q] ?_
 have od:=Only.drew [] w3
 have hd:=h3.keep0 od
 have hzd:w3.drew.heap.size=w3.heap.size:=rfl
 have hbq: ∀z,z∈[b,q]→z<w3.drew.heap.size:=fun z hz=>by
  simp only[List.mem_cons,List.not_mem_nil,or_false]at hz
  rcases hz with rfl|rfl
  ·exact hd.at_.lt
  ·exact hat3.lt
 by_cases c1:p.1=2
 ·(repeat(first|with_reducible(first|refine nx ?_|refine r_6 rfl ?_)|simp only[go_sem,hcell0 w3.drew od,hcell2 w3.drew od,c1,beq_int_true (rfl:(2:Int)=2),hd.at_.cell]))
  refine callS (Rt.rQueue hd.k) ?_
  rintro v w4 ⟨ho4,fq,hs4,_⟩
  refine⟨.inr ((SB.refl _ _).only ho4 fun z hz=>⟨hbq z hz,by simp⟩),?_⟩
  obtain⟨a4,c4,rfl⟩:=hs4.val
  have o4:=od.nil ho4
  have h4:=h3.keep0 o4
  have hQ:(Rt.queueO (some R)).length=R.Q.length:=rfl
  rw[hQ]
  by_cases c2:(R.Q.length:Int)≤p.2.2
  ·(repeat(first|with_reducible(first|refine nx ?_|refine r_6 rfl ?_)|simp only[go_sem,decide_eq_true c2]))
   refine run_drt [b] ?_
   have o4d:=o4.nil (Only.drew [] w4)
   have h4d:=h3.keep0 o4d
   (repeat(first|with_reducible(first|refine nx ?_|refine r_6 rfl ?_)|simp only[go_sem,h4d.at_.cell]))
   refine callS (Rt.rPush h4d.k y) ?_
   rintro v w5 ⟨rfl,ho5,fk',hk5,sk⟩
   obtain⟨R',e5⟩:=pushO_some R y
   rw[e5]at hk5
   refine⟨.inr ((SB.refl _ _).only ho5 fun z hz=>by simp only[List.mem_singleton]at hz;subst hz;exact⟨h4d.at_.lt,h.d1.2.2.2⟩),?_⟩
   (repeat(first|with_reducible(first|refine nx ?_|refine r_6 rfl ?_)|simp only[go_sem]))
   refine callS (Rt.Push_m (h4d.r.keep ho5 fun z hz=>(h.d3 z hz).2) y) ?_
   rintro v w6 ⟨rfl,ho6,_,fr',hr6,sr⟩
   rw[e5]at hr6
   refine⟨.inl rfl,?_⟩
   (repeat(first|with_reducible(first|refine nx ?_|refine r_6 rfl ?_)|simp only[go_sem,beq_int_true (rfl:(Rt.pushO (some R) y).1=(Rt.pushO (some R) y).1)]))
   simpa only[List.mem_cons]using fin (o3.nil o4d) (h4d.bothR ho5 hk5 sk ho6 hr6 sr) (by unfold rootsSet;rw[if_pos ⟨c1,c2⟩];exact e5)
  ·(repeat(first|with_reducible(first|refine nx ?_|refine r_6 rfl ?_)|simp only[go_sem,decide_eq_false c2]))
   have o4d:=o4.nil (Only.drew [] w4)
   refine run_drt [b,q] ?_
   have h4d:=h3.keep0 o4d
   (repeat(first|with_reducible(first|refine nx ?_|refine r_6 rfl ?_)|simp only[go_sem,h4d.at_.cell,hc3 _ o4d]))
   refine callS (Rt.rSet h4d.k p y) ?_
   rintro v w5 ⟨rfl,hk5,ho5⟩
   obtain⟨R',e5⟩:=setO_some R p y
   rw[e5]at hk5
   have hq5:q∉fk:=fun e=>hqn q (by simp[e]) rfl
   refine⟨.inr ((SB.refl _ _).only ho5 fun z hz=>by
    simp only[List.mem_cons,List.not_mem_nil,or_false]at hz
    rcases hz with rfl|rfl
    ·exact⟨h4d.at_.lt,h.d1.2.2.2⟩
    ·exact⟨(hat3.keep0 o4d).lt,hq5⟩),?_⟩
   (repeat(first|with_reducible(first|refine nx ?_|refine r_6 rfl ?_)|simp only[go_sem]))
   refine callS (Rt.Set_m (h4d.r.keep ho5 fun z hz=>(h.d3 z hz).2) p y) ?_
   rintro v w6 ⟨rfl,hr6,ho6,_⟩
   rw[e5]at hr6
   refine⟨.inl rfl,?_⟩
   (repeat(first|with_reducible(first|refine nx ?_|refine r_6 rfl ?_)|simp only[go_sem,beq_int_true (rfl:(Rt.setO (some R) p y).1=(Rt.setO (some R) p y).1)]))
   simpa only[List.mem_cons]using fin (o3.nil o4d) (h4d.bothR ho5 hk5 (fun x hx=>.inl hx) ho6 hr6 fun x hx=>.inl hx) (by unfold rootsSet;rw[if_neg (fun h=>c2 h.2)];exact e5)
 ·(repeat(first|with_reducible(first|refine nx ?_|refine r_6 rfl ?_)|simp only[go_sem,hcell0 w3.drew od,beq_int_false c1]))
  have o4d:=od.nil (Only.drew [] w3.drew)
  refine run_drt [b,q] ?_
  have h4d:=h3.keep0 o4d
  (repeat(first|with_reducible(first|refine nx ?_|refine r_6 rfl ?_)|simp only[go_sem,h4d.at_.cell,hc3 _ o4d]))
  refine callS (Rt.rSet h4d.k p y) ?_
  rintro v w5 ⟨rfl,hk5,ho5⟩
  obtain⟨R',e5⟩:=setO_some R p y
  rw[e5]at hk5
  have hq5:q∉fk:=fun e=>hqn q (by simp[e]) rfl
  refine⟨.inr ((SB.refl _ _).only ho5 fun z hz=>by
   simp only[List.mem_cons,List.not_mem_nil,or_false]at hz
   rcases hz with rfl|rfl
   ·exact⟨h4d.at_.lt,h.d1.2.2.2⟩
   ·exact⟨(hat3.keep0 o4d).lt,hq5⟩),?_⟩
  (repeat(first|with_reducible(first|refine nx ?_|refine r_6 rfl ?_)|simp only[go_sem]))
  refine callS (Rt.Set_m (h4d.r.keep ho5 fun z hz=>(h.d3 z hz).2) p y) ?_
  rintro v w6 ⟨rfl,hr6,ho6,_⟩
  rw[e5]at hr6
  refine⟨.inl rfl,?_⟩
  (repeat(first|with_reducible(first|refine nx ?_|refine r_6 rfl ?_)|simp only[go_sem,beq_int_true (rfl:(Rt.setO (some R) p y).1=(Rt.setO (some R) p y).1)]))
  simpa only[List.mem_cons]using fin (o3.nil o4d) (h4d.bothR ho5 hk5 (fun x hx=>.inl hx) ho6 hr6 fun x hx=>.inl hx) (by unfold rootsSet;rw[if_neg (fun h=>c1 h.1)];exact e5)
end Go.Proofs.YtgcofabdialaaaaGreat
end
section
namespace Go.Proofs.YtgcofabdialaaaaGreat
set_option maxRecDepth 8000
def U8At (h0:Nat) (w:World) (v:Value) (n sz:Nat) (f:Nat→Nat→Nat):Prop:= ∃(a:Option Addr) (cap:Nat),v=.slice a n cap∧(∀i j,f i j<256)∧ ∀i,i<n→ ∃p,a=some p∧p.block<h0∧ ∀j,j<sz→w.cell? ((p.add (i*sz)).add j)=some (u8V (f i j))
theorem U8At.keep {h0:Nat} {w w':World} {v:Value} {n sz:Nat} {f:Nat→Nat→Nat} {S:List Nat} (h:U8At h0 w v n sz f) (hz:h0≤w.heap.size) (o:Only S w w') (hs: ∀x,x∈S→h0≤x):U8At h0 w' v n sz f:=by
 obtain⟨a,c,e,hf,hc⟩:=h
 refine⟨a,c,e,hf,fun i hi=>?_⟩
 obtain⟨p,e1,e2,e3⟩:=hc i hi
 refine⟨p,e1,e2,fun j hj=>?_⟩
 rw[cell_of_heap (w:=w) (w':=w') (by rw[add_block,add_block];exact o.block _ (by omega) fun hx=>by have:=hs _ hx;omega)]
 exact e3 j hj
theorem cellsAt_fn {w:World} {a:Addr} {n:Nat} (f:Nat→Value) (h: ∀j,j<n→w.cell? (a.add j)=some (f j)):cellsAt w a n=some ((List.range n).map f):=by
 unfold cellsAt
 exact Go.ChangeShapes.mapM_range_of n h
structure BG where
 bl:Nat
 mu:Nat
 nO:Nat
 nD:Nat
 nL:Nat
 nP:Nat
 nN:Nat
 fO:Nat→Nat→Nat
 fD:Nat→Nat→Nat
 fL:Nat→Nat→Nat
 fP:Nat→Nat→Nat
 fN:Nat→Nat→Nat
structure BegAt (h0:Nat) (w:World) (cs:List Value) (g:BG) (vO vD vL vP vN:Value):Prop where
 e:cs=[u8V g.bl,u8V g.mu,vO,vD,vL,vP,vN]
 l0:g.bl<256
 l1:g.mu<256
 o:U8At h0 w vO g.nO 4 g.fO
 d:U8At h0 w vD g.nD 1 g.fD
 l:U8At h0 w vL g.nL 3 g.fL
 p:U8At h0 w vP g.nP 2 g.fP
 n:U8At h0 w vN g.nN 1 g.fN
def Sz (s:HL) (n nb:Nat):Prop:=s.born≤n∧s.objs.length≤n∧s.B.length=nb∧RfOk s.abs
theorem Sz.mono {s:HL} {n m nb:Nat} (h:Sz s n nb) (hm:n≤m):Sz s m nb:=⟨by have:=h.1;omega,by have:=h.2.1;omega,h.2.2⟩
theorem Sz.step {s s':HL} {n nb:Nat} (h:Sz s n nb) (e:Step s s'):Sz s' (n+1) nb:=⟨by have:=h.1;have:=e.2.1;omega,by have:=h.2.1;have:=e.2.2.1;omega,by rw[e.2.2.2.1];exact h.2.2.1,e.2.2.2.2 _ ⟨by omega,by omega⟩ h.2.2.2⟩
theorem killM_len (s:RL) (x:Int):(s.killM x).O.length≤s.O.length:=by
 unfold RL.killM
 split
 ·exact Nat.le_refl _
 ·show(s.O.eraseIdx _).length≤_
  rw[List.length_eraseIdx];split<;>omega
def Liv (s:HL) (x:Int):Prop:= ∃k:Nat,x=((2*k:Nat):Int)∧s.st.getD k 0=1
def PhP (ph:Bool) (s:HL) (x:Int):Prop:=x=0∨ph=true∧Liv s x
def RtP (P:Int→Prop) (R:Rt.MS):Prop:=(∀x,x∈R.S→P x)∧(∀x,x∈R.G→P x)∧ ∀x,x∈R.Q→P x
def Snd (ph:Bool) (s:HL) (R:Rt.MS):Prop:=RfP (PhP ph s) s.abs∧RtP (PhP ph s) R
theorem RtP.mono {P Q:Int→Prop} {R:Rt.MS} (h:RtP P R) (hp: ∀x,P x→Q x):RtP Q R:=⟨fun x hx=>hp x (h.1 x hx),fun x hx=>hp x (h.2.1 x hx),fun x hx=>hp x (h.2.2 x hx)⟩
theorem PhP.st {ph:Bool} {s s':HL} {x:Int} (h:PhP ph s x) (e:s'.st=s.st):PhP ph s' x:=h.imp id fun⟨h1,k,h2,h3⟩=>⟨h1,k,h2,by rw[e];exact h3⟩
theorem PhP.f {s s':HL} {x:Int} (h:PhP false s x):PhP false s' x:=h.imp id fun h=>by cases h.1
theorem Snd.st {ph:Bool} {s s':HL} {R:Rt.MS} (h:Snd ph s R) (e:s'.st=s.st) (hr:RfP (PhP ph s) s'.abs):Snd ph s' R:=⟨hr.mono fun _ h=>h.st e,h.2.mono fun _ h=>h.st e⟩
theorem Snd.f {s s':HL} {R:Rt.MS} (h:Snd false s R) (hr:RfP (PhP false s) s'.abs):Snd false s' R:=⟨hr.mono fun _ h=>h.f,h.2.mono fun _ h=>h.f⟩
theorem Snd.up {ph:Bool} {s:HL} {R:Rt.MS} (h:Snd false s R):Snd ph s R:=⟨h.1.mono fun _ h=>.inl (h.elim id fun h=>by cases h.1),h.2.mono fun _ h=>.inl (h.elim id fun h=>by cases h.1)⟩
theorem atS_ph (s:HL) (n:Nat):PhP true s (atS s n):=by
 unfold atS
 split
 ·exact .inl rfl
 ·rename_i h0
  have hlt:n%s.objs.length<s.objs.length:=Nat.mod_lt _ (by omega)
  exact .inr ⟨rfl,_,rfl,mem_objs.1 (show s.objs.getD (n%s.objs.length) 0∈s.objs by simp[hlt])⟩
theorem rootsSet_P {P:Int→Prop} {R R':Rt.MS} {p:Rt.PT} {y:Int} (e:rootsSet R p y=some R') (hR:RtP P R) (hy:P y):RtP P R':=by
 unfold rootsSet at e
 split at e
 ·unfold Rt.pushO at e
  simp only at e
  split at e
  ·cases e;exact hR
  ·split at e
   ·cases e;exact hR
   ·cases e
    exact⟨hR.1,hR.2.1,fun x hx=>(List.mem_append.1 hx).elim (hR.2.2 x) fun h=>by simp only[List.mem_singleton]at h;rw[h];exact hy⟩
 ·unfold Rt.setO at e
  simp only at e
  split at e
  ·cases e;exact hR
  ·rename_i q _
   split at e
   ·cases e;exact hR
   ·cases e
    have key: ∀ {l:List Int} {i:Nat},(∀x,x∈l→P x)→ ∀x,x∈l.set i y→P x:=fun h x hx=>(List.mem_or_eq_of_mem_set hx).elim (h x) fun e=>e▸hy
    unfold Rt.MS.wr
    split
    ·exact⟨key hR.1,hR.2⟩
    ·exact⟨hR.1,key hR.2.1,hR.2.2⟩
    ·exact⟨hR.1,hR.2.1,key hR.2.2⟩
def ItR {α:Type} (P:α→Prop) (T:Nat→α→α→Prop):Nat→α→Prop
 |0=>P
 |i+1=>fun y=> ∃x,ItR P T i x∧T i x y
theorem ItR.uniq {α:Type} {P:α→Prop} {T:Nat→α→α→Prop} (h0: ∀x y,P x→P y→x=y) (hT: ∀i x y z,T i x y→T i x z→y=z): ∀n x y,ItR P T n x→ItR P T n y→x=y
 |0,x,y,h,h'=>h0 x y h h'
 |n+1,x,y,⟨u,h1,h2⟩,⟨v,h3,h4⟩=>by
  obtain rfl:=ItR.uniq h0 hT n u v h1 h3
  exact hT n u x y h2 h4
abbrev HS:=HL×Rt.MS
def NewR (g:BG) (x:HS):Prop:=newH ((2+g.bl%23:Nat):Int)=some x.1∧Rt.newO ((1+g.mu%4:Nat):Int)=some x.2
def TO (g:BG) (i:Nat) (x y:HS):Prop:=PlaceU x.1 (shapeB (g.fO i 0) (g.fO i 1) (g.fO i 2)) ((g.fO i 3%3:Nat):Int) y.1∧y.2=x.2
def TD (g:BG) (i:Nat) (x y:HS):Prop:=killM (some x.1) (atS x.1 (g.fD i 0%100))=some y.1∧y.2=x.2
def TL (g:BG) (i:Nat) (x y:HS):Prop:=(if(x.1.abs.shapeR (atS x.1 (g.fL i 0%100))).2=0∧0<(x.1.abs.shapeR (atS x.1 (g.fL i 0%100))).1.1 then setRefM (some x.1) (atS x.1 (g.fL i 0%100)) (((g.fL i 1:Nat):Int).tmod (x.1.abs.shapeR (atS x.1 (g.fL i 0%100))).1.1) (atS x.1 (g.fL i 2%100))=some y.1 else y.1=x.1)∧y.2=x.2
def TP (g:BG) (i:Nat) (x y:HS):Prop:=rootsSet x.2 (whereP x.2 (g.fP i 0)) (atS x.1 (g.fP i 1%100))=some y.2∧y.1=x.1
def TN (g:BG) (i:Nat) (x y:HS):Prop:=pinM (some x.1) (atS x.1 (g.fN i 0%100)) 1=some y.1∧y.2=x.2
def Op1 (g:BG):Nat→HS→Prop:=ItR (NewR g) (TO g)
def Op2 (g:BG):Nat→HS→Prop:=ItR (Op1 g (min g.nO 40)) (TD g)
def Op3 (g:BG):Nat→HS→Prop:=ItR (Op2 g (min g.nD 20)) (TL g)
def Op4 (g:BG):Nat→HS→Prop:=ItR (Op3 g (min g.nL 120)) (TP g)
def Op5 (g:BG):Nat→HS→Prop:=ItR (Op4 g (min g.nP 20)) (TN g)
def OpenR (g:BG):HS→Prop:=Op5 g (min g.nN 8)
theorem OpenR.uniq {g:BG} {x y:HS} (h:OpenR g x) (h':OpenR g y):x=y:=by
 have some2: ∀ {α:Type} {o:Option α} {a b:α},o=some a→o=some b→a=b:=fun h1 h2=>Option.some.inj (h1.symm.trans h2)
 refine ItR.uniq (ItR.uniq (ItR.uniq (ItR.uniq (ItR.uniq ?_ ?_ _) ?_ _) ?_ _) ?_ _) ?_ _ x y h h'
 ·exact fun x y h h'=>Prod.ext (some2 h.1 h'.1) (some2 h.2 h'.2)
 ·exact fun i x y z h h'=>Prod.ext (h.1.uniq h'.1) (h.2.trans h'.2.symm)
 ·exact fun i x y z h h'=>Prod.ext (some2 h.1 h'.1) (h.2.trans h'.2.symm)
 ·intro i x y z h h'
  unfold TL at h h'
  refine Prod.ext ?_ (h.2.trans h'.2.symm)
  have h1:=h.1
  have h2:=h'.1
  split at h1
  ·rename_i c;rw[if_pos c]at h2;exact some2 h1 h2
  ·rename_i c;rw[if_neg c]at h2;exact h1.trans h2.symm
 ·exact fun i x y z h h'=>Prod.ext (h.2.trans h'.2.symm) (some2 h.1 h'.1)
 ·exact fun i x y z h h'=>Prod.ext (some2 h.1 h'.1) (h.2.trans h'.2.symm)
def OpI (w1 w:World) (b n nb:Nat) (ph:Bool) (Q:HS→Prop):Prop:= ∃s R fp,SC w b s R fp∧(∀x,x∈fp→w1.heap.size≤x)∧Only [] w1 w∧Sz s n nb∧Snd ph s R∧Q (s,R)
theorem OpI.mono {w1 w:World} {b n m nb:Nat} {ph:Bool} {Q:HS→Prop} (h:OpI w1 w b n nb ph Q) (hm:n≤m):OpI w1 w b m nb ph Q:=by
 obtain⟨s,R,fp,h1,h2,h3,h4,h5⟩:=h
 exact⟨s,R,fp,h1,h2,h3,h4.mono hm,h5⟩
theorem OpI.up {w1 w:World} {b n nb:Nat} {ph:Bool} {Q:HS→Prop} (h:OpI w1 w b n nb false Q):OpI w1 w b n nb ph Q:=by
 obtain⟨s,R,fp,h1,h2,h3,h4,h5⟩:=h
 exact⟨s,R,fp,h1,h2,h3,h4,h5.1.up,h5.2⟩
theorem OpI.keep0 {w1 w w':World} {b n nb:Nat} {ph:Bool} {Q:HS→Prop} (h:OpI w1 w b n nb ph Q) (o:Only [] w w'):OpI w1 w' b n nb ph Q:=by
 obtain⟨s,R,fp,⟨hb,rb,qb,kb,fh,fr,ff,fk,e,h1⟩,h2,h3,h4⟩:=h
 exact⟨s,R,fp,⟨hb,rb,qb,kb,fh,fr,ff,fk,e,h1.keep0 o⟩,h2,h3.nil o,h4⟩
theorem OpI.next {w1 w w':World} {b n nb:Nat} {ph:Bool} {Q:HS→Prop} {hb rb qb kb:Nat} {s':HL} {R':Rt.MS} {fh fr ff fk fh' fr' ff' fk':List Nat} (h2: ∀x,x∈b::(fh++(fr++(ff++fk)))→w1.heap.size≤x) (h3:Only [] w1 w) (h:SCs w' b hb rb qb kb s' R' fh' fr' ff' fk')
  (o:Only (b::(fh++(fr++(ff++fk)))) w w') (hn: ∀x,x∈b::(fh'++(fr'++(ff'++fk')))→x∈b::(fh++(fr++(ff++fk)))∨w.heap.size≤x) (hz:Sz s' n nb) (hd:Snd ph s' R') (hQ:Q (s',R')):OpI w1 w' b n nb ph Q:=
 ⟨s',R',_,⟨hb,rb,qb,kb,fh',fr',ff',fk',rfl,h⟩,fun x hx=>(hn x hx).elim (h2 x) fun h=>by have:=h3.size;omega,h3.trans o fun x hx=>.inr (h2 x hx),hz,hd,hQ⟩
theorem oPlace {w1 w:World} {b m nb:Nat} {Q:HS→Prop} (h:OpI w1 w b m nb false Q) (sh:Sh) (hv:validS sh=true) (sp:Int) (hm:m≤1000):Cs Tryz.prog 90 [.pointer (some ⟨b,0,none⟩),.agg ⟨shV sh⟩,.int .i64 sp] w fun v w'=>v=.bool true∧OpI w1 w' b (m+1) nb false (fun y=> ∃x,Q x∧PlaceU x.1 sh sp y.1∧y.2=x.2)∧ ∃S,(∀x,x∈S→w1.heap.size≤x)∧Only S w w':=by
 obtain⟨s,R,fp,⟨hb,rb,qb,kb,fh,fr,ff,fk,rfl,h1⟩,h2,h3,h4,h5⟩:=h
 refine(cPlace h1 sh hv sp (by have:=h4.1;omega) (by have:=h4.2.1;omega)).mono ?_
 rintro v w' ⟨rfl,s',ff',⟨e1,eu⟩,e2,e3,e4⟩
 refine⟨rfl,OpI.next h2 h3 e2 e3 (fun x hx=>?_) (h4.step e1) (h5.1.f (e1.2.2.2.2 _ (.inl rfl) h5.1.1)) ⟨_,h5.2,eu,rfl⟩,_,h2,e3⟩
 simp only[List.mem_cons,List.mem_append]at hx⊢
 rcases hx with hx|hx|hx|hx|hx
 ·simp[hx]
 ·simp[hx]
 ·simp[hx]
 ·rcases e4 x hx with h|h
  ·simp[h]
  ·exact .inr h
 ·simp[hx]
theorem SC.parts {w:World} {b:Nat} {s:HL} {R:Rt.MS} {fp:List Nat} (h:SC w b s R fp): ∃hb rb qb kb fh fr ff fk,fp=b::(fh++(fr++(ff++fk)))∧SCs w b hb rb qb kb s R fh fr ff fk:=h
theorem oSet {w1 w:World} {b m nb:Nat} {s:HL} {R:Rt.MS} {fp:List Nat} {Q:HS→Prop} (h:SC w b s R fp∧(∀x,x∈fp→w1.heap.size≤x)∧Only [] w1 w∧Sz s m nb∧Snd true s R) (n:Nat) (hn:n<100000) (y:Int) (hy:PhP true s y) (hQ: ∀R',rootsSet R (whereP R n) y=some R'→Q (s,R')):Cs Tryz.prog 97 [.pointer (some ⟨b,0,none⟩),.int .i64 (n:Int),.int .i64 y] w fun v w'=>v=.bool true∧OpI w1 w' b m nb true Q∧ ∃S,(∀x,x∈S→w1.heap.size≤x)∧Only S w w':=by
 obtain⟨⟨hb,rb,qb,kb,fh,fr,ff,fk,rfl,h1⟩,h2,h3,h4,h5⟩:=h
 refine(cSet h1 n hn y).mono ?_
 rintro v w' ⟨rfl,R',fr',fk',e1,e2,e3,e4⟩
 exact⟨rfl,OpI.next h2 h3 e2 e3 e4 h4 ⟨h5.1,rootsSet_P e1 h5.2 hy⟩ (hQ _ e1),_,h2,e3⟩
theorem oLink {w1 w:World} {b m nb:Nat} {s:HL} {R:Rt.MS} {fp:List Nat} {Q:HS→Prop} (h:SC w b s R fp∧(∀x,x∈fp→w1.heap.size≤x)∧Only [] w1 w∧Sz s m nb∧Snd true s R) (x i to:Int) (hx:x≤4611686018427387904) (hto:0≤to∧to≤4096) (hy:PhP true s to) (hQ: ∀s',setRefM (some s) x i to=some s'→Q (s',R)):Cs Tryz.prog 96 [.pointer (some ⟨b,0,none⟩),.int .i64 x,.int .i64 i,.int .i64 to] w fun v w'=>v=.bool true∧OpI w1 w' b m nb true Q∧ ∃S,(∀x,x∈S→w1.heap.size≤x)∧Only S w w':=by
 obtain⟨⟨hb,rb,qb,kb,fh,fr,ff,fk,rfl,h1⟩,h2,h3,h4,h5⟩:=h
 refine(cLink h1 x i to hx (by omega)).mono ?_
 rintro v w' ⟨rfl,s',e1,e2,e3⟩
 obtain⟨t,g1,g2,g3,g4,g5,g6⟩:=abs_setRef h1.inv.ok x i to
 have hts:s'=t:=Option.some.inj (e1.symm.trans g1)
 subst hts
 refine⟨rfl,OpI.next h2 h3 e2 e3 (fun x hx=>.inl hx) ⟨by rw[g5];exact h4.1,?_,by rw[g3];exact h4.2.2.1,by rw[g2];exact h4.2.2.2.setRefM _ _ _ hto⟩ (h5.st g4 (by rw[g2];exact h5.1.setRefM _ _ _ hy)) (hQ _ e1),_,h2,e3⟩
 have:HL.objs s'=s.objs:=by unfold HL.objs;rw[g4]
 rw[this];exact h4.2.1
set_option maxHeartbeats 1000000 in
theorem cOpen1 {w:World} {cs:List Value} {g:BG} {vO vD vL vP vN:Value} (h:BegAt w.heap.size w cs g vO vD vL vP vN):Cs Tryz.prog 39 [.agg ⟨cs⟩] w fun v w'=> ∃b,v=.pointer (some ⟨b,0,none⟩)∧OpI w w' b 40 (2+g.bl%23) true (OpenR g):=by
 obtain⟨rfl,l0,l1,hO,hD,hL,hP,hN⟩:=h
 have m23:((g.bl:Int).tmod 23)=((g.bl%23:Nat):Int):=tmodN g.bl 23
 have m4:((g.mu:Int).tmod 4)=((g.mu%4:Nat):Int):=tmodN g.mu 4
 have e1:IntKind.i64.wrap (2+((g.bl%23:Nat):Int))=((2+g.bl%23:Nat):Int):=by rw[IntWalk.i64_in _ (by omega)];omega
 have e2:IntKind.i64.wrap (1+((g.mu%4:Nat):Int))=((1+g.mu%4:Nat):Int):=by rw[IntWalk.i64_in _ (by omega)];omega
 refine enter_law12_Begin_Open rfl ?_
 unfold x_law12_Begin_Open
 (repeat(first|with_reducible(first|refine nx ?_|refine r_6 rfl ?_)|simp only[go_sem]))
 refine boxT fun q w1 hq hs1 hat1 ho1=>?_
 (repeat(first|with_reducible(first|refine nx ?_|refine r_6 rfl ?_)|simp only[go_sem,hat1.cell,hat1.drew.cell,u8V,conv_u8 g.bl l0,conv_u8 g.mu l1,m23,m4,e1,e2]))
 obtain⟨s0,n1,n2,n3,n4,n5⟩:=new_inv (n:=2+g.bl%23) (by omega) (by omega)
 have r1:Rt.newO ((1+g.mu%4:Nat):Int)=some ⟨1+g.mu%4,List.replicate (16*(1+g.mu%4)) 0,List.replicate 16 0,[]⟩:=by
  unfold Rt.newO;rw[if_pos (by omega),Int.toNat_natCast]
 generalize hR0:(⟨1+g.mu%4,List.replicate (16*(1+g.mu%4)) 0,List.replicate 16 0,[]⟩:Rt.MS)=R0 at r1
 have i1:(some s0).isSome=true:=rfl
 have i2:(some R0).isSome=true:=rfl
 refine callT (hNew _ _) ?_
 rintro v w2 ⟨ah,fh,rfl,hh2,_,gh,ho2⟩
 replace ho2:Only [] w1 w2:=(Only.drew [] w1).nil ho2
 replace gh: ∀y,y∈fh→w1.heap.size≤y:=gh
 rw[n1]at hh2⊢
 obtain⟨hb,rfl,hrest⟩:=hh2
 have hh2:HR w2 (some ⟨hb,0,none⟩) fh (some s0):=⟨hb,rfl,hrest⟩
 clear hrest
 (repeat(first|with_reducible(first|refine nx ?_|refine r_6 rfl ?_)|simp only[go_sem,i1]))
 refine callT (Rt.New_m w2 _) ?_
 rintro v w3 ⟨ho3,ar,fr,rfl,hr3,_,gr⟩
 rw[r1]at hr3⊢
 obtain⟨rb,rfl,hrest⟩:=hr3
 have hr3:Rt.PR w3 (some ⟨rb,0,none⟩) fr (some R0):=⟨rb,rfl,hrest⟩
 clear hrest
 (repeat(first|with_reducible(first|refine nx ?_|refine r_6 rfl ?_)|simp only[go_sem,i2,bne_int_false (rfl:(0:Int)=0)]))
 rw[fillL_one rfl rfl,fillL_one rfl rfl]
 (repeat(first|with_reducible(first|refine nx ?_|refine r_6 rfl ?_)|simp only[go_sem]))
 refine boxT fun b w4 hb4 hs4 hat4 ho4=>?_
 (repeat(first|with_reducible(first|refine nx ?_|refine r_6 rfl ?_)|simp only[go_sem]))
 refine callT (fNew w4 _ (by omega) (by omega)) ?_
 rintro v w5 ⟨ho5,qb,ff,rfl,hf5,gf⟩
 rw[Int.toNat_natCast,←n3]at hf5
 have hat5:=hat4.keep0 ho5
 (repeat(first|with_reducible(first|refine nx ?_|refine r_6 rfl ?_)|simp only[go_sem]))
 refine stT hat5 (by simp) rfl fun w6 hs6 hat6 ho6=>?_
 (repeat(first|with_reducible(first|refine nx ?_|refine r_6 rfl ?_)|simp only[go_sem]))
 refine callT (Rt.rNew w6 _) ?_
 rintro v w7 ⟨ho7,ak,fk,rfl,hk7,_,gk⟩
 rw[r1]at hk7⊢
 obtain⟨kb,rfl,hrest⟩:=hk7
 have hk7:Rt.RR w7 (some ⟨kb,0,none⟩) fk (some R0):=⟨kb,rfl,hrest⟩
 clear hrest
 (repeat(first|with_reducible(first|refine nx ?_|refine r_6 rfl ?_)|simp only[go_sem]))
 refine stT (hat6.keep0 ho7) (by simp) rfl fun w8 hs8 hat8 ho8=>?_
 simp only[List.set_cons_zero,List.set_cons_succ]at hat8
 have z1:=ho1.size;have z2:=ho2.size;have z3:=ho3.size;have z4:=ho4.size;have z5:=ho5.size;have z6:=ho6.size;have z7:=ho7.size;have z8:=ho8.size
 have lh:=hh2.lt;have lr:=hr3.lt;have lf:=hf5.lt;have lk:=hk7.lt
 have oh:Only [b] w2 w8:=((((((ho3.nil ho4).nil ho5).of_nil (T:=[b])).same ho6).nil ho7).same ho8)
 have or:Only [b] w3 w8:=(((((ho4.nil ho5).of_nil (T:=[b])).same ho6).nil ho7).same ho8)
 have of:Only [b] w5 w8:=(ho6.nil ho7).same ho8
 have nh:b∉fh:=fun hx=>by have:=lh b hx;omega
 have nr:b∉fr:=fun hx=>by have:=lr b hx;omega
 have nf:b∉ff:=fun hx=>by have:=gf b hx;omega
 have nk:b∉fk:=fun hx=>by have:=gk b hx;omega
 have hsc:SCs w8 b hb rb qb kb s0 R0 fh fr ff fk:=⟨hat8,n2,hh2.keep oh (fun x hx=>off1 (fun e=>nh (e▸hx))),hr3.keep or (fun x hx=>off1 (fun e=>nr (e▸hx))),hf5.keep of (fun x hx=>off1 (fun e=>nf (e▸hx))),hk7.keep ho8 (fun x hx=>off1 (fun e=>nk (e▸hx))),
  ⟨nh,nr,nf,nk⟩,fun x hx=>⟨fun hy=>by have:=lh x hx;have:=gr x hy;omega,fun hy=>by have:=lh x hx;have:=gf x hy;omega,fun hy=>by have:=lh x hx;have:=gk x hy;omega⟩,fun x hx=>⟨fun hy=>by have:=lr x hx;have:=gf x hy;omega,fun hy=>by have:=lr x hx;have:=gk x hy;omega⟩,fun x hx hy=>by have:=lf x hx;have:=gk x hy;omega⟩
 have o18:Only [] w1 w8:=(ho2.nil ho3).trans ((((ho4.nil ho5).of_nil (T:=[b])).same ho6).nil ho7|>.same ho8) fun x hx=>by simp only[List.mem_singleton]at hx;subst hx;exact .inr (by omega)
 have hI0:OpI w1 w8 b 0 (2+g.bl%23) false (Op1 g 0):=⟨s0,R0,_,⟨hb,rb,qb,kb,fh,fr,ff,fk,rfl,hsc⟩,fun x hx=>by
  simp only[List.mem_cons,List.mem_append]at hx
  rcases hx with rfl|hx|hx|hx|hx
  ·omega
  ·exact gh x hx
  ·have:=gr x hx;omega
  ·have:=gf x hx;omega
  ·have:=gk x hx;omega,o18,⟨by omega,by have:s0.objs.length=s0.abs.O.length:=(abs_len s0).symm;rw[this,n3];exact Nat.le_refl 0,n5,by rw[n3];intro o ho;cases ho⟩,⟨(by rw[n3];intro o ho;cases ho),by rw[←hR0];exact⟨fun x hx=>.inl (List.eq_of_mem_replicate hx),fun x hx=>.inl (List.eq_of_mem_replicate hx),fun x hx=>by cases hx⟩⟩,⟨n1,r1⟩⟩
 generalize hnb:2+g.bl%23=nb at*
 have hq1: ∀w',Only [] w1 w'→At w' q [u8V g.bl,u8V g.mu,vO,vD,vL,vP,vN]:=fun w' o=>hat1.keep0 o
 have kU: ∀ {v:Value} {n sz:Nat} {f:Nat→Nat→Nat},U8At w.heap.size w v n sz f→ ∀w',Only [] w1 w'→U8At w.heap.size w' v n sz f:=fun h w' o=>h.keep (Nat.le_refl _) (ho1.nil o) (by simp)
 have hOp: ∀ {w':World} {n:Nat} {ph:Bool} {Q:HS→Prop},OpI w1 w' b n nb ph Q→Only [] w1 w':=fun h=>by obtain⟨_,_,_,_,_,h,_⟩:=h;exact h
 obtain⟨aO,cO,rfl,bO,_⟩:=id hO
 obtain⟨aD,cD,rfl,bD,_⟩:=id hD
 obtain⟨aL,cL,rfl,bL,_⟩:=id hL
 obtain⟨aP,cP,rfl,bP,_⟩:=id hP
 obtain⟨aN,cN,rfl,bN,_⟩:=id hN
 have hqs:q<w1.heap.size:=by omega
 clear hh2 hr3 hf5 hk7 hsc hat4 hat5 hat6 hat8 oh or of o18 nh nr nf nk lh lr lf lk gh gr gf gk ho2 ho3 ho4 ho5 ho6 ho7 ho8
 simp only[go_sem]
 refine run_seq ?_
 refine run_cut (10::75::76::77::78::79::80::81::82::83::84::85::86::87::88::89::90::91::92::93::94::95::96::97::98::99::100::101::102::[]) (fun _ w'=>OpI w1 w' b 40 nb false (Op1 g (min g.nO 40))) (fun kk hkk=>?_) (fun g1 w9 hI1=>?_)
 ·(repeat(first|with_reducible(first|refine nx ?_|refine r_6 rfl ?_)|simp only[go_sem]))
  refine run_loop (10::75::76::77::78::79::80::81::82::83::84::85::86::87::88::89::90::91::92::93::94::95::96::97::98::99::100::101::102::[]) (fun g' w'=> ∃i:Nat,g' 10=.int .i64 i∧i≤min g.nO 40∧OpI w1 w' b i nb false (Op1 g i)) (fun g' _=>upTo 40 10 g') ⟨0,by simp only[go_sem];rfl,by omega,hI0⟩ fun g' w' hI hnext=>?_
  obtain⟨i,h10,hi40,hI⟩:=hI
  have o':=hOp hI
  have hq':=hq1 w' o'
  have hmin:min g.nO 40≤i→i=min g.nO 40:=fun h=>by omega
  by_cases c1:i<g.nO
  rotate_left
  ·(repeat(first|with_reducible(first|refine nx ?_|refine r_6 rfl ?_)|simp only[go_sem,h10,hq'.cell,decide_eq_false (show¬(i:Int)<(g.nO:Int) by omega)]))
   refine hkk _ w' ?_ (hmin (by omega)▸hI.mono (by omega))
   (repeat(first|with_reducible exact k_1|with_reducible exact Keeps.ovr _ _ _|refine Keeps.put ?_ rfl _|exact k_1|exact Keeps.ovr _ _ _|refine Keeps.ovr2 ?_ rfl _))
  by_cases c2:i<40
  rotate_left
  ·(repeat(first|with_reducible(first|refine nx ?_|refine r_6 rfl ?_)|simp only[go_sem,h10,hq'.cell,decide_eq_true (show(i:Int)<(g.nO:Int) by omega),decide_eq_false (show¬(i:Int)<40 by omega)]))
   refine hkk _ w' ?_ (hmin (by omega)▸hI.mono (by omega))
   (repeat(first|with_reducible exact k_1|with_reducible exact Keeps.ovr _ _ _|refine Keeps.put ?_ rfl _|exact k_1|exact Keeps.ovr _ _ _|refine Keeps.ovr2 ?_ rfl _))
  (repeat(first|with_reducible(first|refine nx ?_|refine r_6 rfl ?_)|simp only[go_sem,h10,hq'.cell,decide_eq_true (show(i:Int)<(g.nO:Int) by omega),decide_eq_true (show(i:Int)<40 by omega)]))
  obtain⟨a',c',e',_,hc'⟩:=kU hO w'.drew (o'.nil (Only.drew [] w'))
  cases e'
  obtain⟨p,rfl,hp1,hp2⟩:=hc' i c1
  refine run_drt [q,p.block] ?_
  have hcs:cellsAt w'.drew (p.add (i*4)) 4=some [u8V (g.fO i 0),u8V (g.fO i 1),u8V (g.fO i 2),u8V (g.fO i 3)]:=cellsAt_fn (fun j=>u8V (g.fO i j)) hp2
  have hc3:w'.drew.cell? ⟨p.block,(p.add (i*4)).off+3,none⟩=some (u8V (g.fO i 3)):=by
   have:=hp2 3 (by omega)
   rw[←add_block p (i*4)];exact this
  have q4:((4:Nat):Int)=4:=rfl
  have t3:Int.toNat 3*1=3:=rfl
  have n1': ∀n,inL [q,p.block] (.pointer (some (p.add n)))=True:=fun n=>by simp[inL,add_block]
  have m3:((g.fO i 3:Nat):Int).tmod 3=((g.fO i 3%3:Nat):Int):=tmodN _ 3
  (repeat(first|with_reducible(first|refine nx ?_|refine r_6 rfl ?_)|simp only[go_sem,h10,hq'.drew.cell,if_pos (show(0:Int)≤(i:Int)∧(i:Int)<(g.nO:Int) by omega),Int.toNat_natCast,hcs,q4,t3,add_block,hc3,n1',u8V,conv_u8 (g.fO i 3) (bO i 3),m3]))
  have h1d:OpI w1 w'.drew b i nb false (Op1 g i):=hI.keep0 (Only.drew [] w')
  have hzd:w1.heap.size≤w'.drew.heap.size:=(hOp h1d).size
  have hbl: ∀z,z∈[q,p.block]→z<w1.heap.size:=fun z hz=>by
   simp only[List.mem_cons,List.not_mem_nil,or_false]at hz
   rcases hz with rfl|rfl<;>omega
  refine callS1 (cShape w'.drew _ _ _ (g.fO i 3) (bO i 0) (bO i 1) (bO i 2)) (.inr ⟨SB.refl _ _,fun z hz=>⟨by have:=hbl z hz;omega,by simp⟩⟩) fun w5 ho5=>?_
  (repeat(first|with_reducible(first|refine nx ?_|refine r_6 rfl ?_)|simp only[go_sem]))
  refine callS (oPlace (h1d.keep0 ho5) (shapeB _ _ _) (shapeB_valid _ _ _) _ (by omega)) ?_
  rintro v w6 ⟨rfl,hI6,S,hS,hoS⟩
  refine⟨.inl rfl,?_⟩
  have z1:IntKind.i64.wrap ((i:Int)+1)=((i+1:Nat):Int):=by rw[IntWalk.i64_in _ (by omega)];omega
  (repeat(first|with_reducible(first|refine nx ?_|refine r_6 rfl ?_)|simp only[go_sem,h10,z1]))
  refine hnext _ w6 ?_ ⟨i+1,?_,by omega,hI6⟩ ?_
  ·(repeat(first|with_reducible exact k_1|with_reducible exact Keeps.ovr _ _ _|refine Keeps.put ?_ rfl _|exact k_1|exact Keeps.ovr _ _ _|refine Keeps.ovr2 ?_ rfl _))
  ·simp only[go_sem]
  ·rw[upTo_int (i:=i) h10,upTo_int (k:=.i64) (i:=i+1) (by simp only[go_sem])];omega
 refine run_seq ?_
 refine run_cut (11::12::103::104::105::106::107::108::109::110::111::112::113::114::115::116::117::118::119::120::121::122::123::124::125::126::127::128::129::130::131::132::133::134::135::[]) (fun _ w'=>OpI w1 w' b 40 nb false (Op2 g (min g.nD 20))) (fun kk hkk=>?_) (fun g2 w10 hI2=>?_)
 ·(repeat(first|with_reducible(first|refine nx ?_|refine r_6 rfl ?_)|simp only[go_sem]))
  refine run_loop (11::12::103::104::105::106::107::108::109::110::111::112::113::114::115::116::117::118::119::120::121::122::123::124::125::126::127::128::129::130::131::132::133::134::135::[]) (fun g' w'=> ∃i:Nat,g' 11=.int .i64 i∧i≤min g.nD 20∧OpI w1 w' b 40 nb false (Op2 g i)) (fun g' _=>upTo 20 11 g') ⟨0,by simp only[go_sem];rfl,by omega,hI1⟩ fun g' w' hI hnext=>?_
  obtain⟨i,h10,hi40,hI⟩:=hI
  have o':=hOp hI
  have hq':=hq1 w' o'
  have hmin:min g.nD 20≤i→i=min g.nD 20:=fun h=>by omega
  by_cases c1:i<g.nD
  rotate_left
  ·(repeat(first|with_reducible(first|refine nx ?_|refine r_6 rfl ?_)|simp only[go_sem,h10,hq'.cell,decide_eq_false (show¬(i:Int)<(g.nD:Int) by omega)]))
   refine hkk _ w' ?_ (hmin (by omega)▸hI)
   (repeat(first|with_reducible exact k_1|with_reducible exact Keeps.ovr _ _ _|refine Keeps.put ?_ rfl _|exact k_1|exact Keeps.ovr _ _ _|refine Keeps.ovr2 ?_ rfl _))
  by_cases c2:i<20
  rotate_left
  ·(repeat(first|with_reducible(first|refine nx ?_|refine r_6 rfl ?_)|simp only[go_sem,h10,hq'.cell,decide_eq_true (show(i:Int)<(g.nD:Int) by omega),decide_eq_false (show¬(i:Int)<20 by omega)]))
   refine hkk _ w' ?_ (hmin (by omega)▸hI)
   (repeat(first|with_reducible exact k_1|with_reducible exact Keeps.ovr _ _ _|refine Keeps.put ?_ rfl _|exact k_1|exact Keeps.ovr _ _ _|refine Keeps.ovr2 ?_ rfl _))
  have ci:(0:Int)≤(i:Int)∧(i:Int)<(g.nD:Int):=by omega
  have z1:IntKind.i64.wrap ((i:Int)+1)=((i+1:Nat):Int):=by rw[IntWalk.i64_in _ (by omega)];omega
  obtain⟨a',c',e',_,hc'⟩:=kU hD w' o'
  cases e'
  obtain⟨p,rfl,hp1,hp2⟩:=hc' i c1
  have m100:((g.fD i 0:Nat):Int).tmod 100=((g.fD i 0%100:Nat):Int):=tmodN _ 100
  have hc0:w'.cell? (p.add i)=some (u8V (g.fD i 0)):=by
   have:=hp2 0 (by omega)
   rw[Nat.mul_one]at this
   exact this
  (repeat(first|with_reducible(first|refine nx ?_|refine r_6 rfl ?_)|simp only[go_sem,h10,hq'.cell,decide_eq_true (show(i:Int)<(g.nD:Int) by omega),decide_eq_true (show(i:Int)<20 by omega),if_pos ci,Int.toNat_natCast,Nat.mul_one,hc0,u8V,conv_u8 (g.fD i 0) (bD i 0),m100]))
  obtain⟨s,R,fp,⟨hb',rb',qb',kb',fh',fr',ff',fk',rfl,h1⟩,h2,h3,h4,h4s,hQ⟩:=hI
  refine callT (cAt h1 (g.fD i 0%100) (by omega)) ?_
  rintro v w5 ⟨rfl,ho5⟩
  obtain⟨y0,y1⟩:=atS_le h1.inv.ok (g.fD i 0%100)
  obtain⟨y,hy⟩: ∃y,y=atS s (g.fD i 0%100):=⟨_,rfl⟩
  rw[←hy]at y0 y1⊢
  replace h1:=h1.keep0 ho5
  replace h3:=h3.nil ho5
  have h1d:=h1.keep0 (Only.drew [] w5)
  (repeat(first|with_reducible(first|refine nx ?_|refine r_6 rfl ?_)|simp only[go_sem]))
  refine run_drt [b] ?_
  (repeat(first|with_reducible(first|refine nx ?_|refine r_6 rfl ?_)|simp only[go_sem,h1d.at_.cell]))
  obtain⟨s',e1,e2,e3,e4,_⟩:=abs_kill h1.inv.ok y
  refine callS (fKill h1d.f y) ?_
  rintro v w6 ⟨rfl,ho6,ff6,hf6,hsub⟩
  refine⟨.inr ((SB.refl _ _).only ho6 fun z hz=>by simp only[List.mem_singleton]at hz;subst hz;exact⟨h1d.at_.lt,h1.d1.2.2.1⟩),?_⟩
  (repeat(first|with_reducible(first|refine nx ?_|refine r_6 rfl ?_)|simp only[go_sem]))
  refine callS (hKill (h1d.h.keep ho6 fun z hz=>(h1.d2 z hz).2.1) y (by omega)) ?_
  rintro v w7 ⟨rfl,hh7,ho7⟩
  refine⟨.inl rfl,?_⟩
  rw[e1]at hh7
  rw[←e2]at hf6
  have g5:=h1d.both (h1.inv.kill e1 (hh7.ok s' rfl)) ho6 hf6 hsub ho7 hh7
  have hz5:Sz s' 40 nb:=⟨by rw[e4];exact h4.1,by have:=h4.2.1;have:=killM_len s.abs y;rw[←e2,abs_len,abs_len]at this;omega,by rw[e3];exact h4.2.2.1,by rw[e2];exact h4.2.2.2.killM _⟩
  have hI7:OpI w1 w7 b 40 nb false (Op2 g (i+1)):=OpI.next h2 h3 g5.1 ((Only.drew _ w5).same g5.2) (fun x hx=>by
   simp only[List.mem_cons,List.mem_append]at hx⊢
   rcases hx with hx|hx|hx|hx|hx
   ·simp[hx]
   ·simp[hx]
   ·simp[hx]
   ·rcases hsub x hx with h|h
    ·simp[h]
    ·exact .inr h
   ·simp[hx]) hz5 (h4s.f (by rw[e2];exact h4s.1.killM _)) ⟨(s,R),hQ,by rw[←hy];exact e1,rfl⟩
  (repeat(first|with_reducible(first|refine nx ?_|refine r_6 rfl ?_)|simp only[go_sem,h10,z1,abs_lacks h1.inv.ok y,bne_int_false (rfl:objE (some s) y=objE (some s) y)]))
  refine hnext _ w7 ?_ ⟨i+1,?_,by omega,hI7⟩ ?_
  ·(repeat(first|with_reducible exact k_1|with_reducible exact Keeps.ovr _ _ _|refine Keeps.put ?_ rfl _|exact k_1|exact Keeps.ovr _ _ _|refine Keeps.ovr2 ?_ rfl _))
  ·simp only[go_sem]
  ·rw[upTo_int (i:=i) h10,upTo_int (k:=.i64) (i:=i+1) (by simp only[go_sem])];omega
 refine run_seq ?_
 refine run_cut (13::14::15::16::17::136::137::138::139::140::141::142::143::144::145::146::147::148::149::150::151::152::153::154::155::156::157::158::159::160::161::162::163::164::165::166::167::168::169::170::171::172::173::174::175::176::177::178::179::180::181::182::183::184::185::186::187::188::189::190::191::[]) (fun _ w'=>OpI w1 w' b 40 nb true (Op3 g (min g.nL 120))) (fun kk hkk=>?_) (fun g3 w11 hI3=>?_)
 ·(repeat(first|with_reducible(first|refine nx ?_|refine r_6 rfl ?_)|simp only[go_sem]))
  refine run_loop (13::14::15::16::17::136::137::138::139::140::141::142::143::144::145::146::147::148::149::150::151::152::153::154::155::156::157::158::159::160::161::162::163::164::165::166::167::168::169::170::171::172::173::174::175::176::177::178::179::180::181::182::183::184::185::186::187::188::189::190::191::[]) (fun g' w'=> ∃i:Nat,g' 13=.int .i64 i∧i≤min g.nL 120∧OpI w1 w' b 40 nb true (Op3 g i)) (fun g' _=>upTo 120 13 g') ⟨0,by simp only[go_sem];rfl,by omega,hI2.up⟩ fun g' w' hI hnext=>?_
  obtain⟨i,h10,hi40,hI⟩:=hI
  have o':=hOp hI
  have hq':=hq1 w' o'
  have hmin:min g.nL 120≤i→i=min g.nL 120:=fun h=>by omega
  by_cases c1:i<g.nL
  rotate_left
  ·(repeat(first|with_reducible(first|refine nx ?_|refine r_6 rfl ?_)|simp only[go_sem,h10,hq'.cell,decide_eq_false (show¬(i:Int)<(g.nL:Int) by omega)]))
   refine hkk _ w' ?_ (hmin (by omega)▸hI)
   (repeat(first|with_reducible exact k_1|with_reducible exact Keeps.ovr _ _ _|refine Keeps.put ?_ rfl _|exact k_1|exact Keeps.ovr _ _ _|refine Keeps.ovr2 ?_ rfl _))
  by_cases c2:i<120
  rotate_left
  ·(repeat(first|with_reducible(first|refine nx ?_|refine r_6 rfl ?_)|simp only[go_sem,h10,hq'.cell,decide_eq_true (show(i:Int)<(g.nL:Int) by omega),decide_eq_false (show¬(i:Int)<120 by omega)]))
   refine hkk _ w' ?_ (hmin (by omega)▸hI)
   (repeat(first|with_reducible exact k_1|with_reducible exact Keeps.ovr _ _ _|refine Keeps.put ?_ rfl _|exact k_1|exact Keeps.ovr _ _ _|refine Keeps.ovr2 ?_ rfl _))
  have ci:(0:Int)≤(i:Int)∧(i:Int)<(g.nL:Int):=by omega
  have z1:IntKind.i64.wrap ((i:Int)+1)=((i+1:Nat):Int):=by rw[IntWalk.i64_in _ (by omega)];omega
  obtain⟨a',c',e',_,hc'⟩:=kU hL w' o'
  cases e'
  obtain⟨p,rfl,hp1,hp2⟩:=hc' i c1
  have m100:((g.fL i 0:Nat):Int).tmod 100=((g.fL i 0%100:Nat):Int):=tmodN _ 100
  have m100b:((g.fL i 2:Nat):Int).tmod 100=((g.fL i 2%100:Nat):Int):=tmodN _ 100
  have q4:((3:Nat):Int)=3:=rfl
  have t0:Int.toNat 0*1=0:=rfl
  have t1:Int.toNat 1*1=1:=rfl
  have t2:Int.toNat 2*1=2:=rfl
  have hcs:cellsAt w' (p.add (i*3)) 3=some [u8V (g.fL i 0),u8V (g.fL i 1),u8V (g.fL i 2)]:=cellsAt_fn (fun j=>u8V (g.fL i j)) hp2
  (repeat(first|with_reducible(first|refine nx ?_|refine r_6 rfl ?_)|simp only[go_sem,h10,hq'.cell,decide_eq_true (show(i:Int)<(g.nL:Int) by omega),decide_eq_true (show(i:Int)<120 by omega),if_pos ci,Int.toNat_natCast,hcs]))
  refine boxT fun x w2' hx hsx hatx hox=>?_
  (repeat(first|with_reducible(first|refine nx ?_|refine r_6 rfl ?_)|simp only[go_sem]))
  refine stNT hatx rfl (by simp) (by simp[oneC,u8V]) fun w3' hsx3 hatx3 hox3=>?_
  have hatx3:At w3' x [u8V (g.fL i 0),u8V (g.fL i 1),u8V (g.fL i 2)]:=hatx3
  have o3:Only [] w' w3':=hox.trans hox3 fun y hy=>by simp only[List.mem_singleton]at hy;subst hy;exact .inr (by omega)
  obtain⟨s,R,fp,⟨hb',rb',qb',kb',fh',fr',ff',fk',rfl,h1⟩,h2,h3,h4,h4s,hQ⟩:=hI.keep0 o3
  (repeat(first|with_reducible(first|refine nx ?_|refine r_6 rfl ?_)|simp only[go_sem,q4,t0,hatx3.cell,u8V,conv_u8 (g.fL i 0) (bL i 0),m100]))
  refine callT (cAt h1 (g.fL i 0%100) (by omega)) ?_
  rintro v w5 ⟨rfl,ho5⟩
  obtain⟨y0,y1⟩:=atS_le h1.inv.ok (g.fL i 0%100)
  obtain⟨y,hy⟩: ∃y,y=atS s (g.fL i 0%100):=⟨_,rfl⟩
  rw[←hy]at y0 y1⊢
  replace h1:=h1.keep0 ho5
  replace h3:=h3.nil ho5
  (repeat(first|with_reducible(first|refine nx ?_|refine r_6 rfl ?_)|simp only[go_sem,h1.at_.cell]))
  refine callT (fShape h1.f y) ?_
  rintro v w6 ⟨rfl,ho6⟩
  obtain⟨⟨sh,er⟩,e⟩: ∃x,x=s.abs.shapeR y:=⟨_,rfl⟩
  rw[←e]
  (repeat(first|with_reducible(first|refine nx ?_|refine r_6 rfl ?_)|simp only[go_sem]))
  refine boxT fun u w7' hu hsu hatu hou=>?_
  (repeat(first|with_reducible(first|refine nx ?_|refine r_6 rfl ?_)|simp only[go_sem]))
  refine stNT (cs:=shV sh) hatu rfl (by simp[shV]) (shV_one _) fun w8' hsu8 hatu8 hou8=>?_
  rw[setL_sh]at hatu8
  have o8:Only [] w5 w8':=ho6.nil (hou.trans hou8 fun y hy=>by simp only[List.mem_singleton]at hy;subst hy;exact .inr (by omega))
  have hx8:At w8' x [u8V (g.fL i 0),u8V (g.fL i 1),u8V (g.fL i 2)]:=(hatx3.keep0 ho5).keep0 o8
  have hu0:w8'.drew.cell? ⟨u,0,none⟩=some (.int .i64 sh.1):=by rw[hatu8.drew.cell];rfl
  have od8:Only [] w5 w8'.drew:=o8.nil (Only.drew [] w8')
  have hscL:=h1.keep0 od8
  have skip: ¬(er=0∧0<sh.1)→OpI w1 w8'.drew b 40 nb true (Op3 g (i+1)):=fun c=>⟨s,R,_,⟨hb',rb',qb',kb',fh',fr',ff',fk',rfl,hscL⟩,h2,h3.nil od8,h4,h4s,(s,R),hQ,by
   show TL g i (s,R) (s,R)
   unfold TL
   simp only
   rw[←hy,←e,if_neg c]
   exact⟨trivial,trivial⟩⟩
  have hlx:=hx8.lt
  have hlu:=hatu8.lt
  (repeat(first|with_reducible(first|refine nx ?_|refine r_6 rfl ?_)|simp only[go_sem]))
  refine run_drt [x,u] ?_
  by_cases ce:er=0
  rotate_left
  ·(repeat(first|with_reducible(first|refine nx ?_|refine r_6 rfl ?_)|simp only[go_sem,beq_int_false ce]))
   (repeat(first|with_reducible(first|refine nx ?_|refine r_6 rfl ?_)|simp only[go_sem,h10,z1]))
   refine hnext _ _ ?_ ⟨i+1,?_,by omega,skip fun h=>ce h.1⟩ ?_
   ·(repeat(first|with_reducible exact k_1|with_reducible exact Keeps.ovr _ _ _|refine Keeps.put ?_ rfl _|exact k_1|exact Keeps.ovr _ _ _|refine Keeps.ovr2 ?_ rfl _))
   ·simp only[go_sem]
   ·rw[upTo_int (i:=i) h10,upTo_int (k:=.i64) (i:=i+1) (by simp only[go_sem])];omega
  by_cases cr:0<sh.1
  rotate_left
  ·(repeat(first|with_reducible(first|refine nx ?_|refine r_6 rfl ?_)|simp only[go_sem,beq_int_true ce,hu0,decide_eq_false cr]))
   (repeat(first|with_reducible(first|refine nx ?_|refine r_6 rfl ?_)|simp only[go_sem,h10,z1]))
   refine hnext _ _ ?_ ⟨i+1,?_,by omega,skip fun h=>cr h.2⟩ ?_
   ·(repeat(first|with_reducible exact k_1|with_reducible exact Keeps.ovr _ _ _|refine Keeps.put ?_ rfl _|exact k_1|exact Keeps.ovr _ _ _|refine Keeps.ovr2 ?_ rfl _))
   ·simp only[go_sem]
   ·rw[upTo_int (i:=i) h10,upTo_int (k:=.i64) (i:=i+1) (by simp only[go_sem])];omega
  (repeat(first|with_reducible(first|refine nx ?_|refine r_6 rfl ?_)|simp only[go_sem,beq_int_true ce,hu0,decide_eq_true cr,q4,t0,t1,t2,hx8.drew.cell,u8V,conv_u8 (g.fL i 1) (bL i 1),conv_u8 (g.fL i 2) (bL i 2),m100b,divO_of (show sh.1≠0 by omega) (.int .i64 (((g.fL i 1:Nat):Int).tmod sh.1))]))
  refine callS (cAt hscL (g.fL i 2%100) (by omega)) ?_
  rintro v w9' ⟨rfl,ho9⟩
  obtain⟨t0',t1'⟩:=atS_le hscL.inv.ok (g.fL i 2%100)
  refine⟨.inr ((SB.refl _ _).only ho9 fun z hz=>⟨by
   simp only[List.mem_cons,List.not_mem_nil,or_false]at hz
   rcases hz with rfl|rfl
   ·exact hlx
   ·exact hlu,by simp⟩),?_⟩
  (repeat(first|with_reducible(first|refine nx ?_|refine r_6 rfl ?_)|simp only[go_sem]))
  refine callS (oLink (Q:=Op3 g (i+1)) ⟨⟨hb',rb',qb',kb',fh',fr',ff',fk',rfl,hscL.keep0 ho9⟩,h2,(h3.nil od8).nil ho9,h4,h4s⟩ y _ (atS s (g.fL i 2%100)) (by omega) ⟨t0',t1'⟩ (atS_ph _ _) fun s' es=>⟨(s,R),hQ,by
   show TL g i (s,R) (s',R)
   unfold TL
   simp only
   rw[←hy,←e,if_pos ⟨ce,cr⟩]
   exact⟨es,trivial⟩⟩) ?_
  rintro v wA ⟨rfl,hIA,S,hS,hoS⟩
  refine⟨.inl rfl,?_⟩
  (repeat(first|with_reducible(first|refine nx ?_|refine r_6 rfl ?_)|simp only[go_sem]))
  (repeat(first|with_reducible(first|refine nx ?_|refine r_6 rfl ?_)|simp only[go_sem,h10,z1]))
  refine hnext _ _ ?_ ⟨i+1,?_,by omega,hIA⟩ ?_
  ·(repeat(first|with_reducible exact k_1|with_reducible exact Keeps.ovr _ _ _|refine Keeps.put ?_ rfl _|exact k_1|exact Keeps.ovr _ _ _|refine Keeps.ovr2 ?_ rfl _))
  ·simp only[go_sem]
  ·rw[upTo_int (i:=i) h10,upTo_int (k:=.i64) (i:=i+1) (by simp only[go_sem])];omega
 refine run_seq ?_
 refine run_cut (18::192::193::194::195::196::197::198::199::200::201::202::203::204::205::206::207::208::209::210::211::212::213::214::215::216::217::218::219::220::221::222::[]) (fun _ w'=>OpI w1 w' b 40 nb true (Op4 g (min g.nP 20))) (fun kk hkk=>?_) (fun g4 w12 hI4=>?_)
 ·(repeat(first|with_reducible(first|refine nx ?_|refine r_6 rfl ?_)|simp only[go_sem]))
  refine run_loop (18::192::193::194::195::196::197::198::199::200::201::202::203::204::205::206::207::208::209::210::211::212::213::214::215::216::217::218::219::220::221::222::[]) (fun g' w'=> ∃i:Nat,g' 18=.int .i64 i∧i≤min g.nP 20∧OpI w1 w' b 40 nb true (Op4 g i)) (fun g' _=>upTo 20 18 g') ⟨0,by simp only[go_sem];rfl,by omega,hI3⟩ fun g' w' hI hnext=>?_
  obtain⟨i,h10,hi40,hI⟩:=hI
  have o':=hOp hI
  have hq':=hq1 w' o'
  have hmin:min g.nP 20≤i→i=min g.nP 20:=fun h=>by omega
  by_cases c1:i<g.nP
  rotate_left
  ·(repeat(first|with_reducible(first|refine nx ?_|refine r_6 rfl ?_)|simp only[go_sem,h10,hq'.cell,decide_eq_false (show¬(i:Int)<(g.nP:Int) by omega)]))
   refine hkk _ w' ?_ (hmin (by omega)▸hI)
   (repeat(first|with_reducible exact k_1|with_reducible exact Keeps.ovr _ _ _|refine Keeps.put ?_ rfl _|exact k_1|exact Keeps.ovr _ _ _|refine Keeps.ovr2 ?_ rfl _))
  by_cases c2:i<20
  rotate_left
  ·(repeat(first|with_reducible(first|refine nx ?_|refine r_6 rfl ?_)|simp only[go_sem,h10,hq'.cell,decide_eq_true (show(i:Int)<(g.nP:Int) by omega),decide_eq_false (show¬(i:Int)<20 by omega)]))
   refine hkk _ w' ?_ (hmin (by omega)▸hI)
   (repeat(first|with_reducible exact k_1|with_reducible exact Keeps.ovr _ _ _|refine Keeps.put ?_ rfl _|exact k_1|exact Keeps.ovr _ _ _|refine Keeps.ovr2 ?_ rfl _))
  have ci:(0:Int)≤(i:Int)∧(i:Int)<(g.nP:Int):=by omega
  have z1:IntKind.i64.wrap ((i:Int)+1)=((i+1:Nat):Int):=by rw[IntWalk.i64_in _ (by omega)];omega
  obtain⟨a',c',e',_,hc'⟩:=kU hP w' o'
  cases e'
  obtain⟨p,rfl,hp1,hp2⟩:=hc' i c1
  (repeat(first|with_reducible(first|refine nx ?_|refine r_6 rfl ?_)|simp only[go_sem,h10,hq'.cell,decide_eq_true (show(i:Int)<(g.nP:Int) by omega),decide_eq_true (show(i:Int)<20 by omega)]))
  have q4:((2:Nat):Int)=2:=rfl
  have t0:Int.toNat 0*1=0:=rfl
  have t1:Int.toNat 1*1=1:=rfl
  have ta:(p.add (i*2)).add 0=p.add (i*2):=rfl
  have m100:((g.fP i 1:Nat):Int).tmod 100=((g.fP i 1%100:Nat):Int):=tmodN _ 100
  have hc0:w'.drew.cell? (p.add (i*2))=some (u8V (g.fP i 0)):=hp2 0 (by omega)
  have hc1:w'.drew.cell? ⟨p.block,(p.add (i*2)).off+1,none⟩=some (u8V (g.fP i 1)):=by
   have:w'.drew.cell? _=_:=hp2 1 (by omega)
   rw[←add_block p (i*2)];exact this
  have n1': ∀n,inL [q,p.block] (.pointer (some (p.add n)))=True:=fun n=>by simp[inL,add_block]
  have hId:=hI.keep0 (Only.drew [] w')
  have hzd:w1.heap.size≤w'.drew.heap.size:=(hOp hId).size
  have hbl: ∀z,z∈[q,p.block]→z<w1.heap.size:=fun z hz=>by
   simp only[List.mem_cons,List.not_mem_nil,or_false]at hz
   rcases hz with rfl|rfl<;>omega
  refine run_drt [q,p.block] ?_
  (repeat(first|with_reducible(first|refine nx ?_|refine r_6 rfl ?_)|simp only[go_sem,h10,hq'.drew.cell,if_pos ci,Int.toNat_natCast,q4,t0,t1,ta,add_block,n1',hc0,hc1,u8V,conv_u8 (g.fP i 0) (bP i 0),conv_u8 (g.fP i 1) (bP i 1),m100]))
  obtain⟨sL,RL',fpL,⟨hbL,rbL,qbL,kbL,fhL,frL,ffL,fkL,eL,hscL⟩,hgeL,hoL,hszL,hsnL,hQ⟩:=hId
  refine callS (cAt hscL (g.fP i 1%100) (by omega)) ?_
  rintro v w5 ⟨rfl,ho5⟩
  refine⟨.inr ((SB.refl _ _).only ho5 fun z hz=>⟨by have:=hbl z hz;omega,by simp⟩),?_⟩
  (repeat(first|with_reducible(first|refine nx ?_|refine r_6 rfl ?_)|simp only[go_sem]))
  refine callS (oSet (Q:=Op4 g (i+1)) ⟨⟨hbL,rbL,qbL,kbL,fhL,frL,ffL,fkL,eL,hscL.keep0 ho5⟩,hgeL,hoL.nil ho5,hszL,hsnL⟩ (g.fP i 0) (by have:=bP i 0;omega) (atS sL (g.fP i 1%100)) (atS_ph _ _) fun R' er=>⟨(sL,RL'),hQ,er,rfl⟩) ?_
  rintro v w7 ⟨rfl,hI7,S,hS,hoS⟩
  refine⟨.inl rfl,?_⟩
  (repeat(first|with_reducible(first|refine nx ?_|refine r_6 rfl ?_)|simp only[go_sem,h10,z1]))
  refine hnext _ w7 ?_ ⟨i+1,?_,by omega,hI7⟩ ?_
  ·(repeat(first|with_reducible exact k_1|with_reducible exact Keeps.ovr _ _ _|refine Keeps.put ?_ rfl _|exact k_1|exact Keeps.ovr _ _ _|refine Keeps.ovr2 ?_ rfl _))
  ·simp only[go_sem]
  ·rw[upTo_int (i:=i) h10,upTo_int (k:=.i64) (i:=i+1) (by simp only[go_sem])];omega
 refine run_seq ?_
 refine run_cut (19::20::223::224::225::226::227::228::229::230::231::232::233::234::235::236::237::238::239::240::241::242::243::244::245::246::247::248::249::250::251::252::253::254::255::[]) (fun _ w'=>OpI w1 w' b 40 nb true (Op5 g (min g.nN 8))) (fun kk hkk=>?_) (fun g5 w13 hI5=>?_)
 ·(repeat(first|with_reducible(first|refine nx ?_|refine r_6 rfl ?_)|simp only[go_sem]))
  refine run_loop (19::20::223::224::225::226::227::228::229::230::231::232::233::234::235::236::237::238::239::240::241::242::243::244::245::246::247::248::249::250::251::252::253::254::255::[]) (fun g' w'=> ∃i:Nat,g' 19=.int .i64 i∧i≤min g.nN 8∧OpI w1 w' b 40 nb true (Op5 g i)) (fun g' _=>upTo 8 19 g') ⟨0,by simp only[go_sem];rfl,by omega,hI4⟩ fun g' w' hI hnext=>?_
  obtain⟨i,h10,hi40,hI⟩:=hI
  have o':=hOp hI
  have hq':=hq1 w' o'
  have hmin:min g.nN 8≤i→i=min g.nN 8:=fun h=>by omega
  by_cases c1:i<g.nN
  rotate_left
  ·(repeat(first|with_reducible(first|refine nx ?_|refine r_6 rfl ?_)|simp only[go_sem,h10,hq'.cell,decide_eq_false (show¬(i:Int)<(g.nN:Int) by omega)]))
   refine hkk _ w' ?_ (hmin (by omega)▸hI)
   (repeat(first|with_reducible exact k_1|with_reducible exact Keeps.ovr _ _ _|refine Keeps.put ?_ rfl _|exact k_1|exact Keeps.ovr _ _ _|refine Keeps.ovr2 ?_ rfl _))
  by_cases c2:i<8
  rotate_left
  ·(repeat(first|with_reducible(first|refine nx ?_|refine r_6 rfl ?_)|simp only[go_sem,h10,hq'.cell,decide_eq_true (show(i:Int)<(g.nN:Int) by omega),decide_eq_false (show¬(i:Int)<8 by omega)]))
   refine hkk _ w' ?_ (hmin (by omega)▸hI)
   (repeat(first|with_reducible exact k_1|with_reducible exact Keeps.ovr _ _ _|refine Keeps.put ?_ rfl _|exact k_1|exact Keeps.ovr _ _ _|refine Keeps.ovr2 ?_ rfl _))
  have ci:(0:Int)≤(i:Int)∧(i:Int)<(g.nN:Int):=by omega
  have z1:IntKind.i64.wrap ((i:Int)+1)=((i+1:Nat):Int):=by rw[IntWalk.i64_in _ (by omega)];omega
  obtain⟨a',c',e',_,hc'⟩:=kU hN w' o'
  cases e'
  obtain⟨p,rfl,hp1,hp2⟩:=hc' i c1
  have m100:((g.fN i 0:Nat):Int).tmod 100=((g.fN i 0%100:Nat):Int):=tmodN _ 100
  have hc0:w'.cell? (p.add i)=some (u8V (g.fN i 0)):=by
   have:=hp2 0 (by omega)
   rw[Nat.mul_one]at this
   exact this
  (repeat(first|with_reducible(first|refine nx ?_|refine r_6 rfl ?_)|simp only[go_sem,h10,hq'.cell,decide_eq_true (show(i:Int)<(g.nN:Int) by omega),decide_eq_true (show(i:Int)<8 by omega),if_pos ci,Int.toNat_natCast,Nat.mul_one,hc0,u8V,conv_u8 (g.fN i 0) (bN i 0),m100]))
  obtain⟨s,R,fp,⟨hb',rb',qb',kb',fh',fr',ff',fk',rfl,h1⟩,h2,h3,h4,h4s,hQ⟩:=hI
  refine callT (cAt h1 (g.fN i 0%100) (by omega)) ?_
  rintro v w5 ⟨rfl,ho5⟩
  obtain⟨y0,y1⟩:=atS_le h1.inv.ok (g.fN i 0%100)
  obtain⟨y,hy⟩: ∃y,y=atS s (g.fN i 0%100):=⟨_,rfl⟩
  rw[←hy]at y0 y1⊢
  replace h1:=h1.keep0 ho5
  replace h3:=h3.nil ho5
  have h1d:=h1.keep0 (Only.drew [] w5)
  (repeat(first|with_reducible(first|refine nx ?_|refine r_6 rfl ?_)|simp only[go_sem]))
  refine run_drt [b] ?_
  (repeat(first|with_reducible(first|refine nx ?_|refine r_6 rfl ?_)|simp only[go_sem,h1d.at_.cell]))
  obtain⟨s',e1,e2,e3,_,e5,e6,e7⟩:=abs_pin h1.inv.ok y 1 (by omega)
  have hst:HL.objs s'=s.objs:=by unfold HL.objs;rw[e5]
  refine callS (fPin h1d.f y) ?_
  rintro v w6 ⟨rfl,hf6,ho6⟩
  refine⟨.inr ((SB.refl _ _).only ho6 fun z hz=>by simp only[List.mem_singleton]at hz;subst hz;exact⟨h1d.at_.lt,h1.d1.2.2.1⟩),?_⟩
  (repeat(first|with_reducible(first|refine nx ?_|refine r_6 rfl ?_)|simp only[go_sem]))
  refine callS (hPin (h1d.h.keep ho6 fun z hz=>(h1.d2 z hz).2.1) y (by omega)) ?_
  rintro v w7 ⟨rfl,hh7,ho7⟩
  refine⟨.inl rfl,?_⟩
  rw[e1]at hh7
  rw[show s.abs.pinM y true=s'.abs from e2.symm]at hf6
  have g5:=h1d.both (h1.inv.pin e1 (hh7.ok s' rfl) e7) ho6 hf6 (fun x hx=>.inl hx) ho7 hh7
  have hI7:OpI w1 w7 b 40 nb true (Op5 g (i+1)):=OpI.next h2 h3 g5.1 ((Only.drew _ w5).same g5.2) (fun x hx=>.inl hx) ⟨by rw[e6];exact h4.1,by rw[hst];exact h4.2.1,by rw[e3];exact h4.2.2.1,by rw[e2];exact h4.2.2.2.pinM _ _⟩ (h4s.st e5 (by rw[e2];exact h4s.1.pinM _ _)) ⟨(s,R),hQ,by rw[←hy];exact e1,rfl⟩
  (repeat(first|with_reducible(first|refine nx ?_|refine r_6 rfl ?_)|simp only[go_sem,h10,z1,abs_lacks h1.inv.ok y,bne_int_false (rfl:objE (some s) y=objE (some s) y)]))
  refine hnext _ w7 ?_ ⟨i+1,?_,by omega,hI7⟩ ?_
  ·(repeat(first|with_reducible exact k_1|with_reducible exact Keeps.ovr _ _ _|refine Keeps.put ?_ rfl _|exact k_1|exact Keeps.ovr _ _ _|refine Keeps.ovr2 ?_ rfl _))
  ·simp only[go_sem]
  ·rw[upTo_int (i:=i) h10,upTo_int (k:=.i64) (i:=i+1) (by simp only[go_sem])];omega
 (repeat(first|with_reducible(first|refine nx ?_|refine r_6 rfl ?_)|simp only[go_sem]))
 obtain⟨s,R,fp,h1,h2,h3,h4,h5⟩:=hI5
 exact⟨b,rfl,s,R,fp,h1,fun x hx=>by have:=h2 x hx;omega,ho1.nil h3,h4,h5⟩
end Go.Proofs.YtgcofabdialaaaaGreat
end
section
namespace Go.Proofs.YtgcofabdialaaaaGreat
set_option maxRecDepth 8000
abbrev It:=Nat×Nat×Nat×Bool
def stepS (s0:HL) (it:It) (st:HL×BS):HL×BS:=
 if(shapeO (some st.1) (atS s0 (it.1%100))).2=0∧(shapeO (some st.1) (atS s0 (it.1%100))).1.1≠0 then
  match setRefM (some st.1) (atS s0 (it.1%100)) ((it.2.1%(shapeO (some st.1) (atS s0 (it.1%100))).1.1.toNat:Nat):Int) (if 200≤it.2.2.1 then 0 else atS s0 (it.2.2.1%100))with
  |some s'=>(s',st.2.note (some s') (atS s0 (it.1%100)).toNat (it.2.1%(shapeO (some st.1) (atS s0 (it.1%100))).1.1.toNat) (refsO (some st.1) (atS s0 (it.1%100))) (if 200≤it.2.2.1 then 0 else atS s0 (it.2.2.1%100)))
  |none=>st
 else st
def toS (s0:HL) (it:It):Int:=if 200≤it.2.2.1 then 0 else atS s0 (it.2.2.1%100)
structure Akin (s s':HL):Prop where
 ok:s'.Ok
 inv:s'.Inv
 st:s'.st=s.st
 B:s'.B=s.B
 bn:s'.born=s.born
 rf:RfOk s'.abs
theorem Akin.objs {s s':HL} (h:Akin s s'):s'.objs=s.objs:=by unfold HL.objs;rw[h.st]
theorem atS_ok {s s':HL} (h:Akin s s') (n:Nat):okTo s' (atS s n):=by
 unfold atS
 split
 ·exact .inl rfl
 ·rename_i h0
  have hlt:n%s.objs.length<s.objs.length:=Nat.mod_lt _ (by omega)
  refine .inr ⟨_,rfl,?_⟩
  rw[h.st]
  exact mem_objs.1 (show s.objs.getD (n%s.objs.length) 0∈s.objs by simp[hlt])
theorem toS_ok {s s':HL} (h:Akin s s') (it:It):okTo s' (toS s it):=by
 unfold toS
 split
 ·exact .inl rfl
 ·exact atS_ok h _
theorem Akin.ref {s s':HL} (h:Akin s s') {k j:Nat} (hk:s'.st.getD k 0=1) (hj:j<(s'.obAt k).rf.length):0≤(s'.obAt k).rf.getD j 0∧(s'.obAt k).rf.getD j 0≤4096:=by
 refine h.rf (s'.obAt k) ?_ _ ?_
 ·simp only[HL.abs,List.mem_map];exact⟨k,mem_objs.2 hk,rfl⟩
 ·simp[hj]
theorem shape_live {s:HL} (h:s.Ok) {x:Int} (e:(shapeO (some s) x).2=0): ∃k:Nat,x=((2*k:Nat):Int)∧s.st.getD k 0=1:=by
 unfold shapeO at e
 cases hh:hasO (some s) x with
 |true=>exact(has_iff h).1 hh
 |false=>simp[objE,hh]at e
theorem stepS_skip {s0:HL} {it:It} {s:HL} {t:BS} (h: ¬((shapeO (some s) (atS s0 (it.1%100))).2=0∧(shapeO (some s) (atS s0 (it.1%100))).1.1≠0)):stepS s0 it (s,t)=(s,t):=by
 unfold stepS;exact if_neg h
theorem stepS_do {s0:HL} {it:It} {s s':HL} {t:BS} {k:Nat} (hok:s.Ok) (hk:s.st.getD k 0=1) (ha:atS s0 (it.1%100)=((2*k:Nat):Int)) (hr:(s.obAt k).rf.length≠0)
  (e:setRefM (some s) ((2*k:Nat):Int) ((it.2.1%(s.obAt k).rf.length:Nat):Int) (toS s0 it)=some s'):stepS s0 it (s,t)=(s',t.note (some s') (2*k) (it.2.1%(s.obAt k).rf.length) (s.obAt k).rf (toS s0 it)):=by
 obtain⟨h1,_,_⟩:=obAt_len hok hk
 have e2:(s.obAt k).sh.1.toNat=(s.obAt k).rf.length:=by omega
 unfold toS at e⊢
 unfold stepS
 simp only[ha,at_shape hok hk,refsO_at hok hk,e2,Int.toNat_natCast]
 rw[if_pos (show True∧(s.obAt k).sh.1≠0 from⟨trivial,by omega⟩),e]
def runI (s0:HL):List It→HL×BS→HL×BS
 | [],st=>st
 |it::l,st=>runI s0 l (stepS s0 it st)
theorem runI_snoc (s0:HL) (l:List It) (it:It) (st:HL×BS):runI s0 (l++[it]) st=stepS s0 it (runI s0 l st):=by
 induction l generalizing st with
 |nil=>rfl
 |cons a l ih=>exact ih _
theorem runI_take_succ (s0:HL) (l:List It) (i:Nat) (hi:i<l.length) (st:HL×BS):runI s0 (l.take (i+1)) st=stepS s0 (l.getD i default) (runI s0 (l.take i) st):=by
 rw[List.take_succ_eq_append_getElem hi,runI_snoc]
 simp[hi]
theorem note_len (m:HO) (t:BS) (x i:Nat) (refs:List Int) (now:Int):(t.note m x i refs now).S.length≤t.S.length+2∧(t.note m x i refs now).L.length≤t.L.length+1:=by
 unfold BS.note
 obtain⟨_,_,c1,_,_⟩:=BS.note1_k t x refs
 have c1L:(t.note1 x refs).L.length≤t.L.length+1:=by unfold BS.note1;split<;>simp
 generalize t.note1 x refs=t1 at*
 obtain⟨_,_,c2,_,_,c2L⟩:=BS.note2_k t1 (refs.getD i 0)
 generalize t1.note2 (refs.getD i 0)=t2 at*
 obtain⟨_,_,c3,_,c3L⟩:=BS.note3_k t2 (((x+2+i)/8:Nat):Int)
 generalize t2.note3 (((x+2+i)/8:Nat):Int)=t3 at*
 obtain⟨_,_,c4,_,c4L⟩:=BS.note4_k m t3 x now
 generalize BS.note4 m t3 x now=t4 at*
 have c5:(t4.note5 now).S.length≤t4.S.length+1∧(t4.note5 now).L=t4.L:=by
  unfold BS.note5;split
  ·exact⟨shadeL_len _ _,rfl⟩
  ·exact⟨by omega,rfl⟩
 rw[c5.2,c4L,c3L,c2L]
 rw[c4,c3]at c5
 rw[c1]at c2
 exact⟨by omega,c1L⟩
theorem setRef_akin {s0 s s':HL} (h:Akin s0 s) {x i to:Int} (ht:0≤to∧to≤4096) (e:setRefM (some s) x i to=some s') (hok:s'.Ok):Akin s0 s':=by
 obtain⟨t,e1,e2,e3,e4,e5,e6⟩:=abs_setRef h.ok x i to
 have hts:s'=t:=Option.some.inj (e.symm.trans e1)
 subst hts
 exact⟨hok,h.inv.setRef e hok,by rw[e4,h.st],by rw[e3,h.B],by rw[e5,h.bn],by rw[e2];exact h.rf.setRefM _ _ _ ht⟩
theorem obAt_setRef {s s':HL} (h:s.Ok) (hok:s'.Ok) {k j:Nat} {to:Int} (hk:s.st.getD k 0=1) (hj:j<(s.obAt k).rf.length) (ht:okTo s to) (e:setRefM (some s) ((2*k:Nat):Int) (j:Int) to=some s') (i:Nat) (hi:s.st.getD i 0=1):
  s'.obAt i=if i=k then {s.obAt k with rf:=(s.obAt k).rf.set j to}else s.obAt i:=by
 obtain⟨t,e1,e2,e3,e4,e5,e6⟩:=abs_setRef h ((2*k:Nat):Int) (j:Int) to
 have hts:s'=t:=Option.some.inj (e.symm.trans e1)
 subst hts
 have ho:s'.objs=s.objs:=by unfold HL.objs;rw[e4]
 obtain⟨a,ha,hae⟩:=objs_index hk
 obtain⟨c,hc,hce⟩:=objs_index hi
 have hE:s.abs.setRefR ((2*k:Nat):Int) (j:Int) to=0:=by rw[abs_setRefE h];exact setRef_ok h hk hj ht
 have g1:s'.abs.O.getD c default=s'.obAt i:=abs_get (by rw[ho];exact hc) (by rw[ho];exact hce)
 have g2:s.abs.O.getD c default=s.obAt i:=abs_get hc hce
 have g3:s.abs.O.getD a default=s.obAt k:=abs_get ha hae
 rw[←g1,e2]
 unfold RL.setRefM
 rw[if_pos hE]
 unfold RL.upd
 rw[abs_ix ha hae]
 show(s.abs.O.set a {s.abs.O.getD a default with rf:=(s.abs.O.getD a default).rf.set (j:Int).toNat to}).getD c default=_
 have hl:s.abs.O.length=s.objs.length:=abs_len s
 rw[g3,Int.toNat_natCast]
 by_cases hik:i=k
 ·subst hik
  rw[if_pos rfl]
  have hac:a=c:=by
   have:=(abs_ix ha hae).symm.trans (abs_ix hc hce)
   exact Option.some.inj this
  subst hac
  rw[List.getD_eq_getElem?_getD,List.getElem?_set_self (by omega)];rfl
 ·rw[if_neg hik]
  have hac:a≠c:=fun e=>hik (by rw[←hce,←hae,e])
  rw[List.getD_eq_getElem?_getD,List.getElem?_set_ne hac,←List.getD_eq_getElem?_getD,g2]
def StAt (h0:Nat) (w:World) (v:Value) (l:List It):Prop:= ∃(a:Option Addr) (cap:Nat),v=.slice a l.length cap∧ ∀i,i<l.length→ ∃p,a=some p∧p.block<h0∧(l.getD i default).1<256∧(l.getD i default).2.1<256∧(l.getD i default).2.2.1<256∧
 w.cell? (p.add (i*4))=some (u8V (l.getD i default).1)∧w.cell? ((p.add (i*4)).add 1)=some (u8V (l.getD i default).2.1)∧w.cell? ((p.add (i*4)).add 2)=some (u8V (l.getD i default).2.2.1)∧w.cell? ((p.add (i*4)).add 3)=some (.bool (l.getD i default).2.2.2)
theorem StAt.keep {h0:Nat} {w w':World} {v:Value} {l:List It} {S:List Nat} (h:StAt h0 w v l) (hz:h0≤w.heap.size) (o:Only S w w') (hs: ∀x,x∈S→h0≤x):StAt h0 w' v l:=by
 obtain⟨a,c,e,hc⟩:=h
 refine⟨a,c,e,fun i hi=>?_⟩
 obtain⟨p,e1,e2,l1,l2,l3,g0,g1,g2,g3⟩:=hc i hi
 have hb:w'.heap[p.block]? =w.heap[p.block]? :=o.block _ (by omega) fun hx=>by have:=hs _ hx;omega
 refine⟨p,e1,e2,l1,l2,l3,?_,?_,?_,?_⟩
 ·rw[cell_of_heap (w:=w) (w':=w') (by rw[add_block];exact hb)];exact g0
 ·rw[cell_of_heap (w:=w) (w':=w') (by rw[add_block,add_block];exact hb)];exact g1
 ·rw[cell_of_heap (w:=w) (w':=w') (by rw[add_block,add_block];exact hb)];exact g2
 ·rw[cell_of_heap (w:=w) (w':=w') (by rw[add_block,add_block];exact hb)];exact g3
end Go.Proofs.YtgcofabdialaaaaGreat
end
section
namespace Go.Proofs.YtgcofabdialaaaaGreat
set_option maxRecDepth 8000
theorem cStored {w:World} {h0 sb hb rb kb qb b:Nat} {s0 s1:HL} {ff fh fp:List Nat} {t1:BS} {vl:Value} {l:List It} (hz:h0≤w.heap.size) (hat:At w sb [.pointer (some ⟨hb,0,none⟩),.pointer (some ⟨rb,0,none⟩),.pointer (some ⟨qb,0,none⟩),.pointer (some ⟨kb,0,none⟩)]) (hf:FM w qb s0.abs ff)
  (hh:HR w (some ⟨hb,0,none⟩) fh (some s1)) (hk:Akin s0 s1) (hB:BM w b ⟨hb,0,none⟩ t1 fp) (d1:sb∉fh∧sb∉fp) (d2: ∀y,y∈ff→y∉fh∧y∉fp) (d3: ∀y,y∈fh→y∉fp) (hl:StAt h0 w vl l) (hge: ∀x,x∈fh++fp→h0≤x) (hS:t1.S.length≤1000) (hL:t1.L.length≤1000):
  Cs Tryz.prog 44 [.pointer (some ⟨sb,0,none⟩),.pointer (some ⟨b,0,none⟩),vl] w fun v w'=>v=.bool true∧ ∃s' t' fp',runI s0 (l.take 60) (s1,t1)=(s',t')∧Akin s0 s'∧HR w' (some ⟨hb,0,none⟩) fh (some s')∧BM w' b ⟨hb,0,none⟩ t' fp'∧(∀y,y∈fp'→y∈fp∨w.heap.size≤y)∧Only (fh++fp) w w':=by
 obtain⟨aL,cL,rfl,_⟩:=id hl
 have hlh:=hh.lt
 have hlf:=hf.lt
 have hlb:=hB.lt
 have hsb:=hat.lt
 refine enter_law12_stored rfl ?_
 unfold x_law12_stored
 (repeat(first|with_reducible(first|refine nx ?_|refine r_6 rfl ?_)|simp only[go_sem]))
 refine run_loop (7::8::9::10::11::12::13::14::15::16::17::18::19::20::21::22::23::24::25::26::27::28::29::30::31::32::33::34::35::36::37::38::39::40::41::42::43::44::45::46::47::48::49::50::51::52::53::54::55::56::57::58::59::60::61::62::63::64::65::66::67::68::69::70::71::72::73::74::75::76::77::78::79::80::81::82::83::84::85::86::87::88::89::90::91::92::93::94::95::96::97::98::99::100::101::102::103::104::105::106::107::108::109::110::111::112::113::114::115::116::[]) (fun g w'=> ∃(i:Nat) (s':HL) (t':BS) (fp':List Nat),g 7=.int .i64 (i:Int)∧i≤l.length∧i≤60∧runI s0 (l.take i) (s1,t1)=(s',t')∧t'.S.length≤1000+2*i∧t'.L.length≤1000+i∧Akin s0 s'∧HR w' (some ⟨hb,0,none⟩) fh (some s')∧BM w' b ⟨hb,0,none⟩ t' fp'∧(∀y,y∈fp'→y∈fp∨w.heap.size≤y)∧Only (fh++fp) w w') (fun g _=>upTo 60 7 g)
  ⟨0,s1,t1,fp,by simp only[go_sem];rfl,by omega,by omega,rfl,by omega,by omega,hk,hh,hB,fun y hy=>.inl hy,Only.refl _ _⟩ fun g w' hI hnext=>?_
 obtain⟨i,s',t',fp',h7,hil,hi60,hrun,hS',hL',hk',hh',hB',hsub,ho⟩:=hI
 by_cases c1:i<l.length
 rotate_left
 ·obtain rfl:i=l.length:=by omega
  (repeat(first|with_reducible(first|refine nx ?_|refine r_6 rfl ?_)|simp only[go_sem,h7,decide_eq_false (show¬((l.length:Nat):Int)<(l.length:Int) by omega)]))
  refine⟨s',t',fp',?_,hk',hh',hB',hsub,ho⟩
  rw[List.take_of_length_le (by omega)]at hrun⊢;exact hrun
 by_cases c2:i<60
 rotate_left
 ·obtain rfl:i=60:=by omega
  (repeat(first|with_reducible(first|refine nx ?_|refine r_6 rfl ?_)|simp only[go_sem,h7,decide_eq_true (show((60:Nat):Int)<(l.length:Int) by omega),decide_eq_false (show¬((60:Nat):Int)<60 by omega)]))
  exact⟨s',t',fp',hrun,hk',hh',hB',hsub,ho⟩
 have hz':=ho.size
 have hatT:At w' sb _:=hat.keep ho (by simp[d1])
 have hfT:FM w' qb s0.abs ff:=hf.keep ho fun y hy=>by simp[d2 y hy]
 obtain⟨a',c',e',hc'⟩:=hl.keep hz ho hge
 cases e'
 obtain⟨p,rfl,hp1,l1,l2,l3,g0,g1,g2,g3⟩:=hc' i c1
 obtain⟨it,hit⟩: ∃it,it=l.getD i default:=⟨_,rfl⟩
 rw[←hit]at l1 l2 l3 g0 g1 g2 g3
 have ci:(0:Int)≤(i:Int)∧(i:Int)<(l.length:Int):=by omega
 have g1:w'.cell? ⟨p.block,(p.add (i*4)).off+1,none⟩=some (u8V it.2.1):=by rw[←add_block p (i*4)];exact g1
 have g2:w'.cell? ⟨p.block,(p.add (i*4)).off+2,none⟩=some (u8V it.2.2.1):=by rw[←add_block p (i*4)];exact g2
 have g3:w'.cell? ⟨p.block,(p.add (i*4)).off+3,none⟩=some (.bool it.2.2.2):=by rw[←add_block p (i*4)];exact g3
 have hin: ∀n,inL [p.block] (.pointer (some (p.add n)))=True:=fun n=>by simp[inL,add_block]
 have ta:(p.add (i*4)).add 0=p.add (i*4):=rfl
 have m1:((it.1:Nat):Int).tmod 100=((it.1%100:Nat):Int):=tmodN _ 100
 have m2:((it.2.2.1:Nat):Int).tmod 100=((it.2.2.1%100:Nat):Int):=tmodN _ 100
 have hrun1:runI s0 (l.take (i+1)) (s1,t1)=stepS s0 it (s',t'):=by rw[runI_take_succ s0 l i c1,hrun,hit]
 (repeat(first|with_reducible(first|refine nx ?_|refine r_6 rfl ?_)|simp only[go_sem,h7,decide_eq_true (show(i:Int)<(l.length:Int) by omega),decide_eq_true (show(i:Int)<60 by omega)]))
 have od:=Only.drew [] w'
 have hpd:p.block<w'.drew.heap.size:=by show p.block<w'.heap.size;omega
 refine run_drt [p.block] ?_
 (repeat(first|with_reducible(first|refine nx ?_|refine r_6 rfl ?_)|simp only[go_sem,h7,if_pos ci,Int.toNat_natCast,ta,add_block,hin,g0,g1,g2,g3,u8V,conv_u8 it.1 l1,conv_u8 it.2.2.1 l3,m1,m2]))
 have sbd: ∀z,z∈[p.block]→z<w'.drew.heap.size∧z∉([]:List Nat):=fun z hz=>⟨by simp only[List.mem_singleton]at hz;subst hz;exact hpd,by simp⟩
 refine callS1 (cAtF hatT.drew (hfT.keep0 od) (it.1%100) (by omega)) (.inr ⟨SB.refl _ _,sbd⟩) fun w5 ho5=>?_
 (repeat(first|with_reducible(first|refine nx ?_|refine r_6 rfl ?_)|simp only[go_sem]))
 refine callS1 (cAtF (hatT.drew.keep0 ho5) ((hfT.keep0 od).keep0 ho5) (it.2.2.1%100) (by omega)) (.inl rfl) fun w6 ho6=>?_
 have o6:Only [] w' w6:=(od.nil ho5).nil ho6
 simp only[go_sem]
 refine run_seq ?_
 refine run_cut (9::43::44::45::46::47::48::[]) (fun ρ' w7=>ρ' 9=.int .i64 (toS s0 it)∧w7=w6) (fun kk hkk=>?_) (fun g9 w7 hJ=>?_)
 ·have hc2:w6.cell? ⟨p.block,(p.add (i*4)).off+2,none⟩=some (u8V it.2.2.1):=by
   rw[cell_of_heap (w:=w') (w':=w6) (o6.block _ (by show p.block<_;omega) (by simp))];exact g2
  by_cases c3:200≤it.2.2.1
  ·(repeat(first|with_reducible(first|refine nx ?_|refine r_6 rfl ?_)|simp only[go_sem,h7,if_pos ci,Int.toNat_natCast,add_block,hc2,u8V,decide_eq_true (show(200:Int)≤(it.2.2.1:Int) by omega)]))
   refine hkk _ w6 ?_ ⟨?_,rfl⟩
   ·(repeat(first|with_reducible exact k_1|with_reducible exact Keeps.ovr _ _ _|refine Keeps.put ?_ rfl _|exact k_1|exact Keeps.ovr _ _ _|refine Keeps.ovr2 ?_ rfl _))
   ·simp only[go_sem]
    unfold toS;rw[if_pos c3]
  ·(repeat(first|with_reducible(first|refine nx ?_|refine r_6 rfl ?_)|simp only[go_sem,h7,if_pos ci,Int.toNat_natCast,add_block,hc2,u8V,decide_eq_false (show¬(200:Int)≤(it.2.2.1:Int) by omega)]))
   refine hkk _ w6 ?_ ⟨?_,rfl⟩
   ·(repeat(first|with_reducible exact k_1|with_reducible exact Keeps.ovr _ _ _|refine Keeps.put ?_ rfl _|exact k_1|exact Keeps.ovr _ _ _|refine Keeps.ovr2 ?_ rfl _))
   ·simp only[go_sem]
    unfold toS;rw[if_neg c3]
 obtain⟨h9,e7⟩:=hJ
 rw[e7]
 clear e7 w7
 have hat6:=hatT.keep0 o6
 have hh6:=hh'.keep0 o6
 have hB6:=hB'.keep0 o6
 have hok':=hk'.ok
 have haok:=atS_ok hk' (it.1%100)
 have hale:=haok.le hok'
 have htok:=toS_ok hk' it
 have htle:=htok.le hok'
 have hls:w.heap.size≤w6.heap.size:=by have:=o6.size;omega
 (repeat(first|with_reducible(first|refine nx ?_|refine r_6 rfl ?_)|simp only[go_sem,hat6.cell]))
 refine callT1 (hShape hh6 (atS s0 (it.1%100)) (by omega)) fun w7 ho7=>?_
 obtain⟨⟨sh,er⟩,hshe⟩: ∃x,x=shapeO (some s') (atS s0 (it.1%100)):=⟨_,rfl⟩
 rw[←hshe]
 (repeat(first|with_reducible(first|refine nx ?_|refine r_6 rfl ?_)|simp only[go_sem]))
 refine boxT fun u w8 hu hs8 hat8 ho8=>?_
 (repeat(first|with_reducible(first|refine nx ?_|refine r_6 rfl ?_)|simp only[go_sem]))
 refine stNT (cs:=shV sh) hat8 rfl (by simp[shV]) (shV_one _) fun w9 hs9 hat9 ho9=>?_
 rw[setL_sh]at hat9
 have o9:Only [] w' w9:=(o6.nil ho7).nil (ho8.trans ho9 fun y hy=>by simp only[List.mem_singleton]at hy;subst hy;exact .inr (by omega))
 have oo9:Only (fh++fp) w w9:=ho.nil o9
 have hh9:=hh'.keep0 o9
 have hB9:=hB'.keep0 o9
 have hat9':=hatT.keep0 o9
 have hu0:w9.cell? ⟨u,0,none⟩=some (.int .i64 sh.1):=by rw[hat9.cell];rfl
 have z1:IntKind.i64.wrap ((i:Int)+1)=((i+1:Nat):Int):=by rw[IntWalk.i64_in _ (by omega)];omega
 by_cases c4:er=0∧sh.1≠0
 rotate_left
 ·have hsk:stepS s0 it (s',t')=(s',t'):=stepS_skip (by rw[←hshe];exact c4)
  have hfin: ∀(g2:Env),g2 7=.int .i64 ((i+1:Nat):Int)→ ∃(j:Nat) (s2:HL) (t2:BS) (fp2:List Nat),g2 7=.int .i64 (j:Int)∧j≤l.length∧j≤60∧runI s0 (l.take j) (s1,t1)=(s2,t2)∧t2.S.length≤1000+2*j∧t2.L.length≤1000+j∧Akin s0 s2∧HR w9 (some ⟨hb,0,none⟩) fh (some s2)∧BM w9 b ⟨hb,0,none⟩ t2 fp2∧(∀y,y∈fp2→y∈fp∨w.heap.size≤y)∧Only (fh++fp) w w9:=fun g2 e=>⟨i+1,s',t',fp',e,by omega,by omega,by rw[hrun1,hsk],by omega,by omega,hk',hh9,hB9,hsub,oo9⟩
  by_cases c5:er=0
  ·have c6:sh.1=0:=Decidable.byContradiction fun h=>c4 ⟨c5,h⟩
   (repeat(first|with_reducible(first|refine nx ?_|refine r_6 rfl ?_)|simp only[go_sem,bne_int_false c5,hu0,beq_int_true c6,h7,z1]))
   refine hnext _ w9 ?_ (hfin _ ?_) ?_
   ·(repeat(first|with_reducible exact k_1|with_reducible exact Keeps.ovr _ _ _|refine Keeps.put ?_ rfl _|exact k_1|exact Keeps.ovr _ _ _|refine Keeps.ovr2 ?_ rfl _))
   ·simp only[go_sem]
   ·rw[upTo_int (i:=i) h7,upTo_int (k:=.i64) (i:=i+1) (by simp only[go_sem])];omega
  ·(repeat(first|with_reducible(first|refine nx ?_|refine r_6 rfl ?_)|simp only[go_sem,bne_int_true c5,h7,z1]))
   refine hnext _ w9 ?_ (hfin _ ?_) ?_
   ·(repeat(first|with_reducible exact k_1|with_reducible exact Keeps.ovr _ _ _|refine Keeps.put ?_ rfl _|exact k_1|exact Keeps.ovr _ _ _|refine Keeps.ovr2 ?_ rfl _))
   ·simp only[go_sem]
   ·rw[upTo_int (i:=i) h7,upTo_int (k:=.i64) (i:=i+1) (by simp only[go_sem])];omega
 obtain⟨c5,c6⟩:=c4
 obtain⟨k,hka,hkl⟩:=shape_live hok' (x:=atS s0 (it.1%100)) (by rw[←hshe];exact c5)
 obtain⟨hrl,_,_⟩:=obAt_len hok' hkl
 have hsh2:sh=(s'.obAt k).sh:=by
  have:=at_shape hok' hkl
  rw[←hka,←hshe]at this
  exact congrArg Prod.fst this
 rw[←hsh2]at hrl
 have hr0:(s'.obAt k).rf.length≠0:=by omega
 have hjlt:it.2.1%(s'.obAt k).rf.length<(s'.obAt k).rf.length:=Nat.mod_lt _ (by omega)
 have hrl15:=rf_le hok' hkl
 obtain⟨s2,e1,e2,e3,e4,e5,e6⟩:=abs_setRef hok' ((2*k:Nat):Int) ((it.2.1%(s'.obAt k).rf.length:Nat):Int) (toS s0 it)
 have hstep:=stepS_do (s0:=s0) (it:=it) (t:=t') hok' hkl hka hr0 e1
 have hjm:((it.2.1:Nat):Int).tmod sh.1=((it.2.1%(s'.obAt k).rf.length:Nat):Int):=by rw[←hrl];exact tmodN _ _
 have hnl:=note_len (some s2) t' (2*k) (it.2.1%(s'.obAt k).rf.length) (s'.obAt k).rf (toS s0 it)
 generalize hj:it.2.1%(s'.obAt k).rf.length=j at*
 have ck: ∀ {w2:World} (o:Nat) {v:Value},Only [] w' w2→w'.cell? ⟨p.block,(p.add (i*4)).off+o,none⟩=some v→w2.cell? ⟨p.block,(p.add (i*4)).off+o,none⟩=some v:=fun o v oo e=>by
  rw[cell_of_heap (w:=w') (oo.block _ (by show p.block<_;omega) (by simp))];exact e
 have o9d:=o9.nil (Only.drew [] w9)
 have hu0d:w9.drew.cell? ⟨u,0,none⟩=some (.int .i64 sh.1):=by rw[hat9.drew.cell];rfl
 (repeat(first|with_reducible(first|refine nx ?_|refine r_6 rfl ?_)|simp only[go_sem,bne_int_false c5,hu0,beq_int_false c6,hu0d,h7,if_pos ci,Int.toNat_natCast,add_block,ck 1 o9d g1,ck 3 o9d g3,u8V,conv_u8 it.2.1 l2,hjm,divO_of c6 (.int .i64 (j:Int))]))
 have hh10:=hh'.keep0 o9d
 have hB10:=hB'.keep0 o9d
 have d3': ∀y,y∈fh→y∉fp':=fun y hy hy2=>by
  rcases hsub y hy2 with h|h
  ·exact d3 y hy h
  ·have:=hlh y hy;omega
 have hz10:w.heap.size≤w9.drew.heap.size:=(ho.nil o9d).size
 have hO10: ∀ {w2:World},Only (fh++fp') w9.drew w2→Only (fh++fp) w w2:=fun o=>(ho.nil o9d).trans o fun y hy=>by
  rcases List.mem_append.1 hy with h|h
  ·exact .inl (by simp[h])
  ·rcases hsub y h with h|h
   ·exact .inl (by simp[h])
   ·exact .inr h
 cases hpast:it.2.2.2 with
 |false=>
  (repeat(first|with_reducible(first|refine nx ?_|refine r_6 rfl ?_)|simp only[go_sem,h9,hka]))
  refine callT (bStoreT hB10 hh10 d3' hkl (by omega) htok e1 (by omega) (by omega)) ?_
  rintro v w11 ⟨rfl,hh11,ho11,fp2,hB11,hs11⟩
  (repeat(first|with_reducible(first|refine nx ?_|refine r_6 rfl ?_)|simp only[go_sem,bne_int_false (rfl:(0:Int)=0),h7,z1]))
  refine hnext _ w11 ?_ ⟨i+1,s2,_,fp2,?_,by omega,by omega,by rw[hrun1,hstep],by omega,by omega,setRef_akin hk' htle e1 (hh11.ok s2 rfl),hh11,hB11,fun y hy=>?_,hO10 ho11⟩ ?_
  ·(repeat(first|with_reducible exact k_1|with_reducible exact Keeps.ovr _ _ _|refine Keeps.put ?_ rfl _|exact k_1|exact Keeps.ovr _ _ _|refine Keeps.ovr2 ?_ rfl _))
  ·simp only[go_sem]
  ·rcases hs11 y hy with h|h
   ·exact hsub y h
   ·exact .inr (by omega)
  ·rw[upTo_int (i:=i) h7,upTo_int (k:=.i64) (i:=i+1) (by simp only[go_sem])];omega
 |true=>
  (repeat(first|with_reducible(first|refine nx ?_|refine r_6 rfl ?_)|simp only[go_sem,(hat9'.drew).cell,hka]))
  have href:=at_ref hok' hkl (show j<(s'.obAt k).rf.length by omega)
  have hbnd:=hk'.ref hkl (show j<(s'.obAt k).rf.length by omega)
  refine callT1 (hRef hh10 ((2*k:Nat):Int) (j:Int) (by omega)) fun w11 ho11=>?_
  rw[href]
  have hhB:=hh10.keep0 ho11
  (repeat(first|with_reducible(first|refine nx ?_|refine r_6 rfl ?_)|simp only[go_sem,bne_int_false (rfl:(0:Int)=0),((hat9'.drew).keep0 ho11).cell,h9]))
  refine callT (hSetRef hhB ((2*k:Nat):Int) (j:Int) (toS s0 it) (by omega) (by omega)) ?_
  rintro v w12 ⟨rfl,hh12,ho12⟩
  rw[setRef_ok hok' hkl (by omega) htok]
  rw[e1]at hh12
  have hok2:=hh12.ok s2 rfl
  have hk2:s2.st.getD k 0=1:=by rw[e4];exact hkl
  have hob:=obAt_setRef hok' hok2 hkl (show j<(s'.obAt k).rf.length by omega) htok e1 k hkl
  rw[if_pos rfl]at hob
  have hB12:=(hB10.keep0 ho11).keep ho12 fun y hy hy2=>d3' y hy2 hy
  have hrfn:(s2.obAt k).rf=(s'.obAt k).rf.set j (toS s0 it):=by rw[hob]
  have hrfl:(s2.obAt k).rf.length=(s'.obAt k).rf.length:=by rw[hrfn,List.length_set]
  have hnow:(s2.obAt k).rf.getD j 0=toS s0 it:=by rw[hrfn,List.getD_eq_getElem?_getD,List.getElem?_set_self (by omega)];rfl
  have hold:(s2.obAt k).rf.set j ((s'.obAt k).rf.getD j 0)=(s'.obAt k).rf:=by
   rw[hrfn,List.set_set]
   have hjl:j<(s'.obAt k).rf.length:=by omega
   rw[List.getD_eq_getElem?_getD,List.getElem?_eq_getElem hjl,Option.getD_some,List.set_getElem_self]
  have hk2':=setRef_akin hk' htle e1 hok2
  have ho2':okTo s2 ((s2.obAt k).rf.getD j 0):=by rw[hnow];exact toS_ok hk2' it
  (repeat(first|with_reducible(first|refine nx ?_|refine r_6 rfl ?_)|simp only[go_sem,bne_int_false (rfl:(0:Int)=0)]))
  refine callT (bNoteT hB12 hh12 d3' hk2 (by omega) hbnd.1 ho2' (by omega) (by omega)) ?_
  rintro v w13 ⟨rfl,ho13,fp2,hB13,hs13⟩
  rw[hold,hnow]at hB13
  have o13:Only (fh++fp') w9.drew w13:=((ho11.of_nil (T:=fh++fp')).same (ho12.weakT fun y hy=>by simp[hy])).same (ho13.weakT fun y hy=>by simp[hy])
  have hz11:=ho11.size
  have hz12:=ho12.size
  (repeat(first|with_reducible(first|refine nx ?_|refine r_6 rfl ?_)|simp only[go_sem,bne_int_false (rfl:(0:Int)=0),h7,z1]))
  refine hnext _ w13 ?_ ⟨i+1,s2,_,fp2,?_,by omega,by omega,by rw[hrun1,hstep],by omega,by omega,hk2',hh12.keep ho13 d3',hB13,fun y hy=>?_,hO10 o13⟩ ?_
  ·(repeat(first|with_reducible exact k_1|with_reducible exact Keeps.ovr _ _ _|refine Keeps.put ?_ rfl _|exact k_1|exact Keeps.ovr _ _ _|refine Keeps.ovr2 ?_ rfl _))
  ·simp only[go_sem]
  ·rcases hs13 y hy with h|h
   ·exact hsub y h
   ·exact .inr (by omega)
  ·rw[upTo_int (i:=i) h7,upTo_int (k:=.i64) (i:=i+1) (by simp only[go_sem])];omega
end Go.Proofs.YtgcofabdialaaaaGreat
end
section
namespace Go.Proofs.YtgcofabdialaaaaGreat
set_option maxRecDepth 8000
theorem RetV_ttt (t u v:Nat) (ρ:Env) (w:World) (R:Value→World→Prop):RetV [.t t,.t u,.t v] ρ w R=R (.tuple #[ρ t,ρ u,ρ v]) w:=by unfold RetV;rfl
attribute [go_sem] RetV_ttt
theorem U8At.up {h0 h1:Nat} {w:World} {v:Value} {n sz:Nat} {f:Nat→Nat→Nat} (h:U8At h0 w v n sz f) (hh:h0≤h1):U8At h1 w v n sz f:=by
 obtain⟨a,c,e,hf,hc⟩:=h
 exact⟨a,c,e,hf,fun i hi=>by obtain⟨p,e1,e2,e3⟩:=hc i hi;exact⟨p,e1,by omega,e3⟩⟩
theorem BegAt.keep0 {h0 h1:Nat} {w w':World} {cs:List Value} {g:BG} {vO vD vL vP vN:Value} (h:BegAt h0 w cs g vO vD vL vP vN) (hz:h0≤w.heap.size) (hh:h0≤h1) (o:Only [] w w'):BegAt h1 w' cs g vO vD vL vP vN:=
 ⟨h.e,h.l0,h.l1,(h.o.keep hz o (by simp)).up hh,(h.d.keep hz o (by simp)).up hh,(h.l.keep hz o (by simp)).up hh,(h.p.keep hz o (by simp)).up hh,(h.n.keep hz o (by simp)).up hh⟩
theorem StAt.keep0' {h0 h1:Nat} {w w':World} {v:Value} {l:List It} (h:StAt h0 w v l) (hz:h0≤w.heap.size) (hh:h0≤h1) (o:Only [] w w'):StAt h1 w' v l:=by
 obtain⟨a,c,e,hc⟩:=h.keep hz o (by simp)
 exact⟨a,c,e,fun i hi=>by obtain⟨p,e1,e2,e3⟩:=hc i hi;exact⟨p,e1,by omega,e3⟩⟩
def BS0 (kd yg:Int):BS:=⟨kd,yg,[],[],[],[]⟩
theorem Akin.self {s:HL} (h:s.Inv) (hr:RfOk s.abs):Akin s s:=⟨h.ok,h,rfl,rfl,rfl,hr⟩
structure Wt (g:BG) (w0 w:World) (a c x hb:Nat) (s0 s1:HL) (t:BS) (l:List It) (kd yg:Int) (fa fc fx fh:List Nat):Prop where
 run:runI s0 (l.take 60) (s0,BS0 kd yg)=(s1,t)
 k0:Akin s0 s0
 k1:Akin s0 s1
 n40:s0.objs.length≤40
 was:FM w a s0.abs fa
 now:FM w c s1.abs fc
 bar:BM w x ⟨hb,0,none⟩ t fx
 h:HR w (some ⟨hb,0,none⟩) fh (some s1)
 d1: ∀y,y∈fh→y∉fx∧y∉fa∧y∉fc
 d2: ∀y,y∈fx→y∉fa∧y∉fc
 ge: ∀y,y∈fa++(fc++(fx++fh))→w0.heap.size≤y
 o:Only [] w0 w
 sn:RfP (PhP true s0) s0.abs
 op: ∃R,OpenR g (s0,R)
theorem cWatched {w:World} {cs:List Value} {g:BG} {vO vD vL vP vN vl:Value} {l:List It} (hg:BegAt w.heap.size w cs g vO vD vL vP vN) (hl:StAt w.heap.size w vl l) (kd yg:Int) (k1:1≤kd) (k2:kd≤63) (y0:0≤yg) (y1:yg<8):
  Cs Tryz.prog 11 [.agg ⟨cs⟩,.int .i64 kd,.int .i64 yg,vl] w fun v w'=> ∃a c x hb s0 s1 t fa fc fx fh,v=.tuple #[.pointer (some ⟨a,0,none⟩),.pointer (some ⟨c,0,none⟩),.pointer (some ⟨x,0,none⟩)]∧Wt g w w' a c x hb s0 s1 t l kd yg fa fc fx fh:=by
 have hcs:=hg.e
 refine enter_law12_watched rfl ?_
 unfold x_law12_watched
 (repeat(first|with_reducible(first|refine nx ?_|refine r_6 rfl ?_)|simp only[go_sem]))
 refine boxT fun q w1 hq hs1 hat1 ho1=>?_
 have hz1:=ho1.size
 have hc1:cellsAt w1 ⟨q,0,none⟩ 7=some cs:=by rw[cellsAt_at hat1 0 7 (by rw[hcs];simp),hcs];rfl
 have hg1:=hg.keep0 (Nat.le_refl _) hz1 ho1
 (repeat(first|with_reducible(first|refine nx ?_|refine r_6 rfl ?_)|simp only[go_sem,hc1]))
 refine callT (cOpen1 hg1) ?_
 rintro v w2 ⟨sb,rfl,s0,R,fp,⟨hb,rb,qb,kb,fh,fr,ff,fk,rfl,hsc⟩,hge2,ho2,hsz,hsnd,hopn⟩
 have hk0:Akin s0 s0:=.self hsc.inv hsz.2.2.2
 have lt2:=hsc.lt
 have z2:=ho2.size
 (repeat(first|with_reducible(first|refine nx ?_|refine r_6 rfl ?_)|simp only[go_sem,hsc.at_.cell]))
 refine callT (bNewS hsc.h kd yg k1 k2 y0 y1) ?_
 rintro v w3 ⟨x,bd,bo,rfl,hx3,hd3,ho3m,g1,g2,g3,ho3⟩
 have z3:=ho3.size
 have hsc3:=hsc.keep0 ho3
 have hB3:BM w3 x ⟨hb,0,none⟩ (BS0 kd yg) [x,bd,bo]:=⟨bd,bo,.slice none 0 0,.slice none 0 0,[],[],[],rfl,hx3,hd3,ho3m,⟨rfl,.inl ⟨rfl,rfl,rfl⟩⟩,⟨rfl,.inl ⟨rfl,rfl,rfl⟩⟩,rfl,by simp,by simp[lgF];omega⟩
 have lt3:=hB3.lt
 (repeat(first|with_reducible(first|refine nx ?_|refine r_6 rfl ?_)|simp only[go_sem,bne_int_false (rfl:(0:Int)=0),hsc3.at_.cell]))
 refine callT (cRead hsc3.h hsc3.inv) ?_
 rintro v w4 ⟨ho4,a,fa,rfl,ha4,gfa⟩
 have z4:=ho4.size
 have hsc4:=hsc3.keep0 ho4
 have hB4:=hB3.keep0 ho4
 have lt4:=ha4.lt
 (repeat(first|with_reducible(first|refine nx ?_|refine r_6 rfl ?_)|simp only[go_sem]))
 have hfh: ∀y,y∈fh→w1.heap.size≤y∧y<w2.heap.size:=fun y hy=>⟨hge2 y (by simp[hy]),lt2 y (by simp[hy])⟩
 have hxx: ∀y,y∈[x,bd,bo]→w2.heap.size≤y∧y<w3.heap.size:=fun y hy=>⟨by simp only[List.mem_cons,List.not_mem_nil,or_false]at hy;omega,lt3 y hy⟩
 have o14:Only [] w w4:=((ho1.nil ho2).nil ho3).nil ho4
 refine callT (cStored (h0:=w.heap.size) o14.size hsc4.at_ hsc4.f hsc4.h hk0 hB4 ⟨hsc.d1.1,fun hy=>by have:=hxx sb hy;have:=lt2 sb (by simp);omega⟩ (fun y hy=>⟨fun h=>(hsc.d2 y h).2.1 hy,fun h=>by have:=hxx y h;have:=lt2 y (by simp[hy]);omega⟩) (fun y hy h=>by have:=hxx y h;have:=hfh y hy;omega) (hl.keep (Nat.le_refl _) o14 (by simp)) (fun y hy=>by
  rcases List.mem_append.1 hy with h|h
  ·have:=hfh y h;omega
  ·have:=hxx y h;omega) (Nat.zero_le _) (Nat.zero_le _)) ?_
 rintro v w5 ⟨rfl,s1,t,fx,hrun,hk1,hh5,hB5,hsub,ho5⟩
 have z5:=ho5.size
 have hat5:=hsc4.at_.keep ho5 fun hy=>by
  rcases List.mem_append.1 hy with h|h
  ·exact hsc.d1.1 h
  ·have:=hxx sb h;have:=lt2 sb (by simp);omega
 have ha5:=ha4.keep ho5 fun y hy h=>by
  have:=gfa y hy
  rcases List.mem_append.1 h with h|h
  ·have:=hfh y h;omega
  ·have:=hxx y h;omega
 (repeat(first|with_reducible(first|refine nx ?_|refine r_6 rfl ?_)|simp only[go_sem,hat5.cell]))
 refine callT (cRead hh5 hk1.inv) ?_
 rintro v w6 ⟨ho6,c,fc,rfl,hc6,gfc⟩
 (repeat(first|with_reducible(first|refine nx ?_|refine r_6 rfl ?_)|simp only[go_sem]))
 have lb5:=hB5.lt
 have hfx: ∀y,y∈fx→w2.heap.size≤y∧y<w5.heap.size∧(y<w3.heap.size∨w4.heap.size≤y):=fun y hy=>by
  have:=lb5 y hy
  rcases hsub y hy with h|h
  ·have:=hxx y h;omega
  ·omega
 refine⟨a,c,x,hb,s0,s1,t,fa,fc,fx,fh,rfl,hrun,hk0,hk1,hsz.2.1,ha5.keep0 ho6,hc6,hB5.keep0 ho6,hh5.keep0 ho6,fun y hy=>?_,fun y hy=>?_,fun y hy=>?_,(o14.trans ho5 fun y hy=>.inr ?_).nil ho6,hsnd.1,_,hopn⟩
 ·have:=hfh y hy
  exact⟨fun h=>by have:=hfx y h;omega,fun h=>by have:=gfa y h;omega,fun h=>by have:=gfc y h;omega⟩
 ·have:=hfx y hy
  exact⟨fun h=>by have:=gfa y h;have:=lt4 y h;omega,fun h=>by have:=gfc y h;omega⟩
 ·simp only[List.mem_append]at hy
  rcases hy with h|h|h|h
  ·have:=gfa y h;omega
  ·have:=gfc y h;omega
  ·have:=hfx y h;omega
  ·have:=hfh y h;omega
 ·rcases List.mem_append.1 hy with h|h
  ·have:=hfh y h;omega
  ·have:=hxx y h;omega
end Go.Proofs.YtgcofabdialaaaaGreat
end
section
namespace Go.Proofs.YtgcofabdialaaaaGreat
set_option maxRecDepth 8000
theorem setRef_Ok {s s':HL} (h:s.Ok) {x i to:Int} (e:setRefM (some s) x i to=some s'):s'.Ok:=by
 unfold setRefM at e
 by_cases c:setRefE (some s) x i to=0
 rotate_left
 ·simp only[if_neg c,Option.some.injEq]at e;subst e;exact h
 simp only[if_pos c,Option.some.injEq]at e
 subst e
 have hf:(fieldO (some s) x i false).2=0:=by
  unfold setRefE at c
  by_cases c2:(fieldO (some s) x i false).2=0
  ·exact c2
  ·simp only[ne_eq,c2,not_false_eq_true,if_true]at c
 obtain⟨o,k,rfl,ho,hk,k1,k2,k3⟩:=field_spec h hf
 rw[hk,Int.toNat_natCast]
 exact h.setW (h.inside ho k1 k2)
theorem note_spec (m:HO) (t:BS) (x i:Nat) (refs:List Int) (now:Int):
  (t.note m x i refs now).kinds=t.kinds∧(t.note m x i refs now).young=t.young∧
  (t.note m x i refs now).D=(if isB t.kinds 1 then putM t.D (((x+2+i)/8:Nat):Int) unitV else t.D)∧
  (t.note m x i refs now).O=(if isB t.kinds 2&&(!youngO m t.young x&&youngO m t.young now)then putM t.O x unitV else t.O)∧
  (t.note m x i refs now).L=(if isB t.kinds 32&&(imgO t.L x).isNone then t.L++[((x:Int),refs)]else t.L)∧
  (t.note m x i refs now).S=(if isB t.kinds 4 then shadeL (if isB t.kinds 8 then shadeL t.S (refs.getD i 0)else t.S) now else(if isB t.kinds 8 then shadeL t.S (refs.getD i 0)else t.S)):=by
 unfold BS.note
 have e1:(t.note1 x refs).L=(if isB t.kinds 32&&(imgO t.L x).isNone then t.L++[((x:Int),refs)]else t.L):=by unfold BS.note1;split<;>rfl
 obtain⟨a1,b1,c1,d1,f1⟩:=BS.note1_k t x refs
 generalize t.note1 x refs=t1 at*
 have e2:(t1.note2 (refs.getD i 0)).S=(if isB t1.kinds 8 then shadeL t1.S (refs.getD i 0)else t1.S):=by unfold BS.note2;split<;>rfl
 obtain⟨a2,b2,_,d2,f2,g2⟩:=BS.note2_k t1 (refs.getD i 0)
 generalize t1.note2 (refs.getD i 0)=t2 at*
 have e3:(t2.note3 (((x+2+i)/8:Nat):Int)).D=(if isB t2.kinds 1 then putM t2.D (((x+2+i)/8:Nat):Int) unitV else t2.D):=by unfold BS.note3;split<;>rfl
 obtain⟨a3,b3,c3,f3,g3⟩:=BS.note3_k t2 (((x+2+i)/8:Nat):Int)
 generalize t2.note3 (((x+2+i)/8:Nat):Int)=t3 at*
 have e4:(BS.note4 m t3 x now).O=(if isB t3.kinds 2&&(!youngO m t3.young x&&youngO m t3.young now)then putM t3.O x unitV else t3.O):=by unfold BS.note4;split<;>rfl
 obtain⟨a4,b4,c4,d4,g4⟩:=BS.note4_k m t3 x now
 generalize BS.note4 m t3 x now=t4 at*
 have e5:(t4.note5 now).S=(if isB t4.kinds 4 then shadeL t4.S now else t4.S)∧(t4.note5 now).kinds=t4.kinds∧(t4.note5 now).young=t4.young∧(t4.note5 now).D=t4.D∧(t4.note5 now).O=t4.O∧(t4.note5 now).L=t4.L:=by unfold BS.note5;split<;>exact⟨rfl,rfl,rfl,rfl,rfl,rfl⟩
 obtain⟨h1,h2,h3,h4,h5,h6⟩:=e5
 refine⟨by rw[h2,a4,a3,a2,a1],by rw[h3,b4,b3,b2,b1],?_,?_,?_,?_⟩
 ·rw[h4,d4,e3,d2,d1,a2,a1]
 ·rw[h5,e4,a3,a2,a1,b3,b2,b1,f3,f2,f1]
 ·rw[h6,g4,g3,g2,e1]
 ·rw[h1,a4,a3,a2,a1,c4,c3,e2,a1,c1]
theorem step_cases {s0:HL} {it:It} {s:HL} {t:BS} (h:Akin s0 s):stepS s0 it (s,t)=(s,t)∨ ∃(k j:Nat) (to:Int) (s':HL),s.st.getD k 0=1∧j<(s.obAt k).rf.length∧okTo s to∧setRefM (some s) ((2*k:Nat):Int) (j:Int) to=some s'∧Akin s0 s'∧
  stepS s0 it (s,t)=(s',t.note (some s') (2*k) j (s.obAt k).rf to):=by
 by_cases c:(shapeO (some s) (atS s0 (it.1%100))).2=0∧(shapeO (some s) (atS s0 (it.1%100))).1.1≠0
 rotate_left
 ·exact .inl (stepS_skip c)
 obtain⟨k,hka,hkl⟩:=shape_live h.ok c.1
 have c2:=c.2
 rw[hka,at_shape h.ok hkl]at c2
 obtain⟨hrl,_,_⟩:=obAt_len h.ok hkl
 have hr0:(s.obAt k).rf.length≠0:=by simp only at c2;omega
 obtain⟨s2,e1,e2,e3,e4,e5,e6⟩:=abs_setRef h.ok ((2*k:Nat):Int) ((it.2.1%(s.obAt k).rf.length:Nat):Int) (toS s0 it)
 have ht:=toS_ok h it
 exact .inr ⟨k,it.2.1%(s.obAt k).rf.length,toS s0 it,s2,hkl,Nat.mod_lt _ (by omega),ht,e1,setRef_akin h (ht.le h.ok) e1 (setRef_Ok h.ok e1),stepS_do h.ok hkl hka hr0 e1⟩
theorem run_ind {s0:HL} {P:HL→BS→Prop} (hs: ∀(s:HL) (t:BS) (k j:Nat) (to:Int) (s':HL),Akin s0 s→P s t→s.st.getD k 0=1→j<(s.obAt k).rf.length→okTo s to→setRefM (some s) ((2*k:Nat):Int) (j:Int) to=some s'→Akin s0 s'→P s' (t.note (some s') (2*k) j (s.obAt k).rf to)):
  ∀(l:List It) (s:HL) (t:BS),Akin s0 s→P s t→P (runI s0 l (s,t)).1 (runI s0 l (s,t)).2
 | [],s,t,_,h=>h
 |it::l,s,t,hk,h=>by
  show P (runI s0 l (stepS s0 it (s,t))).1 (runI s0 l (stepS s0 it (s,t))).2
  rcases step_cases (it:=it) (t:=t) hk with e|⟨k,j,to,s',h1,h2,h3,h4,h5,e⟩
  ·rw[e];exact run_ind hs l s t hk h
  ·rw[e];exact run_ind hs l s' _ h5 (hs s t k j to s' hk h h1 h2 h3 h4 h5)
end Go.Proofs.YtgcofabdialaaaaGreat
end
section
namespace Go.Proofs.YtgcofabdialaaaaGreat
set_option maxRecDepth 8000
def HL.RF (s:HL) (i j:Nat):Int:=(s.obAt i).rf.getD j 0
section
variable {s0 s s':HL} {k j:Nat} {to:Int}
end
end Go.Proofs.YtgcofabdialaaaaGreat
end
section
namespace Go.Proofs.YtgcofabdialaaaaGreat
set_option maxRecDepth 8000
def RfO (s0 s:HL):Prop:= ∀k,s0.st.getD k 0=1→ ∃l,s.obAt k= {s0.obAt k with rf:=l}∧l.length=(s0.obAt k).rf.length
structure UP (w w':World) (s0 s:HL) (hb:Nat) (fh:List Nat) (D:List LM) (s':HL):Prop where
 o:Only fh w w'
 h:HR w' (some ⟨hb,0,none⟩) fh (some s')
 a:Akin s0 s'
 r:RfO s0 s'
 e: ∀k j,s0.st.getD k 0=1→s'.RF k j=s0.RF k j∨s'.RF k j=s.RF k j
 d: ∀m,m∈D→ ∀k:Nat,m.o=((2*k:Nat):Int)→ ∀j,s'.RF k j=s0.RF k j
theorem UP.keep0 {w w' w2:World} {s0 s s':HL} {hb:Nat} {fh:List Nat} {D:List LM} (h:UP w w' s0 s hb fh D s') (k:Only [] w' w2):UP w w2 s0 s hb fh D s':=
 ⟨h.o.nil k,h.h.keep0 k,h.a,h.r,h.e,h.d⟩
theorem RfO.step {s0 s' s2:HL} {k j:Nat} {to:Int} (ha:Akin s0 s') (h:RfO s0 s') (hk:s0.st.getD k 0=1) (hj:j<(s'.obAt k).rf.length) (ht:okTo s' to) (e:setRefM (some s') ((2*k:Nat):Int) (j:Int) to=some s2):RfO s0 s2:=fun i hi=>by
 have hob:=obAt_setRef ha.ok (setRef_Ok ha.ok e) (by rw[ha.st];exact hk) hj ht e i (by rw[ha.st];exact hi)
 obtain⟨l,h1,h2⟩:=h i hi
 by_cases c:i=k
 ·subst c
  rw[if_pos rfl]at hob
  exact⟨l.set j to,by rw[hob,h1],by rw[List.length_set,h2]⟩
 ·rw[if_neg c]at hob
  exact⟨l,by rw[hob,h1],h2⟩
end Go.Proofs.YtgcofabdialaaaaGreat
end
section
namespace Go.Proofs.YtgcofabdialaaaaGreat
set_option maxRecDepth 8000
theorem cInts {w:World} {va vb:Value} {xs ys:List Int} {fa fb:List Nat} (ha:Sl w 1 va xs.length (ints xs) fa) (hb:Sl w 1 vb ys.length (ints ys) fb) (hl:xs.length≤100000):
  Cs Tryz.prog 20 [va,vb] w fun v w'=>v=.bool (decide (xs=ys))∧Only [] w w':=by
 obtain⟨aa,ca,rfl⟩:=ha.val
 obtain⟨ab,cb,rfl⟩:=hb.val
 refine enter_law12_Ints rfl ?_
 unfold x_law12_Ints
 by_cases c0:xs.length=ys.length
 rotate_left
 ·(repeat(first|with_reducible(first|refine nx ?_|refine r_6 rfl ?_)|simp only[go_sem,bne_int_true (show¬(xs.length:Int)=(ys.length:Int) by omega)]))
  exact⟨by rw[decide_eq_false (fun e=>c0 (by rw[e]))],Only.refl _ _⟩
 (repeat(first|with_reducible(first|refine nx ?_|refine r_6 rfl ?_)|simp only[go_sem,bne_int_false (show(xs.length:Int)=(ys.length:Int) by omega)]))
 refine run_loop (5::11::12::13::14::15::16::17::18::19::20::21::22::23::24::25::[]) (fun g w'=> ∃i:Nat,g 5=.int .i64 (i:Int)∧i≤xs.length∧(∀j,j<i→xs.getD j 0=ys.getD j 0)∧Only [] w w') (fun g _=>upTo xs.length 5 g) ⟨0,by simp only[go_sem];rfl,by omega,fun j hj=>absurd hj (by omega),Only.refl _ _⟩ fun g w1 hI hnext=>?_
 obtain⟨i,h5,hi,heq,ho⟩:=hI
 by_cases c1:i<xs.length
 rotate_left
 ·(repeat(first|with_reducible(first|refine nx ?_|refine r_6 rfl ?_)|simp only[go_sem,h5,decide_eq_false (show¬(i:Int)<(xs.length:Int) by omega)]))
  refine⟨?_,ho⟩
  rw[decide_eq_true]
  refine List.ext_getElem c0 fun j h1 h2=>?_
  have:=heq j (by omega)
  simpa[List.getD_eq_getElem?_getD,h1,h2]using this
 obtain⟨ga,_,ya,ea,hata,_,_⟩:=(ha.keep0 ho).pos (by omega)
 obtain⟨gb,_,yb,eb,hatb,_,_⟩:=(hb.keep0 ho).pos (by omega)
 cases ea
 cases eb
 have ci:(0:Int)≤(i:Int)∧(i:Int)<(xs.length:Int):=by omega
 have ci':(0:Int)≤(i:Int)∧(i:Int)<(ys.length:Int):=by omega
 have da:w1.drew.cell? ⟨ga,i,none⟩=some (.int .i64 (xs.getD i 0)):=by rw[hata.drew.cell];exact ints_append_get ya (by omega)
 have db:w1.drew.cell? ⟨gb,i,none⟩=some (.int .i64 (ys.getD i 0)):=by rw[hatb.drew.cell];exact ints_append_get yb (by omega)
 have od:=ho.nil (Only.drew [] w1)
 by_cases c2:xs.getD i 0=ys.getD i 0
 ·(repeat(first|with_reducible(first|refine nx ?_|refine r_6 rfl ?_)|simp only[go_sem,h5,decide_eq_true ci.2,if_pos ci,if_pos ci',Int.toNat_natCast,Nat.mul_one,da,db,bne_int_false c2,i64_succ i (by omega)]))
  refine hnext _ _ ?_ ⟨i+1,?_,by omega,fun j hj=>?_,od⟩ ?_
  ·(repeat(first|with_reducible exact k_1|with_reducible exact Keeps.ovr _ _ _|refine Keeps.put ?_ rfl _|exact k_1|exact Keeps.ovr _ _ _|refine Keeps.ovr2 ?_ rfl _))
  ·simp only[go_sem]
  ·by_cases e:j=i
   ·rw[e];exact c2
   ·exact heq j (by omega)
  ·rw[upTo_int (i:=i) h5,upTo_int (k:=.i64) (i:=i+1) (by simp only[go_sem])];omega
 ·(repeat(first|with_reducible(first|refine nx ?_|refine r_6 rfl ?_)|simp only[go_sem,h5,decide_eq_true ci.2,if_pos ci,if_pos ci',Int.toNat_natCast,Nat.mul_one,da,db,bne_int_true c2]))
  exact⟨by rw[decide_eq_false (fun e=>c2 (by rw[e]))],od⟩
theorem cSameHeap {w : World} {a b : Nat} {q : RL} {fa fb : List Nat} (ha : FM w a q fa) (hb : FM w b q fb) (hl : q.O.length ≤ 1000) (hn : ∀ o, o ∈ q.O → o.rf.length ≤ 1000 ∧ o.dt.length ≤ 1000) :
    Cs Tryz.prog 19 [.pointer (some ⟨a, 0, none⟩), .pointer (some ⟨b, 0, none⟩)] w fun v w' => v = .bool true ∧ Only [] w w' := by
  obtain ⟨vB, vO, vF, fB, fO, fF, L, _, hm⟩ := ha
  obtain ⟨vB', vO', vF', fB', fO', fF', L', _, hm'⟩ := hb
  obtain ⟨aB, cB, rfl⟩ := hm.hB.val
  obtain ⟨aB', cB', rfl⟩ := hm'.hB.val
  obtain ⟨aO, cO, rfl⟩ := hm.hO.val
  obtain ⟨aO', cO', rfl⟩ := hm'.hO.val
  have hLL : L.length = L'.length := by have e1 := congrArg List.length hm.eq; have e2 := congrArg List.length hm'.eq; simp only [List.length_map] at e1 e2; omega
  have hLq : L.length = q.O.length := by have e1 := congrArg List.length hm.eq; simp only [List.length_map] at e1; omega
  have hB64 := hm.ok
  refine enter_law12_SameHeap rfl ?_
  unfold x_law12_SameHeap
  have od := Only.drew [] w
  (repeat (first | with_reducible (first | refine nx ?_ | refine r_6 rfl ?_) | simp only [go_sem, hm.hb.drew.cell, hm'.hb.drew.cell, bne_int_false (rfl : (q.B.length : Int) = (q.B.length : Int)), bne_int_false (show (L.length : Int) = (L'.length : Int) by omega), bne_int_false (rfl : (q.born : Int) = (q.born : Int))]))
  have hq64 := hm.ok.b64
  refine run_loop (5 :: 44 :: 45 :: 46 :: 47 :: 48 :: 49 :: 50 :: 51 :: 52 :: 53 :: 54 :: 55 :: 56 :: 57 :: 58 :: 59 :: 60 :: 61 :: 62 :: 63 :: 64 :: 65 :: 66 :: 67 :: []) (fun g w' => ∃ i : Nat, g 5 = .int .i64 (i : Int) ∧ i ≤ q.B.length ∧ Only [] w w') (fun g _ => upTo q.B.length 5 g) ⟨0, by simp only [go_sem]; rfl, by omega, od⟩ fun g w1 hI hnext => ?_
  obtain ⟨i, h5, hi, ho⟩ := hI
  have hm1 := hm.keep0 ho
  have hm1' := hm'.keep0 ho
  by_cases c1 : i < q.B.length
  · obtain ⟨gb, _, yb, eb, hatb, _⟩ := hm1.blk
    obtain ⟨gb', _, yb', eb', hatb', _⟩ := hm1'.blk
    cases eb
    cases eb'
    have ci : (0 : Int) ≤ (i : Int) ∧ (i : Int) < (q.B.length : Int) := by omega
    have hlb := blkV_len q.B
    have cb : cellsAt w1.drew ⟨gb, i * 2, none⟩ 2 = some (bV (q.B.getD i (0, 0))) := by rw [cellsAt_at hatb.drew (i * 2) 2 (by rw [List.length_append]; omega), blkV_drop yb c1]
    have cb' : cellsAt w1.drew ⟨gb', i * 2, none⟩ 2 = some (bV (q.B.getD i (0, 0))) := by rw [cellsAt_at hatb'.drew (i * 2) 2 (by rw [List.length_append]; omega), blkV_drop yb' c1]
    have ee : eqAO true 2 (.agg ⟨bV (q.B.getD i (0, 0))⟩) (.agg ⟨bV (q.B.getD i (0, 0))⟩) = some (.bool false) := by
      unfold bV
      rw [eqAO_a true 2 _ _ rfl rfl]
      simp [eqCells_cons, eqCells_nil, notO_some]
    (repeat (first | with_reducible (first | refine nx ?_ | refine r_6 rfl ?_) | simp only [go_sem, h5, hm1.hb.cell, hm1.hb.drew.cell, hm1'.hb.drew.cell, decide_eq_true ci.2, if_pos ci, Int.toNat_natCast, cb, cb', ee, i64_succ i (by omega)]))
    refine hnext _ _ ?_ ⟨i + 1, ?_, by omega, ho.nil (Only.drew [] w1)⟩ ?_
    · (repeat (first | with_reducible exact k_1 | with_reducible exact Keeps.ovr _ _ _ | refine Keeps.put ?_ rfl _ | exact k_1 | exact Keeps.ovr _ _ _ | refine Keeps.ovr2 ?_ rfl _))
    · simp only [go_sem]
    · rw [upTo_int (i := i) h5, upTo_int (k := .i64) (i := i + 1) (by simp only [go_sem])]; omega
  (repeat (first | with_reducible (first | refine nx ?_ | refine r_6 rfl ?_) | simp only [go_sem, h5, hm1.hb.cell, decide_eq_false (show ¬ (i : Int) < (q.B.length : Int) by omega)]))
  refine run_loop (6 :: 7 :: 8 :: 68 :: 69 :: 70 :: 71 :: 72 :: 73 :: 74 :: 75 :: 76 :: 77 :: 78 :: 79 :: 80 :: 81 :: 82 :: 83 :: 84 :: 85 :: 86 :: 87 :: 88 :: 89 :: 90 :: 91 :: 92 :: 93 :: 94 :: 95 :: 96 :: 97 :: 98 :: 99 :: 100 :: 101 :: 102 :: 103 :: 104 :: 105 :: 106 :: 107 :: 108 :: 109 :: 110 :: 111 :: 112 :: 113 :: 114 :: 115 :: 116 :: 117 :: 118 :: 119 :: 120 :: 121 :: 122 :: 123 :: 124 :: 125 :: 126 :: 127 :: 128 :: 129 :: 130 :: 131 :: 132 :: []) (fun g w' => ∃ i : Nat, g 6 = .int .i64 (i : Int) ∧ i ≤ L.length ∧ Only [] w w') (fun g _ => upTo L.length 6 g) ⟨0, by simp only [go_sem]; rfl, by omega, ho⟩ fun g2 w2 hI hnext2 => ?_
  clear ho hm1 hm1' hnext
  obtain ⟨i, h6, hi, ho⟩ := hI
  have hm1 := hm.keep0 ho
  have hm1' := hm'.keep0 ho
  by_cases c2 : i < L.length
  rotate_left
  · (repeat (first | with_reducible (first | refine nx ?_ | refine r_6 rfl ?_) | simp only [go_sem, h6, hm1.hb.cell, decide_eq_false (show ¬ (i : Int) < (L.length : Int) by omega)]))
    exact ho
  have ci : (0 : Int) ≤ (i : Int) ∧ (i : Int) < (L.length : Int) := by omega
  have ci' : (0 : Int) ≤ (i : Int) ∧ (i : Int) < (L'.length : Int) := by omega
  (repeat (first | with_reducible (first | refine nx ?_ | refine r_6 rfl ?_) | simp only [go_sem, h6, hm1.hb.cell, decide_eq_true ci.2]))
  have hd := hm1.keep0 (Only.drew [] w2)
  have hd' := hm1'.keep0 (Only.drew [] w2)
  obtain ⟨gO, _, yO, eO, hatO, _, _⟩ := hd.row (by omega)
  obtain ⟨gO', _, yO', eO', hatO', _, _⟩ := hd'.row (by omega)
  cases eO
  cases eO'
  obtain ⟨cA, _⟩ := hd.all (cap := 0) hatO c2
  obtain ⟨cA', _⟩ := hd'.all (cap := 0) hatO' (show i < L'.length by omega)
  have ho1 : L.getD i default ∈ L := by simp [c2]
  have ho1' : L'.getD i default ∈ L' := by have : i < L'.length := by omega
                                           simp [this]
  have eo : (L.getD i default).o = (L'.getD i default).o := by
    have e1 : (L.map OM.o)[i]? = (L'.map OM.o)[i]? := by rw [← hm.eq, ← hm'.eq]
    rw [List.getElem?_map, List.getElem?_map, List.getElem?_eq_getElem c2, List.getElem?_eq_getElem (show i < L'.length by omega)] at e1
    simp only [Option.map_some, Option.some.injEq] at e1
    simpa [List.getD_eq_getElem?_getD, c2, show i < L'.length by omega] using e1
  have oko := hm.om _ ho1
  have oko' := hm'.om _ ho1'
  have hno := hn (L.getD i default).o (by rw [hm.eq]; exact List.mem_map.2 ⟨_, ho1, rfl⟩)
  have one1 := oko.one
  have one1' := oko'.one
  generalize L.getD i default = m at *
  generalize L'.getD i default = m' at *
  refine run_cut (7 :: 8 :: 77 :: 78 :: 79 :: 80 :: 81 :: 82 :: 83 :: 84 :: 85 :: 86 :: 87 :: 88 :: 89 :: 90 :: []) (fun ρ' w' => ∃ q7 q8, ρ' 7 = .pointer (some ⟨q7, 0, none⟩) ∧ ρ' 8 = .pointer (some ⟨q8, 0, none⟩) ∧ At w' q7 m.V ∧ At w' q8 m'.V ∧ Only [] w2 w') (fun kk hkk => ?_) (fun g3 w3 hJ => ?_)
  · refine run_drt [a, b, gO, gO'] ?_
    have lts : ∀ z, z ∈ [a, b, gO, gO'] → z < w2.drew.heap.size := fun z hz => by
      simp only [List.mem_cons, List.not_mem_nil, or_false] at hz
      rcases hz with rfl | rfl | rfl | rfl
      · exact hd.hb.lt
      · exact hd'.hb.lt
      · exact hatO.lt
      · exact hatO'.lt
    have sbk : ∀ w', Only [] w2.drew w' → SB [a, b, gO, gO'] w2.drew w' := fun w' o => (SB.refl _ _).only o fun z hz => ⟨lts z hz, by simp⟩
    have oneV : ∀ u, u ∈ m.V → oneC u = true := fun u hu => omV_one (L := [m]) (fun m hm => by simp only [List.mem_singleton] at hm; rw [hm]; exact one1) u (by simpa [omV] using hu)
    have oneV' : ∀ u, u ∈ m'.V → oneC u = true := fun u hu => omV_one (L := [m']) (fun m hm => by simp only [List.mem_singleton] at hm; rw [hm]; exact one1') u (by simpa [omV] using hu)
    (repeat (first | with_reducible (first | refine nx ?_ | refine r_6 rfl ?_) | simp only [go_sem, h6, hd.hb.cell, hd'.hb.cell, if_pos ci, if_pos ci', Int.toNat_natCast, cA, cA']))
    refine ⟨?_, ?_⟩
    · refine boxS fun q7 u1 hq7 hs1 hat1 hu1 => ⟨.inr (sbk _ hu1), ?_⟩
      (repeat (first | with_reducible (first | refine nx ?_ | refine r_6 rfl ?_) | simp only [go_sem]))
      refine boxS fun q8 u2 hq8 hs2 hat2 hu2 => ⟨.inr (sbk _ (hu1.nil hu2)), ?_⟩
      (repeat (first | with_reducible (first | refine nx ?_ | refine r_6 rfl ?_) | simp only [go_sem]))
      have l1 := lts
      refine stNS (cs := m.V) (hat1.keep0 hu2) rfl (by simp [OM.V_len]) oneV fun u3 hs3 hat3 hu3 => ⟨.inr (sbk _ ((hu1.nil hu2).trans hu3 fun y hy => by simp only [List.mem_singleton] at hy; exact .inr (by omega))), ?_⟩
      (repeat (first | with_reducible (first | refine nx ?_ | refine r_6 rfl ?_) | simp only [go_sem]))
      refine stNS (cs := m'.V) (hat2.keep hu3 (by simp only [List.mem_singleton]; omega)) rfl (by simp [OM.V_len]) oneV' fun u4 hs4 hat4 hu4 => ⟨.inl rfl, ?_⟩
      (repeat (first | with_reducible (first | refine nx ?_ | refine r_6 rfl ?_) | simp only [go_sem]))
      refine hkk _ _ ?_ ⟨q7, q8, by simp only [go_sem], by simp only [go_sem], hat3.keep hu4 (by simp only [List.mem_singleton]; omega), hat4, (((Only.drew [] w2).nil hu1).nil hu2).trans (hu3.weak (T := [q7, q8]) (by simp) |>.same (hu4.weak (by simp))) fun y hy => ?_⟩
      · (repeat (first | with_reducible exact k_1 | with_reducible exact Keeps.ovr _ _ _ | refine Keeps.put ?_ rfl _ | exact k_1 | exact Keeps.ovr _ _ _ | refine Keeps.ovr2 ?_ rfl _))
      · have : w2.drew.heap.size = w2.heap.size := rfl
        simp only [List.mem_cons, List.not_mem_nil, or_false] at hy
        exact .inr (by omega)
    · refine boxS fun q8 u1 hq8 hs1 hat1 hu1 => ⟨.inr (sbk _ hu1), ?_⟩
      (repeat (first | with_reducible (first | refine nx ?_ | refine r_6 rfl ?_) | simp only [go_sem]))
      refine boxS fun q7 u2 hq7 hs2 hat2 hu2 => ⟨.inr (sbk _ (hu1.nil hu2)), ?_⟩
      (repeat (first | with_reducible (first | refine nx ?_ | refine r_6 rfl ?_) | simp only [go_sem]))
      refine stNS (cs := m.V) hat2 rfl (by simp [OM.V_len]) oneV fun u3 hs3 hat3 hu3 => ⟨.inr (sbk _ ((hu1.nil hu2).trans hu3 fun y hy => by simp only [List.mem_singleton] at hy; exact .inr (by omega))), ?_⟩
      (repeat (first | with_reducible (first | refine nx ?_ | refine r_6 rfl ?_) | simp only [go_sem]))
      refine stNS (cs := m'.V) ((hat1.keep0 hu2).keep hu3 (by simp only [List.mem_singleton]; omega)) rfl (by simp [OM.V_len]) oneV' fun u4 hs4 hat4 hu4 => ⟨.inl rfl, ?_⟩
      (repeat (first | with_reducible (first | refine nx ?_ | refine r_6 rfl ?_) | simp only [go_sem]))
      refine hkk _ _ ?_ ⟨q7, q8, by simp only [go_sem], by simp only [go_sem], hat3.keep hu4 (by simp only [List.mem_singleton]; omega), hat4, (((Only.drew [] w2).nil hu1).nil hu2).trans (hu3.weak (T := [q7, q8]) (by simp) |>.same (hu4.weak (by simp))) fun y hy => ?_⟩
      · (repeat (first | with_reducible exact k_1 | with_reducible exact Keeps.ovr _ _ _ | refine Keeps.put ?_ rfl _ | exact k_1 | exact Keeps.ovr _ _ _ | refine Keeps.ovr2 ?_ rfl _))
      · have : w2.drew.heap.size = w2.heap.size := rfl
        simp only [List.mem_cons, List.not_mem_nil, or_false] at hy
        exact .inr (by omega)
  obtain ⟨q7, q8, h7, h8, hat7, hat8, ho3⟩ := hJ
  have o3 := ho.nil ho3
  have hV : m.V = obV m.o m.vr m.vd := rfl
  have hV' : m'.V = obV m.o m'.vr m'.vd := by rw [eo]; rfl
  rw [hV] at hat7
  rw [hV'] at hat8
  have c7 : cellsAt w3 ⟨q7, 2, none⟩ 3 = some (shV m.o.sh) := by rw [cellsAt_at hat7 2 3 (by simp [obV])]; rfl
  have c8 : cellsAt w3 ⟨q8, 2, none⟩ 3 = some (shV m.o.sh) := by rw [cellsAt_at hat8 2 3 (by simp [obV])]; rfl
  have ee : eqAO true 3 (.agg ⟨shV m.o.sh⟩) (.agg ⟨shV m.o.sh⟩) = some (.bool false) := by
    unfold shV
    rw [eqAO_a true 3 _ _ rfl rfl]
    simp [eqCells_cons, eqCells_nil, notO_some]
  have b1 : ∀ x : Bool, (x == x) = true := fun x => by simp
  have b2 : (true != true) = false := rfl
  have i1 : ∀ x : Int, (x != x) = false := fun x => by simp
  have rr := (oko.r.keep0 o3)
  have rr' := (oko'.r.keep0 o3)
  have dd := (oko.d.keep0 o3)
  have dd' := (oko'.d.keep0 o3)
  rw [← eo] at rr' dd'
  (repeat (first | with_reducible (first | refine nx ?_ | refine r_6 rfl ?_) | simp only [go_sem, h7, h8, hat7.cell, hat8.cell, obV, c7, c8, ee, i1, b1, b2]))
  refine callT (cInts rr rr' (by have := hno.1; omega)) ?_
  rintro _ w4 ⟨rfl, ho4⟩
  (repeat (first | with_reducible (first | refine nx ?_ | refine r_6 rfl ?_) | simp only [go_sem, h7, h8, decide_eq_true (rfl : m.o.rf = m.o.rf), (hat7.keep0 ho4).cell, (hat8.keep0 ho4).cell, obV]))
  refine callT (cInts (dd.keep0 ho4) (dd'.keep0 ho4) (by have := hno.2; omega)) ?_
  rintro _ w5 ⟨rfl, ho5⟩
  (repeat (first | with_reducible (first | refine nx ?_ | refine r_6 rfl ?_) | simp only [go_sem, h6, decide_eq_true (rfl : m.o.dt = m.o.dt), i64_succ i (by omega)]))
  refine hnext2 _ w5 ?_ ⟨i + 1, ?_, by omega, (o3.nil ho4).nil ho5⟩ ?_
  · (repeat (first | with_reducible exact k_1 | with_reducible exact Keeps.ovr _ _ _ | refine Keeps.put ?_ rfl _ | exact k_1 | exact Keeps.ovr _ _ _ | refine Keeps.ovr2 ?_ rfl _))
  · simp only [go_sem]
  · rw [upTo_int (i := i) h6, upTo_int (k := .i64) (i := i + 1) (by simp only [go_sem])]; omega
end Go.Proofs.YtgcofabdialaaaaGreat
end
section
namespace Go.Proofs.YtgcofabdialaaaaGreat
set_option maxRecDepth 8000
theorem putM_len (m:IM) (k:Int) (v:Value):(putM m k v).length≤m.length+1:=by
 induction m with
 |nil=>simp[putM]
 |cons p m ih=>
  unfold putM;split
  ·simp
  ·simp only[List.length_cons];omega
theorem run_len {s0:HL}: ∀(l:List It) (s:HL) (t:BS),Akin s0 s→(runI s0 l (s,t)).2.D.length≤t.D.length+l.length∧(runI s0 l (s,t)).2.O.length≤t.O.length+l.length∧(runI s0 l (s,t)).2.S.length≤t.S.length+2*l.length∧(runI s0 l (s,t)).2.L.length≤t.L.length+l.length
 | [],s,t,_=>⟨by simp[runI],by simp[runI],by simp[runI],by simp[runI]⟩
 |it::l,s,t,hk=>by
  show(runI s0 l (stepS s0 it (s,t))).2.D.length≤_∧(runI s0 l (stepS s0 it (s,t))).2.O.length≤_∧(runI s0 l (stepS s0 it (s,t))).2.S.length≤_∧(runI s0 l (stepS s0 it (s,t))).2.L.length≤_
  simp only[List.length_cons]
  rcases step_cases (it:=it) (t:=t) hk with e|⟨k,j,to,s',h1,h2,h3,h4,h5,e⟩
  ·rw[e];have:=run_len l s t hk;omega
  ·rw[e]
   have ih:=run_len l s' (t.note (some s') (2*k) j (s.obAt k).rf to) h5
   obtain⟨n1,n2,n3,n4,n5,n6⟩:=note_spec (some s') t (2*k) j (s.obAt k).rf to
   have hD:(t.note (some s') (2*k) j (s.obAt k).rf to).D.length≤t.D.length+1:=by rw[n3];split;exact putM_len _ _ _;omega
   have hO:(t.note (some s') (2*k) j (s.obAt k).rf to).O.length≤t.O.length+1:=by rw[n4];split;exact putM_len _ _ _;omega
   have:=note_len (some s') t (2*k) j (s.obAt k).rf to
   omega
theorem Wt.len {g:BG} {w0 w:World} {a c x hb:Nat} {s0 s1:HL} {t:BS} {l:List It} {kd yg:Int} {fa fc fx fh:List Nat} (h:Wt g w0 w a c x hb s0 s1 t l kd yg fa fc fx fh):t.D.length≤60∧t.O.length≤60∧t.S.length≤120∧t.L.length≤60:=by
 have:=run_len (l.take 60) s0 (BS0 kd yg) h.k0
 rw[h.run]at this
 have e:(l.take 60).length≤60:=by simp;omega
 simp only[BS0,List.length_nil]at this
 omega
theorem FMs.ob {w:World} {b:Nat} {s s0:HL} {vB vO vF:Value} {fB fO fF:List Nat} {L:List OM} (h:FMs w b s.abs vB vO vF fB fO fF L) (he:s.objs=s0.objs):L.length=s0.objs.length∧ ∀i,i<s0.objs.length→(L.getD i default).o=s.obAt (s0.objs.getD i 0)∧L.getD i default∈L:=by
 have h1:s.objs.map s.obAt=L.map OM.o:=h.eq
 have hl:L.length=s0.objs.length:=by have:=congrArg List.length h1;simp only[List.length_map]at this;rw[←he];exact this.symm
 refine⟨hl,fun i hi=>⟨?_,by simp[hl,hi]⟩⟩
 have h2:(s.objs.map s.obAt)[i]? =(L.map OM.o)[i]? :=by rw[h1]
 rw[List.getElem?_map,List.getElem?_map,he,List.getElem?_eq_getElem hi,List.getElem?_eq_getElem (by omega)]at h2
 simp only[Option.map_some,Option.some.injEq]at h2
 simp only[List.getD_eq_getElem?_getD,List.getElem?_eq_getElem hi,List.getElem?_eq_getElem (show i<L.length by omega),Option.getD_some]
 exact h2.symm
end Go.Proofs.YtgcofabdialaaaaGreat
end
section
namespace Go.Proofs.YtgcofabdialaaaaGreat
set_option maxRecDepth 8000
end Go.Proofs.YtgcofabdialaaaaGreat
end
section
namespace Go.Proofs.YtgcofabdialaaaaGreat
set_option maxRecDepth 8000
theorem RfO.self (s:HL):RfO s s:=fun k _=>⟨(s.obAt k).rf,rfl,rfl⟩
theorem imgN: ∀ {L:List (Int×List Int)} {x:Int},imgO L x=none→ ∀e,e∈L→e.1≠x
 | [],_,_,e,he=>by cases he
 |p::L,x,h,e,he=>by
  unfold imgO at h
  by_cases c:p.1=x
  ·rw[if_pos c]at h;cases h
  ·rw[if_neg c]at h
   rcases List.mem_cons.1 he with rfl|he
   ·exact c
   ·exact imgN (Option.map_eq_none_iff.1 h) e he
theorem imgS: ∀ {L:List (Int×List Int)} {x:Int} {r:Nat},imgO L x=some r→ ∃e,e∈L∧e.1=x
 | [],_,_,h=>by cases h
 |p::L,x,r,h=>by
  unfold imgO at h
  by_cases c:p.1=x
  ·exact⟨p,by simp,c⟩
  ·rw[if_neg c]at h
   obtain⟨r',h',_⟩:=Option.map_eq_some_iff.1 h
   obtain⟨e,h1,h2⟩:=imgS h'
   exact⟨e,by simp[h1],h2⟩
theorem run_log {s0 s1:HL} {t:BS} {l:List It} {kd yg:Int} (h0:Akin s0 s0) (e:runI s0 l (s0,BS0 kd yg)=(s1,t)) (hb:isB kd 32=true):
  (∀e,e∈t.L→ ∃k:Nat,e.1=((2*k:Nat):Int)∧s0.st.getD k 0=1∧e.2=(s0.obAt k).rf)∧RfO s0 s1∧ ∀k:Nat,s0.st.getD k 0=1→(∀e,e∈t.L→e.1≠((2*k:Nat):Int))→s1.obAt k=s0.obAt k:=by
 have key:=run_ind (s0:=s0) (P:=fun s t=>t.kinds=kd∧(∀e,e∈t.L→ ∃k:Nat,e.1=((2*k:Nat):Int)∧s0.st.getD k 0=1∧e.2=(s0.obAt k).rf)∧RfO s0 s∧ ∀k:Nat,s0.st.getD k 0=1→(∀e,e∈t.L→e.1≠((2*k:Nat):Int))→s.obAt k=s0.obAt k) ?_ l s0 (BS0 kd yg) h0 ?_
 ·rw[e]at key;exact key.2
 rotate_left
 ·exact⟨rfl,fun e he=>(by cases he),.self s0,fun _ _ _=>rfl⟩
 rintro s t k j to s' hk ⟨p1,p2,p3,p4⟩ hkl hj ht e1 hk'
 obtain⟨n1,_,_,_,n5,_⟩:=note_spec (some s') t (2*k) j (s.obAt k).rf to
 have hk0:s0.st.getD k 0=1:=by rw[←hk.st];exact hkl
 rw[p1,hb,Bool.true_and]at n5
 have hin: ∃e,e∈(t.note (some s') (2*k) j (s.obAt k).rf to).L∧e.1=((2*k:Nat):Int):=by
  rw[n5]
  cases hi:imgO t.L ((2*k:Nat):Int)with
  |none=>exact⟨(((2*k:Nat):Int),(s.obAt k).rf),by simp,rfl⟩
  |some r=>obtain⟨e,h1,h2⟩:=imgS hi;exact⟨e,by simpa using h1,h2⟩
 refine⟨by rw[n1,p1],fun e he=>?_,p3.step hk hk0 hj ht e1,fun i hi hno=>?_⟩
 ·rw[n5]at he
  cases hi:imgO t.L ((2*k:Nat):Int)with
  |none=>
   rw[hi]at he
   simp only[Option.isNone_none,if_true,List.mem_append,List.mem_singleton]at he
   rcases he with he|rfl
   ·exact p2 e he
   ·exact⟨k,rfl,hk0,by simp only;rw[p4 k hk0 (imgN hi)]⟩
  |some r=>
   rw[hi]at he
   exact p2 e (by simpa using he)
 ·have hik:i≠k:=fun c=>by
   obtain⟨e,h1,h2⟩:=hin
   exact hno e h1 (by rw[h2,c])
  have hob:=obAt_setRef hk.ok (setRef_Ok hk.ok e1) hkl hj ht e1 i (by rw[hk.st];exact hi)
  rw[if_neg hik]at hob
  rw[hob]
  refine p4 i hi fun e he=>hno e ?_
  rw[n5]
  split
  ·exact List.mem_append_left _ he
  ·exact he
theorem FMs.refs {w:World} {b i n0 cv:Nat} {s:HL} {av:Option Addr} {vB vF:Value} {fB fO fF:List Nat} {L:List OM} (h:FMs w b s.abs vB (.slice av n0 cv) vF fB fO fF L) (hi:i<s.objs.length):
  ∃g vr fr,av=some ⟨g,0,none⟩∧ ∀w',Only [] w w'→w'.cell? ⟨g,i*8,none⟩=some (.int .i64 ((2*s.objs.getD i 0:Nat):Int))∧w'.cell? ⟨g,i*8+5,none⟩=some vr∧Sl w' 1 vr (s.obAt (s.objs.getD i 0)).rf.length (ints (s.obAt (s.objs.getD i 0)).rf) fr:=by
 obtain⟨lc,rc⟩:=h.ob (s0:=s) rfl
 obtain⟨oc,mc⟩:=rc i hi
 obtain⟨gc,cc',yc,ec,rowc,_,_⟩:=h.row (by omega)
 cases ec
 have okcr:=(h.om _ mc).r
 rw[oc]at okcr
 have c5:=omV_cell (j:=5) yc (show i<L.length by omega) (by omega)
 have c0:=omV_cell (j:=0) yc (show i<L.length by omega) (by omega)
 have c0':(L.getD i default).V[0]? =some (.int .i64 ((2*s.objs.getD i 0:Nat):Int)):=by show some (Value.int .i64 (L.getD i default).o.a)=_;rw[oc];rfl
 rw[c0']at c0
 exact⟨gc,(L.getD i default).vr,_,rfl,fun w' ho=>⟨by rw[(rowc.keep0 ho).cell];exact c0,by rw[(rowc.keep0 ho).cell];exact c5,okcr.keep0 ho⟩⟩
end Go.Proofs.YtgcofabdialaaaaGreat
end
section
namespace Go.Proofs.YtgcofabdialaaaaGreat
set_option maxRecDepth 8000
def strip (it:It):It:=(it.1,it.2.1,it.2.2.1,false)
theorem stepS_strip (s0:HL) (it:It) (st:HL×BS):stepS s0 (strip it) st=stepS s0 it st:=rfl
theorem runI_strip (s0:HL): ∀(l:List It) (st:HL×BS),runI s0 (l.map strip) st=runI s0 l st
 | [],_=>rfl
 |it::l,st=>by
  show runI s0 (l.map strip) (stepS s0 (strip it) st)=runI s0 l (stepS s0 it st)
  rw[runI_strip s0 l,stepS_strip]
theorem runI_same (s0:HL) {l l':List It} (h:l.map strip=l'.map strip) (n:Nat) (st:HL×BS):runI s0 (l.take n) st=runI s0 (l'.take n) st:=by
 rw[←runI_strip s0 (l.take n),←runI_strip s0 (l'.take n),List.map_take,List.map_take,h]
structure Few (kd md:Int) (t1 t2:BS):Prop where
 k1:t1.kinds=kd
 k2:t2.kinds=md
 y:t1.young=t2.young
 D1:isB md 1=true→t1.D=t2.D
 D0:isB md 1=false→t2.D=[]
 O1:isB md 2=true→t1.O=t2.O
 O0:isB md 2=false→t2.O=[]
 L1:isB md 32=true→t1.L=t2.L
 L0:isB md 32=false→t2.L=[]
 S1:isB kd 4=isB md 4→isB kd 8=isB md 8→t1.S=t2.S
 S0:isB md 4=false→isB md 8=false→t2.S=[]
def SubB (kd md:Int):Prop:=(isB md 1=true→isB kd 1=true)∧(isB md 2=true→isB kd 2=true)∧(isB md 32=true→isB kd 32=true)
theorem Few.note {kd md:Int} {t1 t2:BS} (hs:SubB kd md) (h:Few kd md t1 t2) (m:HO) (x i:Nat) (refs:List Int) (now:Int):Few kd md (t1.note m x i refs now) (t2.note m x i refs now):=by
 obtain⟨a1,a2,a3,a4,a5,a6⟩:=note_spec m t1 x i refs now
 obtain⟨b1,b2,b3,b4,b5,b6⟩:=note_spec m t2 x i refs now
 obtain⟨s1,s2,s3⟩:=hs
 rw[h.k1]at a1 a3 a4 a5 a6
 rw[h.k2]at b1 b3 b4 b5 b6
 rw[h.y]at a4
 refine⟨a1,b1,by rw[a2,b2,h.y],fun e=>?_,fun e=>?_,fun e=>?_,fun e=>?_,fun e=>?_,fun e=>?_,fun e4 e8=>?_,fun e4 e8=>?_⟩
 ·rw[a3,b3,e,s1 e,h.D1 e]
 ·rw[b3,e];exact h.D0 e
 ·rw[a4,b4,e,s2 e,h.O1 e]
 ·rw[b4,e];exact h.O0 e
 ·rw[a5,b5,e,s3 e,h.L1 e]
 ·rw[b5,e];exact h.L0 e
 ·rw[a6,b6,e4,e8,h.S1 e4 e8]
 ·rw[b6,e4,e8];exact h.S0 e4 e8
theorem Few.run {kd md:Int} (hs:SubB kd md) (s0:HL): ∀(l:List It) (s:HL) (t1 t2:BS),Few kd md t1 t2→(runI s0 l (s,t1)).1=(runI s0 l (s,t2)).1∧Few kd md (runI s0 l (s,t1)).2 (runI s0 l (s,t2)).2
 | [],s,t1,t2,h=>⟨rfl,h⟩
 |it::l,s,t1,t2,h=>by
  show(runI s0 l (stepS s0 it (s,t1))).1=(runI s0 l (stepS s0 it (s,t2))).1∧Few kd md (runI s0 l (stepS s0 it (s,t1))).2 (runI s0 l (stepS s0 it (s,t2))).2
  have key: ∃s' t1' t2',stepS s0 it (s,t1)=(s',t1')∧stepS s0 it (s,t2)=(s',t2')∧Few kd md t1' t2':=by
   unfold stepS
   simp only
   split
   ·split
    ·rename_i s' _
     exact⟨s',_,_,rfl,rfl,h.note hs _ _ _ _ _⟩
    ·exact⟨s,t1,t2,rfl,rfl,h⟩
   ·exact⟨s,t1,t2,rfl,rfl,h⟩
  obtain⟨s',t1',t2',e1,e2,h'⟩:=key
  rw[e1,e2]
  exact Few.run hs s0 l s' t1' t2' h'
theorem Few.zero (kd md yg:Int):Few kd md (BS0 kd yg) (BS0 md yg):=⟨rfl,rfl,rfl,fun _=>rfl,fun _=>rfl,fun _=>rfl,fun _=>rfl,fun _=>rfl,fun _=>rfl,fun _ _=>rfl,fun _ _=>rfl⟩
theorem bandN (a b:Nat) (ha:a<4294967296):bitI .and .i64 (a:Int) (b:Int)=((a&&& b:Nat):Int):=by
 have h1:a&&& b≤a:=Nat.and_le_left
 unfold bitI
 simp only[BitVec.ofInt_natCast]
 have e:(BitVec.ofNat IntKind.i64.bits a&&& BitVec.ofNat IntKind.i64.bits b).toNat=a&&& b:=by
  rw[BitVec.toNat_and,BitVec.toNat_ofNat,BitVec.toNat_ofNat]
  show a%2^64&&& b%2^64=a&&& b
  rw[←Nat.and_mod_two_pow,Nat.mod_eq_of_lt (by omega)]
 rw[e,IntWalk.i64_in _ (by omega)]
theorem isBN (a c:Nat) (ha:a<4294967296):isB (a:Int) (c:Int)=((a&&& c) !=0):=by
 unfold isB
 rw[bandN a c ha,Bool.eq_iff_iff]
 simp only[bne_iff_ne,ne_eq]
 omega
theorem band_sub (k f c:Nat) (h:(k&&& f)&&& c≠0):k&&& c≠0:=fun e=>h (by rw[Nat.and_assoc,Nat.and_comm f c,←Nat.and_assoc,e,Nat.zero_and])
theorem subB (k f:Nat) (hk:k<64):SubB (k:Int) ((k&&& f:Nat):Int):=by
 have h1:k&&& f≤k:=Nat.and_le_left
 have key: ∀c:Nat,isB ((k&&& f:Nat):Int) (c:Int)=true→isB (k:Int) (c:Int)=true:=fun c h=>by
  rw[isBN _ _ (by omega)]at h⊢
  simp only[bne_iff_ne,ne_eq]at h⊢
  exact band_sub k f c h
 exact⟨key 1,key 2,key 32⟩
theorem both12 (k m:Nat) (hk:k<64) (hm:m<64) (h:k&&& 12=m&&& 12):isB (k:Int) 4=isB (m:Int) 4∧isB (k:Int) 8=isB (m:Int) 8:=by
 have key: ∀c:Nat,12&&& c=c→isB (k:Int) (c:Int)=isB (m:Int) (c:Int):=fun c hc=>by
  rw[isBN _ _ (by omega),isBN _ _ (by omega),←hc,←Nat.and_assoc,←Nat.and_assoc,h]
 exact⟨key 4 rfl,key 8 rfl⟩
theorem none12 (m:Nat) (hm:m<64) (h:m&&& 12=0):isB (m:Int) 4=false∧isB (m:Int) 8=false:=by
 have key: ∀c:Nat,12&&& c=c→isB (m:Int) (c:Int)=false:=fun c hc=>by
  rw[isBN _ _ (by omega),←hc,←Nat.and_assoc,h,Nat.zero_and];rfl
 exact⟨key 4 rfl,key 8 rfl⟩
theorem sortI_eq {xs ys:List Int} (h:xs.Perm ys):sortI xs=sortI ys:=by
 unfold sortI
 have p: ∀zs:List Int,(zs.mergeSort fun x y=>decide (x≤y)).Pairwise (fun a b=>decide (a≤b)=true):=fun zs=>List.pairwise_mergeSort (fun a b c=>by simp only[decide_eq_true_eq];omega) (fun a b=>by simp only[Bool.or_eq_true,decide_eq_true_eq];omega) zs
 exact List.Perm.eq_of_pairwise (fun a b _ _ h1 h2=>by simp only[decide_eq_true_eq]at h1 h2;omega) (p xs) (p ys) (((List.mergeSort_perm _ _).trans h).trans (List.mergeSort_perm _ _).symm)
end Go.Proofs.YtgcofabdialaaaaGreat
end
section
namespace Go.Proofs.YtgcofabdialaaaaGreat
set_option maxRecDepth 8000
def LogAt (w:World) (v:Value) (M:List LM):Prop:=(∃fp,Sl w 2 v M.length (lgV M) fp)∧ ∀m,m∈M→m.ok w
theorem LogAt.keep0 {w w':World} {v:Value} {M:List LM} (h:LogAt w v M) (k:Only [] w w'):LogAt w' v M:=⟨h.1.imp fun _ h=>h.keep0 k,fun m hm=>Sl.keep0 (h.2 m hm) k⟩
theorem LogAt.see {w:World} {v:Value} {M:List LM} (h:LogAt w v M) {i:Nat} (c1:i<M.length): ∃gl cap,v=.slice (some ⟨gl,0,none⟩) M.length cap∧gl<w.heap.size∧w.cell? ⟨gl,i*2,none⟩=some (.int .i64 (M.getD i default).o)∧w.cell? ⟨gl,i*2+1,none⟩=some (M.getD i default).v∧(M.getD i default).ok w:=by
 obtain⟨⟨fp,hs⟩,ho⟩:=h
 obtain⟨gl,cap,ys,e,hat,_⟩:=hs.posZ (by omega)
 have hmem:M.getD i default∈M:=by simp[c1]
 have hlen:=lgV_len M
 have hrow: ∀j,j<2→(lgV M++ys)[i*2+j]? =(M.getD i default).V[j]? :=fun j hj=>by
  rw[←lgV_at ys c1,List.getElem?_take,if_pos hj,List.getElem?_drop]
 refine⟨gl,cap,e,hat.lt,?_,?_,ho _ hmem⟩
 ·have:=hrow 0 (by omega)
  rw[hat.cell];rw[Nat.add_zero]at this;rw[this];rfl
 ·rw[hat.cell,hrow 1 (by omega)];rfl
theorem LogAt.val {w:World} {v:Value} {M:List LM} (h:LogAt w v M): ∃(a:Option Addr) (c:Nat),v=.slice a M.length c:=by
 obtain⟨⟨fp,hs⟩,_⟩:=h
 exact hs.val
theorem cImages {w:World} {va vb:Value} {M N:List LM} (ha:LogAt w va M) (hb:LogAt w vb N) (he:M.map LM.im=N.map LM.im) (hM:M.length≤1000) (hr: ∀m,m∈M→m.r.length≤1000):
  Cs Tryz.prog 21 [va,vb] w fun v w'=>v=.bool true∧Only [] w w':=by
 obtain⟨aa,ca,rfl⟩:=ha.val
 obtain⟨ab,cb,rfl⟩:=hb.val
 have hl:M.length=N.length:=by have:=congrArg List.length he;simpa using this
 refine enter_law12_images rfl ?_
 unfold x_law12_images
 (repeat(first|with_reducible(first|refine nx ?_|refine r_6 rfl ?_)|simp only[go_sem,bne_int_false (show(M.length:Int)=(N.length:Int) by omega)]))
 refine run_loop (5::11::12::13::14::15::16::17::18::19::20::21::22::23::24::25::26::27::28::29::30::31::32::33::34::35::36::37::38::39::40::41::[]) (fun g w'=> ∃i:Nat,g 5=.int .i64 (i:Int)∧i≤M.length∧Only [] w w') (fun g _=>upTo M.length 5 g) ⟨0,by simp only[go_sem];rfl,by omega,Only.refl _ _⟩ fun g w1 hI hnext=>?_
 obtain⟨i,h5,hi,ho⟩:=hI
 by_cases c1:i<M.length
 rotate_left
 ·(repeat(first|with_reducible(first|refine nx ?_|refine r_6 rfl ?_)|simp only[go_sem,h5,decide_eq_false (show¬(i:Int)<(M.length:Int) by omega)]))
  exact ho
 have od:=ho.nil (Only.drew [] w1)
 obtain⟨ga,capa,ea,_,a1,a2,a3⟩:=(ha.keep0 od).see c1
 obtain⟨gb,capb,eb,_,b1,b2,b3⟩:=(hb.keep0 od).see (show i<N.length by omega)
 cases ea
 cases eb
 have hmem:M.getD i default∈M:=by simp[c1]
 have him:(M.getD i default).im=(N.getD i default).im:=by
  have:(M.map LM.im)[i]? =(N.map LM.im)[i]? :=by rw[he]
  rw[List.getElem?_map,List.getElem?_map,List.getElem?_eq_getElem c1,List.getElem?_eq_getElem (show i<N.length by omega)]at this
  simp only[Option.map_some,Option.some.injEq]at this
  simpa[List.getD_eq_getElem?_getD,c1,show i<N.length by omega]using this
 have hrl:=hr _ hmem
 generalize M.getD i default=m at*
 generalize N.getD i default=n at*
 have eo:m.o=n.o:=congrArg Prod.fst him
 have er:m.r=n.r:=congrArg Prod.snd him
 rw[←eo]at b1
 have b3':Sl w1.drew 1 n.v m.r.length (ints m.r) n.f:=by rw[er];exact b3
 have ci:(0:Int)≤(i:Int)∧(i:Int)<(M.length:Int):=by omega
 have ci':(0:Int)≤(i:Int)∧(i:Int)<(N.length:Int):=by omega
 (repeat(first|with_reducible(first|refine nx ?_|refine r_6 rfl ?_)|simp only[go_sem,h5,decide_eq_true ci.2,if_pos ci,if_pos ci',Int.toNat_natCast,Nat.add_zero,a1,a2,b1,b2,bne_int_false (rfl:m.o=m.o)]))
 refine callT (cInts a3 b3' (by omega)) ?_
 rintro _ w2 ⟨rfl,ho2⟩
 (repeat(first|with_reducible(first|refine nx ?_|refine r_6 rfl ?_)|simp only[go_sem,decide_eq_true (rfl:m.r=m.r),h5,i64_succ i (by omega)]))
 refine hnext _ w2 ?_ ⟨i+1,?_,by omega,od.nil ho2⟩ ?_
 ·(repeat(first|with_reducible exact k_1|with_reducible exact Keeps.ovr _ _ _|refine Keeps.put ?_ rfl _|exact k_1|exact Keeps.ovr _ _ _|refine Keeps.ovr2 ?_ rfl _))
 ·simp only[go_sem]
 ·rw[upTo_int (i:=i) h5,upTo_int (k:=.i64) (i:=i+1) (by simp only[go_sem])];omega
def itV (it:It):List Value:=[u8V it.1,u8V it.2.1,u8V it.2.2.1,.bool it.2.2.2]
def itsV (l:List It):List Value:=l.flatMap itV
theorem itsV_len (l:List It):(itsV l).length=l.length*4:=by
 induction l with
 |nil=>rfl
 |cons m M ih=>
  have:itsV (m::M)=itV m++itsV M:=rfl
  rw[this,List.length_append,ih];simp[itV];omega
theorem itsV_at {M:List It} {i j:Nat} (ys:List Value) (h:i<M.length) (hj:j<4):(itsV M++ys)[i*4+j]? =(itV (M.getD i default))[j]? :=by
 induction M generalizing i with
 |nil=>simp at h
 |cons m M ih=>
  have e:itsV (m::M)=itV m++itsV M:=rfl
  cases i with
  |zero=>rw[e,List.append_assoc,Nat.zero_mul,Nat.zero_add,List.getElem?_append_left (by simp[itV];omega)];simp
  |succ i=>
   rw[e,List.append_assoc,List.getElem?_append_right (by simp[itV];omega),show(i+1)*4+j-(itV m).length=i*4+j by simp[itV];omega,ih (by simpa using h)]
   simp
theorem itsV_set {M:List It} {i:Nat} (ys:List Value) (b:Bool) (h:i<M.length):(itsV M++ys).set (i*4+3) (.bool b)=itsV (M.set i ((M.getD i default).1,(M.getD i default).2.1,(M.getD i default).2.2.1,b))++ys:=by
 induction M generalizing i with
 |nil=>simp at h
 |cons m M ih=>
  have e:itsV (m::M)=itV m++itsV M:=rfl
  cases i with
  |zero=>rw[e];simp[itV,itsV]
  |succ i=>
   have e2:((m::M).set (i+1) (((m::M).getD (i+1) default).1,((m::M).getD (i+1) default).2.1,((m::M).getD (i+1) default).2.2.1,b))=m::M.set i ((M.getD i default).1,(M.getD i default).2.1,(M.getD i default).2.2.1,b):=by simp
   have e3: ∀L,itsV (m::L)=itV m++itsV L:=fun _=>rfl
   rw[e2,e,e3,List.append_assoc,List.append_assoc,List.set_append_right _ _ (by simp[itV];omega),show(i+1)*4+3-(itV m).length=i*4+3 by simp[itV];omega,ih (by simpa using h)]
theorem StAt.src {h0:Nat} {w:World} {v:Value} {l:List It} (h:StAt h0 w v l):SrcIs w 4 v l.length (itsV l)∧ ∀u,u∈itsV l→oneC u=true:=by
 obtain⟨a,cap,rfl,hc⟩:=h
 refine⟨⟨itsV_len l,?_⟩,fun u hu=>?_⟩
 ·by_cases hl:0<l.length
  ·obtain⟨p,rfl,_⟩:=hc 0 hl
   refine .inr ⟨p,cap,rfl,?_⟩
   have:=cellsAt_fn (w:=w) (a:=p) (n:=l.length*4) (fun j=>((itsV l)[j]?).getD default) fun j hj=>?_
   ·rw[this]
    congr 1
    refine List.ext_getElem (by simp[itsV_len]) fun k k1 k2=>?_
    simp[k2]
   ·obtain⟨p',e',_,l1,l2,l3,g0,g1,g2,g3⟩:=hc (j/4) (by omega)
    cases e'
    have hj4:j=j/4*4+j%4:=by omega
    have hlt:j%4<4:=Nat.mod_lt _ (by omega)
    have key:=itsV_at (M:=l) [] (show j/4<l.length by omega) hlt
    rw[List.append_nil,←hj4]at key
    rw[key]
    have hadd: ∀t,j%4=t→p.add j=(p.add (j/4*4)).add t:=fun t ht=>by
     have e1:(p.add (j/4*4)).add t=p.add (j/4*4+t):=by
      generalize j/4*4=a
      by_cases t0:t=0<;>by_cases a0:a=0<;>simp[Addr.add,t0,a0,Nat.add_assoc]
     rw[e1];congr 1;omega
    have:j%4=0∨j%4=1∨j%4=2∨j%4=3:=by omega
    rcases this with e|e|e|e
    ·rw[hadd 0 e,e];exact g0
    ·rw[hadd 1 e,e];exact g1
    ·rw[hadd 2 e,e];exact g2
    ·rw[hadd 3 e,e];exact g3
  ·have e0:l.length=0:=by omega
   obtain rfl:l=[]:=List.length_eq_zero_iff.1 e0
   cases a with
   |none=>exact .inl ⟨cap,rfl,rfl⟩
   |some p=>exact .inr ⟨p,cap,rfl,rfl⟩
 ·simp only[itsV,List.mem_flatMap]at hu
  obtain⟨m,_,hu⟩:=hu
  simp only[itV,List.mem_cons,List.not_mem_nil,or_false]at hu
  rcases hu with rfl|rfl|rfl|rfl<;>rfl
end Go.Proofs.YtgcofabdialaaaaGreat
end
section
namespace Go.Proofs.YtgcofabdialaaaaGreat
set_option maxRecDepth 8000
end Go.Proofs.YtgcofabdialaaaaGreat
end
section
namespace Go.Proofs.YtgcofabdialaaaaGreat
set_option maxRecDepth 8000
end Go.Proofs.YtgcofabdialaaaaGreat
end
section
namespace Go.Proofs.YtgcofabdialaaaaGreat
set_option maxRecDepth 8000
theorem FMs.see {w:World} {b i n0 cv:Nat} {s:HL} {av:Option Addr} {vB vF:Value} {fB fO fF:List Nat} {L:List OM} (h:FMs w b s.abs vB (.slice av n0 cv) vF fB fO fF L) (hi:i<s.objs.length):
  ∃g r cp gr,av=some ⟨g,0,none⟩∧(0<(s.obAt (s.objs.getD i 0)).rf.length→r=some ⟨gr,0,none⟩)∧ ∀w',Only [] w w'→w'.cell? ⟨g,i*8,none⟩=some (.int .i64 ((2*s.objs.getD i 0:Nat):Int))∧
   w'.cell? ⟨g,i*8+5,none⟩=some (.slice r (s.obAt (s.objs.getD i 0)).rf.length cp)∧ ∀j,j<(s.obAt (s.objs.getD i 0)).rf.length→w'.cell? ⟨gr,j,none⟩=some (.int .i64 (s.RF (s.objs.getD i 0) j)):=by
 obtain⟨lc,rc⟩:=h.ob (s0:=s) rfl
 obtain⟨oc,mc⟩:=rc i hi
 obtain⟨gc,cc',yc,ec,rowc,_,_⟩:=h.row (by omega)
 cases ec
 have okcr:=(h.om _ mc).r
 rw[oc]at okcr
 have c5:=omV_cell (j:=5) yc (show i<L.length by omega) (by omega)
 have c0:=omV_cell (j:=0) yc (show i<L.length by omega) (by omega)
 have c0':(L.getD i default).V[0]? =some (.int .i64 ((2*s.objs.getD i 0:Nat):Int)):=by show some (Value.int .i64 (L.getD i default).o.a)=_;rw[oc];rfl
 have c5':(L.getD i default).V[5]? =some (L.getD i default).vr:=rfl
 rw[c0']at c0
 rw[c5']at c5
 generalize (L.getD i default).vr=vc at*
 obtain⟨cr,ccp,rfl⟩:=okcr.val
 by_cases hz:0<(s.obAt (s.objs.getD i 0)).rf.length
 ·obtain⟨gr,cap1,y1,er1,atr1,_,_⟩:=okcr.pos hz
  obtain rfl:cr=some ⟨gr,0,none⟩:=by cases er1;rfl
  refine⟨gc,_,ccp,gr,rfl,fun _=>rfl,fun w' ho=>⟨?_,?_,fun j hj=>?_⟩⟩
  ·rw[(rowc.keep0 ho).cell];exact c0
  ·rw[(rowc.keep0 ho).cell];exact c5
  ·rw[(atr1.keep0 ho).cell];exact ints_append_get y1 hj
 ·refine⟨gc,cr,ccp,0,rfl,fun h=>absurd h hz,fun w' ho=>⟨?_,?_,fun j hj=>absurd hj (by omega)⟩⟩
  ·rw[(rowc.keep0 ho).cell];exact c0
  ·rw[(rowc.keep0 ho).cell];exact c5
end Go.Proofs.YtgcofabdialaaaaGreat
end
section
namespace Go.Proofs.YtgcofabdialaaaaGreat
set_option maxRecDepth 8000
end Go.Proofs.YtgcofabdialaaaaGreat
end
section
namespace Go.Proofs.YtgcofabdialaaaaGreat
set_option maxRecDepth 8000
theorem VO_mono {P:Program}: ∀(xs:List XO) (ρ:Env) (w:World) (C D:Env→World→Prop),VO P xs ρ w C→(∀ρ w,C ρ w→D ρ w)→VO P xs ρ w D
 | [],_,_,_,_,h,k=>by simp only[VO]at h⊢;exact k _ _ h
 |o::xs,ρ,w,C,D,h,k=>by
  simp only[VO]at h⊢
  split at h
  ·rename_i hg;rw[if_pos hg];exact stepX_mono h fun v w' hv=>VO_mono xs _ _ _ _ hv k
  ·rename_i hg;rw[if_neg hg];exact VO_mono xs _ _ _ _ h k
theorem VO_join {P:Program}: ∀(xs ys:List XO) (ρ:Env) (w:World) (C:Env→World→Prop),VO P xs ρ w (fun ρ w=>VO P ys ρ w C)→VO P (xs++ys) ρ w C
 | [],_,_,_,_,h=>by rw[VO]at h;exact h
 |o::xs,ys,ρ,w,C,h=>by
  simp only[List.cons_append,VO]at h⊢
  split at h
  ·rename_i hg;rw[if_pos hg];exact stepX_mono h fun v w' hv=>VO_join xs ys _ _ _ hv
  ·rename_i hg;rw[if_neg hg];exact VO_join xs ys _ _ _ h
theorem vo_cut {P:Program} {l:List XO} {ρ:Env} {w:World} {C:Env→World→Prop} (n:Nat) (W:List Nat) (J:Env→World→Prop)
  (h1:VO P (l.take n) ρ w fun ρ' w'=>Keeps W ρ ρ'∧J ρ' w') (h2: ∀g w',J g w'→VO P (l.drop n) (ovr W g ρ) w' C):VO P l ρ w C:=by
 rw[←List.take_append_drop n l]
 refine VO_join _ _ _ _ _ (VO_mono _ _ _ _ _ h1 fun ρ' w' h=>?_)
 rw[h.1.eq];exact h2 ρ' w' h.2
theorem Sl.emptyZ {w:World} {q sz:Nat} (h:At w q []):Sl w sz (.slice (some ⟨q,0,none⟩) 0 0) 0 [] [q]:=by
 obtain⟨T,h⟩:=h
 exact⟨by simp,.inr ⟨q,0,[],T,rfl,rfl,by simpa using h,by simp,Nat.le_refl _⟩⟩
theorem add_head (g n:Nat):(⟨g,0,none⟩:Addr).add n=⟨g,n,none⟩:=by
 by_cases c:n=0<;>simp[Addr.add,c]
theorem add_off (g k n:Nat):(⟨g,k,none⟩:Addr).add n=⟨g,k+n,none⟩:=by
 by_cases c:n=0<;>simp[Addr.add,c]
theorem StAt.of {w:World} {v:Value} {l:List It} {fp:List Nat} (h:Sl w 4 v l.length (itsV l) fp) (hb: ∀i,i<l.length→(l.getD i default).1<256∧(l.getD i default).2.1<256∧(l.getD i default).2.2.1<256):StAt w.heap.size w v l:=by
 obtain⟨a,cap,rfl⟩:=h.val
 refine⟨a,cap,rfl,fun i hi=>?_⟩
 obtain⟨g,cap',ys,e,hat,_⟩:=h.posZ (by omega)
 cases e
 obtain⟨b1,b2,b3⟩:=hb i hi
 have key: ∀j,j<4→w.cell? ((Addr.mk g 0 none).add (i*4)|>.add j)=(itV (l.getD i default))[j]? :=fun j hj=>by
  rw[add_head,add_off,hat.cell,itsV_at ys hi hj]
 refine⟨⟨g,0,none⟩,rfl,hat.lt,b1,b2,b3,?_,key 1 (by omega),key 2 (by omega),key 3 (by omega)⟩
 have:=key 0 (by omega)
 have e0:((⟨g,0,none⟩:Addr).add (i*4)).add 0=(⟨g,0,none⟩:Addr).add (i*4):=by simp[Addr.add]
 rw[e0]at this
 exact this
theorem StAt.bytes {h0:Nat} {w:World} {v:Value} {l:List It} (h:StAt h0 w v l): ∀i,i<l.length→(l.getD i default).1<256∧(l.getD i default).2.1<256∧(l.getD i default).2.2.1<256:=by
 obtain⟨a,cap,rfl,hc⟩:=h
 intro i hi
 obtain⟨_,_,_,h1,h2,h3,_⟩:=hc i hi
 exact⟨h1,h2,h3⟩
theorem abs_small {s0 s:HL} (hk:Akin s0 s) (hn:s.objs.length≤40):s.abs.O.length≤1000∧ ∀o,o∈s.abs.O→o.rf.length≤1000∧o.dt.length≤1000:=by
 refine⟨by rw[abs_len];omega,fun o ho=>?_⟩
 simp only[HL.abs,List.mem_map]at ho
 obtain⟨k,hk',rfl⟩:=ho
 have hk':=mem_objs.1 hk'
 obtain⟨e1,e2,e3⟩:=obAt_len hk.ok hk'
 have:=rf_le hk.ok hk'
 obtain⟨_,w1,_,w2⟩:=words_le e3
 exact⟨by omega,by omega⟩
theorem sl_sort {w:World} {v:Value} {xs:List Int} {m:IM} {fp:List Nat} (h:Sl w 1 v xs.length (ints (sortI xs)) fp) (hp:xs.Perm m.keys):Sl w 1 v (sortI m.keys).length (ints (sortI m.keys)) fp:=by
 rw[sortI_eq hp,hp.length_eq,←sortI_len]at h;exact h
theorem bDirtyK {w:World} {b:Nat} {p:Addr} {t:BS} {bd bo:Nat} {vs vl:Value} {fs fl:List Nat} {M:List LM} (h:BMs w b p t bd bo vs vl fs fl M) (hl:t.D.length≤60):Cs Tryz.prog 12 [.pointer (some ⟨b,0,none⟩)] w fun v w'=>Only [] w w'∧ ∃fp,Sl w' 1 v (sortI t.D.keys).length (ints (sortI t.D.keys)) fp:=by
 refine(bDirty h.hb h.hd (by omega)).mono ?_
 rintro v w' ⟨ho,xs,fp,h1,_,h2⟩
 exact⟨ho,fp,sl_sort h1 h2⟩
theorem bRememberedK {w:World} {b:Nat} {p:Addr} {t:BS} {bd bo:Nat} {vs vl:Value} {fs fl:List Nat} {M:List LM} (h:BMs w b p t bd bo vs vl fs fl M) (hl:t.O.length≤60):Cs Tryz.prog 16 [.pointer (some ⟨b,0,none⟩)] w fun v w'=>Only [] w w'∧ ∃fp,Sl w' 1 v (sortI t.O.keys).length (ints (sortI t.O.keys)) fp:=by
 refine(bRemembered h.hb h.ho (by omega)).mono ?_
 rintro v w' ⟨ho,xs,fp,h1,_,h2⟩
 exact⟨ho,fp,sl_sort h1 h2⟩
theorem bLogK {w:World} {b:Nat} {p:Addr} {t:BS} {bd bo:Nat} {vs vl:Value} {fs fl:List Nat} {M:List LM} (h:BMs w b p t bd bo vs vl fs fl M) (hl:t.L.length≤60) (hr: ∀e,e∈t.L→e.2.length≤15):Cs Tryz.prog 22 [.pointer (some ⟨b,0,none⟩)] w fun v w'=>Only [] w w'∧ ∃M',LogAt w' v M'∧M'.map LM.im=t.L:=by
 have hMl:M.length≤60:=by have:=congrArg List.length h.eq;simp only[List.length_map]at this;omega
 refine(bLog h.hb h.hl h.om (by omega) fun m hm=>?_).mono ?_
 ·have:=hr m.im (by rw[h.eq];exact List.mem_map.2 ⟨m,hm,rfl⟩)
  have e:m.im.2=m.r:=rfl
  rw[e]at this;omega
 rintro v w' ⟨ho,M',fp,h1,h2,h3,_⟩
 exact⟨ho,M',⟨⟨fp,h1⟩,h3⟩,by rw[h2,h.eq]⟩
theorem eq0_not (x:Int):(x==0)=!(x !=0):=by simp[bne]
theorem keys_len (m:IM) (h:m=[]):(sortI m.keys).length=0:=by subst h;rw[sortI_len];rfl
theorem law_Fewer {w:World} {cs:List Value} {g:BG} {vO vD vL vP vN vl:Value} {l:List It} (hg:BegAt w.heap.size w cs g vO vD vL vP vN) (hl:StAt w.heap.size w vl l) (hlen:l.length≤2000000) (kn:Nat) (hkn:kn<256) (fn:Nat) (hfn:fn<256):
  Cs Tryz.prog 7 [.agg ⟨cs⟩,.int .u8 (kn:Int),.int .u8 (fn:Int),vl] w fun v w'=>v=.bool true∧Only [] w w':=by
 have hcs:=hg.e
 have m64:((kn:Nat):Int).tmod 64=((kn%64:Nat):Int):=tmodN kn 64
 obtain⟨k,hk⟩: ∃k,k=kn%64:=⟨_,rfl⟩
 have hk64:k<64:=by omega
 rw[←hk]at m64
 obtain⟨m,hm⟩: ∃m,m=k&&& fn:=⟨_,rfl⟩
 have hmk:m≤k:=by rw[hm];exact Nat.and_le_left
 have hband:bitI .and .i64 (k:Int) (fn:Int)=(m:Int):=by rw[bandN k fn (by omega),hm]
 refine enter_law12_BarrierFewer rfl ?_
 unfold x_law12_BarrierFewer
 (repeat(first|with_reducible(first|refine nx ?_|refine r_6 rfl ?_)|simp only[go_sem]))
 refine boxT fun q w1 hq hs1 hat1 ho1=>?_
 have hz1:=ho1.size
 have hcw: ∀w',Only [] w1 w'→cellsAt w' ⟨q,0,none⟩ 7=some cs:=fun w' o=>by rw[cellsAt_at (hat1.keep0 o) 0 7 (by rw[hcs];simp),hcs];rfl
 by_cases hm0:m=0
 ·(repeat(first|with_reducible(first|refine nx ?_|refine r_6 rfl ?_)|simp only[go_sem,conv_u8 kn hkn,conv_u8 fn hfn,m64,hband,beq_int_true (show(m:Int)=0 by omega)]))
  refine callT (law_awake w1) ?_
  rintro v w2 ⟨rfl,ho2⟩
  (repeat(first|with_reducible(first|refine nx ?_|refine r_6 rfl ?_)|simp only[go_sem]))
  exact ho1.nil ho2
 have hg1:=hg.keep0 (Nat.le_refl _) hz1 ho1
 (repeat(first|with_reducible(first|refine nx ?_|refine r_6 rfl ?_)|simp only[go_sem,conv_u8 kn hkn,conv_u8 fn hfn,m64,hband,beq_int_false (show¬(m:Int)=0 by omega),hcw w1 (Only.refl _ _)]))
 refine callT (cWatched hg1 (hl.keep0' (Nat.le_refl _) hz1 ho1) (k:Int) 1 (by omega) (by omega) (by omega) (by omega)) ?_
 rintro v w2 ⟨a,c,x,hb,s0,s1,t1,fa,fc,fx,fh,rfl,wt⟩
 have o12:Only [] w1 w2:=wt.o
 (repeat(first|with_reducible(first|refine nx ?_|refine r_6 rfl ?_)|simp only[go_sem]))
 refine bslT fun q3 w3 hq3 hs3 hat3 ho3=>?_
 have o13:=o12.nil ho3
 obtain⟨hsrc,hone⟩:=(hl.keep0' (Nat.le_refl _) (ho1.nil o13).size (ho1.nil o13)).src
 (repeat(first|with_reducible(first|refine nx ?_|refine r_6 rfl ?_)|simp only[go_sem]))
 refine appT (Sl.emptyZ (sz:=4) hat3) hsrc hone (by omega) (by omega) ?_
 intro v5 w5 f5 hs5 hf5 ho5 _
 have z2:=o12.size
 have ge5: ∀y,y∈f5→w2.heap.size≤y:=fun y hy=>by
  rcases hf5 with e|e<;>rw[e]at hy<;>simp only[List.mem_singleton]at hy<;>omega
 have o25:Only [] w2 w5:=ho3.trans ho5 fun y hy=>.inr (by simp only[List.mem_singleton]at hy;omega)
 have hs5':Sl w5 4 v5 l.length (itsV l) f5:=by simpa using hs5
 obtain⟨a5,c5,rfl⟩:=hs5'.val
 (repeat(first|with_reducible(first|refine nx ?_|refine r_6 rfl ?_)|simp only[go_sem]))
 refine run_loop (15::40::41::42::43::44::45::46::47::48::49::50::51::52::53::54::55::[]) (fun g' w'=> ∃(i:Nat) (l':List It),g' 15=.int .i64 (i:Int)∧i≤l.length∧l'.length=l.length∧l'.map strip=l.map strip∧Sl w' 4 (.slice a5 l.length c5) l.length (itsV l') f5∧Only f5 w5 w') (fun g' _=>upTo l.length 15 g') ⟨0,l,by simp only[go_sem];rfl,by omega,rfl,rfl,hs5',Only.refl _ _⟩ fun g1 w6 hI hnext=>?_
 obtain⟨i,l',h15,hi,hl',hst,hs6,ho6⟩:=hI
 by_cases c1:i<l.length
 ·obtain⟨h60,h6⟩:=hs6
  rcases h6 with⟨_,h0,_⟩|⟨gF,cap,ys,T,e,ef,hheap,hcap,hncap⟩
  ·omega
  cases e
  have hat6:At w6 gF (itsV l'++ys):=⟨T,hheap⟩
  have ci:(0:Int)≤(i:Int)∧(i:Int)<(l.length:Int):=by omega
  have hcell:w6.cell? ⟨gF,i*4+3,none⟩=some (.bool (l'.getD i default).2.2.2):=by rw[hat6.cell,itsV_at ys (by omega) (by omega)];rfl
  (repeat(first|with_reducible(first|refine nx ?_|refine r_6 rfl ?_)|simp only[go_sem,h15,decide_eq_true ci.2,if_pos ci,Int.toNat_natCast,hcell]))
  refine stT hat6 (by rw[hcap];have:=itsV_len l';omega) rfl fun w7 hs7 hat7 ho7=>?_
  rw[itsV_set ys _ (by omega)]at hat7
  obtain⟨T7,hat7⟩:=hat7
  (repeat(first|with_reducible(first|refine nx ?_|refine r_6 rfl ?_)|simp only[go_sem,h15,i64_succ i (by omega)]))
  refine hnext _ w7 ?_ ⟨i+1,_,?_,by omega,by rw[List.length_set];exact hl',?_,⟨by rw[itsV_len,List.length_set,hl'],.inr ⟨gF,c5,ys,T7,rfl,ef,hat7,?_,hncap⟩⟩,ho6.trans ho7 fun y hy=>.inl (by rw[ef];exact hy)⟩ ?_
  ·(repeat(first|with_reducible exact k_1|with_reducible exact Keeps.ovr _ _ _|refine Keeps.put ?_ rfl _|exact k_1|exact Keeps.ovr _ _ _|refine Keeps.ovr2 ?_ rfl _))
  ·simp only[go_sem]
  ·rw[List.map_set]
   have e1:strip ((l'.getD i default).1,(l'.getD i default).2.1,(l'.getD i default).2.2.1,!(l'.getD i default).2.2.2)=(l'.map strip).getD i default:=by
    have:i<l'.length:=by omega
    simp[strip,List.getD_eq_getElem?_getD,this]
   rw[e1,hst]
   refine List.ext_getElem (by simp) fun j j1 j2=>?_
   rw[List.getElem_set]
   split
   ·rename_i hij;subst hij;simp[List.getD_eq_getElem?_getD,c1]
   ·rfl
  ·rw[List.length_append]at hcap⊢
   rw[itsV_len]at hcap⊢
   rw[List.length_set];exact hcap
  ·rw[upTo_int (i:=i) h15,upTo_int (k:=.i64) (i:=i+1) (by simp only[go_sem])];omega
 have o15:Only [] w1 w5:=o12.nil o25
 have o26:Only [] w2 w6:=o25.trans ho6 fun y hy=>.inr (ge5 y hy)
 have o16:Only [] w1 w6:=o12.nil o26
 have hg6:=hg1.keep0 (Nat.le_refl _) o16.size o16
 have hs6':Sl w6 4 (.slice a5 l.length c5) l'.length (itsV l') f5:=by rw[hl'];exact hs6
 have hb': ∀i,i<l'.length→(l'.getD i default).1<256∧(l'.getD i default).2.1<256∧(l'.getD i default).2.2.1<256:=fun i hi=>by
  obtain⟨b1,b2,b3⟩:=hl.bytes i (by omega)
  have e1:(l'.map strip).getD i default=(l.map strip).getD i default:=by rw[hst]
  have h2:i<l.length:=by omega
  simp only[List.getD_eq_getElem?_getD,List.getElem?_map,List.getElem?_eq_getElem hi,List.getElem?_eq_getElem h2,Option.map_some,Option.getD_some]at e1 b1 b2 b3⊢
  unfold strip at e1
  simp only[Prod.mk.injEq]at e1
  rw[e1.1,e1.2.1,e1.2.2.1]
  exact⟨b1,b2,b3⟩
 (repeat(first|with_reducible(first|refine nx ?_|refine r_6 rfl ?_)|simp only[go_sem,h15,decide_eq_false (show¬(i:Int)<(l.length:Int) by omega),hcw w6 o16]))
 refine callT (cWatched hg6 (StAt.of hs6' hb') (m:Int) 1 (by omega) (by omega) (by omega) (by omega)) ?_
 rintro v w7 ⟨a',c',x',hb2,s0',s1',t2,fa',fc',fx',fh',rfl,wt'⟩
 obtain⟨R1,op1⟩:=wt.op
 obtain⟨R2,op2⟩:=wt'.op
 obtain rfl:s0=s0':=congrArg Prod.fst (op1.uniq op2)
 have hrun2:=wt'.run
 rw[runI_same s0 hst 60]at hrun2
 have hsub:=subB k fn hk64
 rw[←hm]at hsub
 obtain⟨hs1,few⟩:=Few.run hsub s0 (l.take 60) s0 (BS0 (k:Int) 1) (BS0 (m:Int) 1) (Few.zero _ _ _)
 rw[wt.run,hrun2]at hs1 few
 simp only at hs1 few
 subst hs1
 have o27:Only [] w2 w7:=o26.nil wt'.o
 have hlen1:=wt.len
 have hlen2:=wt'.len
 have hmsz:m<64:=by omega
 obtain⟨bd,bo,vs,vl1,fs,fl,M,_,bm⟩:=wt.bar
 obtain⟨bd2,bo2,vs2,vl2,fs2,fl2,M2,_,bm2⟩:=wt'.bar
 have bm7:=bm.keep0 o27
 have hn:=wt.n40
 have hob:s1.objs=s0.objs:=wt.k1.objs
 obtain⟨sm1,sm2⟩:=abs_small wt.k1 (by rw[hob];exact hn)
 (repeat(first|with_reducible(first|refine nx ?_|refine r_6 rfl ?_)|simp only[go_sem]))
 refine callT (cSameHeap (wt.now.keep0 o27) wt'.now sm1 sm2) ?_
 rintro _ w8 ⟨rfl,ho8⟩
 (repeat(first|with_reducible(first|refine r_1 ?_|refine r_2 ?_|refine r_3 ?_|refine r_4 ?_|refine r_5 ?_|refine r_6 rfl ?_)|simp only[go_sem]))
 refine run_condT ?_
 simp only[go_sem]
 refine run_skip ?_
 refine run_seq (run_seq (run_reg ?_))
 have lg1:isB (k:Int) 32=true→ ∀e,e∈t1.L→e.2.length≤15:=fun hb e he=>by
  obtain⟨k',_,h2,h3⟩:=(run_log wt.k0 wt.run hb).1 e he
  rw[h3];exact rf_le wt.k0.ok h2
 have lg2:isB (m:Int) 32=true→ ∀e,e∈t2.L→e.2.length≤15:=fun hb e he=>by
  obtain⟨k',_,h2,h3⟩:=(run_log wt'.k0 wt'.run hb).1 e he
  rw[h3];exact rf_le wt'.k0.ok h2
 have o28:=o27.nil ho8
 have o78:=ho8
 have bx: ∀ {w'},Only [] w8 w'→BMs w' x _ t1 bd bo vs vl1 fs fl M:=fun o=>bm.keep0 (o28.nil o)
 have by_: ∀ {w'},Only [] w8 w'→BMs w' x' _ t2 bd2 bo2 vs2 vl2 fs2 fl2 M2:=fun o=>bm2.keep0 (o78.nil o)
 have rr:=Only.refl ([]:List Nat) w8
 refine vo_cut 11 (76::77::78::79::80::81::82::83::84::85::86::[]) (fun ρ' w'=>ρ' 86=.bool false∧Only [] w8 w') ?_ fun g2 w9 hJ=>?_
 ·simp only[go_sem,List.take_succ_cons,List.take_zero]
  cases hb:isB (m:Int) 1 with
  |false=>
   (repeat(first|with_reducible(first|refine nx ?_|refine r_6 rfl ?_)|simp only[go_sem,show(bitI .and .i64 (m:Int) 1 !=0)=false from hb]))
   refine⟨?_,rr⟩
   (repeat(first|with_reducible exact k_1|with_reducible exact Keeps.ovr _ _ _|refine Keeps.put ?_ rfl _|exact k_1|exact Keeps.ovr _ _ _|refine Keeps.ovr2 ?_ rfl _))
  |true=>
   (repeat(first|with_reducible(first|refine nx ?_|refine r_6 rfl ?_)|simp only[go_sem,show(bitI .and .i64 (m:Int) 1 !=0)=true from hb]))
   refine callT (bDirtyK (bx rr) hlen1.1) ?_
   rintro v u1 ⟨hu1,f1,sl1⟩
   (repeat(first|with_reducible(first|refine nx ?_|refine r_6 rfl ?_)|simp only[go_sem]))
   refine callT (bDirtyK (by_ hu1) hlen2.1) ?_
   rintro v' u2 ⟨hu2,f2,sl2⟩
   rw[←few.D1 hb]at sl2
   (repeat(first|with_reducible(first|refine nx ?_|refine r_6 rfl ?_)|simp only[go_sem]))
   refine callT (cInts (sl1.keep0 hu2) sl2 (by rw[sortI_len];simp only[IM.keys,List.length_map];omega)) ?_
   rintro _ u3 ⟨rfl,hu3⟩
   (repeat(first|with_reducible(first|refine nx ?_|refine r_6 rfl ?_)|simp only[go_sem,decide_eq_true (rfl:sortI t1.D.keys=sortI t1.D.keys)]))
   refine⟨?_,(hu1.nil hu2).nil hu3⟩
   (repeat(first|with_reducible exact k_1|with_reducible exact Keeps.ovr _ _ _|refine Keeps.put ?_ rfl _|exact k_1|exact Keeps.ovr _ _ _|refine Keeps.ovr2 ?_ rfl _))
 obtain⟨h86,ho9⟩:=hJ
 simp only[List.drop_succ_cons,List.drop_zero]
 refine vo_cut 13 (87::88::89::90::91::92::93::94::95::96::97::98::99::[]) (fun ρ' w'=>ρ' 99=.bool false∧Only [] w8 w') ?_ fun g3 w10 hJ=>?_
 ·simp only[go_sem,List.take_succ_cons,List.take_zero,h86]
  cases hb:isB (m:Int) 2 with
  |false=>
   (repeat(first|with_reducible(first|refine nx ?_|refine r_6 rfl ?_)|simp only[go_sem,h86,show(bitI .and .i64 (m:Int) 2 !=0)=false from hb]))
   refine⟨?_,ho9⟩
   (repeat(first|with_reducible exact k_1|with_reducible exact Keeps.ovr _ _ _|refine Keeps.put ?_ rfl _|exact k_1|exact Keeps.ovr _ _ _|refine Keeps.ovr2 ?_ rfl _))
  |true=>
   (repeat(first|with_reducible(first|refine nx ?_|refine r_6 rfl ?_)|simp only[go_sem,h86,show(bitI .and .i64 (m:Int) 2 !=0)=true from hb]))
   refine callT (bRememberedK (bx ho9) hlen1.2.1) ?_
   rintro v u1 ⟨hu1,f1,sl1⟩
   (repeat(first|with_reducible(first|refine nx ?_|refine r_6 rfl ?_)|simp only[go_sem]))
   refine callT (bRememberedK (by_ (ho9.nil hu1)) hlen2.2.1) ?_
   rintro v' u2 ⟨hu2,f2,sl2⟩
   rw[←few.O1 hb]at sl2
   (repeat(first|with_reducible(first|refine nx ?_|refine r_6 rfl ?_)|simp only[go_sem]))
   refine callT (cInts (sl1.keep0 hu2) sl2 (by rw[sortI_len];simp only[IM.keys,List.length_map];omega)) ?_
   rintro _ u3 ⟨rfl,hu3⟩
   (repeat(first|with_reducible(first|refine nx ?_|refine r_6 rfl ?_)|simp only[go_sem,h86,decide_eq_true (rfl:sortI t1.O.keys=sortI t1.O.keys)]))
   refine⟨?_,((ho9.nil hu1).nil hu2).nil hu3⟩
   (repeat(first|with_reducible exact k_1|with_reducible exact Keeps.ovr _ _ _|refine Keeps.put ?_ rfl _|exact k_1|exact Keeps.ovr _ _ _|refine Keeps.ovr2 ?_ rfl _))
 obtain⟨h99,ho10⟩:=hJ
 simp only[List.drop_succ_cons,List.drop_zero]
 refine vo_cut 13 (100::101::102::103::104::105::106::107::108::109::110::111::112::[]) (fun ρ' w'=>ρ' 112=.bool false∧Only [] w8 w') ?_ fun g4 w11 hJ=>?_
 ·simp only[go_sem,List.take_succ_cons,List.take_zero,h99]
  cases hb:isB (m:Int) 32 with
  |false=>
   (repeat(first|with_reducible(first|refine nx ?_|refine r_6 rfl ?_)|simp only[go_sem,h99,show(bitI .and .i64 (m:Int) 32 !=0)=false from hb]))
   refine⟨?_,ho10⟩
   (repeat(first|with_reducible exact k_1|with_reducible exact Keeps.ovr _ _ _|refine Keeps.put ?_ rfl _|exact k_1|exact Keeps.ovr _ _ _|refine Keeps.ovr2 ?_ rfl _))
  |true=>
   (repeat(first|with_reducible(first|refine nx ?_|refine r_6 rfl ?_)|simp only[go_sem,h99,show(bitI .and .i64 (m:Int) 32 !=0)=true from hb]))
   refine callT (bLogK (bx ho10) hlen1.2.2.2 (lg1 (hsub.2.2 hb))) ?_
   rintro v u1 ⟨hu1,M3,sl1,em1⟩
   (repeat(first|with_reducible(first|refine nx ?_|refine r_6 rfl ?_)|simp only[go_sem]))
   refine callT (bLogK (by_ (ho10.nil hu1)) hlen2.2.2.2 (lg2 hb)) ?_
   rintro v' u2 ⟨hu2,M4,sl2,em2⟩
   (repeat(first|with_reducible(first|refine nx ?_|refine r_6 rfl ?_)|simp only[go_sem]))
   have e34:M3.map LM.im=M4.map LM.im:=by rw[em1,em2,few.L1 hb]
   refine callT (cImages (sl1.keep0 hu2) sl2 e34 (by have:=congrArg List.length em1;simp only[List.length_map]at this;omega) fun m' hm'=>?_) ?_
   ·have:=lg1 (hsub.2.2 hb) m'.im (by rw[←em1];exact List.mem_map.2 ⟨m',hm',rfl⟩)
    have e:m'.im.2=m'.r:=rfl
    rw[e]at this;omega
   rintro _ u3 ⟨rfl,hu3⟩
   (repeat(first|with_reducible(first|refine nx ?_|refine r_6 rfl ?_)|simp only[go_sem,h99]))
   refine⟨?_,((ho10.nil hu1).nil hu2).nil hu3⟩
   (repeat(first|with_reducible exact k_1|with_reducible exact Keeps.ovr _ _ _|refine Keeps.put ?_ rfl _|exact k_1|exact Keeps.ovr _ _ _|refine Keeps.ovr2 ?_ rfl _))
 obtain⟨h112,ho11⟩:=hJ
 simp only[List.drop_succ_cons,List.drop_zero]
 simp only[go_sem,h112]
 refine run_condT ?_
 simp only[go_sem,h112]
 refine run_skip ?_
 refine run_seq (run_seq (run_reg ?_))
 have e0: ∀c:Int,(bitI .and .i64 (m:Int) c==0)=!(isB (m:Int) c):=fun c=>eq0_not _
 refine vo_cut 9 (113::114::115::116::117::118::119::120::121::[]) (fun ρ' w'=>ρ' 121=.bool false∧Only [] w8 w') ?_ fun g5 w12 hJ=>?_
 ·simp only[go_sem,List.take_succ_cons,List.take_zero]
  cases hb:isB (m:Int) 1 with
  |true=>
   (repeat(first|with_reducible(first|refine nx ?_|refine r_6 rfl ?_)|simp only[go_sem,show(bitI .and .i64 (m:Int) 1==0)=false by rw[e0,hb];rfl]))
   refine⟨?_,ho11⟩
   (repeat(first|with_reducible exact k_1|with_reducible exact Keeps.ovr _ _ _|refine Keeps.put ?_ rfl _|exact k_1|exact Keeps.ovr _ _ _|refine Keeps.ovr2 ?_ rfl _))
  |false=>
   (repeat(first|with_reducible(first|refine nx ?_|refine r_6 rfl ?_)|simp only[go_sem,show(bitI .and .i64 (m:Int) 1==0)=true by rw[e0,hb];rfl]))
   refine callT (bDirtyK (by_ ho11) hlen2.1) ?_
   rintro v u1 ⟨hu1,f1,sl1⟩
   rw[keys_len _ (few.D0 hb)]at sl1
   obtain⟨av,cv,rfl⟩:=sl1.val
   (repeat(first|with_reducible(first|refine nx ?_|refine r_6 rfl ?_)|simp only[go_sem,show decide ((0:Int)<((0:Nat):Int))=false from rfl]))
   refine⟨?_,ho11.nil hu1⟩
   (repeat(first|with_reducible exact k_1|with_reducible exact Keeps.ovr _ _ _|refine Keeps.put ?_ rfl _|exact k_1|exact Keeps.ovr _ _ _|refine Keeps.ovr2 ?_ rfl _))
 obtain⟨h121,ho12⟩:=hJ
 simp only[List.drop_succ_cons,List.drop_zero]
 refine vo_cut 11 (122::123::124::125::126::127::128::129::130::131::132::[]) (fun ρ' w'=>ρ' 132=.bool false∧Only [] w8 w') ?_ fun g6 w13 hJ=>?_
 ·simp only[go_sem,List.take_succ_cons,List.take_zero,h121]
  cases hb:isB (m:Int) 2 with
  |true=>
   (repeat(first|with_reducible(first|refine nx ?_|refine r_6 rfl ?_)|simp only[go_sem,h121,show(bitI .and .i64 (m:Int) 2==0)=false by rw[e0,hb];rfl]))
   refine⟨?_,ho12⟩
   (repeat(first|with_reducible exact k_1|with_reducible exact Keeps.ovr _ _ _|refine Keeps.put ?_ rfl _|exact k_1|exact Keeps.ovr _ _ _|refine Keeps.ovr2 ?_ rfl _))
  |false=>
   (repeat(first|with_reducible(first|refine nx ?_|refine r_6 rfl ?_)|simp only[go_sem,h121,show(bitI .and .i64 (m:Int) 2==0)=true by rw[e0,hb];rfl]))
   refine callT (bRememberedK (by_ ho12) hlen2.2.1) ?_
   rintro v u1 ⟨hu1,f1,sl1⟩
   rw[keys_len _ (few.O0 hb)]at sl1
   obtain⟨av,cv,rfl⟩:=sl1.val
   (repeat(first|with_reducible(first|refine nx ?_|refine r_6 rfl ?_)|simp only[go_sem,h121,show decide ((0:Int)<((0:Nat):Int))=false from rfl]))
   refine⟨?_,ho12.nil hu1⟩
   (repeat(first|with_reducible exact k_1|with_reducible exact Keeps.ovr _ _ _|refine Keeps.put ?_ rfl _|exact k_1|exact Keeps.ovr _ _ _|refine Keeps.ovr2 ?_ rfl _))
 obtain⟨h132,ho13⟩:=hJ
 simp only[List.drop_succ_cons,List.drop_zero]
 refine vo_cut 11 (133::134::135::136::137::138::139::140::141::142::143::[]) (fun ρ' w'=>ρ' 143=.bool false∧Only [] w8 w') ?_ fun g7 w14 hJ=>?_
 ·simp only[go_sem,List.take_succ_cons,List.take_zero,h132]
  cases hb:isB (m:Int) 32 with
  |true=>
   (repeat(first|with_reducible(first|refine nx ?_|refine r_6 rfl ?_)|simp only[go_sem,h132,show(bitI .and .i64 (m:Int) 32==0)=false by rw[e0,hb];rfl]))
   refine⟨?_,ho13⟩
   (repeat(first|with_reducible exact k_1|with_reducible exact Keeps.ovr _ _ _|refine Keeps.put ?_ rfl _|exact k_1|exact Keeps.ovr _ _ _|refine Keeps.ovr2 ?_ rfl _))
  |false=>
   have hL0:=few.L0 hb
   (repeat(first|with_reducible(first|refine nx ?_|refine r_6 rfl ?_)|simp only[go_sem,h132,show(bitI .and .i64 (m:Int) 32==0)=true by rw[e0,hb];rfl]))
   refine callT (bLogK (by_ ho13) hlen2.2.2.2 (by rw[hL0];intro e he;cases he)) ?_
   rintro v u1 ⟨hu1,M3,sl1,em1⟩
   rw[hL0]at em1
   have hM3:M3=[]:=List.map_eq_nil_iff.1 em1
   subst hM3
   obtain⟨av,cv,rfl⟩:=sl1.val
   (repeat(first|with_reducible(first|refine nx ?_|refine r_6 rfl ?_)|simp only[go_sem,h132,List.length_nil,show decide ((0:Int)<((0:Nat):Int))=false from rfl]))
   refine⟨?_,ho13.nil hu1⟩
   (repeat(first|with_reducible exact k_1|with_reducible exact Keeps.ovr _ _ _|refine Keeps.put ?_ rfl _|exact k_1|exact Keeps.ovr _ _ _|refine Keeps.ovr2 ?_ rfl _))
 obtain⟨h143,ho14⟩:=hJ
 simp only[List.drop_succ_cons,List.drop_zero]
 simp only[go_sem,h143]
 refine run_condT ?_
 simp only[go_sem,h143]
 refine run_skip ?_
 refine run_seq (run_seq (run_reg ?_))
 have hk12:bitI .and .i64 (k:Int) 12=((k&&& 12:Nat):Int):=bandN k 12 (by omega)
 have hm12:bitI .and .i64 (m:Int) 12=((m&&& 12:Nat):Int):=bandN m 12 (by omega)
 refine vo_cut 13 (144::145::146::147::148::149::150::151::152::153::154::155::156::[]) (fun ρ' w'=>ρ' 156=.bool false∧Only [] w8 w') ?_ fun g8 w15 hJ=>?_
 ·simp only[go_sem,List.take_succ_cons,List.take_zero]
  by_cases hb:k&&& 12=m&&& 12
  rotate_left
  ·(repeat(first|with_reducible(first|refine nx ?_|refine r_6 rfl ?_)|simp only[go_sem,hk12,hm12,beq_int_false (show¬((k&&& 12:Nat):Int)=((m&&& 12:Nat):Int) by omega)]))
   refine⟨?_,ho14⟩
   (repeat(first|with_reducible exact k_1|with_reducible exact Keeps.ovr _ _ _|refine Keeps.put ?_ rfl _|exact k_1|exact Keeps.ovr _ _ _|refine Keeps.ovr2 ?_ rfl _))
  ·obtain⟨b4,b8⟩:=both12 k m hk64 hmsz hb
   have hS:=few.S1 b4 b8
   (repeat(first|with_reducible(first|refine nx ?_|refine r_6 rfl ?_)|simp only[go_sem,hk12,hm12,beq_int_true (show((k&&& 12:Nat):Int)=((m&&& 12:Nat):Int) by omega)]))
   refine callT (bShaded (bx ho14).hb (bx ho14).hs (by omega)) ?_
   rintro v u1 ⟨hu1,f1,sl1,_⟩
   (repeat(first|with_reducible(first|refine nx ?_|refine r_6 rfl ?_)|simp only[go_sem]))
   refine callT (bShaded (by_ (ho14.nil hu1)).hb (by_ (ho14.nil hu1)).hs (by omega)) ?_
   rintro v' u2 ⟨hu2,f2,sl2,_⟩
   rw[←hS]at sl2
   (repeat(first|with_reducible(first|refine nx ?_|refine r_6 rfl ?_)|simp only[go_sem]))
   refine callT (cInts (sl1.keep0 hu2) sl2 (by omega)) ?_
   rintro _ u3 ⟨rfl,hu3⟩
   (repeat(first|with_reducible(first|refine nx ?_|refine r_6 rfl ?_)|simp only[go_sem,decide_eq_true (rfl:t1.S=t1.S)]))
   refine⟨?_,((ho14.nil hu1).nil hu2).nil hu3⟩
   (repeat(first|with_reducible exact k_1|with_reducible exact Keeps.ovr _ _ _|refine Keeps.put ?_ rfl _|exact k_1|exact Keeps.ovr _ _ _|refine Keeps.ovr2 ?_ rfl _))
 obtain⟨h156,ho15⟩:=hJ
 simp only[List.drop_succ_cons,List.drop_zero]
 refine vo_cut 11 (157::158::159::160::161::162::163::164::165::166::167::[]) (fun ρ' w'=>ρ' 167=.bool false∧Only [] w8 w') ?_ fun g9 w16 hJ=>?_
 ·simp only[go_sem,List.take_succ_cons,List.take_zero,h156]
  by_cases hb:m&&& 12=0
  rotate_left
  ·(repeat(first|with_reducible(first|refine nx ?_|refine r_6 rfl ?_)|simp only[go_sem,h156,hm12,beq_int_false (show¬((m&&& 12:Nat):Int)=0 by omega)]))
   refine⟨?_,ho15⟩
   (repeat(first|with_reducible exact k_1|with_reducible exact Keeps.ovr _ _ _|refine Keeps.put ?_ rfl _|exact k_1|exact Keeps.ovr _ _ _|refine Keeps.ovr2 ?_ rfl _))
  ·obtain⟨b4,b8⟩:=none12 m hmsz hb
   have hS:=few.S0 b4 b8
   (repeat(first|with_reducible(first|refine nx ?_|refine r_6 rfl ?_)|simp only[go_sem,h156,hm12,beq_int_true (show((m&&& 12:Nat):Int)=0 by omega)]))
   refine callT (bShaded (by_ ho15).hb (by_ ho15).hs (by omega)) ?_
   rintro v u1 ⟨hu1,f1,sl1,_⟩
   rw[hS]at sl1
   obtain⟨av,cv,rfl⟩:=sl1.val
   (repeat(first|with_reducible(first|refine nx ?_|refine r_6 rfl ?_)|simp only[go_sem,h156,List.length_nil,show decide ((0:Int)<((0:Nat):Int))=false from rfl]))
   refine⟨?_,ho15.nil hu1⟩
   (repeat(first|with_reducible exact k_1|with_reducible exact Keeps.ovr _ _ _|refine Keeps.put ?_ rfl _|exact k_1|exact Keeps.ovr _ _ _|refine Keeps.ovr2 ?_ rfl _))
 obtain⟨h167,ho16⟩:=hJ
 simp only[List.drop_succ_cons,List.drop_zero]
 simp only[go_sem,h167]
 refine run_condT ?_
 simp only[go_sem,h167]
 (repeat(first|with_reducible(first|refine nx ?_|refine r_6 rfl ?_)|simp only[go_sem]))
 refine callT (law_awake w16) ?_
 rintro v w17 ⟨rfl,ho17⟩
 (repeat(first|with_reducible(first|refine nx ?_|refine r_6 rfl ?_)|simp only[go_sem]))
 exact(((ho1.nil o12).nil o28).nil ho16).nil ho17
end Go.Proofs.YtgcofabdialaaaaGreat
end
section
namespace Go.Proofs.YtgcofabdialaaaaGreat
open Go.ChangeShapes Go.WideShapes Go.ChangeAt Go.RowKit
section
variable {H:Type} {enc:TypeId×Value→H} {P:Program}
theorem trodAll_below (hl:laidOutB P=true) {W W':World} (hb:Below W.heap.size W W'): ∀(ts:List TypeId) (vs:List Value) (ds:List (DataW H)) (ps:List MemPlace),(ts.all fun t=>P.readableRec t&&decide (t<P.types.size))=true→
  DataW.TrodAll enc P W 0 (fun _=>true) true ts vs ds ps→(∀x∈ps,x.block<W.heap.size)→DataW.TrodAll enc P W' 0 (fun b=>decide (b<W.heap.size)) true ts vs ds ps
 | [],[],[],_,_,h,_=>h
 | [],_::_,_,_,_,h,_=>h.elim
 | [],[],_::_,_,_,h,_=>h.elim
 |_::_,[],_,_,_,h,_=>by cases h
 |_::_,_::_,[],_,_,h,_=>by cases h
 |t::ts,v::vs,d::ds,ps,hc,h,hlt=>by
  obtain⟨p,q,h1,h2,rfl⟩:=h
  simp only[List.all_cons,Bool.and_eq_true,decide_eq_true_eq]at hc
  exact⟨p,q,Below.trod hl hc.1.1 hc.1.2 h1 hb (fun x hx=>hlt x (List.mem_append_left _ hx)),trodAll_below hl hb ts vs ds q hc.2 h2 (fun x hx=>hlt x (List.mem_append_right _ hx)),rfl⟩
theorem law_post {f:Func} {s:ChangeSpec} {W W':World} {args:Array Value} {ds:List (DataW H)} {p:List MemPlace} {b:TypeId} (hl:laidOutB P=true) (hc:(f.params.toList.all fun t=>P.readableRec t&&decide (t<P.types.size))=true)
  (hv:s.vars=[]) (hW:DataW.Whole enc P f.params.toList s.vars false W args.toList ds [] (p++[])) (hA:DataW.TrodAll enc P W 0 (fun _=>true) true f.params.toList args.toList ds p)
  (hs:s.fn H (ds++[])= {results:=[.lit (.bool true)],args:=ds}) (hr:f.resultTypes=#[b]) (hbt:P.underlying b=some .bool) (hb:Below W.heap.size W W'):
  s.post enc P f false true false false W args (.bool true) W':=by
 have hlt: ∀x∈p,x.block<W.heap.size:=fun x hx=>hW.lt x (List.mem_append_left _ hx)
 refine⟨ds,[],p++[],[],p,[],hW,?_,?_,?_,hb.frame _,fun h=>by cases h⟩
 ·rw[hs,hr]
  exact trodAll_mk1 (shut_bool hbt true)
 ·rw[hs]
  exact trodAll_below hl hb _ _ _ _ hc hA hlt
 ·rw[hs,hv];rfl
end
theorem law_end {P:Program} {f:FuncId} {args:List Value} {W:World} {Q:Value→World→Prop} (h:Cs P f args W fun r W'=>r=.bool true∧Only [] W W') (hq: ∀W',Below W.heap.size W W'→Q (.bool true) W'):
  Cs P f args W Q:=h.mono fun r W' ⟨e,ho⟩=>by rw[e];exact hq W' (ho.below (by simp))
end Go.Proofs.YtgcofabdialaaaaGreat
end
section
namespace Go.Proofs.YtgcofabdialaaaaGreat
open Go.ChangeShapes Go.WideShapes Go.ChangeAt Go.RowKit Go.Deep
theorem Tryz.own:ownKnob Tryz.prog.godebug=none:=by kernel_rfl
theorem Tryz.laidOut:laidOutB Tryz.prog=true:=by kernel_rfl
end Go.Proofs.YtgcofabdialaaaaGreat
end
section
namespace Go.Proofs.YtgcofabdialaaaaGreat
open Go.ChangeShapes Go.WideShapes Go.ChangeAt Go.RowKit Go.Deep
set_option maxRecDepth 100000
theorem cellsAt_of12 {w:World} {base:Nat} {a:Addr} {n:Nat} {cs:List Value} (h:w.cells? base a n=some cs):cs.length=n∧ ∀i,i<n→w.cell? (a.add i)=cs[i]? :=by
 obtain⟨_,hl,hc⟩:=World.cells?_some h
 exact⟨hl,fun i hi=>by rw[hc i hi]⟩
theorem choose_lt12 {α:Type} [Inhabited α] {n:Nat} {p:Nat→α→Prop} (h: ∀i,i<n→ ∃x,p i x): ∃F:Nat→α,∀i,i<n→p i (F i):=by
 refine⟨fun i=>if hi:i<n then Classical.choose (h i hi)else default,fun i hi=>?_⟩
 simp only[hi,dif_pos]
 exact Classical.choose_spec (h i hi)
theorem open_u8 {H:Type} {enc:TypeId×Value→H} {w:World} {base:Nat} {spare:Nat→Bool} {held:Bool} {n:Nat} {cs:List Value} {x:DataW H×List MemPlace} (h:DataW.trod enc Tryz.prog w base spare held n 5 cs=some x): ∃k:Nat,cs=[u8V k]∧k<256:=by
 obtain⟨k,e,_,hw⟩:=DataW.trod_int Tryz.underlying5 h
 have hb:=bounds_u8 hw
 exact⟨k.toNat,by rw[e];unfold u8V;rw[Int.toNat_of_nonneg hb.1],by omega⟩
theorem Tryz.cells12u8:Tryz.prog.cellsOf 5=1:=by kernel_rfl
theorem open_u8a {H:Type} {enc:TypeId×Value→H} {w:World} {base:Nat} {spare:Nat→Bool} {held:Bool} {m n:Nat} {ty:TypeId} {cs:List Value} {x:DataW H×List MemPlace} (ha:Tryz.prog.underlying ty=some (.array n 5)) (h:DataW.trod enc Tryz.prog w base spare held m ty cs=some x):
  ∃f:Nat→Nat,∀j,j<n→cs[j]? =some (u8V (f j))∧f j<256:=by
 obtain⟨xs,m',_,_,_,hxl,hx⟩:=DataW.trod_array ha h
 refine choose_lt12 (p:=fun j k=>cs[j]? =some (u8V k)∧k<256) fun j hj=>?_
 have h1:=hx j hj
 rw[Tryz.cells12u8,List.getElem?_eq_getElem (by omega),Nat.mul_one]at h1
 obtain⟨k,e,hk⟩:=open_u8 h1
 refine⟨k,?_,hk⟩
 have:((cs.drop j).take 1)[0]? =some (u8V k):=by rw[e];rfl
 rw[List.getElem?_take,if_pos (by omega),List.getElem?_drop]at this
 simpa using this
theorem open_u8s {H:Type} {enc:TypeId×Value→H} {W:World} {m n:Nat} {st ty:TypeId} {cs:List Value} {x:DataW H×List MemPlace} (hs:Tryz.prog.underlying st=some (.slice ty)) (ha:Tryz.prog.underlying ty=some (.array n 5)) (hn:Tryz.prog.cellsOf ty=n) (hn0:0<n) (h:DataW.trod enc Tryz.prog W 0 (fun _=>true) true m st cs=some x):
  ∃(v:Value) (len:Nat) (f:Nat→Nat→Nat),cs=[v]∧U8At W.heap.size W v len n f:=by
 rcases open_slice hs h with⟨e,_⟩|⟨a,len,cap,m',n',D,Pl,e,_,hle,hcap,hm,_,hel⟩
 ·exact⟨_,0,fun _ _=>0,e,none,0,rfl,fun _ _=>by dsimp only;omega,fun i hi=>by omega⟩
 ·rw[if_pos rfl]at hm
  obtain⟨F,hF⟩:=choose_lt12 (α:=Nat→Nat) (n:=len) (p:=fun i f=> ∀j,j<n→W.cell? ((a.add (i*n)).add j)=some (u8V (f j))∧f j<256) fun i hi=>by
   obtain⟨cs',h1,h2⟩:=hel i (by omega)
   rw[hn]at h1
   obtain⟨hl1,hc1⟩:=cellsAt_of12 h1
   obtain⟨f,hf⟩:=open_u8a ha h2
   exact⟨f,fun j hj=>by rw[hc1 j hj];exact hf j hj⟩
  refine⟨_,len,fun i j=>if i<len∧j<n then F i j else 0,e,some a,cap,rfl,fun i j=>?_,fun i hi=>⟨a,rfl,?_,fun j hj=>?_⟩⟩
  ·dsimp only
   split
   ·rename_i hc;exact(hF i hc.1 j hc.2).2
   ·omega
  ·have:=cell_lt (hF i hi 0 hn0).1
   rwa[add_block,add_block]at this
  ·dsimp only;rw[if_pos ⟨hi,hj⟩];exact(hF i hi j hj).1
theorem open_u8l {H:Type} {enc:TypeId×Value→H} {W:World} {m:Nat} {st:TypeId} {cs:List Value} {x:DataW H×List MemPlace} (hs:Tryz.prog.underlying st=some (.slice 5)) (h:DataW.trod enc Tryz.prog W 0 (fun _=>true) true m st cs=some x):
  ∃(v:Value) (len:Nat) (f:Nat→Nat→Nat),cs=[v]∧U8At W.heap.size W v len 1 f:=by
 rcases open_slice1 hs Tryz.cells12u8 h with⟨e,_⟩|⟨a,len,cap,m',n',V,D,Pl,e,_,hle,hcap,hm,_,hel⟩
 ·exact⟨_,0,fun _ _=>0,e,none,0,rfl,fun _ _=>by dsimp only;omega,fun i hi=>by omega⟩
 ·rw[if_pos rfl]at hm
  obtain⟨F,hF⟩:=choose_lt12 (α:=Nat) (n:=len) (p:=fun i k=>W.cell? (a.add i)=some (u8V k)∧k<256) fun i hi=>by
   obtain⟨h1,h2⟩:=hel i (by omega)
   obtain⟨k,e2,hk⟩:=open_u8 h2
   simp only[List.cons.injEq,and_true]at e2
   exact⟨k,by rw[h1,e2],hk⟩
  refine⟨_,len,fun i _=>if i<len then F i else 0,e,some a,cap,rfl,fun i j=>?_,fun i hi=>⟨a,rfl,?_,fun j hj=>?_⟩⟩
  ·dsimp only
   split
   ·rename_i hc;exact(hF i hc).2
   ·omega
  ·have:=cell_lt (hF i hi).1
   rwa[add_block]at this
  ·obtain rfl:j=0:=by omega
   dsimp only;rw[if_pos hi,Nat.mul_one];exact(hF i hi).1
theorem Tryz.cells12b:Tryz.prog.cellsOf 27=7:=by kernel_rfl
theorem Tryz.cells12o:Tryz.prog.cellsOf 22=1:=by kernel_rfl
theorem Tryz.cells12d:Tryz.prog.cellsOf 23=1:=by kernel_rfl
theorem Tryz.cells12l:Tryz.prog.cellsOf 24=1:=by kernel_rfl
theorem Tryz.cells12p:Tryz.prog.cellsOf 25=1:=by kernel_rfl
theorem open_begin {H:Type} {enc:TypeId×Value→H} {W:World} {v:Value} {d:DataW H} {ps:List MemPlace} {r:Reach} {b0:Nat} (hval:Value.okWide Tryz.prog W r b0 27 v) (h:DataW.Trod enc Tryz.prog W 0 (fun _=>true) true 27 v d ps):
  ∃(cs:List Value) (g:BG) (vO vD vL vP vN:Value),v=.agg ⟨cs⟩∧BegAt W.heap.size W cs g vO vD vL vP vN:=by
 obtain⟨⟨cs⟩,rfl,_⟩:=okWide_struct Tryz.underlying27 hval
 obtain⟨fuel,h⟩:=h
 obtain⟨xs,n,_,_,hl,hlen,hf⟩:=DataW.trod_struct Tryz.underlying27 h
 rw[Tryz.cells12b]at hl
 match xs,hlen with
 | [y0,y1,y2,y3,y4,y5,y6],_=>
 have g0:=by simpa using hf 0 _ rfl
 have g1:=by simpa using hf 1 _ rfl
 have g2:=by simpa using hf 2 _ rfl
 have g3:=by simpa using hf 3 _ rfl
 have g4:=by simpa using hf 4 _ rfl
 have g5:=by simpa using hf 5 _ rfl
 have g6:=by simpa using hf 6 _ rfl
 match cs,hl with
 | [c0,c1,c2,c3,c4,c5,c6],_=>
  obtain⟨k0,e0,l0⟩:=open_u8 g0
  obtain⟨k1,e1,l1⟩:=open_u8 g1
  obtain⟨vO,nO,fO,e2,hO⟩:=open_u8s Tryz.underlying22 Tryz.underlying141 (by kernel_rfl) (by omega) g2
  obtain⟨vD,nD,fD,e3,hD⟩:=open_u8l Tryz.underlying23 g3
  obtain⟨vL,nL,fL,e4,hL⟩:=open_u8s Tryz.underlying24 Tryz.underlying142 (by kernel_rfl) (by omega) g4
  obtain⟨vP,nP,fP,e5,hP⟩:=open_u8s Tryz.underlying25 Tryz.underlying144 (by kernel_rfl) (by omega) g5
  obtain⟨vN,nN,fN,e6,hN⟩:=open_u8l Tryz.underlying23 g6
  simp only[Tryz.cells12u8,Tryz.cells12o,Tryz.cells12d,Tryz.cells12l,Tryz.cells12p,Value.cells,List.tail_cons,List.drop_zero,List.take_succ_cons,List.take_zero,List.drop_succ_cons,List.cons.injEq,and_true]at e0 e1 e2 e3 e4 e5 e6
  exact⟨_,⟨k0,k1,nO,nD,nL,nP,nN,fO,fD,fL,fP,fN⟩,vO,vD,vL,vP,vN,rfl,by rw[e0,e1,e2,e3,e4,e5,e6],l0,l1,hO,hD,hL,hP,hN⟩
theorem Tryz.cells12s:Tryz.prog.cellsOf 51=4:=by kernel_rfl
theorem Tryz.cells12t:Tryz.prog.cellsOf 4=1:=by kernel_rfl
theorem bulk_one {H:Type} (d:DataW H):1≤Rows.uptoBulk d:=by
 cases d with
 |lit l=>cases l<;>simp[Rows.uptoBulk]
 |_=>simp[Rows.uptoBulk]
theorem bulk_len {H:Type}: ∀l:List (DataW H),l.length≤Rows.uptoBulkAll l
 | []=>Nat.zero_le _
 |x::l=>by have:=bulk_one x;have:=bulk_len l;simp only[Rows.uptoBulkAll,List.length_cons];omega
theorem open_storedN {H:Type} {enc:TypeId×Value→H} {W:World} {v:Value} {d:DataW H} {ps:List MemPlace} {r:Reach} {b0:Nat} (hval:Value.okWide Tryz.prog W r b0 28 v) (h:DataW.Trod enc Tryz.prog W 0 (fun _=>true) true 28 v d ps):
  ∃l:List It,StAt W.heap.size W v l∧l.length≤Rows.uptoBulk d:=by
 obtain⟨a0,len0,cap0,rfl⟩:=okWide_slice Tryz.underlying28 hval
 obtain⟨fuel,h⟩:=h
 rcases open_slice Tryz.underlying28 h with⟨e,_⟩|⟨a,len,cap,m,n,D,Pl,e,_,hle,hcap,hm,hx,hel⟩
 ·simp only[Value.cells,List.cons.injEq,and_true]at e
  exact⟨[],⟨none,0,e,fun i hi=>by simp at hi⟩,Nat.zero_le _⟩
 ·simp only[Value.cells,List.cons.injEq,and_true]at e
  rw[if_pos rfl]at hm
  obtain⟨F,hF⟩:=choose_lt12 (α:=It) (n:=len) (p:=fun i (x:It)=>x.1<256∧x.2.1<256∧x.2.2.1<256∧W.cell? (a.add (i*4))=some (u8V x.1)∧W.cell? ((a.add (i*4)).add 1)=some (u8V x.2.1)∧W.cell? ((a.add (i*4)).add 2)=some (u8V x.2.2.1)∧W.cell? ((a.add (i*4)).add 3)=some (.bool x.2.2.2)) fun i hi=>by
   obtain⟨cs',h1,h2⟩:=hel i (by omega)
   rw[Tryz.cells12s]at h1
   obtain⟨hl1,hc1⟩:=cellsAt_of12 h1
   obtain⟨xs,n',_,_,hl,hlen,hf⟩:=DataW.trod_struct Tryz.underlying51 h2
   match xs,hlen with
   | [y0,y1,y2,y3],_=>
   have g0:=by simpa using hf 0 _ rfl
   have g1:=by simpa using hf 1 _ rfl
   have g2:=by simpa using hf 2 _ rfl
   have g3:=by simpa using hf 3 _ rfl
   match cs',hl1 with
   | [c0,c1,c2,c3],_=>
    obtain⟨k0,e0,l0⟩:=open_u8 g0
    obtain⟨k1,e1,l1⟩:=open_u8 g1
    obtain⟨k2,e2,l2⟩:=open_u8 g2
    obtain⟨k3,e3,_⟩:=DataW.trod_bool Tryz.underlying4 g3
    simp only[Tryz.cells12u8,Tryz.cells12t,List.tail_cons,List.drop_zero,List.take_succ_cons,List.take_zero,List.drop_succ_cons,List.cons.injEq,and_true]at e0 e1 e2 e3
    refine⟨(k0,k1,k2,k3),l0,l1,l2,?_,?_,?_,?_⟩
    ·have:=hc1 0 (by omega);simpa[e0,Addr.add]using this
    ·have:=hc1 1 (by omega);rw[this,e1];rfl
    ·have:=hc1 2 (by omega);rw[this,e2];rfl
    ·have:=hc1 3 (by omega);rw[this,e3];rfl
  refine⟨(List.range len).map F,⟨some a,cap,by rw[e];simp,fun i hi=>?_⟩,?_⟩
  rotate_left
  ·have hd:d=.slice ((List.range len).map D) ((List.range (m-len)).map fun j=>D (len+j)):=congrArg Prod.fst hx
   rw[hd]
   have:=bulk_len ((List.range len).map D)
   simp only[Rows.uptoBulk,List.length_map,List.length_range]at this⊢
   omega
  have hi:i<len:=by simpa using hi
  have hg:((List.range len).map F).getD i default=F i:=by simp[hi]
  rw[hg]
  refine⟨a,rfl,?_,hF i hi⟩
  have:=cell_lt (hF i hi).2.2.2.1
  rwa[add_block]at this
theorem open_u8v {H:Type} {enc:TypeId×Value→H} {W:World} {v:Value} {d:DataW H} {ps:List MemPlace} {r:Reach} {b0:Nat} (hval:Value.okWide Tryz.prog W r b0 5 v) (h:DataW.Trod enc Tryz.prog W 0 (fun _=>true) true 5 v d ps): ∃k:Nat,v=.int .u8 (k:Int)∧k<256:=by
 obtain⟨n,rfl,_,_,hw⟩:=open_int Tryz.underlying5 hval h
 have hb:=bounds_u8 hw
 exact⟨n.toNat,by rw[Int.toNat_of_nonneg hb.1],by omega⟩
end Go.Proofs.YtgcofabdialaaaaGreat
end
section
namespace Go.Proofs.YtgcofabdialaaaaGreat
open Go.ChangeShapes Go.WideShapes Go.ChangeAt Go.RowKit
theorem barrierFewer_le {H:Type}: ∀(l:List (DataW H)) (d:DataW H),d∈l→Rows.uptoBulk d≤Rows.uptoBulkAll l
 | [],_,h=>by cases h
 |x::l,d,h=>by
  simp only[Rows.uptoBulkAll]
  rcases List.mem_cons.1 h with rfl|h
  ·omega
  ·have:=barrierFewer_le l d h;omega
set_option maxRecDepth 100000 in
theorem barrierFewer_contract (H:Type) (enc:TypeId×Value→H) (W:World) (base:Nat) (args:Array Value) (ds gs:List (DataW H)) (before:List MemPlace)
  (hval0: ∀(j:Nat) t v,Tryz.f7.params[j]? =some t→args[j]? =some v→Value.okWide Tryz.prog W .any base t v)
  (hW:DataW.Whole enc Tryz.prog Tryz.f7.params.toList Rows.barrierFewerSpec.vars false W args.toList ds gs before) (hbk:Rows.uptoSmall H (ds++gs)=true):
  Calls Tryz.prog 7 args W fun e W'=> ∃v,e=.returned v∧Rows.barrierFewerSpec.post enc Tryz.prog Tryz.f7 false true false false W args v W':=by
 have hbk:Rows.uptoBulkAll (ds++gs)≤1048576:=of_decide_eq_true hbk
 have hval: ∀(j:Nat) t v,Tryz.f7.params[j]? =some t→args[j]? =some v→Value.okWide Tryz.prog W .any base t v:=hval0
 have hW':=hW
 obtain⟨p,q,hA0,hV,rfl,hfz,hnd⟩:=hW
 have hA:DataW.TrodAll enc Tryz.prog W 0 (fun _=>true) true Tryz.f7.params.toList args.toList ds p:=hA0
 have hA1:=hA
 obtain⟨rfl,rfl⟩:=trodVars_none hV
 rw[Tryz.params7]at hA hval
 obtain⟨v0,vs0,d0,ds0,p0,q0,hargs,rfl,rfl,h0,r0⟩:=trodAll_cons hA
 obtain⟨v1,vs1,d1,ds1,p1,q1,rfl,rfl,rfl,h1,r1⟩:=trodAll_cons r0
 obtain⟨v2,vs2,d2,ds2,p2,q2,rfl,rfl,rfl,h2,r2⟩:=trodAll_cons r1
 obtain⟨v3,vs3,d3,ds3,p3,q3,rfl,rfl,rfl,h3,r3⟩:=trodAll_cons r2
 obtain⟨rfl,rfl,rfl⟩:=trodAll_nil r3
 obtain⟨args⟩:=args
 simp only at hargs
 subst hargs
 obtain⟨cs0,g0,wO0,wD0,wL0,wP0,wN0,rfl,hl0⟩:=open_begin (hval 0 27 v0 rfl rfl) h0
 obtain⟨x1,rfl,hx1⟩:=open_u8v (hval 1 5 v1 rfl rfl) h1
 obtain⟨x2,rfl,hx2⟩:=open_u8v (hval 2 5 v2 rfl rfl) h2
 obtain⟨l3,hl3,hbl3⟩:=open_storedN (hval 3 28 v3 rfl rfl) h3
 have hbl3:l3.length≤2000000:=by have hb9:=Nat.le_trans (barrierFewer_le _ d3 (by simp)) hbk;omega
 exact law_end (law_Fewer hl0 hl3 hbl3 x1 hx1 x2 hx2) fun W' hb=>law_post (b:=4) Tryz.laidOut (by kernel_rfl) rfl hW' hA1 rfl (by kernel_rfl) Tryz.underlying4 hb
set_option maxRecDepth 100000 in
theorem barrierFewer_lifted (os:Os) (started:os.Started) (H:Type) (enc:TypeId×Value→H) (F:Stop.Interp):
  ReturnsInHanded {} Tryz.checked os 7 .any ((Rows.OpenSpec.upto Rows.barrierFewerSpec).pre6 enc Tryz.prog Tryz.f7 Rows.barrierFewerUptoRow.domain false) (((Rows.OpenSpec.upto Rows.barrierFewerSpec).at F).post enc Tryz.prog Tryz.f7 false true false false):=by
 refine returnsInHanded_of_cond (C:=Tryz.checked) (s:=Rows.OpenSpec.upto Rows.barrierFewerSpec) (k:=Rows.uptoSmall) rfl Tryz.own started (by kernel_rfl) Tryz.func7
  (OpenSpec.witness (enc:=enc) (C:=Tryz.checked) (s:=Rows.OpenSpec.upto Rows.barrierFewerSpec) (k:=Rows.uptoSmall) rfl false ⟨#[],#[.agg #[.int .u8 0,.int .u8 0,.slice none 0 0,.slice none 0 0,.slice none 0 0,.slice none 0 0,.slice none 0 0],.int .u8 0,.int .u8 0,.slice none 0 0],[]⟩ 8 (by kernel_rfl) (by kernel_rfl) (by kernel_rfl)
   (x:=([.agg [.lit (.int .u8 0),.lit (.int .u8 0),.nil,.nil,.nil,.nil,.nil],.lit (.int .u8 0),.lit (.int .u8 0),.nil],[],[])) (by kernel_rfl) rfl (by kernel_rfl)) ?_
 intro W base args ds gs before hval hW _ hk _
 exact barrierFewer_contract H enc W base args ds gs before hval hW hk
theorem YtgcofabdialaaaaGreatBarrierFewerUpto:Rows.BarrierFewerUptoSaid:=
 OpenClaim.holds_of_cond 7 Tryz.f7 rfl rfl rfl rfl rfl rfl rfl ⟨rfl,rfl,rfl,rfl,rfl⟩ rfl rfl rfl rfl rfl (by kernel_rfl) Tryz.func7 (by kernel_rfl)
  (of_decide_eq_true (by kernel_rfl)) (by unfold Func.isWrapper;first|(rw[if_pos (by decide+kernel)];kernel_rfl)|(rw[if_neg (by decide+kernel)];exact⟨rfl,rfl⟩))
  (fun os started H enc _ F=>barrierFewer_lifted os started H enc F)
end Go.Proofs.YtgcofabdialaaaaGreat
end
