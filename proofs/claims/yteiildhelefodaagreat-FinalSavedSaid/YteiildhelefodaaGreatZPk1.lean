/- What the walks need, joined: EngJ, Bits, SideA, SideM, SideB, SideC, SideD, HpS, EngK, HpM, HpA, HpB, HpN, HpC, HpD, HpX, HpE, HpF, HpG, SlG, Lay, HpK, HpL, RtM, RtA, RtB, RtC -/
import Derived.Test.YteiildhelefodaaGreatZEngI
import Derived.Test.YteiildhelefodaaGreatZCode
import Derived.MapKept
import Derived.Maps.RangeRun
import Derived.Test.YteiildhelefodaaGreatZCodeD
import Derived.Test.YteiildhelefodaaGreatProg
import Derived.Ground.NamesProg
import Derived.KernelRfl
import Derived.Shelf.Slices.In.SortNone
import Derived.Shelf.Sort.Plain
set_option linter.unusedSimpArgs false
set_option linter.unusedVariables false
namespace Go.Proofs.YteiildhelefodaaGreat
set_option maxRecDepth 100000
theorem tnc (n:Nat):((n:Int)).toNat=n:=Int.toNat_natCast n
theorem lms {α:Type} {a b:α}:a∈[b]↔a=b:=List.mem_singleton
theorem dtr {p:Prop} [Decidable p] (h:p):decide p=true:=decide_eq_true h
theorem dfl {p:Prop} [Decidable p] (h: ¬p):decide p=false:=decide_eq_false h
theorem lla {α:Type} {a b:List α}:(a++b).length=a.length+b.length:=List.length_append
section
section
variable {P:Program} {d:Option Nat} {rest:List XO} {ρ:Env} {w:World} {C:Env→World→Prop}
theorem stNT {b i n:Nat} {vs cs:List Value} (h:At w b vs) (hn:cs.length=n) (hi:i+n≤vs.length) (h1: ∀u,u∈cs→oneC u=true)
  (k: ∀w',w'.heap.size=w.heap.size→At w' b (setL vs i cs)→Only [b] w w'→VO P rest (putO ρ d undef) w' C):StNT P n (.pointer (some ⟨b,i,none⟩)) (.agg ⟨cs⟩) d rest ρ w C:=by
 obtain⟨T,h⟩:=h
 obtain⟨k1,k2,k3,k4⟩:=setCells_at (off:=i) cs 0 w vs h (by omega) h1
 unfold StNT
 exact⟨_,_,rfl,rfl,hn,k1,k _ k4 ⟨T,k2⟩ k3⟩
theorem stNS {fl:Bool} {rest:XT} {L:List Nat} {w0:World} {b i n:Nat} {vs cs:List Value} (h:At w b vs) (hn:cs.length=n) (hi:i+n≤vs.length) (h1: ∀u,u∈cs→oneC u=true)
  (k: ∀w',w'.heap.size=w.heap.size→At w' b (setL vs i cs)→Only [b] w w'→(fl=true∨SB L w0 w')∧VT P L w0 rest (putO ρ d undef) w' C):StNS P fl L w0 n (.pointer (some ⟨b,i,none⟩)) (.agg ⟨cs⟩) d rest ρ w C:=by
 obtain⟨T,h⟩:=h
 obtain⟨k1,k2,k3,k4⟩:=setCells_at (off:=i) cs 0 w vs h (by omega) h1
 obtain⟨h1,h2⟩:=k _ k4 ⟨T,k2⟩ k3
 unfold StNS
 exact⟨_,_,rfl,rfl,hn,k1,h1,h2⟩
end
theorem cellsAt_drew (w:World) (p:Addr) (n:Nat):cellsAt w.drew p n=cellsAt w p n:=by unfold cellsAt;simp only[World.cell?_drew]
theorem run_cut {P:Program} {f:FX} {x:XCode} {kx:List XI} {ρ:Env} {w:World} {R:Value→World→Prop} (W:List Nat) (J:Env→World→Prop)
  (h1: ∀k,(∀ρ' w',J ρ' w'→(hk:Keeps W ρ ρ':=by(repeat(first|with_reducible exact k_1|with_reducible exact Keeps.ovr _ _ _|refine Keeps.put ?_ rfl _|exact k_1|exact Keeps.ovr _ _ _|refine Keeps.ovr2 ?_ rfl _)))→Run P f k ρ' w' R)→Run P f (.code x::k) ρ w R) (h2: ∀g w',J g w'→Run P f kx (ovr W g ρ) w' R):Run P f (.code x::kx) ρ w R:=
 h1 kx fun ρ' w' hj hk=>by rw[hk.eq];exact h2 ρ' w' hj
attribute [go_sem] cellsAt_drew
theorem slcO_lh {size n cap l h:Nat} {k k':IntKind} {p:Addr} (h1:l≤h) (h2:h≤cap) (h3:l<cap):slcO size (.slice (some p) n cap) (some (.int k (l:Int))) (some (.int k' (h:Int)))=some (.slice (some (p.add (l*size))) (h-l) (cap-l)):=by
 have e1:(0:Int)≤(h:Int)∧(h:Int)≤(cap:Int):=by omega
 have e2:(0:Int)≤(l:Int)∧(l:Int)≤(h:Int):=by omega
 have e3: ¬cap=l:=by omega
 simp[slcO,boundO,e1,e2,e3]
theorem slcO_l {size n cap l:Nat} {k:IntKind} {p:Addr} (h1:l≤n) (h3:l<cap):slcO size (.slice (some p) n cap) (some (.int k (l:Int))) none=some (.slice (some (p.add (l*size))) (n-l) (cap-l)):=by
 have e2:(0:Int)≤(l:Int)∧(l:Int)≤(n:Int):=by omega
 have e3: ¬cap=l:=by omega
 simp[slcO,boundO,e2,e3]
theorem slcO_all {size n l:Nat} {k:IntKind} {p:Option Addr} (h1:l=n):slcO size (.slice p n n) (some (.int k (l:Int))) none=some (.slice p 0 0):=by
 subst h1
 have e2:(0:Int)≤(l:Int)∧(l:Int)≤(l:Int):=by omega
 simp[slcO,boundO,e2]
theorem bqt {a b:Int} (h:a=b):(a==b)=true:=by simp[h]
theorem bqf {a b:Int} (h: ¬a=b):(a==b)=false:=by simp[h]
theorem bnt {a b:Int} (h: ¬a=b):(a !=b)=true:=by simp[h]
theorem bnf {a b:Int} (h:a=b):(a !=b)=false:=by simp[h]
end
section
variable {l ws:List Nat} {i wd x:Nat}
theorem i64_of_nat (n:Nat) (h:n≤4611686018427387904):IntKind.i64.wrap (n:Int)=n:=IntWalk.i64_in _ (by omega)
theorem u64_of_nat (n:Nat) (h:n<18446744073709551616):IntKind.u64.wrap (n:Int)=n:=IntWalk.u64_in _ (by omega)
theorem ofInt_wrap_i64 (n:Int):BitVec.ofInt 64 (IntKind.i64.wrap n)=BitVec.ofInt 64 n:=by
 apply BitVec.eq_of_toNat_eq
 rw[BitVec.toNat_ofInt,BitVec.toNat_ofInt,IntKind.wrap_i64]
 congr 1
 have e:((2:Nat)^64:Nat)=18446744073709551616:=by decide
 rw[e]
 omega
theorem ofInt_nat (n:Nat):BitVec.ofInt 64 (n:Int)=BitVec.ofNat 64 n:=by
 apply BitVec.eq_of_toNat_eq
 simp
theorem bitI_i64 (op:BinOp) (a b:Int):bitI op .i64 a b=IntKind.i64.wrap ((match op with|.and=>(BitVec.ofInt 64 a&&& BitVec.ofInt 64 b).toNat|.or=>(BitVec.ofInt 64 a|||BitVec.ofInt 64 b).toNat|.xor=>(BitVec.ofInt 64 a^^^BitVec.ofInt 64 b).toNat|_=>(BitVec.ofInt 64 a&&& ~~~(BitVec.ofInt 64 b)).toNat:Nat):Int):=rfl
theorem bitI_u64 (op:BinOp) (a b:Int):bitI op .u64 a b=IntKind.u64.wrap ((match op with|.and=>(BitVec.ofInt 64 a&&& BitVec.ofInt 64 b).toNat|.or=>(BitVec.ofInt 64 a|||BitVec.ofInt 64 b).toNat|.xor=>(BitVec.ofInt 64 a^^^BitVec.ofInt 64 b).toNat|_=>(BitVec.ofInt 64 a&&& ~~~(BitVec.ofInt 64 b)).toNat:Nat):Int):=rfl
theorem u64_shl (a k:Nat) (h:a <<< k<2^64):IntKind.u64.wrap ((a:Int)*2^k)=((a <<< k:Nat):Int):=by
 have:((a:Int)*2^k)=((a <<< k:Nat):Int):=by rw[Nat.shiftLeft_eq,Int.natCast_mul,Int.natCast_pow];rfl
 rw[this,u64_of_nat _ h]
theorem bitI_and_nat {m:Nat} (hm:m<4611686018427387904):bitI .and .i64 (IntKind.i64.wrap (x:Int)) (m:Int)=((x&&& m:Nat):Int):=by
 rw[bitI_i64,ofInt_wrap_i64,ofInt_nat,ofInt_nat]
 have e:(BitVec.ofNat 64 x&&& BitVec.ofNat 64 m).toNat=x&&& m:=by
  rw[←BitVec.ofNat_and,BitVec.toNat_ofNat,Nat.mod_eq_of_lt]
  exact Nat.lt_of_le_of_lt Nat.and_le_right (by omega)
 show IntKind.i64.wrap (((BitVec.ofNat 64 x&&& BitVec.ofNat 64 m).toNat:Nat):Int)=_
 rw[e,i64_of_nat]
 exact Nat.le_trans Nat.and_le_right (by omega)
theorem bitI_or_nat {y:Nat} (hx:x<2^64) (hy:y<2^64):bitI .or .u64 (x:Int) (y:Int)=((x|||y:Nat):Int):=by
 rw[bitI_u64,ofInt_nat,ofInt_nat]
 have e:(BitVec.ofNat 64 x|||BitVec.ofNat 64 y).toNat=x|||y:=by
  rw[←BitVec.ofNat_or,BitVec.toNat_ofNat,Nat.mod_eq_of_lt (Nat.or_lt_two_pow hx hy)]
 show IntKind.u64.wrap (((BitVec.ofNat 64 x|||BitVec.ofNat 64 y).toNat:Nat):Int)=_
 rw[e,u64_of_nat]
 exact Nat.or_lt_two_pow hx hy
def clr (x y:Nat):Nat:=(BitVec.ofNat 64 x&&& ~~~(BitVec.ofNat 64 y)).toNat
theorem clr_lt (x y:Nat):clr x y<2^64:=(BitVec.ofNat 64 x&&& ~~~(BitVec.ofNat 64 y)).isLt
theorem clr_bit (x y k:Nat) (hx:x<2^64):(clr x y).testBit k=(x.testBit k&&!(y.testBit k)):=by
 unfold clr
 rw[BitVec.testBit_toNat,BitVec.getLsbD_and,BitVec.getLsbD_not]
 simp only[BitVec.getLsbD_ofNat]
 by_cases hk:k<64
 ·simp[hk]
 ·have:x.testBit k=false:=Nat.testBit_lt_two_pow (Nat.lt_of_lt_of_le hx (Nat.pow_le_pow_right (by omega) (by omega)))
  simp[hk,this]
theorem bitI_andNot_nat (x y:Nat):bitI .andNot .u64 (x:Int) (y:Int)=((clr x y:Nat):Int):=by
 rw[bitI_u64,ofInt_nat,ofInt_nat]
 show IntKind.u64.wrap ((clr x y:Nat):Int)=_
 rw[u64_of_nat]
 exact clr_lt x y
theorem shr_nat (x r:Nat):((x:Int)).fdiv (2^r)=((x >>> r:Nat):Int):=by
 rw[Nat.shiftRight_eq_div_pow]
 have:((2:Int)^r)=((2^r:Nat):Int):=by simp
 rw[this,Int.fdiv_eq_ediv_of_nonneg _ (Int.natCast_nonneg _)]
 exact(Int.natCast_ediv _ _).symm
def Wd (wd:Nat):Prop:=wd=1∨wd=2∨wd=4∨wd=8
theorem Wd.pos (h:Wd wd):1≤wd∧wd≤8:=by unfold Wd at h;omega
structure Pk (wd:Nat) (l ws:List Nat):Prop where
 len:ws.length=(l.length*wd+63)/64
 lt: ∀k,ws.getD k 0<2^64
 el: ∀i,l.getD i 0<2^wd
 bit: ∀k,(ws.getD (k/64) 0).testBit (k%64)=(l.getD (k/wd) 0).testBit (k%wd)
theorem Wd.div {j:Nat} (h:Wd wd) (hj:j<wd):(i*wd+j)/64=i*wd/64∧(i*wd+j)%64=i*wd%64+j∧(i*wd+j)/wd=i∧(i*wd+j)%wd=j∧i*wd%64+wd≤64:=by
 rcases h with rfl|rfl|rfl|rfl<;>omega
theorem Pk.get (h:Pk wd l ws) (hw:Wd wd):((ws.getD (i*wd/64) 0) >>> (i*wd%64))&&& (2^wd-1)=l.getD i 0:=by
 apply Nat.eq_of_testBit_eq
 intro j
 rw[Nat.testBit_and,Nat.testBit_shiftRight,Nat.testBit_two_pow_sub_one]
 by_cases hj:j<wd
 ·obtain⟨h1,h2,h3,h4,_⟩:=hw.div (i:=i) hj
  have:=h.bit (i*wd+j)
  rw[h1,h2,h3,h4]at this
  simp only[hj,decide_true,Bool.and_true];exact this
 ·have:(l.getD i 0).testBit j=false:=Nat.testBit_lt_two_pow (Nat.lt_of_lt_of_le (h.el i) (Nat.pow_le_pow_right (by omega) (by omega)))
  rw[this]
  simp[hj]
theorem getD_set (l:List Nat) (i j v:Nat):(l.set i v).getD j 0=if i=j∧j<l.length then v else l.getD j 0:=by
 simp only[List.getD_eq_getElem?_getD,List.getElem?_set]
 by_cases h:i=j
 ·subst h
  by_cases h2:i<l.length
  ·simp[h2]
  ·simp[h2]
 ·simp[h]
theorem Pk.put {v:Nat} (h:Pk wd l ws) (hw:Wd wd) (hi:i<l.length) (hv:v<2^wd):
  Pk wd (l.set i v) (ws.set (i*wd/64) (clr (ws.getD (i*wd/64) 0) ((2^wd-1) <<< (i*wd%64))|||(v <<< (i*wd%64)))):=by
 have hw64:i*wd%64+wd≤64:=(hw.div (i:=i) (j:=0) (by have:=hw.pos;omega)).2.2.2.2
 have hidx:i*wd/64<ws.length:=by rw[h.len];rcases hw with rfl|rfl|rfl|rfl<;>omega
 have hvs:v <<< (i*wd%64)<2^64:=by
  rw[Nat.shiftLeft_eq]
  calc v*2^(i*wd%64)<2^wd*2^(i*wd%64):=Nat.mul_lt_mul_of_pos_right hv (Nat.two_pow_pos _)
   _=2^(wd+i*wd%64):=by rw[Nat.pow_add]
   _≤2^64:=Nat.pow_le_pow_right (by omega) (by omega)
 have hlt:clr (ws.getD (i*wd/64) 0) ((2^wd-1) <<< (i*wd%64))|||(v <<< (i*wd%64))<2^64:=Nat.or_lt_two_pow (clr_lt _ _) hvs
 refine⟨by simpa using h.len,fun k=>?_,fun k=>?_,fun k=>?_⟩
 ·rw[getD_set];split
  ·exact hlt
  ·exact h.lt k
 ·rw[getD_set];split
  ·exact hv
  ·exact h.el k
 ·rw[getD_set,getD_set]
  by_cases hk:i*wd/64=k/64
  ·rw[if_pos ⟨hk,by omega⟩,Nat.testBit_or,clr_bit _ _ _ (h.lt _),Nat.testBit_shiftLeft,Nat.testBit_shiftLeft,Nat.testBit_two_pow_sub_one]
   have hb:=h.bit k
   rw[←hk]at hb
   by_cases he:i=k/wd
   ·have hkk:k=i*wd+k%wd:=by rw[he,Nat.mul_comm];exact(Nat.div_add_mod k wd).symm
    have hm:k%wd<wd:=Nat.mod_lt _ (by have:=hw.pos;omega)
    have hd:=(hw.div (i:=i) hm).2.1
    rw[←hkk]at hd
    rw[if_pos ⟨he,by omega⟩]
    have e1:i*wd%64≤k%64:=by omega
    have e2:k%64-i*wd%64=k%wd:=by omega
    simp[e1,e2,hm]
   ·rw[if_neg (by intro hc;exact he hc.1),←hb]
    -- the bit lies outside the field
    have hout: ¬(i*wd%64≤k%64∧k%64-i*wd%64<wd):=by
     intro hc
     apply he
     rcases hw with rfl|rfl|rfl|rfl<;>omega
    by_cases e1:i*wd%64≤k%64
    ·have e2: ¬(k%64-i*wd%64<wd):=fun hc=>hout ⟨e1,hc⟩
     have e3:v.testBit (k%64-i*wd%64)=false:=Nat.testBit_lt_two_pow (Nat.lt_of_lt_of_le hv (Nat.pow_le_pow_right (by omega) (by omega)))
     simp[e1,e2,e3]
    ·simp[e1]
  ·rw[if_neg (by intro hc;exact hk hc.1)]
   have hne:i≠k/wd:=by
    intro he
    apply hk
    rw[he]
    rcases hw with rfl|rfl|rfl|rfl<;>omega
   rw[if_neg (by intro hc;exact hne hc.1)]
   exact h.bit k
theorem Pk.zero (wd n:Nat) (hw:Wd wd):Pk wd (List.replicate n 0) (List.replicate ((n*wd+63)/64) 0):=by
 have z: ∀m k,(List.replicate m 0).getD k 0=0:=fun m k=>by
  simp only[List.getD_eq_getElem?_getD,List.getElem?_replicate]
  split<;>rfl
 refine⟨by simp,fun k=>?_,fun k=>?_,fun k=>?_⟩
 ·rw[z];omega
 ·rw[z];exact Nat.two_pow_pos _
 ·rw[z,z];simp
end
section
variable {l:List Nat} {b g i n wd:Nat} {w:World}
def u64s (ws:List Nat):List Value:=ws.map fun(x:Nat)=>.int .u64 (x:Int)
structure STab (w:World) (b g n wd:Nat) (l:List Nat):Prop where
 hw:Wd wd
 len:l.length=n
 n1:1≤n
 n2:n≤4096
 el: ∀i,l.getD i 0<2^wd
 mem: ∃(ws:List Nat) (cap:Nat) (rest:List Value),Pk wd l ws∧At w b [.int .i64 n,.int .i64 wd,.slice (some ⟨g,0,none⟩) ws.length cap]∧At w g (u64s ws++rest)∧b≠g
theorem STab.keep {S:List Nat} {w':World} (h:STab w b g n wd l) (k:Only S w w') (hb:b∉S) (hg:g∉S):STab w' b g n wd l:=
 ⟨h.hw,h.len,h.n1,h.n2,h.el,let ⟨ws,cap,rest,h1,h2,h3,h4⟩:=h.mem;⟨ws,cap,rest,h1,h2.keep k hb,h3.keep k hg,h4⟩⟩
theorem STab.drew (h:STab w b g n wd l):STab w.drew b g n wd l:=h.keep (Only.drew [] w) (by simp) (by simp)
theorem made_nil (w:World):Cs Tryz.prog 211 [.pointer none] w fun v w'=>v=.bool false∧w'=w:=by
 refine enter_side_Table_made rfl ?_
 unfold x_side_Table_made
 (repeat(first|with_reducible(first|refine nx ?_|refine r_6 rfl ?_)|simp only[go_sem]))
theorem made_at (b:Nat) (n:Int) (c:List Value) (w:World) (h:At w b (.int .i64 n::c)):Cs Tryz.prog 211 [.pointer (some ⟨b,0,none⟩)] w fun v w'=>v=.bool (decide (0<n))∧w'=w:=by
 refine enter_side_Table_made rfl ?_
 unfold x_side_Table_made
 (repeat(first|with_reducible(first|refine nx ?_|refine r_6 rfl ?_)|simp only[go_sem,h.cell]))
theorem made_tab (h:STab w b g n wd l):Cs Tryz.prog 211 [.pointer (some ⟨b,0,none⟩)] w fun v w'=>v=.bool true∧w'=w:=by
 obtain⟨ws,cap,rest,h1,h2,h3,h4⟩:=h.mem
 refine(made_at b n _ w h2).mono ?_
 rintro v w' ⟨rfl,rfl⟩
 have:=h.n1
 exact⟨by simp;omega,rfl⟩
theorem most_tab (h:STab w b g n wd l):Cs Tryz.prog 258 [.pointer (some ⟨b,0,none⟩)] w fun v w'=>v=.int .i64 ((2^wd-1:Nat):Int)∧w'=w:=by
 obtain⟨ws,cap,rest,h1,h2,h3,h4⟩:=h.mem
 have hw:=h.hw
 have e1:IntKind.i64.wrap (IntKind.i64.wrap (1*2^(min ((wd:Int).toNat) 64))-1)=((2^wd-1:Nat):Int):=by
  rcases hw with rfl|rfl|rfl|rfl<;>decide
 refine enter_side_Table_most rfl ?_
 unfold x_side_Table_most
 (repeat(first|with_reducible(first|refine nx ?_|refine r_6 rfl ?_)|simp only[go_sem,h2.cell,e1]))
theorem u64s_getElem? (ws:List Nat) (rest:List Value) (i:Nat) (h:i<ws.length):(u64s ws++rest)[i]? =some (.int .u64 ((ws.getD i 0:Nat):Int)):=by
 rw[List.getElem?_append_left (by simpa[u64s]using h)]
 simp[u64s,h]
theorem tdiv64 (n:Nat) (h:n≤4611686018427387904):IntKind.i64.wrap ((n:Int).tdiv 64)=((n/64:Nat):Int):=by
 rw[Int.tdiv_eq_ediv_of_nonneg (by omega),show((n:Int)/64)=((n/64:Nat):Int) by omega,i64_of_nat _ (by omega)]
theorem tmod64 (n:Nat):((n:Int).tmod 64)=((n%64:Nat):Int):=by
 rw[Int.tmod_eq_emod_of_nonneg (by omega)];omega
theorem place_facts (hw:Wd wd) (hn:n≤4096) (hi:i<n):
  IntKind.i64.wrap ((i:Int)*(wd:Int))=((i*wd:Nat):Int)∧IntKind.i64.wrap (((i*wd:Nat):Int).tdiv 64)=((i*wd/64:Nat):Int)∧(((i*wd:Nat):Int).tmod 64)=((i*wd%64:Nat):Int):=by
 have hb:i*wd≤40000:=by rcases hw with rfl|rfl|rfl|rfl<;>omega
 refine⟨?_,tdiv64 _ (by omega),tmod64 _⟩
 rw[←Int.natCast_mul,i64_of_nat _ (by omega)]
theorem get_tab (h:STab w b g n wd l) (hi:i<n):Cs Tryz.prog 212 [.pointer (some ⟨b,0,none⟩),.int .i64 i] w fun v w'=>v=.int .i64 ((l.getD i 0:Nat):Int)∧Only [] w w':=by
 obtain⟨ws,cap,rest,h1,h2,h3,h4⟩:=h.mem
 have hw:=h.hw
 obtain⟨e1,e2,e3⟩:=place_facts hw h.n2 hi
 have hk:i*wd/64<ws.length:=by rw[h1.len,h.len];rcases hw with rfl|rfl|rfl|rfl<;>omega
 have e4:=u64s_getElem? ws rest _ hk
 have c1:(0:Int)≤((i*wd/64:Nat):Int)∧((i*wd/64:Nat):Int)<(ws.length:Int):=⟨by omega,by omega⟩
 have e5:(((i*wd/64:Nat):Int)).toNat*1=i*wd/64:=by simp only[tnc,Nat.mul_one]
 have e6:min ((((i*wd%64:Nat):Int)).toNat) 64=i*wd%64:=by simp only[tnc];omega
 have e7:=h1.get (i:=i) hw
 have e8:bitI .and .i64 (IntKind.i64.wrap (((ws.getD (i*wd/64) 0:Nat):Int).fdiv (2^(i*wd%64)))) ((2^wd-1:Nat):Int)=((l.getD i 0:Nat):Int):=by
  rw[shr_nat,bitI_and_nat,e7]
  rcases hw with rfl|rfl|rfl|rfl<;>decide
 refine enter_side_Table_get rfl ?_
 unfold x_side_Table_get
 refine gO2 h2.cell e1 ?_
 refine run_drt [b,g] ?_
 (repeat(first|with_reducible(first|refine nx ?_|refine r_6 rfl ?_)|simp only[go_sem,h2.cell,h3.cell,e2,e3,e4,e5,if_pos c1,e6]))
 refine callS0 (most_tab h.drew) (.inr (SB.refl _ _)) ?_
 refine gO1 e8 ?_
 exact Only.drew _ _
theorem put_tab {v:Nat} (h:STab w b g n wd l) (hi:i<n) (hv:v<2^wd):
  Cs Tryz.prog 225 [.pointer (some ⟨b,0,none⟩),.int .i64 i,.int .i64 v] w fun r w'=>r=.tuple #[]∧STab w' b g n wd (l.set i v)∧Only [g] w w':=by
 obtain⟨ws,cap,rest,h1,h2,h3,h4⟩:=h.mem
 have hw:=h.hw
 obtain⟨e1,e2,e3⟩:=place_facts hw h.n2 hi
 have hk:i*wd/64<ws.length:=by rw[h1.len,h.len];rcases hw with rfl|rfl|rfl|rfl<;>omega
 have e4:=u64s_getElem? ws rest _ hk
 have c1:(0:Int)≤((i*wd/64:Nat):Int)∧((i*wd/64:Nat):Int)<(ws.length:Int):=⟨by omega,by omega⟩
 have e5:(((i*wd/64:Nat):Int)).toNat*1=i*wd/64:=by simp only[tnc,Nat.mul_one]
 have e6:min ((((i*wd%64:Nat):Int)).toNat) 64=i*wd%64:=by simp only[tnc];omega
 have hr:i*wd%64+wd≤64:=(hw.div (i:=i) (j:=0) (by have:=hw.pos;omega)).2.2.2.2
 have p1:(2^wd-1) <<< (i*wd%64)<2^64:=by
  rw[Nat.shiftLeft_eq]
  have:2^wd-1<2^wd:=by have:=Nat.two_pow_pos wd;omega
  calc (2^wd-1)*2^(i*wd%64)<2^wd*2^(i*wd%64):=Nat.mul_lt_mul_of_pos_right this (Nat.two_pow_pos _)
   _=2^(wd+i*wd%64):=by rw[Nat.pow_add]
   _≤2^64:=Nat.pow_le_pow_right (by omega) (by omega)
 have p2:v <<< (i*wd%64)<2^64:=by
  rw[Nat.shiftLeft_eq]
  calc v*2^(i*wd%64)<2^wd*2^(i*wd%64):=Nat.mul_lt_mul_of_pos_right hv (Nat.two_pow_pos _)
   _=2^(wd+i*wd%64):=by rw[Nat.pow_add]
   _≤2^64:=Nat.pow_le_pow_right (by omega) (by omega)
 have hv8:v<256:=Nat.lt_of_lt_of_le hv (by rcases hw with rfl|rfl|rfl|rfl<;>decide)
 have hm8:2^wd-1<256:=by rcases hw with rfl|rfl|rfl|rfl<;>decide
 have q1:IntKind.u64.wrap ((2^wd-1:Nat):Int)=((2^wd-1:Nat):Int):=u64_of_nat _ (by omega)
 have q2:IntKind.u64.wrap ((v:Nat):Int)=((v:Nat):Int):=u64_of_nat _ (by omega)
 have q3:=u64_shl _ _ p1
 have q4:=u64_shl _ _ p2
 have q5:=bitI_andNot_nat (ws.getD (i*wd/64) 0) ((2^wd-1) <<< (i*wd%64))
 have q6:=bitI_or_nat (clr_lt (ws.getD (i*wd/64) 0) ((2^wd-1) <<< (i*wd%64))) p2
 refine enter_side_Table_put rfl ?_
 unfold x_side_Table_put
 refine gO5 h2.cell e1 e2 (eq_true c1) e5 ?_
 refine run_drt [b,g] ?_
 (repeat(first|with_reducible(first|refine nx ?_|refine r_6 rfl ?_)|simp only[go_sem,h2.cell,h3.cell,e3,e4,e6,q1,q2,q4]))
 refine callS0 (most_tab h.drew) (.inr (SB.refl _ _)) ?_
 (repeat(first|with_reducible(first|refine nx ?_|refine r_6 rfl ?_)|simp only[go_sem,h2.cell,h3.cell,e3,e4,e6,q1,q2,q3,q4,q5,q6]))
 refine stS h3.drew (by simp[u64s];omega) rfl fun w' hs' ha ho=>⟨.inl rfl,?_⟩
 refine gO ?_
 have hset:(u64s ws++rest).set (i*wd/64) (.int .u64 ((clr (ws.getD (i*wd/64) 0) ((2^wd-1) <<< (i*wd%64))|||v <<< (i*wd%64):Nat):Int))=u64s (ws.set (i*wd/64) (clr (ws.getD (i*wd/64) 0) ((2^wd-1) <<< (i*wd%64))|||v <<< (i*wd%64)))++rest:=by
  rw[List.set_append_left _ _ (by simpa[u64s]using hk)]
  simp[u64s,List.map_set]
 rw[hset]at ha
 have hp:=h1.put (i:=i) (v:=v) hw (by rw[h.len];exact hi) hv
 refine⟨⟨hw,by simp[h.len],h.n1,h.n2,hp.el,_,cap,rest,hp,?_,ha,h4⟩,ho.drew_left⟩
 rw[List.length_set]
 exact h2.drew.keep ho (by simp[h4])
end
section
variable {i:Int} {n wd:Nat}
abbrev MT:=Option (Nat×List Nat)
def hasB (n:Nat) (i:Int):Bool:=decide (0≤i)&&decide (i<n)
def mayB (wd:Nat) (v:Int):Bool:=decide (0≤v)&&decide (v≤((2^wd-1:Nat):Int))
def MT.check (m:MT) (i:Int) (vs:List Int):Int:=match m with
 |none=>5
 |some (wd,l)=>if hasB l.length i&&vs.all (mayB wd)then 0 else 1
def MT.get (m:MT) (i:Int):Int:=match m with
 |none=> -1
 |some (_,l)=>if hasB l.length i then((l.getD i.toNat 0:Nat):Int)else-1
def MT.setM (m:MT) (i v:Int):MT:=match m with
 |none=>none
 |some (wd,l)=>if m.check i [v]=0 then some (wd,l.set i.toNat v.toNat)else some (wd,l)
theorem hasB_nat (h:hasB n i=true): ∃k:Nat,i=k∧k<n:=by
 simp only[hasB,Bool.and_eq_true,decide_eq_true_eq]at h
 exact⟨i.toNat,by omega,by omega⟩
theorem hasB_of {k:Nat} (h:k<n):hasB n (k:Int)=true:=by simp[hasB];omega
theorem mayB_nat {v:Int} (h:mayB wd v=true): ∃k:Nat,v=k∧k<2^wd:=by
 simp only[mayB,Bool.and_eq_true,decide_eq_true_eq]at h
 have:=Nat.two_pow_pos wd
 exact⟨v.toNat,by omega,by omega⟩
theorem MT.check_none (i:Int) (vs:List Int):MT.check none i vs=5:=rfl
theorem MT.check_cases {l:List Nat} {vs:List Int}:(MT.check (some (wd,l)) i vs=0∧hasB l.length i=true∧vs.all (mayB wd)=true)∨(MT.check (some (wd,l)) i vs=1∧(hasB l.length i&&vs.all (mayB wd))=false):=by
 simp only[MT.check]
 cases h:(hasB l.length i&&vs.all (mayB wd))with
 |true=>exact .inl ⟨rfl,(Bool.and_eq_true _ _▸h)⟩
 |false=>exact .inr ⟨rfl,rfl⟩
def fillN (l:List Nat) (k v:Nat):Nat→List Nat
 |0=>l
 |j+1=>(fillN l k v j).set (k+j) v
def firstI (p:Nat→Bool):Nat→Option Nat
 |0=>none
 |n+1=>match firstI p n with
  |some i=>some i
  |none=>if p n then some n else none
def lastI (p:Nat→Bool):Nat→Option Nat
 |0=>none
 |n+1=>if p n then some n else lastI p n
theorem firstI_none {p:Nat→Bool}: ∀ {n:Nat},(∀j,j<n→p j=false)→firstI p n=none
 |0,_=>rfl
 |n+1,h=>by simp only[firstI,firstI_none fun j hj=>h j (Nat.lt_succ_of_lt hj)];rw[h n (Nat.lt_succ_self n)];rfl
theorem firstI_some {p:Nat→Bool} {i:Nat} (hp:p i=true): ∀ {n:Nat},i<n→(∀j,j<i→p j=false)→firstI p n=some i
 |0,h,_=>absurd h (Nat.not_lt_zero _)
 |n+1,h,hn=>by
  simp only[firstI]
  rcases Nat.lt_or_ge i n with h'|h'
  ·rw[firstI_some hp h' hn]
  ·have:i=n:=by omega
   subst this
   rw[firstI_none hn,hp];rfl
theorem lastI_none {p:Nat→Bool}: ∀ {n:Nat},(∀j,j<n→p j=false)→lastI p n=none
 |0,_=>rfl
 |n+1,h=>by simp only[lastI];rw[h n (Nat.lt_succ_self n)];exact lastI_none fun j hj=>h j (Nat.lt_succ_of_lt hj)
theorem lastI_some {p:Nat→Bool} {i:Nat} (hp:p i=true): ∀ {n:Nat},i<n→(∀j,i<j→j<n→p j=false)→lastI p n=some i
 |0,h,_=>absurd h (Nat.not_lt_zero _)
 |n+1,h,hn=>by
  simp only[lastI]
  rcases Nat.lt_or_ge i n with h'|h'
  ·rw[hn n h' (Nat.lt_succ_self n)];exact lastI_some hp h' fun j h1 h2=>hn j h1 (Nat.lt_succ_of_lt h2)
  ·have:i=n:=by omega
   subst this;rw[hp];rfl
def MT.addE (m:MT) (i d:Int):Int:=match m with
 |none=>5
 |some _=>if m.check i []=0 then(if d< -255∨255<d then 1 else 0)else m.check i []
def optR (o:Option Nat):Int:=match o with|some i=>i|none=>0
def optE (o:Option Nat):Int:=match o with|some _=>0|none=>4
def MT.nextO (m:MT) (i v:Int):Option Nat:=match m with
 |none=>none
 |some (_,l)=>firstI (fun k=>decide (i≤(k:Int))&&decide (((l.getD k 0:Nat):Int)=v)) l.length
def MT.lastO (m:MT) (i v:Int):Option Nat:=match m with
 |none=>none
 |some (_,l)=>lastI (fun k=>decide ((k:Int)<i)&&decide (((l.getD k 0:Nat):Int)=v)) l.length
def MT.err (m:MT) (o:Option Nat):Int:=match m with|none=>5|some _=>optE o
def okW (wd:Int):Bool:=[1,2,4,8].any fun x=>wd==x
def newM (n wd:Int):MT:=if 1≤n∧n≤4096∧okW wd=true then some (wd.toNat,List.replicate n.toNat 0)else none
def errOf (m:MT):Int:=if m.isSome then 0 else 1
end
section
variable {caps:Array Value} {p:Int→Bool} {xs:List Int} {l:List Nat} {F b cap g i n t wd:Nat} {a:Option Addr} {w:World}
def ints (xs:List Int):List Value:=xs.map fun(x:Int)=>.int .i64 x
theorem ints_append_get (rest:List Value) (h:i<xs.length):(ints xs++rest)[i]? =some (.int .i64 (xs.getD i 0)):=by
 rw[List.getElem?_append_left (by simpa[ints]using h)]
 simp[ints,h]
def upTo (n:Nat) (t:Nat) (g:Env):Nat:=match g t with|.int _ i=>(n-i).toNat|_=>0
theorem upTo_int {g:Env} {k:IntKind} (h:g t=.int k i):upTo n t g=n-i:=by unfold upTo;rw[h];show((n:Int)-i).toNat=_;omega
theorem up_lt {g h:Env} {k:IntKind} (e:g t=.int k i) (e':h t=.int .i64 ((i+1:Nat):Int):=by simp only[go_sem]) (hl:i<n:=by omega):upTo n t h<upTo n t g:=by rw[upTo_int (i:=i) e,upTo_int (i:=i+1) e'];omega
theorem i64_succ (i:Nat) (h:i≤4611686018427387903):IntKind.i64.wrap ((i:Int)+1)=((i+1:Nat):Int):=i64_of_nat (i+1) (by omega)
theorem any_take_succ (h:i<xs.length):(xs.take (i+1)).any p=((xs.take i).any p||p (xs.getD i 0)):=by
 rw[List.take_succ_eq_append_getElem h,List.any_append]
 simp[h]
theorem indexFunc (hs : xs ≠ [] → ∃ s rest, a = some ⟨s, 0, none⟩ ∧ At w s (ints xs ++ rest)) (hok : okF Tryz.prog F = true)
    (hlen : xs.length ≤ 1000) (hF : ∀ w' x, Only [] w w' → x ∈ xs → Cs Tryz.prog F ([.int .i64 x] ++ caps.toList) w' fun v w'' => v = .bool (p x) ∧ Only [] w' w'') :
    Cs Tryz.prog 140 [.slice a xs.length cap, .func (.func F) #[] caps] w fun v w' => (∃ k : Int, v = .int .i64 k ∧ decide (0 ≤ k) = xs.any p) ∧ Only [] w w' := by
  refine enter_slices_IndexFunc___int_int_ rfl ?_
  unfold x_slices_IndexFunc___int_int_
  refine gO ?_
  refine run_loop [5, 8, 9, 10, 11, 12, 13, 14, 15, 16, 18] (fun g w' => ∃ i : Nat, g 8 = .int .i64 i ∧ i ≤ xs.length ∧ (xs.take i).any p = false ∧ Only [] w w') (fun g _ => upTo xs.length 8 g) ⟨0, by simp only [go_sem]; rfl, by omega, by simp, Only.refl _ _⟩ fun g w' hI hnext => ?_
  obtain ⟨i, h8, hi, hany, ho⟩ := hI
  refine gO1 h8 ?_
  refine condT (fun hlt => ?_) (fun hge => ?_)
  · have hlt : i < xs.length := by simpa using hlt
    obtain ⟨s, rest, rfl, hat⟩ := hs (by intro e; subst e; simp at hlt)
    have c1 : (0 : Int) ≤ (i : Int) ∧ (i : Int) < (xs.length : Int) := ⟨by omega, by omega⟩
    (repeat (first | with_reducible (first | refine nx ?_ | refine r_6 rfl ?_) | simp only [go_sem, h8, if_pos c1, hat.cell, (hat.keep0 ho).cell, ints_append_get rest hlt, tnc, Nat.mul_one]))
    have hF' : Cs Tryz.prog F ((#[] : Array Value).toList ++ [.int .i64 (xs.getD i 0)] ++ caps.toList) w' fun v w'' => v = .bool (p (xs.getD i 0)) ∧ Only [] w' w'' := by
      have := hF w' (xs.getD i 0) ho (by simp [hlt])
      simpa using this
    refine callVT (callVals_f F #[] [.int .i64 (xs.getD i 0)] caps) hok hF' ?_
    rintro v w2 ⟨rfl, ho2⟩
    refine gO ?_
    refine condT (fun hp => ?_) (fun hp => ?_)
    · refine gO ?_
      refine ⟨⟨i, rfl, ?_⟩, ho.nil ho2⟩
      have : xs.any p = true := List.any_eq_true.2 ⟨_, by simp [hlt], hp⟩
      simp [this]
    · refine gO2 h8 (i64_succ i (by omega)) ?_
      refine hnext _ w2 ⟨i + 1, ?_, by omega, by rw [any_take_succ hlt, hany, hp]; rfl, ho.nil ho2⟩ ?_
      · simp only [go_sem]
      · exact up_lt h8
  · have : i = xs.length := by have : ¬ (i < xs.length) := by simpa using hge
                               omega
    subst this
    refine gO ?_
    refine ⟨⟨-1, rfl, ?_⟩, ho⟩
    rw [List.take_length] at hany
    simp [hany]
theorem containsFunc (hs:xs≠ []→ ∃s rest,a=some ⟨s,0,none⟩∧At w s (ints xs++rest)) (hok:okF Tryz.prog F=true)
  (hlen:xs.length≤1000) (hF: ∀w' x,Only [] w w'→x∈xs→Cs Tryz.prog F ([.int .i64 x]++caps.toList) w' fun v w''=>v=.bool (p x)∧Only [] w' w''):
  Cs Tryz.prog 142 [.slice a xs.length cap,.func (.func F) #[] caps] w fun v w'=>v=.bool (xs.any p)∧Only [] w w':=by
 refine enter_slices_ContainsFunc___int_int_ rfl ?_
 unfold x_slices_ContainsFunc___int_int_
 refine gO ?_
 refine callT (indexFunc hs hok hlen hF) ?_
 rintro v w' ⟨⟨k,rfl,hk⟩,ho⟩
 refine gO1 hk ?_
 exact ho
theorem value_tab (h:STab w b g n wd l) (v:Int):Cs Tryz.prog 263 [.pointer (some ⟨b,0,none⟩),.int .i64 v] w fun r w'=>r=.bool (mayB wd v)∧Only [] w w':=by
 refine enter_side_Table_value rfl ?_
 unfold x_side_Table_value
 by_cases hv:0≤v
 ·refine gO1 (dtr hv) ?_
  refine callT0 (most_tab h) ?_
  refine gO ?_
  exact⟨by simp[mayB,hv],Only.refl _ _⟩
 ·refine gO1 (dfl hv) ?_
  exact⟨by simp[mayB,hv],Only.refl _ _⟩
theorem check1_tab {q:Nat} (h:STab w b g n wd l) (hq:At w q [.pointer (some ⟨b,0,none⟩)]) (v:Int):Cs Tryz.prog 262 [.int .i64 v,.pointer (some ⟨q,0,none⟩)] w fun r w'=>r=.bool (!mayB wd v)∧Only [] w w':=by
 refine enter_side_Table_check_1 rfl ?_
 unfold x_side_Table_check_1
 refine gO1 hq.cell ?_
 refine callT1 (value_tab h v) fun w' ho=>?_
 refine gO ?_
 exact ho
theorem there_tab (h:STab w b g n wd l) {i:Int} {t:Bool} (ht:hasB n i=t):Cs Tryz.prog 226 [.pointer (some ⟨b,0,none⟩),.int .i64 i] w fun r w'=>r=.bool t∧Only [] w w':=by
 subst ht
 obtain⟨ws,cap,rest,h1,h2,h3,h4⟩:=h.mem
 refine enter_side_Table_there rfl ?_
 unfold x_side_Table_there
 by_cases hv:0≤i
 ·refine gO2 (dtr hv) h2.cell ?_
  refine callT0 (made_tab h) ?_
  refine gO2 (dtr hv) h2.cell ?_
  exact⟨by simp[hasB,hv],Only.refl _ _⟩
 ·refine gO2 (dfl hv) h2.cell ?_
  refine callT0 (made_tab h) ?_
  refine gO2 (dfl hv) h2.cell ?_
  exact⟨by simp[hasB,hv],Only.refl _ _⟩
end
set_option maxRecDepth 8000
theorem not_all {α:Type} (xs:List α) (p:α→Bool):xs.any (fun x=>!p x)=!xs.all p:=by
 induction xs with
 |nil=>rfl
 |cons x xs ih=>simp[ih]
theorem check_tab {w:World} {b g n wd:Nat} {l:List Nat} (h:STab w b g n wd l) {i:Int} {a:Option Addr} {xs:List Int} {cap:Nat} {e:Int} (hs:xs≠ []→ ∃s rest,a=some ⟨s,0,none⟩∧At w s (ints xs++rest))
  (hlen:xs.length≤1000) (he:MT.check (some (wd,l)) i xs=e):
  Cs Tryz.prog 224 [.pointer (some ⟨b,0,none⟩),.int .i64 i,.slice a xs.length cap] w fun v w'=>v=.int .i64 e∧Only [] w w':=by
 subst he
 refine enter_side_Table_check rfl ?_
 unfold x_side_Table_check
 refine gO ?_
 refine boxT fun q w1 hq hsz hat ho=>?_
 have h:=h.keep ho (by simp) (by simp)
 have hs:xs≠ []→ ∃s rest,a=some ⟨s,0,none⟩∧At w1 s (ints xs++rest):=fun hn=>let ⟨s,rest,e1,e2⟩:=hs hn;⟨s,rest,e1,e2.keep0 ho⟩
 refine gO1 hat.cell ?_
 refine callT0 (made_tab h) ?_
 refine gO1 hat.cell ?_
 by_cases hi:hasB n i=true
 ·refine callT1 (there_tab h hi) fun w2 ho2=>?_
  have h:=h.keep ho2 (by simp) (by simp)
  have hat:=hat.keep0 ho2
  have hs:xs≠ []→ ∃s rest,a=some ⟨s,0,none⟩∧At w2 s (ints xs++rest):=fun hn=>let ⟨s,rest,e1,e2⟩:=hs hn;⟨s,rest,e1,e2.keep0 ho2⟩
  refine gO ?_
  refine callT1 (containsFunc hs rfl hlen (p:=fun x=>!mayB wd x) fun w' x ho' _=>check1_tab (h.keep ho' (by simp) (by simp)) (hat.keep0 ho') x) fun w3 ho3=>?_
  (repeat(first|with_reducible(first|refine nx ?_|refine r_6 rfl ?_)|simp only[go_sem,not_all]))
  by_cases ha:xs.all (mayB wd)=true
  ·refine gO1 ha ?_
   exact⟨by simp[MT.check,h.len,hi,ha],(ho.same ho2).same ho3⟩
  ·rw[Bool.not_eq_true]at ha
   refine gO1 ha ?_
   exact⟨by simp[MT.check,h.len,hi,ha],(ho.same ho2).same ho3⟩
 ·rw[Bool.not_eq_true]at hi
  refine callT1 (there_tab h hi) fun w2 ho2=>?_
  refine gO ?_
  exact⟨by simp[MT.check,h.len,hi],ho.same ho2⟩
section
variable {e:Int} {S T:List Nat} {m:MT} {b:Nat} {a:Option Addr} {w w':World}
def Tab (w:World) (a:Option Addr) (S:List Nat) (m:MT):Prop:=match m with
 |some (wd,l)=> ∃b g,a=some ⟨b,0,none⟩∧S=[b,g]∧STab w b g l.length wd l
 |none=>(a=none∧S=[])∨ ∃b,a=some ⟨b,0,none⟩∧S=[b]∧At w b [.int .i64 0,.int .i64 0,.slice none 0 0]
theorem Tab.keep (h:Tab w a S m) (k:Only T w w') (hd: ∀x,x∈S→x∉T):Tab w' a S m:=by
 match m,h with
 |some (wd,l),⟨b,g,h1,h2,h3⟩=>subst h2;exact⟨b,g,h1,rfl,h3.keep k (hd b (by simp)) (hd g (by simp))⟩
 |none,.inl h=>exact .inl h
 |none,.inr ⟨b,h1,h2,h3⟩=>subst h2;exact .inr ⟨b,h1,rfl,h3.keep k (hd b (by simp))⟩
theorem Tab.keep0 (h:Tab w a S m) (k:Only [] w w'):Tab w' a S m:=h.keep k fun _ _=>by simp
theorem Tab.lt (h:Tab w a S m): ∀x,x∈S→x<w.heap.size:=by
 match m,h with
 |some (wd,l),⟨b,g,h1,h2,h3⟩=>
  subst h2
  obtain⟨ws,cap,rest,_,e2,e3,_⟩:=h3.mem
  intro x hx
  rcases List.mem_cons.1 hx with rfl|hx
  ·exact e2.lt
  ·rcases List.mem_cons.1 hx with rfl|hx
   ·exact e3.lt
   ·cases hx
 |none,.inl h=>rw[h.2];intro x hx;cases hx
 |none,.inr ⟨b,h1,h2,h3⟩=>
  subst h2;intro x hx
  rcases List.mem_cons.1 hx with rfl|hx
  ·exact h3.lt
  ·cases hx
theorem Tab.mk {g n wd:Nat} {l:List Nat} (h:STab w b g n wd l):Tab w (some ⟨b,0,none⟩) [b,g] (some (wd,l)):=⟨b,g,rfl,rfl,by rw[h.len];exact h⟩
theorem Only.sub {a b:World} (h:Only S a b) (hs: ∀x,x∈S→x∈T):Only T a b:=h.mono fun x hx=>.inl (hs x hx)
theorem Only.g {g:Nat} (h:Only [g] w w'):Only [b,g] w w':=h.sub (by simp)
theorem made_none (h:Tab w a S none):Cs Tryz.prog 211 [.pointer a] w fun v w'=>v=.bool false∧w'=w:=by
 rcases h with⟨rfl,_⟩|⟨b,rfl,_,h⟩
 ·exact made_nil w
 ·exact(made_at b 0 _ w h).mono fun v w' h=>⟨by rw[h.1];rfl,h.2⟩
theorem made_m (h:Tab w a S m):Cs Tryz.prog 211 [.pointer a] w fun v w'=>v=.bool m.isSome∧w'=w:=by
 match m,h with
 |some (wd,l),⟨b,g,h1,h2,h3⟩=>subst h1;exact made_tab h3
 |none,h=>exact made_none h
theorem there_m (h:Tab w a S m) (i:Int):Cs Tryz.prog 226 [.pointer a,.int .i64 i] w fun v w'=>v=.bool (match m with|none=>false|some (_,l)=>hasB l.length i)∧Only [] w w':=by
 match m,h with
 |some (wd,l),⟨b,g,h1,h2,h3⟩=>subst h1;exact there_tab h3 rfl
 |none,h=>
  refine enter_side_Table_there rfl ?_
  unfold x_side_Table_there
  refine gO ?_
  refine callT0 (made_none h) ?_
  refine gO ?_
  exact Only.refl _ _
theorem check_m (h:Tab w a S m) {i:Int} {s:Option Addr} {xs:List Int} {cap:Nat} (hs:xs≠ []→ ∃q rest,s=some ⟨q,0,none⟩∧At w q (ints xs++rest)) (hlen:xs.length≤1000) (he:m.check i xs=e):
  Cs Tryz.prog 224 [.pointer a,.int .i64 i,.slice s xs.length cap] w fun v w'=>v=.int .i64 e∧Only [] w w':=by
 match m,h with
 |some (wd,l),⟨b,g,h1,h2,h3⟩=>subst h1;exact check_tab h3 hs hlen he
 |none,h=>
  subst he
  refine enter_side_Table_check rfl ?_
  unfold x_side_Table_check
  refine gO ?_
  refine boxT fun q w1 hq hsz hat ho=>?_
  refine gO1 hat.cell ?_
  refine callT0 (made_none (h.keep0 ho)) ?_
  refine gO1 hat.cell ?_
  exact⟨rfl,ho⟩
theorem check1_m (h:Tab w a S m) (i:Int) {q:Nat} {x:Int} (hat:At w q [.int .i64 x]) (he:m.check i [x]=e):
  Cs Tryz.prog 224 [.pointer a,.int .i64 i,.slice (some ⟨q,0,none⟩) 1 1] w fun v w'=>v=.int .i64 e∧Only [] w w':=check_m h (xs:=[x]) (fun _=>⟨q,[],rfl,hat⟩) (by simp) he
theorem Get_m (h:Tab w a S m) (i:Int):Cs Tryz.prog 154 [.pointer a,.int .i64 i] w fun v w'=>v=.int .i64 (m.get i)∧Only [] w w':=by
 refine enter_side_Table_Get rfl ?_
 unfold x_side_Table_Get
 refine gO ?_
 refine callT1 (there_m h i) fun w1 ho=>?_
 match m,h with
 |none,h=>
  refine gO ?_
  exact⟨rfl,ho⟩
 |some (wd,l),⟨b,g,h1,h2,h3⟩=>
  subst h1
  simp only[]
  by_cases hi:hasB l.length i=true
  ·obtain⟨k,rfl,hk⟩:=hasB_nat hi
   refine gO1 hi ?_
   refine callT1 (get_tab (h3.keep ho (by simp) (by simp)) hk) fun w2 ho2=>?_
   refine gO ?_
   exact⟨by simp[MT.get,hi],ho.same ho2⟩
  ·rw[Bool.not_eq_true]at hi
   refine gO1 hi ?_
   exact⟨by simp[MT.get,hi],ho⟩
theorem Set_m (h:Tab w a S m) (i v:Int):Cs Tryz.prog 152 [.pointer a,.int .i64 i,.int .i64 v] w fun r w'=>r=.int .i64 (m.check i [v])∧Tab w' a S (m.setM i v)∧Only S w w':=by
 refine enter_side_Table_Set rfl ?_
 unfold x_side_Table_Set
 refine gO ?_
 rw[fillL_one rfl rfl]
 refine gO ?_
 refine bslT fun q w1 hq hsz hat ho=>?_
 refine gO ?_
 refine callT1 (check1_m (h.keep0 ho) i hat rfl) fun w2 ho2=>?_
 match m,h with
 |none,h=>
  (repeat(first|with_reducible(first|refine nx ?_|refine r_6 rfl ?_)|simp only[go_sem,MT.check_none]))
  exact⟨h.keep0 (ho.same ho2),(ho.same ho2).of_nil⟩
 |some (wd,l),⟨b,g,h1,h2,h3⟩=>
  subst h1 h2
  have h3:=(h3.keep ho (by simp) (by simp)).keep ho2 (by simp) (by simp)
  rcases MT.check_cases (wd:=wd) (l:=l) (i:=i) (vs:=[v])with⟨e,e1,e2⟩|⟨e,e1⟩
  ·obtain⟨k,rfl,hk⟩:=hasB_nat e1
   obtain⟨x,rfl,hx⟩:=mayB_nat (v:=v) (by simpa using e2)
   refine gO1 e ?_
   refine callT (put_tab h3 hk hx) ?_
   rintro r w3 ⟨rfl,h4,ho3⟩
   refine gO ?_
   exact⟨by simp only[MT.setM,e,if_true,tnc];exact .mk h4,(ho.same ho2).of_nil.same ho3.g⟩
  ·refine gO1 e ?_
   exact⟨by simp only[MT.setM,e];exact .mk h3,(ho.same ho2).of_nil⟩
end
section
set_option maxRecDepth 8000
variable {x:Int} {xs:List Int} {S l:List Nat} {rest:List Value} {m:MT} {b cap g n s wd:Nat} {a:Option Addr} {w:World}
theorem STab.head (h:STab w b g n wd l): ∃k cap,At w b [.int .i64 n,.int .i64 wd,.slice (some ⟨g,0,none⟩) k cap]:=by
 obtain⟨ws,cap,rest,h1,h2,h3,h4⟩:=h.mem
 exact⟨_,_,h2⟩
theorem Next_m (h:Tab w a S m) (i v:Int):Cs Tryz.prog 131 [.pointer a,.int .i64 i,.int .i64 v] w fun r w'=>r=.tuple #[.int .i64 (optR (m.nextO i v)),.int .i64 (m.err (m.nextO i v))]∧Only [] w w':=by
 refine enter_side_Table_Next rfl ?_
 unfold x_side_Table_Next
 refine gO ?_
 refine callT0 (made_m h) ?_
 match m,h with
 |none,h=>
  (repeat(first|with_reducible(first|refine nx ?_|refine r_6 rfl ?_)|simp only[go_sem,Option.isSome_none]))
  exact⟨rfl,Only.refl _ _⟩
 |some (wd,l),⟨b,g,h1,h2,h3⟩=>
  subst h1 h2
  have hn2:=h3.n2
  (repeat(first|with_reducible(first|refine nx ?_|refine r_6 rfl ?_)|simp only[go_sem,Option.isSome_some]))
  refine run_loop [8,14,15,16,17,18,19,20,21,22,23,24,25,26] (fun g' w'=> ∃j:Nat,g' 8=.int .i64 j∧i≤j∧(∀q:Nat,q<j→q<l.length→i≤q→ ¬((l.getD q 0:Nat):Int)=v)∧Only [] w w') (fun g' _=>upTo l.length 8 g') ⟨(max i 0).toNat,by simp only[go_sem];congr;omega,by omega,fun q h1 h2 h3=>absurd h3 (by omega),Only.refl _ _⟩ fun g' w' hI hnext=>?_
  obtain⟨j,hj,hij,hno,ho⟩:=hI
  have h4:=h3.keep ho (by simp) (by simp)
  obtain⟨kk,cap,hb⟩:=h4.head
  refine gO2 hj hb.cell ?_
  refine condT (fun hlt=>?_) (fun hge=>?_)
  ·have hlt:j<l.length:=by simpa using hlt
   refine gO1 hj ?_
   refine callT1 (get_tab h4 hlt) fun w3 ho3=>?_
   refine gO ?_
   refine condT (fun he=>?_) (fun hne=>?_)
   ·have he:((l.getD j 0:Nat):Int)=v:=by simpa using he
    have hO:MT.nextO (some (wd,l)) i v=some j:=firstI_some (by simp[hij,←he]) hlt fun q hq=>by
     by_cases hiq:i≤(q:Int)
     ·have:=hno q hq (by omega) hiq
      simp only[dfl this,Bool.and_false]
     ·simp[hiq]
    refine gO1 hj ?_
    rw[hO]
    exact⟨rfl,ho.same ho3⟩
   ·have hne: ¬((l.getD j 0:Nat):Int)=v:=by simpa using hne
    refine gO2 hj (i64_succ j (by omega)) ?_
    refine hnext _ w3 ⟨j+1,?_,by omega,fun q h1 h2 h3=>?_,ho.same ho3⟩ ?_
    ·simp only[go_sem]
    ·rcases Nat.lt_or_ge q j with h|h
     ·exact hno q h h2 h3
     ·have:q=j:=by omega
      subst this;exact hne
    ·exact up_lt hj
  ·have hge: ¬j<l.length:=by simpa using hge
   have hO:MT.nextO (some (wd,l)) i v=none:=firstI_none fun q hq=>by
    by_cases hiq:i≤(q:Int)
    ·have:=hno q (by omega) hq hiq
     simp only[dfl this,Bool.and_false]
    ·simp[hiq]
   refine gO ?_
   rw[hO]
   exact⟨rfl,ho⟩
def downTo (t:Nat) (g:Env):Nat:=match g t with|.int _ i=>(i+1).toNat|_=>0
theorem downTo_int {t:Nat} {g:Env} {k:IntKind} {i:Int} (h:g t=.int k i):downTo t g=(i+1).toNat:=by unfold downTo;rw[h]
theorem Last_m (h:Tab w a S m) (i v:Int):Cs Tryz.prog 261 [.pointer a,.int .i64 i,.int .i64 v] w fun r w'=>r=.tuple #[.int .i64 (optR (m.lastO i v)),.int .i64 (m.err (m.lastO i v))]∧Only [] w w':=by
 refine enter_side_Table_Last rfl ?_
 unfold x_side_Table_Last
 refine gO ?_
 refine callT0 (made_m h) ?_
 match m,h with
 |none,h=>
  (repeat(first|with_reducible(first|refine nx ?_|refine r_6 rfl ?_)|simp only[go_sem,Option.isSome_none]))
  exact⟨rfl,Only.refl _ _⟩
 |some (wd,l),⟨b,g,h1,h2,h3⟩=>
  subst h1 h2
  have hn2:=h3.n2
  obtain⟨kk,cap,hb⟩:=h3.head
  have hsub:IntKind.i64.wrap (min (max i 0) (l.length:Int)-1)=min (max i 0) (l.length:Int)-1:=IntWalk.i64_in _ (by omega)
  (repeat(first|with_reducible(first|refine nx ?_|refine r_6 rfl ?_)|simp only[go_sem,Option.isSome_some,hb.cell,hsub]))
  refine run_loop [8,20,21,22,23,24,25,26,27,28] (fun g' w'=> ∃j:Int,g' 8=.int .i64 j∧(j<i∨j<0)∧j<l.length∧ -1≤j∧(∀q:Nat,j<q→q<l.length→(q:Int)<i→ ¬((l.getD q 0:Nat):Int)=v)∧Only [] w w') (fun g' _=>downTo 8 g') ⟨_,by simp only[go_sem];rfl,by omega,by omega,by omega,fun q h1 h2 h3=>absurd h3 (by omega),Only.refl _ _⟩ fun g' w' hI hnext=>?_
  obtain⟨j,hj,hij,hjl,hj1,hno,ho⟩:=hI
  have h4:=h3.keep ho (by simp) (by simp)
  refine gO1 hj ?_
  refine condT (fun hlt=>?_) (fun hge=>?_)
  ·have hlt:0≤j:=by simpa using hlt
   obtain⟨k,rfl⟩: ∃k:Nat,j=k:=⟨j.toNat,by omega⟩
   refine gO1 hj ?_
   refine callT1 (get_tab h4 (by omega)) fun w3 ho3=>?_
   refine gO ?_
   refine condT (fun he=>?_) (fun hne=>?_)
   ·have he:((l.getD k 0:Nat):Int)=v:=by simpa using he
    have hO:MT.lastO (some (wd,l)) i v=some k:=lastI_some (by simp[←he];omega) (by omega) fun q hq hq2=>by
     by_cases hiq:(q:Int)<i
     ·have:=hno q (by omega) hq2 hiq
      simp only[dfl this,Bool.and_false]
     ·simp[hiq]
    refine gO1 hj ?_
    rw[hO]
    exact⟨rfl,ho.same ho3⟩
   ·have hne: ¬((l.getD k 0:Nat):Int)=v:=by simpa using hne
    have hsub:IntKind.i64.wrap ((k:Int)-1)=(k:Int)-1:=IntWalk.i64_in _ (by omega)
    refine gO2 hj hsub ?_
    refine hnext _ w3 ⟨(k:Int)-1,?_,by omega,by omega,by omega,fun q h1 h2 h3=>?_,ho.same ho3⟩ ?_
    ·simp only[go_sem]
    ·rcases Nat.lt_or_ge k q with h|h
     ·exact hno q (by omega) h2 h3
     ·have:q=k:=by omega
      subst this;exact hne
    ·rw[downTo_int hj,downTo_int (k:=.i64) (i:=(k:Int)-1) (by simp only[go_sem])];omega
  ·have hge: ¬0≤j:=by simpa using hge
   have hO:MT.lastO (some (wd,l)) i v=none:=lastI_none fun q hq=>by
    by_cases hiq:(q:Int)<i
    ·have:=hno q (by omega) hq hiq
     simp only[dfl this,Bool.and_false]
    ·simp[hiq]
   refine gO ?_
   rw[hO]
   exact⟨rfl,ho⟩
theorem index (hs : At w s (ints xs ++ rest)) (hlen : xs.length ≤ 1000) :
    Cs Tryz.prog 103 [.slice (some ⟨s, 0, none⟩) xs.length cap, .int .i64 x] w fun v w' => (∃ k : Int, v = .int .i64 k ∧ decide (0 ≤ k) = xs.any (x == ·)) ∧ w' = w := by
  refine enter_slices_Index___int_int_ rfl ?_
  unfold x_slices_Index___int_int_
  refine gO ?_
  refine run_loop (5 :: 8 :: 9 :: 10 :: 11 :: 12 :: 13 :: 14 :: 15 :: 16 :: 18 :: []) (fun g w' => ∃ i : Nat, g 8 = .int .i64 i ∧ i ≤ xs.length ∧ (xs.take i).any (x == ·) = false ∧ w' = w) (fun g _ => upTo xs.length 8 g) ⟨0, by simp only [go_sem]; rfl, by omega, by simp, rfl⟩ fun g w' hI hnext => ?_
  obtain ⟨i, h8, hi, hany, rfl⟩ := hI
  refine gO1 h8 ?_
  refine condT (fun hlt => ?_) (fun hge => ?_)
  · have hlt : i < xs.length := by simpa using hlt
    have c1 : (0 : Int) ≤ (i : Int) ∧ (i : Int) < (xs.length : Int) := ⟨by omega, by omega⟩
    (repeat (first | with_reducible (first | refine nx ?_ | refine r_6 rfl ?_) | simp only [go_sem, h8, if_pos c1, hs.cell, ints_append_get rest hlt, tnc, Nat.mul_one]))
    refine condT (fun hp => ?_) (fun hp => ?_)
    · refine gO ?_
      refine ⟨i, rfl, ?_⟩
      have : xs.any (x == ·) = true := List.any_eq_true.2 ⟨_, by simp [hlt], hp⟩
      simp [this]
    · refine gO2 h8 (i64_succ i (by omega)) ?_
      refine hnext _ _ ⟨i + 1, ?_, by omega, by rw [any_take_succ hlt, hany, hp]; rfl, rfl⟩ ?_
      · simp only [go_sem]
      · exact up_lt h8
  · have : i = xs.length := by have : ¬ (i < xs.length) := by simpa using hge
                               omega
    subst this
    refine gO ?_
    refine ⟨-1, rfl, ?_⟩
    rw [List.take_length] at hany
    simp [hany]
theorem contains (hs:At w s (ints xs++rest)) (hlen:xs.length≤1000):
  Cs Tryz.prog 51 [.slice (some ⟨s,0,none⟩) xs.length cap,.int .i64 x] w fun v w'=>v=.bool (xs.any (x== ·))∧w'=w:=by
 refine enter_slices_Contains___int_int_ rfl ?_
 unfold x_slices_Contains___int_int_
 refine gO ?_
 refine callT (index hs hlen) ?_
 rintro v w' ⟨⟨k,rfl,hk⟩,rfl⟩
 (repeat(first|with_reducible(first|refine nx ?_|refine r_6 rfl ?_)|simp only[go_sem,hk]))
structure NewT (h0:Nat) (w:World) (a:Option Addr) (S:List Nat) (m:MT):Prop where
 tab:Tab w a S m
 some:a.isSome=m.isSome
 new: ∀x,x∈S→h0≤x
theorem NewT.none (h0:Nat) (w:World):NewT h0 w none [] none:=⟨.inl ⟨rfl,rfl⟩,rfl,by simp⟩
theorem NewT.mk' {h0:Nat} (h:STab w b g n wd l) (hb:h0≤b) (hg:h0≤g):NewT h0 w (.some ⟨b,0,.none⟩) [b,g] (.some (wd,l)):=
 ⟨.mk h,rfl,by simp;omega⟩
theorem okW_wd {wd:Int} (h:okW wd=true): ∃k:Nat,wd=k∧Wd k:=by
 simp only[okW,List.any_cons,List.any_nil,Bool.or_eq_true,beq_iff_eq,Bool.false_eq_true,or_false]at h
 refine⟨wd.toNat,by omega,?_⟩
 unfold Wd;omega
theorem New_m (w:World) (n wd:Int):Cs Tryz.prog 99 [.int .i64 n,.int .i64 wd] w fun r w'=> ∃a S,r=.tuple #[.pointer a,.int .i64 (errOf (newM n wd))]∧NewT w.heap.size w' a S (newM n wd)∧Only [] w w':=by
 refine enter_side_New rfl ?_
 unfold x_side_New
 have bad: ∀w',Only [] w w'→ ¬(1≤n∧n≤4096∧okW wd=true)→ ∃a S,Value.tuple #[.pointer none,.int .i64 1]=.tuple #[.pointer a,.int .i64 (errOf (newM n wd))]∧NewT w.heap.size w' a S (newM n wd)∧Only [] w w':=fun w' ho hb=>by
  have:newM n wd=none:=if_neg hb
  rw[this]
  exact⟨none,[],rfl,.none _ _,ho⟩
 by_cases c1:n<1
 ·refine gO1 (dtr c1) ?_
  exact bad _ (Only.refl _ _) (by omega)
 by_cases c2:4096<n
 ·refine gO2 (dfl c1) (dtr c2) ?_
  exact bad _ (Only.refl _ _) (by omega)
 refine gO2 (dfl c1) (dfl c2) ?_
 rw[fillL_one rfl rfl,fillL_one rfl rfl,fillL_one rfl rfl,fillL_one rfl rfl]
 refine gO ?_
 refine bslT fun q w1 hq hs1 hat ho1=>?_
 refine gO ?_
 refine callT0 (contains (xs:=[1,2,4,8]) (rest:=[]) hat (by simp)) ?_
 by_cases c3:okW wd=true
 ·have c3': [1,2,4,8].any (wd== ·)=true:=c3
  obtain⟨k,rfl,hk⟩:=okW_wd c3
  obtain⟨e,rfl⟩: ∃e:Nat,n=e:=⟨n.toNat,by omega⟩
  have he:e≤4096:=by omega
  have hb:e*k≤40000:=by rcases hk with rfl|rfl|rfl|rfl<;>omega
  have r1:IntKind.i64.wrap ((e:Int)*k)=((e*k:Nat):Int):=by rw[←Int.natCast_mul,i64_of_nat _ (by omega)]
  have r2:IntKind.i64.wrap (((e*k:Nat):Int)+64)=((e*k+64:Nat):Int):=i64_of_nat (e*k+64) (by omega)
  have r3:IntKind.i64.wrap (((e*k+64:Nat):Int)-1)=((e*k+63:Nat):Int):=by rw[IntWalk.i64_in _ (by omega)];omega
  have r4:=tdiv64 (e*k+63) (by omega)
  refine gO5 c3' r1 r2 r3 r4 ?_
  refine mksT (Nat.le_refl _) (by omega) ?_ fun g w2 hg hs2 hat2 ho2=>?_
  ·have:(e*k+63)/64≤1000:=by omega
   omega
  refine gO ?_
  rw[fillL_one rfl rfl,fillL_one rfl rfl,fillL_one rfl rfl]
  refine gO ?_
  refine boxT fun b w3 hb3 hs3 hat3 ho3=>?_
  refine gO ?_
  have hm:newM (e:Int) (k:Int)=some (k,List.replicate e 0):=by
   unfold newM;rw[if_pos ⟨by omega,by omega,c3⟩];simp only[tnc]
  rw[hm]
  have hz:rowZ [Value.int IntKind.u64 0] ((e*k+63)/64)=u64s (List.replicate ((e*k+63)/64) 0)++[]:=by
   rw[rowZ_one];simp[u64s]
  rw[hz]at hat2
  have hT:STab w3 b g e k (List.replicate e 0):=by
   refine⟨hk,by simp,by omega,he,(Pk.zero k e hk).el,List.replicate ((e*k+63)/64) 0,(e*k+63)/64,[],Pk.zero k e hk,?_,hat2.keep0 ho3,by omega⟩
   rw[List.length_replicate];exact hat3
  exact⟨_,_,rfl,.mk' hT (by omega) (by omega),(ho1.same ho2).same ho3⟩
 ·rw[Bool.not_eq_true]at c3
  have c3': [1,2,4,8].any (wd== ·)=false:=c3
  refine gO1 c3' ?_
  exact bad _ ho1 (by rw[c3];simp)
end
section
open Go.MapKept Go.ChangeMaps
abbrev IM:=List (Int×Value)
def getM:IM→Int→Option Value
 | [],_=>none
 |p::m,k=>if p.1=k then some p.2 else getM m k
def putM:IM→Int→Value→IM
 | [],k,v=>[(k,v)]
 |p::m,k,v=>if p.1=k then(k,v)::m else p::putM m k v
def delM:IM→Int→IM
 | [],_=>[]
 |p::m,k=>if p.1=k then m else p::delM m k
theorem M_at: ∀ {m:IM} {j:Nat} {k:Int} {x:Value} (v:Value),(m.map (·.1)).Nodup→m[j]? =some (k,x)→getM m k=some x∧putM m k v=m.set j (k,v)∧delM m k=m.eraseIdx j
 | [],j,k,x,v,_,h=>by simp at h
 |p::m,0,k,x,v,_,h=>by
  simp only[List.getElem?_cons_zero,Option.some.injEq]at h
  subst h
  simp[getM,putM,delM]
 |p::m,j+1,k,x,v,hn,h=>by
  simp only[List.getElem?_cons_succ]at h
  simp only[List.map_cons,List.nodup_cons]at hn
  have hne:p.1≠k:=fun e=>hn.1 (by rw[e];exact List.mem_map.2 ⟨_,List.mem_of_getElem? h,rfl⟩)
  obtain⟨h1,h2,h3⟩:=M_at (m:=m) (j:=j) (x:=x) v hn.2 h
  simp[getM,putM,delM,hne,h1,h2,h3]
theorem M_no: ∀ {m:IM} {k:Int} (v:Value),(∀p,p∈m→p.1≠k)→getM m k=none∧putM m k v=m++[(k,v)]∧delM m k=m
 | [],k,v,_=>⟨rfl,rfl,rfl⟩
 |p::m,k,v,h=>by
  have hne:=h p (by simp)
  obtain⟨h1,h2,h3⟩:=M_no (m:=m) v fun q hq=>h q (by simp[hq])
  simp[getM,putM,delM,hne,h1,h2,h3]
def MEs (es:List MapEntry) (m:IM):Prop:=es.map (fun e=>(e.key,e.val))=m.map fun p=>(Value.int .i64 p.1,p.2)
theorem MEs.keys {es:List MapEntry} {m:IM} (h:MEs es m):es.map (·.key)=(m.map (·.1)).map (Value.int .i64):=by
 have:=congrArg (List.map (·.1)) h
 simpa[List.map_map,Function.comp_def]using this
theorem MEs.at {es:List MapEntry} {m:IM} (h:MEs es m) {j:Nat} {e:MapEntry} (he:es[j]? =some e): ∃p,m[j]? =some p∧e.key=.int .i64 p.1∧e.val=p.2:=by
 have h1:=congrArg (fun l:List (Value×Value)=>l[j]?) h
 simp only[List.getElem?_map,he,Option.map_some]at h1
 cases hm:m[j]? with
 |none=>simp[hm]at h1
 |some p=>
  simp only[hm,Option.map_some,Option.some.injEq,Prod.mk.injEq]at h1
  exact⟨p,rfl,h1.1,h1.2⟩
theorem MEs.isKey {es:List MapEntry} {m:IM} (h:MEs es m): ∀x∈es,IsKey (.int .i64) x.key:=by
 intro x hx
 obtain⟨j,hj,rfl⟩:=List.mem_iff_getElem.1 hx
 obtain⟨p,_,hk,_⟩:=h.at (List.getElem?_eq_getElem hj)
 rw[hk];rfl
def MpAt (w:World) (b:Nat) (m:IM):Prop:= ∃(es:Array MapEntry) (clock:Nat),w.heap[b]? =some (.map es clock)∧MEs es.toList m∧Stamped es clock
theorem MpAt.keep {w w':World} {b:Nat} {m:IM} {S:List Nat} (h:MpAt w b m) (k:Only S w w') (hd:b∉S):MpAt w' b m:=by
 obtain⟨es,clock,h1,h2⟩:=h
 refine⟨es,clock,?_,h2⟩
 rw[k.block b ((Array.getElem?_eq_some_iff.1 h1).1) hd];exact h1
theorem MpAt.keep0 {w w':World} {b:Nat} {m:IM} (h:MpAt w b m) (k:Only [] w w'):MpAt w' b m:=h.keep k (by simp)
theorem MpAt.lt {w:World} {b:Nat} {m:IM} (h:MpAt w b m):b<w.heap.size:=by
 obtain⟨es,clock,h1,_⟩:=h;exact(Array.getElem?_eq_some_iff.1 h1).1
theorem MpAt.nodup {w:World} {b:Nat} {m:IM} (h:MpAt w b m):(m.map (·.1)).Nodup:=by
 obtain⟨es,clock,_,h2,h3⟩:=h
 have:=h3.2.2
 rw[h2.keys]at this
 exact(List.pairwise_map.1 this).imp fun h e=>h (by rw[e])
theorem only_setBlock {w:World} {b:Nat} {o:Obj}:Only [b] w (setBlock w b o):=by
 refine⟨rfl,rfl,rfl,by simp[setBlock],fun k hk hn=>?_⟩
 simp only[lms]at hn
 simp[setBlock,Ne.symm hn]
theorem size_setBlock {w:World} {b:Nat} {o:Obj}:(setBlock w b o).heap.size=w.heap.size:=by simp[setBlock]
section
variable {P:Program} {t kt et:TypeId} {w:World} {b:Nat} {m:IM} {k:Int}
theorem findM {es:Array MapEntry} (h:MEs es.toList m) (hn:(m.map (·.1)).Nodup) (k:Int) (v:Value):
  (Instr.findNow (.int .i64) (.int .i64 k) es.toList 0=some none∧(∀x∈es.toList,x.key≠.int .i64 k)∧getM m k=none∧putM m k v=m++[(k,v)]∧delM m k=m)∨
   ∃j e,Instr.findNow (.int .i64) (.int .i64 k) es.toList 0=some (some (j,e.val))∧es.toList[j]? =some e∧e.key=.int .i64 k∧getM m k=some e.val∧putM m k v=m.set j (k,v)∧delM m k=m.eraseIdx j:=by
 rcases findNow_spec (d:=.int .i64) (k:=.int .i64 k) rfl es.toList 0 h.isKey with⟨h1,h2⟩|⟨j,e,h1,h2,h3⟩
 ·refine .inl ⟨h1,h2,M_no v fun p hp he=>?_⟩
  obtain⟨j,hj,rfl⟩:=List.mem_iff_getElem.1 hp
  have hl:es.toList.length=m.length:=by simpa[MEs]using congrArg List.length h
  have hj':j<es.toList.length:=by omega
  obtain⟨p,hp1,hp2,_⟩:=h.at (List.getElem?_eq_getElem hj')
  rw[List.getElem?_eq_getElem hj]at hp1
  cases hp1
  exact h2 _ (List.getElem_mem hj') (by rw[hp2,he])
 ·obtain⟨p,hp1,hp2,hp3⟩:=h.at h2
  rw[h3]at hp2
  have hpk:p.1=k:=by cases hp2;rfl
  refine .inr ⟨j,e,by simpa using h1,h2,h3,?_⟩
  rw[hp3]
  exact M_at v hn (by rw[hp1,←hpk])
theorem run_put (ht:P.underlying t=some (.map kt et)) (hd:P.underlying kt=some (.int .i64)) (h:MpAt w b m) (v:Value):
  ∃w',(Instr.mapUpdate t (.map (some b)) (.int .i64 k) v).run P w=.ok () w'∧w'.heap.size=w.heap.size∧MpAt w' b (putM m k v)∧Only [b] w w':=by
 have hn:=h.nodup
 obtain⟨es,clock,hb,hm,hs⟩:=h
 have hlt:b<w.heap.size:=(Array.getElem?_eq_some_iff.1 hb).1
 have hset: ∀o:Obj,(setBlock w b o).heap[b]? =some o:=fun o=>by simp[setBlock,hlt]
 rcases findM hm hn k v with⟨h1,h2,_,h4,_⟩|⟨j,e,h1,h2,h3,_,h5,_⟩
 ·refine⟨setBlock w b (.map (es.push {key:=.int .i64 k,val:=v,born:=clock}) (clock+1)),?_,size_setBlock,⟨_,_,hset _,?_,stamped_push hs h2⟩,only_setBlock⟩
  ·simp[Instr.mapUpdate,run_underlying ht,MapKept.run_getObj_map hb,run_checkKey hd (k:=.int .i64 k) rfl,run_findKey hd h1,MapKept.run_setObj_map _ hb,Result.andThen,setBlock]
  ·rw[h4];simp only[MEs,Array.toList_push,List.map_append,List.map_cons,List.map_nil];rw[show es.toList.map (fun e=>(e.key,e.val))=_ from hm]
 ·have hj:es[j]? =some e:=by simpa using h2
  refine⟨setBlock w b (.map (es.modify j fun e=> {e with key:=.int .i64 k,val:=v}) clock),?_,size_setBlock,⟨_,_,hset _,?_,stamped_modify hs j _ (fun _ _=>rfl) (fun e' _ he'=>?_)⟩,only_setBlock⟩
  ·simp[Instr.mapUpdate,run_underlying ht,MapKept.run_getObj_map hb,run_checkKey hd (k:=.int .i64 k) rfl,run_findKey hd h1,hj,h3,run_keyThatStays (d:=.int .i64) (k:=.int .i64 k) rfl,MapKept.run_setObj_map _ hb,Result.andThen,setBlock]
  ·rw[h5]
   apply List.ext_getElem?
   intro i
   have hi:=congrArg (fun l:List (Value×Value)=>l[i]?) hm
   simp only[List.getElem?_map,Array.getElem?_toList]at hi
   simp only[List.getElem?_map,Array.getElem?_toList,Array.getElem?_modify,List.getElem?_set]
   by_cases hij:j=i
   ·subst hij
    have hjm:j<m.length:=by
     obtain⟨p,hp,_⟩:=hm.at h2
     exact(List.getElem?_eq_some_iff.1 hp).1
    simp[hj,hjm]
   ·simp[hij,hi]
  ·rw[hj]at he';cases he';exact h3.symm
theorem run_look (ht:P.underlying t=some (.map kt et)) (hd:P.underlying kt=some (.int .i64)) {z:Value} (hz:(zeroValue et).run P w=.ok z w) (h:MpAt w b m) (k:Int) (ok:Bool):
  (Instr.lookup t (.map (some b)) (.int .i64 k) ok).run P w=.ok (if ok then .tuple #[(getM m k).getD z,.bool (getM m k).isSome]else(getM m k).getD z) w:=by
 have hn:=h.nodup
 obtain⟨es,clock,hb,hm,hs⟩:=h
 rcases findM hm hn k undef with⟨h1,_,h3,_⟩|⟨j,e,h1,_,_,h4,_⟩
 ·simp[Instr.lookup,run_underlying ht,MapKept.run_getObj_map hb,run_checkKey hd (k:=.int .i64 k) rfl,run_findKey hd h1,Result.andThen,hz,h3]
 ·simp[Instr.lookup,run_underlying ht,MapKept.run_getObj_map hb,run_checkKey hd (k:=.int .i64 k) rfl,run_findKey hd h1,Result.andThen,h4]
theorem run_del {ty ku:TypeId} (ht:P.underlying t=some (.map kt et)) (hd:P.underlying kt=some (.int .i64)) (h:MpAt w b m):
  ∃w',(Builtin.delete_ #[t,ku] ty #[.map (some b),.int .i64 k]).run P w=.ok (.tuple #[]) w'∧w'.heap.size=w.heap.size∧MpAt w' b (delM m k)∧Only [b] w w':=by
 have hn:=h.nodup
 obtain⟨es,clock,hb,hm,hs⟩:=h
 have hlt:b<w.heap.size:=(Array.getElem?_eq_some_iff.1 hb).1
 have hset: ∀o:Obj,(setBlock w b o).heap[b]? =some o:=fun o=>by simp[setBlock,hlt]
 rcases findM hm hn k undef with⟨h1,_,_,_,h4⟩|⟨j,e,h1,h2,_,_,_,h5⟩
 ·refine⟨setBlock w b (.map es clock),?_,size_setBlock,⟨_,_,hset _,?_,hs⟩,only_setBlock⟩
  ·simp[Builtin.delete_,run_underlying ht,MapKept.run_getObj_map hb,run_checkKey hd (k:=.int .i64 k) rfl,run_findKey hd h1,MapKept.run_setObj_map _ hb,Result.andThen,setBlock]
  ·rw[h4];exact hm
 ·refine⟨setBlock w b (.map (es.eraseIdxIfInBounds j) clock),?_,size_setBlock,⟨_,_,hset _,?_,stamped_erase hs j⟩,only_setBlock⟩
  ·simp[Builtin.delete_,run_underlying ht,MapKept.run_getObj_map hb,run_checkKey hd (k:=.int .i64 k) rfl,run_findKey hd h1,MapKept.run_setObj_map _ hb,Result.andThen,setBlock]
  ·rw[h5]
   have hj:j<es.size:=by
    have:=(List.getElem?_eq_some_iff.1 h2).1
    simpa using this
   have he:(es.eraseIdxIfInBounds j).toList=es.toList.eraseIdx j:=by simp[Array.eraseIdxIfInBounds,hj]
   unfold MEs
   rw[he,map_eraseIdx,map_eraseIdx,show es.toList.map (fun e=>(e.key,e.val))=_ from hm]
theorem run_mlen {ty:TypeId} (ht:P.underlying t=some (.map kt et)) (h:MpAt w b m):(Builtin.len_ #[t] ty #[.map (some b)]).run P w=.ok (.int .i64 m.length) w:=by
 obtain⟨es,clock,hb,hm,hs⟩:=h
 have hl:es.size=m.length:=by simpa[MEs]using congrArg List.length hm
 simp[Builtin.len_,run_underlying ht,MapKept.run_getObj_map hb,Result.andThen,goInt,hl]
theorem run_mkmap:(Instr.makeMap t none).run P w=.ok (.map (some w.heap.size)) (w.alloc (.map #[] 0)):=by
 simp[Instr.makeMap,Result.andThen]
theorem MpAt.alloc (w:World):MpAt (w.alloc (.map #[] 0)) w.heap.size []:=⟨#[],0,heap_alloc_new w _,rfl,stamped_empty 0⟩
def ItAt (w:World) (r b:Nat) (m left:IM):Prop:= ∃(es:Array MapEntry) (clock since c0:Nat) (seen:Array Nat),w.heap[b]? =some (.map es clock)∧w.heap[r]? =some (.mapIter (some b) since seen c0)∧
 (∀x∈es.toList,x.born<since)∧since≤c0∧since≤clock∧MEs es.toList m∧Stamped es clock∧MEs (leftOf es seen).toList left
theorem ItAt.keep {w w':World} {r b:Nat} {m left:IM} {S:List Nat} (h:ItAt w r b m left) (k:Only S w w') (hr:r∉S) (hb:b∉S):ItAt w' r b m left:=by
 obtain⟨es,clock,since,c0,seen,h1,h2,h3⟩:=h
 refine⟨es,clock,since,c0,seen,?_,?_,h3⟩
 ·rw[k.block b ((Array.getElem?_eq_some_iff.1 h1).1) hb];exact h1
 ·rw[k.block r ((Array.getElem?_eq_some_iff.1 h2).1) hr];exact h2
theorem ItAt.keep0 {w w':World} {r b:Nat} {m left:IM} (h:ItAt w r b m left) (k:Only [] w w'):ItAt w' r b m left:=h.keep k (by simp) (by simp)
theorem ItAt.ltr {w:World} {r b:Nat} {m left:IM} (h:ItAt w r b m left):r<w.heap.size:=by
 obtain⟨es,clock,since,c0,seen,h1,h2,h3⟩:=h;exact(Array.getElem?_eq_some_iff.1 h2).1
theorem ItAt.map {w:World} {r b:Nat} {m left:IM} (h:ItAt w r b m left):MpAt w b m:=by
 obtain⟨es,clock,since,c0,seen,h1,h2,h3,_,_,h4,h5,_⟩:=h;exact⟨es,clock,h1,h4,h5⟩
theorem run_rangeM (ht:P.underlying t=some (.map kt et)) (h:MpAt w b m): ∃w',(Instr.range t (.map (some b))).run P w=.ok (.pointer (some ⟨w.heap.size,0,none⟩)) w'∧w'.heap.size=w.heap.size+1∧ItAt w' w.heap.size b m m∧Only [] w w':=by
 obtain⟨es,clock,hb,hm,hs⟩:=h
 have hlt:b<w.heap.size:=(Array.getElem?_eq_some_iff.1 hb).1
 refine⟨_,run_range_map w t kt et b es clock ht hb,by simp,⟨es,clock,clock,clock,#[],?_,heap_alloc_new w _,hs.1,Nat.le_refl _,Nat.le_refl _,hm,hs,?_⟩,Only.alloc [] w _⟩
 ·rw[heap_alloc_old w _ hlt];exact hb
 ·have:leftOf es #[]=es:=by unfold leftOf;simp
  rw[this];exact hm
theorem MEs.filter {es:List MapEntry} {m:IM} {p:MapEntry→Bool} {q:Int×Value→Bool} (h:MEs es m) (hpq: ∀(j:Nat) (e:MapEntry) (x:Int×Value),es[j]? =some e→m[j]? =some x→p e=q x):MEs (es.filter p) (m.filter q):=by
 induction es generalizing m with
 |nil=>cases m with
  |nil=>rfl
  |cons _ _=>simp[MEs]at h
 |cons e es ih=>cases m with
  |nil=>simp[MEs]at h
  |cons x m=>
   have h0:=hpq 0 e x rfl rfl
   have h':MEs es m:=by simp only[MEs,List.map_cons,List.cons.injEq]at h;exact h.2
   have hx:(e.key,e.val)=(Value.int .i64 x.1,x.2):=by simp only[MEs,List.map_cons,List.cons.injEq]at h;exact h.1
   have ih':=ih h' fun j e x h1 h2=>hpq (j+1) e x h1 h2
   rw[List.filter_cons,List.filter_cons,h0]
   cases q x with
   |true=>simp only[if_true,MEs,List.map_cons,List.cons.injEq];exact⟨hx,ih'⟩
   |false=>exact ih'
def EnAt (w:World) (r b:Nat) (p:Int×Value):Prop:= ∃(es:Array MapEntry) (clock since:Nat) (seen:Array Nat) (e:MapEntry),w.heap[r]? =some (.mapIter (some b) since (seen.push e.born) clock)∧w.heap[b]? =some (.map es clock)∧e∈es.toList∧(es.toList.map (·.born)).Nodup∧e.key=.int .i64 p.1∧e.val=p.2
theorem run_nextM {ty:TypeId} {r:Nat} {left:IM} (h:ItAt w r b m left):
  (left=[]∧(Instr.next (.pointer (some ⟨r,0,none⟩)) false ty).run P w=.ok (.tuple #[.bool false]) w)∨
  ∃p w',p∈left∧(Instr.next (.pointer (some ⟨r,0,none⟩)) false ty).run P w=.ok (.tuple #[.bool true,.int .i64 p.1,p.2]) w'∧w'.heap.size=w.heap.size∧Only [r] w w'∧ItAt w' r b m (left.filter fun q=>q.1 !=p.1)∧EnAt w' r b p:=by
 obtain⟨es,clock,since,c0,seen,h1,h2,h3,h4,hsc,h5,h6,h7⟩:=h
 rcases run_next_at (P:=P) w ty r b since c0 seen es clock h2 h1 h3 h4 with⟨h0,hr⟩|⟨e,he,w1,hw1,hr⟩
 ·refine .inl ⟨?_,hr⟩
  have hl:(leftOf es seen).size=left.length:=by simpa[MEs]using congrArg List.length h7
  exact List.eq_nil_of_length_eq_zero (by omega)
 ·obtain⟨j,hj,hje⟩:=List.mem_iff_getElem.1 he
  have hje':(leftOf es seen).toList[j]? =some e:=by rw[List.getElem?_eq_getElem hj,hje]
  obtain⟨p,hp1,hp2,hp3⟩:=h7.at hje'
  have hO1:Only [] w w1:=by rcases hw1 with rfl|rfl;exact Only.refl _ _;exact Only.drew [] _
  have hs1:w1.heap=w.heap:=by rcases hw1 with rfl|rfl<;>rfl
  rw[hp2,hp3]at hr
  have hrlt:r<w.heap.size:=(Array.getElem?_eq_some_iff.1 h2).1
  have hbr:b≠r:=by rintro rfl;rw[h1]at h2;cases h2
  refine .inr ⟨p,_,List.mem_of_getElem? hp1,hr,by simp[setBlock,hs1],?_,⟨es,clock,since,clock,seen.push e.born,?_,?_,h3,hsc,hsc,h5,h6,?_⟩,⟨es,clock,since,seen,e,?_,?_,(mem_left he).1,h6.2.1,hp2,hp3⟩⟩
  ·exact(hO1.of_nil (T:=[r])).same only_setBlock
  ·simp[setBlock,Ne.symm hbr,hs1,h1]
  ·simp[setBlock,hs1,hrlt]
  ·have e1:(leftOf es (seen.push e.born)).toList=(leftOf es seen).toList.filter fun x=>!(x.born==e.born):=by
    unfold leftOf
    simp only[Array.toList_filter,List.filter_filter]
    apply List.filter_congr
    intro x _
    rw[contains_push]
    cases seen.contains x.born<;>cases (x.born==e.born)<;>rfl
   rw[e1]
   refine h7.filter fun i x q hx hq=>?_
   obtain⟨q',hq1,hq2,_⟩:=h7.at hx
   rw[hq]at hq1
   cases hq1
   have hxm:=(mem_left (List.mem_of_getElem? hx)).1
   have hem:=(mem_left he).1
   have hxl:x∈es.toList:=hxm
   -- same birth if and only if the same key
   have hiff:x.born=e.born↔q.1=p.1:=by
    constructor
    ·intro hb
     have:=born_inj h6.2.1 hxl hem hb
     rw[this,hp2]at hq2
     injection hq2 with _ h
     exact h.symm
    ·intro hk
     have hkk:x.key=e.key:=by rw[hq2,hp2,hk]
     obtain⟨ix,hix,rfl⟩:=List.mem_iff_getElem.1 hxl
     obtain⟨ie,hie,rfl⟩:=List.mem_iff_getElem.1 hem
     have hnd:=h6.2.2
     have hi:=(List.getElem_inj (h₀:=by simpa using hix) (h₁:=by simpa using hie) hnd).1 (by simpa using hkk)
     subst hi;rfl
   show(!(x.born==e.born))=!(q.1==p.1)
   congr 1
   rw[Bool.eq_iff_iff,beq_iff_eq,beq_iff_eq]
   exact hiff
  ·simp[setBlock,hs1,hrlt]
  ·simp[setBlock,Ne.symm hbr,hs1,h1]
end
section
variable {P:Program} {t kt et:TypeId} {w:World} {b:Nat} {m:IM} {k:Int} {d:Option Nat} {rest:List XO} {ρ:Env} {C:Env→World→Prop}
theorem mkmapT (h: ∀b w',b=w.heap.size→w'.heap.size=w.heap.size+1→MpAt w' b []→Only [] w w'→VO P rest (putO ρ d (.map (some b))) w' C):RunT P (Instr.makeMap t none) d rest ρ w C:=
 runT run_mkmap (h _ _ rfl (by simp) (MpAt.alloc w) (Only.alloc [] w _))
theorem mputT (ht:P.underlying t=some (.map kt et)) (hd:P.underlying kt=some (.int .i64)) {v:Value} (h:MpAt w b m) (h2: ∀w',w'.heap.size=w.heap.size→MpAt w' b (putM m k v)→Only [b] w w'→VO P rest (putO ρ d undef) w' C):
  RunUT P (Instr.mapUpdate t (.map (some b)) (.int .i64 k) v) d rest ρ w C:=by
 obtain⟨w',h3,h4,h5,h6⟩:=run_put (k:=k) ht hd h v
 exact runUT h3 (h2 w' h4 h5 h6)
theorem lkpT (ht:P.underlying t=some (.map kt et)) (hd:P.underlying kt=some (.int .i64)) {z:Value} (hz:(zeroValue et).run P w=.ok z w) (h:MpAt w b m) (h2:VO P rest (putO ρ d ((getM m k).getD z)) w C):RunT P (Instr.lookup t (.map (some b)) (.int .i64 k) false) d rest ρ w C:=
 runT (run_look ht hd hz h k false) h2
theorem lkp2T (ht:P.underlying t=some (.map kt et)) (hd:P.underlying kt=some (.int .i64)) {z:Value} (hz:(zeroValue et).run P w=.ok z w) (h:MpAt w b m) (h2:VO P rest (putO ρ d (.tuple #[(getM m k).getD z,.bool (getM m k).isSome])) w C):RunT P (Instr.lookup t (.map (some b)) (.int .i64 k) true) d rest ρ w C:=
 runT (run_look ht hd hz h k true) h2
theorem mdelT {ku:TypeId} (ht:P.underlying t=some (.map kt et)) (hd:P.underlying kt=some (.int .i64)) (h:MpAt w b m) (h2: ∀w',w'.heap.size=w.heap.size→MpAt w' b (delM m k)→Only [b] w w'→VO P rest (putO ρ d (.tuple #[])) w' C):
  RunT P (Builtin.delete_ #[t,ku] 0 #[.map (some b),.int .i64 k]) d rest ρ w C:=by
 obtain⟨w',h3,h4,h5,h6⟩:=run_del (k:=k) ht hd h
 exact runT h3 (h2 w' h4 h5 h6)
theorem mlenT (ht:P.underlying t=some (.map kt et)) (h:MpAt w b m) (h2:VO P rest (putO ρ d (.int .i64 m.length)) w C):RunT P (Builtin.len_ #[t] 0 #[.map (some b)]) d rest ρ w C:=runT (run_mlen ht h) h2
theorem rangeT (ht:P.underlying t=some (.map kt et)) (h:MpAt w b m) (h2: ∀r w',r=w.heap.size→w'.heap.size=w.heap.size+1→ItAt w' r b m m→Only [] w w'→VO P rest (putO ρ d (.pointer (some ⟨r,0,none⟩))) w' C):RunT P (Instr.range t (.map (some b))) d rest ρ w C:=by
 obtain⟨w',h3,h4,h5,h6⟩:=run_rangeM ht h
 exact runT h3 (h2 _ w' rfl h4 h5 h6)
theorem nextT {r:Nat} {left:IM} (h:ItAt w r b m left) (h1:left=[]→VO P rest (putO ρ d (.tuple #[.bool false])) w C)
  (h2: ∀p w',p∈left→w'.heap.size=w.heap.size→Only [r] w w'→ItAt w' r b m (left.filter fun q=>q.1 !=p.1)→EnAt w' r b p→VO P rest (putO ρ d (.tuple #[.bool true,.int .i64 p.1,p.2])) w' C):RunT P (Instr.next (.pointer (some ⟨r,0,none⟩)) false 0) d rest ρ w C:=by
 rcases run_nextM (P:=P) (ty:=0) h with⟨h3,h4⟩|⟨p,w',h3,h4,h5,h6,h7,h8⟩
 ·exact runT h4 (h1 h3)
 ·exact runT h4 (h2 p w' h3 h5 h6 h7 h8)
theorem entryT {r:Nat} {p:Int×Value} (h:EnAt w r b p) (h2:VO P rest (putO ρ d (.tuple #[.int .i64 p.1,p.2])) w C):RunT P (Instr.entry (.pointer (some ⟨r,0,none⟩))) d rest ρ w C:=by
 obtain⟨es,clock,since,seen,e,h3,h4,h5,h6,h7,h8⟩:=h
 have:=run_entry_at (P:=P) w r b since seen es clock e h3 h4 h5 h6
 rw[h7,h8]at this
 exact runT this h2
def itLeft (w:World) (r b:Nat):Nat:=match w.heap[b]?,w.heap[r]? with
 |some (.map es _),some (.mapIter _ _ seen _)=>(leftOf es seen).size
 |_,_=>0
theorem ItAt.left {r:Nat} {left:IM} (h:ItAt w r b m left):itLeft w r b=left.length:=by
 obtain⟨es,clock,since,c0,seen,h1,h2,_,_,_,_,_,h7⟩:=h
 unfold itLeft
 rw[h1,h2]
 simpa[MEs]using congrArg List.length h7
end
end
structure HL where
 B:List (Int×Int)
 W:List Int
 st:List Nat
 pn:List Nat
 pl:IM
 fw:IM
 born:Nat
abbrev HO:=Option HL
abbrev Sh:=Int×Int×Int
def shV (s:Sh):List Value:=[.int .i64 s.1,.int .i64 s.2.1,.int .i64 s.2.2]
def validS (s:Sh):Bool:=decide (0≤s.1)&&decide (s.1≤15)&&decide (0≤s.2.1)&&decide (s.2.1≤200)&&decide (0≤s.2.2)&&decide (s.2.2≤3)&&(decide (s.2.2≠1)||decide (1≤s.1))&&(decide (s.2.2≠2)||decide (2≤s.1))
def wordsS (s:Sh):Int:=if validS s then(2+s.1+s.2.1+1)/2*2 else 0
def numS (s:Sh):Int:=s.1+16*s.2.1+4096*s.2.2
def shapeN (n:Int):Sh:=(n.tmod 16,(n.tmod 4096).tdiv 16,n.tdiv 4096)
def spaceB (n:Int):Bool:=decide (0≤n)&&decide (n<8)
def HL.b (s:HL) (i:Int):Int×Int:=s.B.getD i.toNat (0,0)
def thereO (m:HO) (b:Int):Bool:=match m with|none=>false|some s=>decide (1≤b)&&decide (b<s.B.length)
def blocksO (m:HO):Nat:=match m with|none=>0|some s=>s.B.length
def stateO (m:HO) (b:Int):Int:=match m with|none=> -1|some s=>if 0≤b∧b<s.B.length then(s.b b).1 else-1
def bspaceO (m:HO) (b:Int):Int:=match m with|none=> -1|some s=>if 0≤b∧b<s.B.length then(s.b b).2 else-1
def fillB (B:List (Int×Int)) (k:Nat) (x:Int×Int):Nat→List (Int×Int)
 |0=>B
 |j+1=>(fillB B k x j).set (k+j) x
theorem fillB_len (B:List (Int×Int)) (k:Nat) (x:Int×Int) (j:Nat):(fillB B k x j).length=B.length:=by
 induction j with
 |zero=>rfl
 |succ j ih=>simp[fillB,ih]
def claimE (m:HO) (b many:Int) (first:Int×Int):Int:=match m with
 |none=>5
 |some s=>if thereO m b=false∨many<1∨(s.B.length:Int)-b<many∨spaceB first.2=false then 1
  else if((s.B.drop b.toNat).take many.toNat).any (fun x=>x !=(0,0))then 8 else 0
def claimM (m:HO) (b many:Int) (first more:Int×Int):HO:=match m with
 |none=>none
 |some s=>if claimE m b many first=0 then some {s with B:=(fillB s.B b.toNat more many.toNat).set b.toNat first}else some s
def tails (B:List (Int×Int)) (b:Nat):Nat→Nat→Nat
 |0,n=>n
 |f+1,n=>if b+n<B.length∧(B.getD (b+n) (0,0)).1=3 then tails B b f (n+1)else n
def HL.span (s:HL) (b:Nat):Nat:=if(s.B.getD b (0,0)).1=2 then tails s.B b s.B.length 1 else 1
def HL.size (s:HL) (a:Nat):Int:=wordsS (shapeN (s.W.getD (a+1) 0))
def HL.starts (s:HL):MT:=some (1,s.st)
def HL.pins (s:HL):MT:=some (1,s.pn)
def findO (m:HO) (a:Int):Int×Int:=match m with
 |none=>(0,5)
 |some s=>if a<0∨(s.W.length:Int)≤a then(0,4)else match s.starts.lastO (a/2+1) 1 with
  |none=>(0,4)
  |some i=>if 2*(i:Int)+s.size (2*i)≤a then(0,4)else(2*(i:Int),0)
def takenB (s:HL) (a:Int) (but:Int) (j:Nat):Bool:=(findO (some s) (a+2*(j:Int))).2==0&&(findO (some s) (a+2*(j:Int))).1 !=but
def argB (s:HL) (a:Int):Bool:=decide (a<0)||decide ((s.W.length:Int)≤a)||decide (¬a%2=0)
def wrongB (s:HL) (a words:Int):Bool:=if words≤32 then decide ((s.b (a/64)).1≠1)||decide ((a+words-1)/64≠a/64)else decide ((s.b (a/64)).1≠2)||decide (a%64≠0)||decide ((s.span (a/64).toNat:Int)≠(words+63)/64)
def fitsE (s:HL) (a words but:Int):Int:=if argB s a=true then 1 else if wrongB s a words=true then 5 else if(List.range ((words+1)/2).toNat).any (takenB s a but)=true then 8 else 0
def placeR (m:HO) (a:Int) (sh:Sh):Int×Int:=match m with
 |none=>(0,5)
 |some s=>if validS sh=false then(0,2)else if fitsE s a (wordsS sh) (-1)≠0 then(0,fitsE s a (wordsS sh) (-1))else(((s.born+1:Nat):Int),0)
def placeM (m:HO) (a:Int) (sh:Sh):HO:=match m with
 |none=>none
 |some s=>if(placeR m a sh).2=0 then some {s with W:=(s.W.set a.toNat ((s.born+1:Nat):Int)).set (a.toNat+1) (numS sh),st:=s.st.set (a.toNat/2) 1,pl:=putM s.pl ((s.born+1:Nat):Int) (.int .i64 a),born:=s.born+1}else some s
def hasO (m:HO) (a:Int):Bool:=match m with
 |none=>false
 |some s=>decide (0≤a)&&decide (a%2=0)&&decide (s.starts.get (a/2)=1)
def objE (m:HO) (a:Int):Int:=match m with
 |none=>5
 |some _=>if hasO m a then 0 else 4
def HL.shapeAt (s:HL) (a:Int):Sh:=shapeN (s.W.getD (a.toNat+1) 0)
def shapeO (m:HO) (a:Int):Sh×Int:=match m with
 |none=>((0,0,0),5)
 |some s=>if objE m a=0 then(s.shapeAt a,0)else((0,0,0),objE m a)
def fieldO (m:HO) (a i:Int) (data:Bool):Int×Int:=match m with
 |none=>(0,5)
 |some s=>if objE m a≠0 then(0,objE m a)else
  if i<0∨(bif data then(s.shapeAt a).2.1 else(s.shapeAt a).1)≤i then(0,1)else((bif data then a+2+(s.shapeAt a).1 else a+2)+i,0)
def refO (m:HO) (a i:Int):Int×Int:=match m with
 |none=>(0,5)
 |some s=>if(fieldO m a i false).2=0 then(s.W.getD (fieldO m a i false).1.toNat 0,0)else(0,(fieldO m a i false).2)
def setRefE (m:HO) (a i to:Int):Int:=match m with
 |none=>5
 |some _=>if(fieldO m a i false).2≠0 then(fieldO m a i false).2 else if to≠0∧hasO m to=false then 1 else 0
def setRefM (m:HO) (a i to:Int):HO:=match m with
 |none=>none
 |some s=>if setRefE m a i to=0 then some {s with W:=s.W.set (fieldO m a i false).1.toNat to}else some s
structure HL.Ok (s:HL):Prop where
 b2:2≤s.B.length
 b64:s.B.length≤64
 wl:s.W.length=64*s.B.length
 sl:s.st.length=32*s.B.length
 pl:s.pn.length=32*s.B.length
 fit: ∀i,s.st.getD i 0=1→ ∃r d k:Nat,validS (r,d,k)=true∧s.W.getD (2*i+1) 0=numS (r,d,k)∧((2*i:Nat):Int)+wordsS (r,d,k)≤s.W.length
 dj: ∀i j,s.st.getD i 0=1→s.st.getD j 0=1→i<j→((2*i:Nat):Int)+s.size (2*i)≤((2*j:Nat):Int)
def newH (n:Int):HO:=if 2≤n∧n≤64 then some ⟨List.replicate n.toNat (0,0),List.replicate (64*n.toNat) 0,List.replicate (32*n.toNat) 0,List.replicate (32*n.toNat) 0,[],[],0⟩else none
theorem shape_num {r d k:Nat} (h:validS (r,d,k)=true):shapeN (numS (r,d,k))=((r:Int),(d:Int),(k:Int)):=by
 simp only[validS,Bool.and_eq_true,decide_eq_true_eq]at h
 have h1:numS (r,d,k)=((r+16*d+4096*k:Nat):Int):=by simp[numS]
 rw[h1]
 simp only[shapeN]
 rw[Int.tmod_eq_emod_of_nonneg (by omega),Int.tmod_eq_emod_of_nonneg (by omega),Int.tdiv_eq_ediv_of_nonneg (by omega),Int.tdiv_eq_ediv_of_nonneg (by omega)]
 have:=h.1.1
 refine Prod.ext ?_ (Prod.ext ?_ ?_)<;>simp only<;>omega
theorem words_le {s:Sh} (h:validS s=true):2≤wordsS s∧wordsS s≤218∧wordsS s%2=0∧2+s.1+s.2.1≤wordsS s:=by
 unfold wordsS
 rw[if_pos h]
 simp only[validS,Bool.and_eq_true,decide_eq_true_eq]at h
 omega
theorem words_any (s:Sh):0≤wordsS s∧wordsS s≤218∧wordsS s%2=0:=by
 cases h:validS s with
 |true=>have:=words_le h;omega
 |false=>unfold wordsS;rw[h];simp
section
attribute [go_sem] Option.isSome_some Option.isSome_none
variable {s:HL} {m:HO} {S fp:List Nat} {yB yW:List Value} {b bf bl gB gW pb pg sb sg:Nat} {a:Option Addr} {w w':World}
theorem dv2 (v:Value):divO 2 v=some v:=Eq.trans rfl rfl
theorem dv8 (v:Value):divO 8 v=some v:=Eq.trans rfl rfl
theorem dv16 (v:Value):divO 16 v=some v:=Eq.trans rfl rfl
theorem dv4096 (v:Value):divO 4096 v=some v:=Eq.trans rfl rfl
attribute [go_sem] dv2 dv8 dv16 dv4096
def blkV (B:List (Int×Int)):List Value:=B.flatMap fun x=>[.int .i64 x.1,.int .i64 x.2]
theorem blkV_len (B:List (Int×Int)):(blkV B).length=2*B.length:=by
 induction B with
 |nil=>rfl
 |cons x B ih=>simp only[blkV,List.flatMap_cons,lla,List.length_cons,List.length_nil]at ih⊢;omega
theorem blkV_get {B:List (Int×Int)} {i:Nat} (h:i<B.length):(blkV B)[2*i]? =some (.int .i64 (B.getD i (0,0)).1)∧(blkV B)[2*i+1]? =some (.int .i64 (B.getD i (0,0)).2):=by
 induction B generalizing i with
 |nil=>simp at h
 |cons x B ih=>
  cases i with
  |zero=>simp[blkV]
  |succ i=>
   have h':i<B.length:=by simpa using h
   obtain⟨h1,h2⟩:=ih h'
   have e:blkV (x::B)=.int .i64 x.1::.int .i64 x.2::blkV B:=rfl
   rw[e,show 2*(i+1)=2*i+1+1 by omega,show 2*i+1+1+1=(2*i+1)+1+1 by omega]
   simpa using⟨h1,h2⟩
structure HMs (w:World) (b:Nat) (s:HL) (gB gW cB cW:Nat) (yB yW:List Value) (sb sg pb pg bl bf:Nat):Prop where
 ok:s.Ok
 hb:At w b [.slice (some ⟨gB,0,none⟩) s.B.length cB,.slice (some ⟨gW,0,none⟩) s.W.length cW,.pointer (some ⟨sb,0,none⟩),.pointer (some ⟨pb,0,none⟩),.map (some bl),.map (some bf),.int .i64 s.born]
 hB:At w gB (blkV s.B++yB)
 hW:At w gW (ints s.W++yW)
 cB:s.B.length≤cB
 cW:s.W.length≤cW
 hs:STab w sb sg s.st.length 1 s.st
 hp:STab w pb pg s.pn.length 1 s.pn
 hl:MpAt w bl s.pl
 hf:MpAt w bf s.fw
 nd: [b,gB,gW,sb,sg,pb,pg,bl,bf].Nodup
def HM (w:World) (b:Nat) (s:HL) (fp:List Nat):Prop:= ∃gB gW cB cW yB yW sb sg pb pg bl bf,fp=[b,gB,gW,sb,sg,pb,pg,bl,bf]∧HMs w b s gB gW cB cW yB yW sb sg pb pg bl bf
def HR (w:World) (a:Option Addr) (fp:List Nat) (m:HO):Prop:=match m with
 |some s=> ∃b,a=some ⟨b,0,none⟩∧HM w b s fp
 |none=>(a=none∧fp=[])∨ ∃b,a=some ⟨b,0,none⟩∧fp=[b]∧At w b [.slice none 0 0,.slice none 0 0,.pointer none,.pointer none,.map none,.map none,.int .i64 0]
theorem HMs.keep {cB cW:Nat} (h:HMs w b s gB gW cB cW yB yW sb sg pb pg bl bf) (k:Only S w w') (hd: ∀x,x∈[b,gB,gW,sb,sg,pb,pg,bl,bf]→x∉S):HMs w' b s gB gW cB cW yB yW sb sg pb pg bl bf:=
 ⟨h.ok,h.hb.keep k (hd _ (by simp)),h.hB.keep k (hd _ (by simp)),h.hW.keep k (hd _ (by simp)),h.cB,h.cW,h.hs.keep k (hd _ (by simp)) (hd _ (by simp)),h.hp.keep k (hd _ (by simp)) (hd _ (by simp)),h.hl.keep k (hd _ (by simp)),h.hf.keep k (hd _ (by simp)),h.nd⟩
theorem HMs.keep0 {cB cW:Nat} (h:HMs w b s gB gW cB cW yB yW sb sg pb pg bl bf) (k:Only [] w w'):HMs w' b s gB gW cB cW yB yW sb sg pb pg bl bf:=h.keep k (by simp)
theorem HR.keep (h:HR w a fp m) (k:Only S w w') (hd: ∀x,x∈fp→x∉S):HR w' a fp m:=by
 match m,h with
 |some s,⟨b,h1,gB,gW,cB,cW,yB,yW,sb,sg,pb,pg,bl,bf,h2,h3⟩=>exact⟨b,h1,gB,gW,cB,cW,yB,yW,sb,sg,pb,pg,bl,bf,h2,h3.keep k (by rw[←h2];exact hd)⟩
 |none,.inl h=>exact .inl h
 |none,.inr ⟨b,h1,h2,h3⟩=>exact .inr ⟨b,h1,h2,h3.keep k (hd b (by simp[h2]))⟩
theorem HR.keep0 (h:HR w a fp m) (k:Only [] w w'):HR w' a fp m:=h.keep k (by simp)
theorem HMs.lt {cB cW:Nat} (h:HMs w b s gB gW cB cW yB yW sb sg pb pg bl bf): ∀x,x∈[b,gB,gW,sb,sg,pb,pg,bl,bf]→x<w.heap.size:=by
 have h1:=(Tab.mk h.hs).lt
 have h2:=(Tab.mk h.hp).lt
 simp only[List.mem_cons,List.not_mem_nil,or_false]at h1 h2⊢
 intro x hx
 rcases hx with rfl|rfl|rfl|rfl|rfl|rfl|rfl|rfl|rfl
 ·exact h.hb.lt
 ·exact h.hB.lt
 ·exact h.hW.lt
 ·exact h1 _ (.inl rfl)
 ·exact h1 _ (.inr rfl)
 ·exact h2 _ (.inl rfl)
 ·exact h2 _ (.inr rfl)
 ·exact h.hl.lt
 ·exact h.hf.lt
theorem HR.lt (h:HR w a fp m): ∀x,x∈fp→x<w.heap.size:=by
 match m,h with
 |some s,⟨b,h1,gB,gW,cB,cW,yB,yW,sb,sg,pb,pg,bl,bf,h2,h3⟩=>rw[h2];exact h3.lt
 |none,.inl h=>rw[h.2];simp
 |none,.inr ⟨b,h1,h2,h3⟩=>rw[h2];intro x hx;simp only[lms]at hx;rw[hx];exact h3.lt
theorem hMade (h:HR w a fp m):Cs Tryz.prog 46 [.pointer a] w fun v w'=>v=.bool m.isSome∧w'=w:=by
 refine enter_heap_Heap_made rfl ?_
 unfold x_heap_Heap_made
 match m,h with
 |some s,⟨b,h1,gB,gW,cB,cW,yB,yW,sb,sg,pb,pg,bl,bf,h2,h3⟩=>
  subst h1
  have:=h3.ok.b2
  (repeat(first|with_reducible(first|refine nx ?_|refine r_6 rfl ?_)|simp only[go_sem,h3.hb.cell,dtr (show(0:Int)<(s.B.length:Int) by omega)]))
 |none,.inl h=>obtain⟨rfl,_⟩:=h;(repeat(first|with_reducible(first|refine nx ?_|refine r_6 rfl ?_)|simp only[go_sem]))
 |none,.inr ⟨b,h1,h2,h3⟩=>subst h1;(repeat(first|with_reducible(first|refine nx ?_|refine r_6 rfl ?_)|simp only[go_sem,h3.cell]));rfl
theorem hThere (h:HR w a fp m) (i:Int):Cs Tryz.prog 219 [.pointer a,.int .i64 i] w fun v w'=>v=.bool (thereO m i)∧w'=w:=by
 refine enter_heap_Heap_there rfl ?_
 unfold x_heap_Heap_there
 refine gO ?_
 refine callT0 (hMade h) ?_
 match m,h with
 |some s,⟨b,h1,gB,gW,cB,cW,yB,yW,sb,sg,pb,pg,bl,bf,h2,h3⟩=>
  subst h1
  by_cases c1:(1:Int)≤i
  ·refine gO2 h3.hb.cell (dtr c1) ?_
   simp[thereO,c1]
  ·refine gO2 h3.hb.cell (dfl c1) ?_
   simp[thereO,c1]
 |none,_=>
  refine gO ?_
  rfl
theorem hBlocks (h:HR w a fp m):Cs Tryz.prog 68 [.pointer a] w fun v w'=>v=.int .i64 (blocksO m:Nat)∧w'=w:=by
 refine enter_heap_Heap_Blocks rfl ?_
 unfold x_heap_Heap_Blocks
 refine gO ?_
 refine callT0 (hMade h) ?_
 match m,h with
 |some s,⟨b,h1,gB,gW,cB,cW,yB,yW,sb,sg,pb,pg,bl,bf,h2,h3⟩=>subst h1;(repeat(first|with_reducible(first|refine nx ?_|refine r_6 rfl ?_)|simp only[go_sem,h3.hb.cell]));rfl
 |none,_=>(repeat(first|with_reducible(first|refine nx ?_|refine r_6 rfl ?_)|simp only[go_sem]));rfl
theorem hState (h:HR w a fp m) (i:Int):Cs Tryz.prog 69 [.pointer a,.int .i64 i] w fun v w'=>v=.int .i64 (stateO m i)∧w'=w:=by
 refine enter_heap_Heap_State rfl ?_
 unfold x_heap_Heap_State
 by_cases c1:i<0
 ·refine gO1 (dtr c1) ?_
  cases m with
  |none=>rfl
  |some s=>simp[stateO];omega
 refine gO1 (dfl c1) ?_
 refine callT0 (hBlocks h) ?_
 by_cases c2:(blocksO m:Int)≤i
 ·refine gO1 (dtr c2) ?_
  cases m with
  |none=>rfl
  |some s=>simp[stateO,blocksO]at c2⊢;omega
 match m,h with
 |some s,⟨b,h1,gB,gW,cB,cW,yB,yW,sb,sg,pb,pg,bl,bf,h2,h3⟩=>
  subst h1
  simp only[blocksO]at c2
  obtain⟨k,rfl⟩: ∃k:Nat,i=k:=⟨i.toNat,by omega⟩
  have hk:k<s.B.length:=by omega
  have e1:(0:Int)≤(k:Int)∧(k:Int)<(s.B.length:Int):=⟨by omega,by omega⟩
  have e2:(blkV s.B++yB)[k*2]? =some (.int .i64 (s.B.getD k (0,0)).1):=by
   rw[List.getElem?_append_left (by rw[blkV_len];omega),Nat.mul_comm];exact(blkV_get hk).1
  (repeat(first|with_reducible(first|refine nx ?_|refine r_6 rfl ?_)|simp only[go_sem,dfl c2,blocksO,h3.hb.cell,h3.hB.cell,if_pos e1,tnc,e2]))
  simp[stateO,HL.b,hk]
 |none,_=>exact absurd (show((0:Nat):Int)≤i by omega) c2
theorem hSpace (h:HR w a fp m) (i:Int):Cs Tryz.prog 70 [.pointer a,.int .i64 i] w fun v w'=>v=.int .i64 (bspaceO m i)∧w'=w:=by
 refine enter_heap_Heap_Space rfl ?_
 unfold x_heap_Heap_Space
 by_cases c1:i<0
 ·refine gO1 (dtr c1) ?_
  cases m with
  |none=>rfl
  |some s=>simp[bspaceO];omega
 refine gO1 (dfl c1) ?_
 refine callT0 (hBlocks h) ?_
 by_cases c2:(blocksO m:Int)≤i
 ·refine gO1 (dtr c2) ?_
  cases m with
  |none=>rfl
  |some s=>simp[bspaceO,blocksO]at c2⊢;omega
 match m,h with
 |some s,⟨b,h1,gB,gW,cB,cW,yB,yW,sb,sg,pb,pg,bl,bf,h2,h3⟩=>
  subst h1
  simp only[blocksO]at c2
  obtain⟨k,rfl⟩: ∃k:Nat,i=k:=⟨i.toNat,by omega⟩
  have hk:k<s.B.length:=by omega
  have e1:(0:Int)≤(k:Int)∧(k:Int)<(s.B.length:Int):=⟨by omega,by omega⟩
  have e2:(blkV s.B++yB)[k*2+1]? =some (.int .i64 (s.B.getD k (0,0)).2):=by
   rw[List.getElem?_append_left (by rw[blkV_len];omega),Nat.mul_comm];exact(blkV_get hk).2
  (repeat(first|with_reducible(first|refine nx ?_|refine r_6 rfl ?_)|simp only[go_sem,dfl c2,blocksO,h3.hb.cell,h3.hB.cell,if_pos e1,tnc,e2]))
  simp[bspaceO,HL.b,hk]
 |none,_=>exact absurd (show((0:Nat):Int)≤i by omega) c2
theorem hSpaceB (w:World) (n:Int):Cs Tryz.prog 220 [.int .i64 n] w fun v w'=>v=.bool (spaceB n)∧w'=w:=by
 refine enter_heap_space rfl ?_
 unfold x_heap_space
 by_cases c1:(0:Int)≤n
 ·refine gO1 (dtr c1) ?_
  simp[spaceB,c1]
 ·refine gO1 (dfl c1) ?_
  simp[spaceB,c1]
theorem hValid (w:World) (s:Sh):Cs Tryz.prog 148 [.agg ⟨shV s⟩] w fun v w'=>v=.bool (validS s)∧Only [] w w':=by
 obtain⟨r,d,k⟩:=s
 refine enter_heap_Valid rfl ?_
 unfold x_heap_Valid
 refine gO ?_
 refine boxT fun q w1 hq hs1 hat ho=>?_
 have c0:=hat.cell 0
 have c1:=hat.cell 1
 have c2:=hat.cell 2
 simp only[shV,List.getElem?_cons_zero,List.getElem?_cons_succ]at c0 c1 c2
 by_cases a1:0≤r
 rotate_left
 ·refine gO4 c0 c1 c2 (dfl a1) ?_
  exact⟨by simp[validS,a1],ho⟩
 by_cases a2:r≤15
 rotate_left
 ·refine gO5 c0 c1 c2 (dtr a1) (dfl a2) ?_
  exact⟨by simp[validS,a2],ho⟩
 by_cases a3:0≤d
 rotate_left
 ·refine gO6 c0 c1 c2 (dtr a1) (dtr a2) (dfl a3) ?_
  exact⟨by simp[validS,a3],ho⟩
 by_cases a4:d≤200
 rotate_left
 ·refine gO7 c0 c1 c2 (dtr a1) (dtr a2) (dtr a3) (dfl a4) ?_
  exact⟨by simp[validS,a4],ho⟩
 by_cases a5:0≤k
 rotate_left
 ·(repeat(first|with_reducible(first|refine nx ?_|refine r_6 rfl ?_)|simp only[go_sem,c0,c1,c2,dtr a1,dtr a2,dtr a3,dtr a4,dfl a5]))
  exact⟨by simp[validS,a5],ho⟩
 by_cases a6:k≤3
 rotate_left
 ·(repeat(first|with_reducible(first|refine nx ?_|refine r_6 rfl ?_)|simp only[go_sem,c0,c1,c2,dtr a1,dtr a2,dtr a3,dtr a4,dtr a5,dfl a6]))
  exact⟨by simp[validS,a6],ho⟩
 by_cases a7:k=1
 ·have a9: ¬k=2:=by omega
  by_cases a8:1≤r
  ·(repeat(first|with_reducible(first|refine nx ?_|refine r_6 rfl ?_)|simp only[go_sem,c0,c1,c2,dtr a1,dtr a2,dtr a3,dtr a4,dtr a5,dtr a6,bnf a7,dtr a8,bnt a9]))
   exact⟨by simp[validS,a1,a2,a3,a4,a7,a8],ho⟩
  ·(repeat(first|with_reducible(first|refine nx ?_|refine r_6 rfl ?_)|simp only[go_sem,c0,c1,c2,dtr a1,dtr a2,dtr a3,dtr a4,dtr a5,dtr a6,bnf a7,dfl a8]))
   exact⟨by simp[validS,a7,a8],ho⟩
 ·by_cases a9:k=2
  ·by_cases a8:2≤r
   ·(repeat(first|with_reducible(first|refine nx ?_|refine r_6 rfl ?_)|simp only[go_sem,c0,c1,c2,dtr a1,dtr a2,dtr a3,dtr a4,dtr a5,dtr a6,bnt a7,bnf a9,dtr a8]))
    exact⟨by simp[validS,a1,a2,a3,a4,a9,a8],ho⟩
   ·(repeat(first|with_reducible(first|refine nx ?_|refine r_6 rfl ?_)|simp only[go_sem,c0,c1,c2,dtr a1,dtr a2,dtr a3,dtr a4,dtr a5,dtr a6,bnt a7,bnf a9,dfl a8]))
    exact⟨by simp[validS,a9,a8],ho⟩
  ·(repeat(first|with_reducible(first|refine nx ?_|refine r_6 rfl ?_)|simp only[go_sem,c0,c1,c2,dtr a1,dtr a2,dtr a3,dtr a4,dtr a5,dtr a6,bnt a7,bnt a9]))
   exact⟨by simp[validS,a1,a2,a3,a4,a5,a6,a7,a9],ho⟩
theorem hWords (w:World) (s:Sh):Cs Tryz.prog 150 [.agg ⟨shV s⟩] w fun v w'=>v=.int .i64 (wordsS s)∧Only [] w w':=by
 refine enter_heap_Words rfl ?_
 unfold x_heap_Words
 refine gO ?_
 refine boxT fun q w1 hq hs1 hat ho=>?_
 have hc:cellsAt w1 ⟨q,0,none⟩ 3=some (shV s):=cellsAt_at hat 0 3 (by simp[shV])
 refine gO1 hc ?_
 refine callT1 (hValid w1 s) fun w2 ho2=>?_
 have hat2:=hat.keep0 ho2
 have c0:=hat2.cell 0
 have c1:=hat2.cell 1
 simp only[shV,List.getElem?_cons_zero,List.getElem?_cons_succ]at c0 c1
 cases hv:validS s with
 |false=>
  refine gO ?_
  exact⟨by simp[wordsS,hv],ho.nil ho2⟩
 |true=>
  obtain⟨r,d,k⟩:=s
  have hv':=hv
  simp only[validS,Bool.and_eq_true,decide_eq_true_eq]at hv
  have e1:IntKind.i64.wrap (2+r)=2+r:=IntWalk.i64_in _ (by omega)
  have e2:IntKind.i64.wrap (2+r+d)=2+r+d:=IntWalk.i64_in _ (by omega)
  have e3:IntKind.i64.wrap (2+r+d+1)=2+r+d+1:=IntWalk.i64_in _ (by omega)
  have e4:IntKind.i64.wrap ((2+r+d+1).tdiv 2)=(2+r+d+1)/2:=by rw[Int.tdiv_eq_ediv_of_nonneg (by omega)];exact IntWalk.i64_in _ (by omega)
  have e5:IntKind.i64.wrap ((2+r+d+1)/2*2)=(2+r+d+1)/2*2:=IntWalk.i64_in _ (by omega)
  refine gO7 c0 c1 e1 e2 e3 e4 e5 ?_
  exact⟨by simp[wordsS,hv'],ho.nil ho2⟩
theorem hNumber (w:World) (s:Sh) (hv:validS s=true):Cs Tryz.prog 151 [.agg ⟨shV s⟩] w fun v w'=>v=.int .i64 (numS s)∧Only [] w w':=by
 obtain⟨r,d,k⟩:=s
 refine enter_heap_number rfl ?_
 unfold x_heap_number
 refine gO ?_
 refine boxT fun q w1 hq hs1 hat ho=>?_
 have c0:=hat.cell 0
 have c1:=hat.cell 1
 have c2:=hat.cell 2
 simp only[shV,List.getElem?_cons_zero,List.getElem?_cons_succ]at c0 c1 c2
 simp only[validS,Bool.and_eq_true,decide_eq_true_eq]at hv
 have e1:IntKind.i64.wrap (16*d)=16*d:=IntWalk.i64_in _ (by omega)
 have e2:IntKind.i64.wrap (r+16*d)=r+16*d:=IntWalk.i64_in _ (by omega)
 have e3:IntKind.i64.wrap (4096*k)=4096*k:=IntWalk.i64_in _ (by omega)
 have e4:IntKind.i64.wrap (r+16*d+4096*k)=r+16*d+4096*k:=IntWalk.i64_in _ (by omega)
 refine gO7 c0 c1 c2 e1 e2 e3 e4 ?_
 exact⟨rfl,ho⟩
end
section
def tup2 (o:Option Value) (v:Value):Option Value:=match o with|some x=>some (.tuple #[x,v])|none=>none
theorem tup2_some (x v:Value):tup2 (some x) v=some (.tuple #[x,v]):=Eq.trans rfl rfl
theorem RetV_cNt (a n t:Nat) (ρ:Env) (w:World) (R:Value→World→Prop):RetV [.cN a n,.t t] ρ w R=RetC (tup2 (cellsO w n (ρ a)) (ρ t)) w R:=by
 unfold RetV RetC
 simp only[retO,resL,resX]
 cases cellsO w n (ρ a)<;>rfl
attribute [go_sem] tup2_some RetV_cNt
theorem shV_one (s:Sh): ∀u,u∈shV s→oneC u=true:=by simp[shV,oneC]
theorem setL_sh (a b c:Value) (s:Sh):setL [a,b,c] 0 (shV s)=shV s:=rfl
theorem hShapeN (w:World) (n:Int) (h0:0≤n) (h1:n≤100000):Cs Tryz.prog 155 [.int .i64 n] w fun v w'=>v=.agg ⟨shV (shapeN n)⟩∧Only [] w w':=by
 refine enter_heap_shape rfl ?_
 unfold x_heap_shape
 have m1:=Int.tmod_eq_emod_of_nonneg (b:=4096) h0
 have e1:IntKind.i64.wrap ((n.tmod 4096).tdiv 16)=(n.tmod 4096).tdiv 16:=by
  rw[m1,Int.tdiv_eq_ediv_of_nonneg (by omega)];exact IntWalk.i64_in _ (by omega)
 have e2:IntKind.i64.wrap (n.tdiv 4096)=n.tdiv 4096:=by rw[Int.tdiv_eq_ediv_of_nonneg h0];exact IntWalk.i64_in _ (by omega)
 refine gO ?_
 refine boxT fun q w1 hq hs1 hat ho=>?_
 refine gO2 e1 e2 ?_
 rw[fillL_one rfl rfl,fillL_one rfl rfl,fillL_one rfl rfl]
 refine gO ?_
 refine stNT (cs:=shV (shapeN n)) hat rfl (by simp) (shV_one _) fun w2 hs2 hat2 ho2=>?_
 rw[setL_sh]at hat2
 have hc:cellsAt w2 ⟨q,0,none⟩ 3=some (shV (shapeN n)):=cellsAt_at hat2 0 3 (by simp[shV])
 refine gO1 hc ?_
 exact ho.trans ho2 fun x hx=>by simp only[lms]at hx;subst hx;exact .inr (by omega)
section
variable {w:World} {b:Nat} {s:HL} {gB gW cB cW:Nat} {yB yW:List Value} {sb sg pb pg bl bf:Nat}
theorem HMs.wcell (h:HMs w b s gB gW cB cW yB yW sb sg pb pg bl bf) {i:Nat} (hi:i<s.W.length):w.cell? ⟨gW,i,none⟩=some (.int .i64 (s.W.getD i 0)):=by
 rw[h.hW.cell,ints_append_get yW hi]
theorem HL.Ok.start {s:HL} (h:s.Ok) {i:Nat} (hi:s.st.getD i 0=1):i<s.st.length∧2*i+1<s.W.length∧ ∃r d k:Nat,validS (r,d,k)=true∧s.W.getD (2*i+1) 0=numS (r,d,k)∧((2*i:Nat):Int)+wordsS (r,d,k)≤s.W.length∧0≤numS (r,d,k)∧numS (r,d,k)≤100000∧shapeN (s.W.getD (2*i+1) 0)=((r:Int),(d:Int),(k:Int)):=by
 have hlt:i<s.st.length:=by
  rcases Nat.lt_or_ge i s.st.length with h'|h'
  ·exact h'
  ·rw[List.getD_eq_getElem?_getD,List.getElem?_eq_none h']at hi;simp at hi
 obtain⟨r,d,k,h1,h2,h3⟩:=h.fit i hi
 have hv:=h1
 simp only[validS,Bool.and_eq_true,decide_eq_true_eq]at hv
 have e:numS (r,d,k)=(r:Int)+16*d+4096*k:=rfl
 refine⟨hlt,by have:=h.sl;have:=h.wl;omega,r,d,k,h1,h2,h3,by rw[e];omega,by rw[e];omega,by rw[h2];exact shape_num h1⟩
theorem hSize (h:HMs w b s gB gW cB cW yB yW sb sg pb pg bl bf) {i:Nat} (hi:s.st.getD i 0=1):Cs Tryz.prog 165 [.pointer (some ⟨b,0,none⟩),.int .i64 ((2*i:Nat):Int)] w fun v w'=>v=.int .i64 (s.size (2*i))∧Only [] w w':=by
 obtain⟨h1,h2,r,d,k,h3,h4,h5,h6,h7,h8⟩:=h.ok.start hi
 have hl:=h.ok.wl
 have hB:=h.ok.b64
 have e1:IntKind.i64.wrap (((2*i:Nat):Int)+1)=((2*i+1:Nat):Int):=i64_succ _ (by omega)
 have e2:(0:Int)≤((2*i+1:Nat):Int)∧((2*i+1:Nat):Int)<(s.W.length:Int):=⟨by omega,by omega⟩
 have hc:=h.wcell h2
 refine enter_heap_Heap_size rfl ?_
 unfold x_heap_Heap_size
 refine gJ4 h.hb.cell e1 (eq_true e2) hc ?_
 refine callT1 (hShapeN w _ (by rw[h4];exact h6) (by rw[h4];exact h7)) fun w1 ho1=>?_
 refine gO ?_
 refine callT1 (hWords w1 _) fun w2 ho2=>?_
 refine gO ?_
 exact⟨rfl,ho1.nil ho2⟩
theorem tdiv2 (n:Nat) (h:n≤4611686018427387904):IntKind.i64.wrap ((n:Int).tdiv 2)=((n/2:Nat):Int):=by
 rw[Int.tdiv_eq_ediv_of_nonneg (by omega),show((n:Int)/2)=((n/2:Nat):Int) by omega,i64_of_nat _ (by omega)]
theorem tmod2 (n:Nat):((n:Int).tmod 2)=((n%2:Nat):Int):=by
 rw[Int.tmod_eq_emod_of_nonneg (by omega)];omega
theorem hMadeS (h:HMs w b s gB gW cB cW yB yW sb sg pb pg bl bf):Cs Tryz.prog 46 [.pointer (some ⟨b,0,none⟩)] w fun v w'=>v=.bool true∧w'=w:=
 hMade (m:=some s) ⟨b,rfl,gB,gW,cB,cW,yB,yW,sb,sg,pb,pg,bl,bf,rfl,h⟩
end
theorem hHas {w:World} {a:Option Addr} {fp:List Nat} {m:HO} (h:HR w a fp m) (x:Int) (hx:x≤4611686018427387904):Cs Tryz.prog 132 [.pointer a,.int .i64 x] w fun v w'=>v=.bool (hasO m x)∧Only [] w w':=by
 refine enter_heap_Heap_Has rfl ?_
 unfold x_heap_Heap_Has
 refine gO ?_
 refine callT0 (hMade h) ?_
 match m,h with
 |none,_=>(repeat(first|with_reducible(first|refine nx ?_|refine r_6 rfl ?_)|simp only[go_sem]));exact⟨rfl,Only.refl _ _⟩
 |some s,⟨b,h1,gB,gW,cB,cW,yB,yW,sb,sg,pb,pg,bl,bf,h2,h3⟩=>
  subst h1
  by_cases c1:0≤x
  rotate_left
  ·refine gO1 (dfl c1) ?_
   exact⟨by simp[hasO,c1],Only.refl _ _⟩
  obtain⟨k,rfl⟩: ∃k:Nat,x=k:=⟨x.toNat,by omega⟩
  by_cases c2:k%2=0
  rotate_left
  ·(repeat(first|with_reducible(first|refine nx ?_|refine r_6 rfl ?_)|simp only[go_sem,dtr c1,tmod2 k,bqf (show¬((k%2:Nat):Int)=0 by omega)]))
   refine⟨?_,Only.refl _ _⟩
   have: ¬(k:Int)%2=0:=by omega
   simp[hasO,this]
  (repeat(first|with_reducible(first|refine nx ?_|refine r_6 rfl ?_)|simp only[go_sem,dtr c1,tmod2 k,bqt (show((k%2:Nat):Int)=0 by omega),h3.hb.cell,tdiv2 k (by omega)]))
  refine callT1 (Get_m (Tab.mk h3.hs) _) fun w' ho=>?_
  have e1:(k:Int)/2=((k/2:Nat):Int):=by omega
  have e2:(k:Int)%2=0:=by omega
  refine gO ?_
  refine⟨?_,ho⟩
  simp only[hasO,e1,e2,decide_true,dtr c1,Bool.true_and,HL.starts]
  rfl
theorem hObject {w:World} {a:Option Addr} {fp:List Nat} {m:HO} (h:HR w a fp m) (x:Int) (hx:x≤4611686018427387904):Cs Tryz.prog 48 [.pointer a,.int .i64 x] w fun v w'=>v=.int .i64 (objE m x)∧Only [] w w':=by
 refine enter_heap_Heap_object rfl ?_
 unfold x_heap_Heap_object
 refine gO ?_
 refine callT0 (hMade h) ?_
 cases m with
 |none=>(repeat(first|with_reducible(first|refine nx ?_|refine r_6 rfl ?_)|simp only[go_sem]));exact⟨rfl,Only.refl _ _⟩
 |some s=>
  refine gO ?_
  refine callT1 (hHas h x hx) fun w' ho=>?_
  cases hh:hasO (some s) x with
  |true=>(repeat(first|with_reducible(first|refine nx ?_|refine r_6 rfl ?_)|simp only[go_sem]));exact⟨by simp[objE,hh],ho⟩
  |false=>(repeat(first|with_reducible(first|refine nx ?_|refine r_6 rfl ?_)|simp only[go_sem]));exact⟨by simp[objE,hh],ho⟩
theorem has_spec {s:HL} (h:s.Ok) {x:Int} (hx:hasO (some s) x=true): ∃i:Nat,x=((2*i:Nat):Int)∧s.st.getD i 0=1:=by
 simp only[hasO,Bool.and_eq_true,decide_eq_true_eq]at hx
 obtain⟨⟨h1,h2⟩,h3⟩:=hx
 refine⟨(x/2).toNat,by omega,?_⟩
 change (if hasB s.st.length (x/2)=true then((s.st.getD (x/2).toNat 0:Nat):Int)else-1)=1 at h3
 by_cases hb:hasB s.st.length (x/2)=true
 ·rw[if_pos hb]at h3;omega
 ·rw[if_neg hb]at h3;omega
theorem hShape {w:World} {a:Option Addr} {fp:List Nat} {m:HO} (h:HR w a fp m) (x:Int) (hx:x≤4611686018427387904):Cs Tryz.prog 72 [.pointer a,.int .i64 x] w fun v w'=>v=.tuple #[.agg ⟨shV (shapeO m x).1⟩,.int .i64 (shapeO m x).2]∧Only [] w w':=by
 refine enter_heap_Heap_Shape rfl ?_
 unfold x_heap_Heap_Shape
 refine gO ?_
 refine boxT fun q w1 hq hs1 hat ho1=>?_
 refine gO ?_
 refine callT1 (hObject (h.keep0 ho1) x hx) fun w2 ho2=>?_
 have hat2:=hat.keep0 ho2
 by_cases he:objE m x=0
 ·match m,h with
  |none,_=>simp[objE]at he
  |some s,⟨b,h1,gB,gW,cB,cW,yB,yW,sb,sg,pb,pg,bl,bf,h2,h3⟩=>
   subst h1
   have hh:hasO (some s) x=true:=by
    cases hh:hasO (some s) x with
    |true=>rfl
    |false=>simp[objE,hh]at he
   obtain⟨i,rfl,hi⟩:=has_spec h3.ok hh
   obtain⟨g1,g2,r,d,k,g3,g4,g5,g6,g7,g8⟩:=h3.ok.start hi
   have h3':=h3.keep0 (ho1.nil ho2)
   have hl:=h3.ok.wl
   have hB:=h3.ok.b64
   have e1:IntKind.i64.wrap (((2*i:Nat):Int)+1)=((2*i+1:Nat):Int):=i64_succ _ (by omega)
   have e2:(0:Int)≤((2*i+1:Nat):Int)∧((2*i+1:Nat):Int)<(s.W.length:Int):=⟨by omega,by omega⟩
   have hc:=h3'.wcell g2
   refine gJ5 (bnf he) h3'.hb.cell e1 (eq_true e2) hc ?_
   refine callT1 (hShapeN w2 _ (by rw[g4];exact g6) (by rw[g4];exact g7)) fun w3 ho3=>?_
   refine gO ?_
   refine stNT (cs:=shV (shapeN (s.W.getD (2*i+1) 0))) (hat2.keep0 ho3) rfl (by simp) (shV_one _) fun w4 hs4 hat4 ho4=>?_
   rw[setL_sh]at hat4
   have hc4:cellsAt w4 ⟨q,0,none⟩ 3=some (shV (shapeN (s.W.getD (2*i+1) 0))):=cellsAt_at hat4 0 3 (by simp[shV])
   have hsh:shapeO (some s) ((2*i:Nat):Int)=(shapeN (s.W.getD (2*i+1) 0),0):=by simp only[shapeO,he,if_true,HL.shapeAt,tnc]
   rw[hsh]
   refine gO1 hc4 ?_
   exact((ho1.nil ho2).nil ho3).trans ho4 fun y hy=>by simp only[lms]at hy;subst hy;exact .inr (by omega)
 ·refine gO1 (bnt he) ?_
  have hsh:shapeO m x=((0,0,0),objE m x):=by
   cases m with
   |none=>rfl
   |some s=>simp only[shapeO,he,if_false]
  rw[hsh]
  refine stNT (cs:=shV (0,0,0)) hat2 rfl (by simp) (shV_one _) fun w4 hs4 hat4 ho4=>?_
  rw[setL_sh]at hat4
  have hc4:cellsAt w4 ⟨q,0,none⟩ 3=some (shV (0,0,0)):=cellsAt_at hat4 0 3 (by simp[shV])
  refine gO1 hc4 ?_
  exact(ho1.nil ho2).trans ho4 fun y hy=>by simp only[lms]at hy;subst hy;exact .inr (by omega)
end
section
variable {s:HL} {a x:Int} {i j k:Nat}
theorem HL.Ok.sz (h:s.Ok) (hi:s.st.getD i 0=1):2≤s.size (2*i)∧((2*i:Nat):Int)+s.size (2*i)≤s.W.length∧s.size (2*i)%2=0∧ ∃r d k:Nat,validS (r,d,k)=true∧shapeN (s.W.getD (2*i+1) 0)=((r:Int),(d:Int),(k:Int))∧s.size (2*i)=wordsS (r,d,k):=by
 obtain⟨r,d,k,h1,h2,h3⟩:=h.fit i hi
 have e:s.size (2*i)=wordsS (r,d,k):=by unfold HL.size;rw[h2,shape_num h1]
 have:=words_le h1
 exact⟨by rw[e];omega,by rw[e];exact h3,by rw[e];omega,r,d,k,h1,by rw[h2];exact shape_num h1,e⟩
theorem find_of (h:s.Ok) (hj:s.st.getD j 0=1) {a:Nat} (h1:2*j≤a) (h2:(a:Int)<((2*j:Nat):Int)+s.size (2*j)):findO (some s) a=(2*(j:Int),0):=by
 obtain⟨g1,g2,g3,_⟩:=h.sz hj
 have hl:s.starts.lastO ((a:Int)/2+1) 1=some j:=by
  show lastI (fun k=>decide ((k:Int)<(a:Int)/2+1)&&decide (((s.st.getD k 0:Nat):Int)=1)) s.st.length=some j
  have hlt:j<s.st.length:=by
   rcases Nat.lt_or_ge j s.st.length with h'|h'
   ·exact h'
   ·rw[List.getD_eq_getElem?_getD,List.getElem?_eq_none h']at hj;simp at hj
  refine lastI_some ?_ hlt fun k hk1 hk2=>?_
  ·simp only[Bool.and_eq_true,decide_eq_true_eq];omega
  ·simp only[Bool.and_eq_false_iff,decide_eq_false_iff_not]
   by_cases hk:s.st.getD k 0=1
   ·have:=h.dj j k hj hk hk1
    left;omega
   ·right;omega
 simp only[findO,hl]
 rw[if_neg (by omega),if_neg (by omega)]
theorem HL.size_set (hk:2*i+1≠k):HL.size {s with W:=s.W.set k x} (2*i)=s.size (2*i):=by
 unfold HL.size
 simp only[List.getD_eq_getElem?_getD]
 rw[List.getElem?_set_ne (fun e=>hk e.symm)]
theorem HL.Ok.setW (h:s.Ok) (hk: ∀j,s.st.getD j 0=1→2*j+1≠k):HL.Ok {s with W:=s.W.set k x}:=by
 refine⟨h.b2,h.b64,by simpa using h.wl,h.sl,h.pl,fun i hi=>?_,fun i j hi hj hij=>?_⟩
 ·obtain⟨r,d,q,h1,h2,h3⟩:=h.fit i hi
  refine⟨r,d,q,h1,?_,by simpa using h3⟩
  simp only[List.getD_eq_getElem?_getD]at h2⊢
  rw[List.getElem?_set_ne (fun e=>hk i hi e.symm)];exact h2
 ·rw[HL.size_set (hk i hi)];exact h.dj i j hi hj hij
theorem HL.Ok.inside (h:s.Ok) (hi:s.st.getD i 0=1) (h1:2*i+2≤k) (h2:(k:Int)<((2*i:Nat):Int)+s.size (2*i)): ∀j,s.st.getD j 0=1→2*j+1≠k:=by
 intro j hj e
 rcases Nat.lt_trichotomy i j with hij|hij|hij
 ·have:=h.dj i j hi hj hij;omega
 ·subst hij;omega
 ·have:=h.dj j i hj hi hij
  have:=(h.sz hj).1
  omega
theorem tails_le (B:List (Int×Int)) (b:Nat): ∀f n,b+n≤B.length→b+tails B b f n≤B.length∧n≤tails B b f n
 |0,n,h=>⟨h,Nat.le_refl _⟩
 |f+1,n,h=>by
  unfold tails
  split
  ·rename_i hc
   have:=tails_le B b f (n+1) (by omega)
   omega
  ·exact⟨h,Nat.le_refl _⟩
theorem span_le {b:Nat} (h:b<s.B.length):b+s.span b≤s.B.length∧1≤s.span b:=by
 unfold HL.span
 split
 ·exact tails_le _ _ _ _ (by omega)
 ·omega
theorem fits_spec (h:s.Ok) {words but:Int} (hw:2≤words) (hw2:words%2=0) (hw3:words≤218) (hf:fitsE s a words but=0): ∃k:Nat,a=((2*k:Nat):Int)∧k<s.st.length∧a+words≤s.W.length∧
  (∀j,j<(words/2).toNat→takenB s a but j=false):=by
 unfold fitsE at hf
 have c1:argB s a=false:=by
  cases c:argB s a with
  |false=>rfl
  |true=>rw[if_pos c]at hf;cases hf
 rw[c1,if_neg (by simp)]at hf
 have c2:wrongB s a words=false:=by
  cases c:wrongB s a words with
  |false=>rfl
  |true=>rw[if_pos c]at hf;cases hf
 rw[c2,if_neg (by simp)]at hf
 have c3:(List.range ((words+1)/2).toNat).any (takenB s a but)=false:=by
  cases c:(List.range ((words+1)/2).toNat).any (takenB s a but)with
  |false=>rfl
  |true=>rw[if_pos c]at hf;cases hf
 have hsl:=h.sl
 have hwl:=h.wl
 simp only[argB,Bool.or_eq_false_iff,decide_eq_false_iff_not,Decidable.not_not]at c1
 refine⟨(a/2).toNat,by omega,by omega,?_,fun j hj=>?_⟩
 ·unfold wrongB at c2
  by_cases hw4:words≤32
  ·rw[if_pos hw4]at c2
   simp only[Bool.or_eq_false_iff,decide_eq_false_iff_not,Decidable.not_not]at c2
   omega
  ·rw[if_neg hw4]at c2
   simp only[Bool.or_eq_false_iff,decide_eq_false_iff_not,Decidable.not_not]at c2
   have:=span_le (s:=s) (b:=(a/64).toNat) (by omega)
   omega
 ·cases ht:takenB s a but j with
  |false=>rfl
  |true=>
   have:=List.any_eq_true.2 ⟨j,List.mem_range.2 (show j<((words+1)/2).toNat by omega),ht⟩
   rw[this]at c3;cases c3
theorem taken_none (hn:takenB s a (-1) j=false):(findO (some s) (a+2*(j:Int))).2≠0:=by
 intro e
 unfold takenB at hn
 rw[e]at hn
 simp only[beq_self_eq_true,Bool.true_and,bne_eq_false_iff_eq]at hn
 unfold findO at hn e
 simp only at hn e
 split at hn
 ·simp at hn
 ·rename_i h1
  rw[if_neg h1]at e
  split at hn
  ·simp at hn
  ·split at hn
   ·simp at hn
   ·simp only at hn;omega
theorem HL.Ok.place (h:s.Ok) {sh:Sh} {id:Int} {pl:IM} {born:Nat} (hv:validS sh=true) (hk:k<s.st.length) (hin:((2*k:Nat):Int)+wordsS sh≤s.W.length)
  (hfree: ∀j,j<(wordsS sh/2).toNat→takenB s ((2*k:Nat):Int) (-1) j=false):HL.Ok {s with W:=(s.W.set (2*k) id).set (2*k+1) (numS sh),st:=s.st.set k 1,pl:=pl,born:=born}:=by
 obtain⟨r,d,q⟩:=sh
 have hvv:=hv
 simp only[validS,Bool.and_eq_true,decide_eq_true_eq]at hvv
 obtain⟨r,rfl⟩: ∃n:Nat,r=n:=⟨r.toNat,by omega⟩
 obtain⟨d,rfl⟩: ∃n:Nat,d=n:=⟨d.toNat,by omega⟩
 obtain⟨q,rfl⟩: ∃n:Nat,q=n:=⟨q.toNat,by omega⟩
 have hw:=words_le hv
 -- no object has a word there
 have hno: ∀i,s.st.getD i 0=1→((2*i:Nat):Int)+s.size (2*i)≤((2*k:Nat):Int)∨((2*k:Nat):Int)+wordsS ((r:Int),(d:Int),(q:Int))≤((2*i:Nat):Int):=by
  intro i hi
  obtain⟨g1,g2,g3,_⟩:=h.sz hi
  by_cases c1:k≤i
  ·right
   refine Decidable.byContradiction fun c2=>?_
   have h1:=taken_none (hfree (i-k) (by omega))
   have e1:((2*k:Nat):Int)+2*((i-k:Nat):Int)=((2*i:Nat):Int):=by omega
   rw[e1,find_of h hi (Nat.le_refl _) (by omega)]at h1
   exact h1 rfl
  ·left
   refine Decidable.byContradiction fun c2=>?_
   have h1:=taken_none (hfree 0 (by omega))
   have e1:((2*k:Nat):Int)+2*((0:Nat):Int)=((2*k:Nat):Int):=by omega
   rw[e1,find_of h hi (by omega) (by omega)]at h1
   exact h1 rfl
 have hni:s.st.getD k 0≠1:=fun e=>by
  have:=hno k e
  have:=(h.sz e).1
  omega
 have hst: ∀i,(s.st.set k 1).getD i 0=1→i=k∨(i≠k∧s.st.getD i 0=1):=by
  intro i hi
  by_cases e:i=k
  ·exact .inl e
  ·refine .inr ⟨e,?_⟩
   simp only[List.getD_eq_getElem?_getD]at hi⊢
   rw[List.getElem?_set_ne (fun h=>e h.symm)]at hi;exact hi
 have hWk:((s.W.set (2*k) id).set (2*k+1) (numS ((r:Int),(d:Int),(q:Int)))).getD (2*k+1) 0=numS ((r:Int),(d:Int),(q:Int)):=by
  simp only[List.getD_eq_getElem?_getD]
  rw[List.getElem?_set_self (by simp;omega)];rfl
 have hWi: ∀i,i≠k→((s.W.set (2*k) id).set (2*k+1) (numS ((r:Int),(d:Int),(q:Int)))).getD (2*i+1) 0=s.W.getD (2*i+1) 0:=by
  intro i hi
  simp only[List.getD_eq_getElem?_getD]
  rw[List.getElem?_set_ne (by omega),List.getElem?_set_ne (by omega)]
 have hszk:HL.size {s with W:=(s.W.set (2*k) id).set (2*k+1) (numS ((r:Int),(d:Int),(q:Int))),st:=s.st.set k 1,pl:=pl,born:=born} (2*k)=wordsS ((r:Int),(d:Int),(q:Int)):=by
  unfold HL.size
  simp only
  rw[hWk,shape_num hv]
 have hszi: ∀i,i≠k→HL.size {s with W:=(s.W.set (2*k) id).set (2*k+1) (numS ((r:Int),(d:Int),(q:Int))),st:=s.st.set k 1,pl:=pl,born:=born} (2*i)=s.size (2*i):=by
  intro i hi
  unfold HL.size
  simp only
  rw[hWi i hi]
 refine⟨h.b2,h.b64,by simpa using h.wl,by simpa using h.sl,h.pl,fun i hi=>?_,fun i j hi hj hij=>?_⟩
 ·rcases hst i hi with rfl|⟨hne,hi'⟩
  ·exact⟨r,d,q,hv,hWk,by simpa using hin⟩
  ·obtain⟨r',d',q',h1,h2,h3⟩:=h.fit i hi'
   exact⟨r',d',q',h1,by rw[hWi i hne];exact h2,by simpa using h3⟩
 ·rcases hst i hi with rfl|⟨hne,hi'⟩
  ·rcases hst j hj with rfl|⟨hne',hj'⟩
   ·omega
   ·rw[hszk]
    have:=hno j hj'
    have:=(h.sz hj').1
    omega
  ·rw[hszi i hne]
   rcases hst j hj with rfl|⟨hne',hj'⟩
   ·have:=hno i hi'
    omega
   ·exact h.dj i j hi' hj' hij
theorem field_spec (h:s.Ok) {i:Int} {data:Bool} (hf:(fieldO (some s) x i data).2=0): ∃o k:Nat,x=((2*o:Nat):Int)∧s.st.getD o 0=1∧(fieldO (some s) x i data).1=(k:Int)∧2*o+2≤k∧(k:Int)<((2*o:Nat):Int)+s.size (2*o)∧k<s.W.length:=by
 unfold fieldO at hf⊢
 simp only at hf⊢
 by_cases c1:objE (some s) x≠0
 ·rw[if_pos c1]at hf;exact absurd hf c1
 ·rw[if_neg c1]at hf⊢
  have hh:hasO (some s) x=true:=by
   cases hh:hasO (some s) x with
   |true=>rfl
   |false=>simp[objE,hh]at c1
  simp only[hasO,Bool.and_eq_true,decide_eq_true_eq]at hh
  obtain⟨⟨h1,h2⟩,h3⟩:=hh
  change (if hasB s.st.length (x/2)=true then((s.st.getD (x/2).toNat 0:Nat):Int)else-1)=1 at h3
  have hst:s.st.getD (x/2).toNat 0=1:=by
   by_cases hb:hasB s.st.length (x/2)=true
   ·rw[if_pos hb]at h3;omega
   ·rw[if_neg hb]at h3;omega
  obtain⟨g1,g2,g3,r,d,k,g4,g5,g6⟩:=h.sz hst
  have hw:=words_le g4
  have e1:2*(x/2).toNat+1=x.toNat+1:=by omega
  rw[e1]at g5
  have e2:s.shapeAt x=((r:Int),(d:Int),(k:Int)):=g5
  rw[e2]at hf⊢
  simp only at hf⊢hw
  have hv:=g4
  simp only[validS,Bool.and_eq_true,decide_eq_true_eq]at hv
  cases data with
  |true=>
   simp only[cond_true]at hf⊢
   by_cases c2:i<0∨(d:Int)≤i
   ·rw[if_pos c2]at hf;cases hf
   ·rw[if_neg c2]
    exact⟨(x/2).toNat,(x+2+r+i).toNat,by omega,hst,by simp only;omega,by omega,by omega,by omega⟩
  |false=>
   simp only[cond_false]at hf⊢
   by_cases c2:i<0∨(r:Int)≤i
   ·rw[if_pos c2]at hf;cases hf
   ·rw[if_neg c2]
    exact⟨(x/2).toNat,(x+2+i).toNat,by omega,hst,by simp only;omega,by omega,by omega,by omega⟩
theorem newH_ok {n:Int} (h:newH n=some s):s.Ok:=by
 unfold newH at h
 split at h
 ·rename_i hn
  cases h
  have hz: ∀i,¬(List.replicate (32*n.toNat) 0).getD i 0=1:=by
   intro i
   simp only[List.getD_eq_getElem?_getD,List.getElem?_replicate]
   split<;>simp
  refine⟨by simp;omega,by simp;omega,by simp,by simp,by simp,fun i hi=>absurd hi (hz i),fun i j hi=>absurd hi (hz i)⟩
 ·cases h
end
section
set_option maxRecDepth 8000
variable {m:HO} {fp:List Nat} {b bf bl gB gW pb pg sb sg:Nat} {a:Option Addr} {w:World}
theorem hField (h:HR w a fp m) (x i:Int) (data:Bool) (hx:x≤4611686018427387904):Cs Tryz.prog 153 [.pointer a,.int .i64 x,.int .i64 i,.bool data] w fun v w'=>v=.tuple #[.int .i64 (fieldO m x i data).1,.int .i64 (fieldO m x i data).2]∧Only [] w w':=by
 refine enter_heap_Heap_field rfl ?_
 unfold x_heap_Heap_field
 refine gO ?_
 refine callT1 (hObject h x hx) fun w2 ho2=>?_
 by_cases he:objE m x=0
 rotate_left
 ·refine gO1 (bnt he) ?_
  have hsh:fieldO m x i data=(0,objE m x):=by
   cases m with
   |none=>rfl
   |some s=>simp only[fieldO,he,ne_eq,not_false_eq_true,if_true]
  rw[hsh]
  exact⟨rfl,ho2⟩
 match m,h with
 |none,_=>simp[objE]at he
 |some s,⟨b,h1,gB,gW,cB,cW,yB,yW,sb,sg,pb,pg,bl,bf,h2,h3⟩=>
  subst h1
  have hh:hasO (some s) x=true:=by
   cases hh:hasO (some s) x with
   |true=>rfl
   |false=>simp[objE,hh]at he
  obtain⟨o,rfl,hi⟩:=has_spec h3.ok hh
  obtain⟨g1,g2,r,d,k,g3,g4,g5,g6,g7,g8⟩:=h3.ok.start hi
  have h3':=h3.keep0 ho2
  have hl:=h3.ok.wl
  have hB:=h3.ok.b64
  have hv:=g3
  simp only[validS,Bool.and_eq_true,decide_eq_true_eq]at hv
  have e1:IntKind.i64.wrap (((2*o:Nat):Int)+1)=((2*o+1:Nat):Int):=i64_succ _ (by omega)
  have e2:(0:Int)≤((2*o+1:Nat):Int)∧((2*o+1:Nat):Int)<(s.W.length:Int):=⟨by omega,by omega⟩
  have hc:=h3'.wcell g2
  have hsa:s.shapeAt ((2*o:Nat):Int)=((r:Int),(d:Int),(k:Int)):=by unfold HL.shapeAt;rw[tnc];exact g8
  have e3:IntKind.i64.wrap (((2*o:Nat):Int)+2)=((2*o:Nat):Int)+2:=IntWalk.i64_in _ (by omega)
  have e4:IntKind.i64.wrap (((2*o:Nat):Int)+2+r)=((2*o:Nat):Int)+2+r:=IntWalk.i64_in _ (by omega)
  refine gJ5 (bnf he) h3'.hb.cell e1 (eq_true e2) hc ?_
  refine callT1 (hShapeN w2 _ (by rw[g4];exact g6) (by rw[g4];exact g7)) fun w3 ho3=>?_
  rw[g8]
  refine gO ?_
  refine boxT fun q w4 hq hs4 hat4 ho4=>?_
  refine gO ?_
  refine stNT (cs:=shV ((r:Int),(d:Int),(k:Int))) hat4 rfl (by simp) (shV_one _) fun w5 hs5 hat5 ho5=>?_
  rw[setL_sh]at hat5
  have ho:Only [] w w5:=((ho2.nil ho3).nil ho4).trans ho5 fun y hy=>by have:=ho2.size;have:=ho3.size;simp only[lms]at hy;subst hy;exact .inr (by omega)
  have c0:=hat5.cell 0
  have c1:=hat5.cell 1
  simp only[shV,List.getElem?_cons_zero,List.getElem?_cons_succ]at c0 c1
  have hfO:fieldO (some s) ((2*o:Nat):Int) i data=if i<0∨(bif data then(d:Int)else(r:Int))≤i then(0,1)else((bif data then((2*o:Nat):Int)+2+r else((2*o:Nat):Int)+2)+i,0):=by
   simp only[fieldO,he,ne_eq,not_true_eq_false,if_false,hsa]
  rw[hfO]
  cases data with
  |false=>
   simp only[cond_false]
   by_cases c2:i<0
   ·refine gO4 c0 c1 e3 (dtr c2) ?_
    rw[if_pos (.inl c2)]
    exact⟨rfl,ho.nil (Only.drew [] _)⟩
   ·by_cases c3:(r:Int)≤i
    ·refine gO5 c0 c1 e3 (dfl c2) (dtr c3) ?_
     rw[if_pos (.inr c3)]
     exact⟨rfl,ho.nil (Only.drew [] _)⟩
    ·have e5:IntKind.i64.wrap (((2*o:Nat):Int)+2+i)=((2*o:Nat):Int)+2+i:=IntWalk.i64_in _ (by omega)
     refine gO6 c0 c1 e3 (dfl c2) (dfl c3) e5 ?_
     rw[if_neg (by omega)]
     exact⟨rfl,ho.nil (Only.drew [] _)⟩
  |true=>
   simp only[cond_true]
   by_cases c2:i<0
   ·refine gO5 c0 c1 e3 e4 (dtr c2) ?_
    rw[if_pos (.inl c2)]
    exact⟨rfl,(ho.nil (Only.drew [] _)).nil (Only.drew [] _)⟩
   ·by_cases c3:(d:Int)≤i
    ·refine gO6 c0 c1 e3 e4 (dfl c2) (dtr c3) ?_
     rw[if_pos (.inr c3)]
     exact⟨rfl,(ho.nil (Only.drew [] _)).nil (Only.drew [] _)⟩
    ·have e5:IntKind.i64.wrap (((2*o:Nat):Int)+2+r+i)=((2*o:Nat):Int)+2+r+i:=IntWalk.i64_in _ (by omega)
     refine gO7 c0 c1 e3 e4 (dfl c2) (dfl c3) e5 ?_
     rw[if_neg (by omega)]
     exact⟨rfl,(ho.nil (Only.drew [] _)).nil (Only.drew [] _)⟩
theorem hRef (h:HR w a fp m) (x i:Int) (hx:x≤4611686018427387904):Cs Tryz.prog 73 [.pointer a,.int .i64 x,.int .i64 i] w fun v w'=>v=.tuple #[.int .i64 (refO m x i).1,.int .i64 (refO m x i).2]∧Only [] w w':=by
 refine enter_heap_Heap_Ref rfl ?_
 unfold x_heap_Heap_Ref
 refine gO ?_
 refine callT1 (hField h x i false hx) fun w2 ho2=>?_
 by_cases he:(fieldO m x i false).2=0
 rotate_left
 ·refine gO1 (bnt he) ?_
  have hsh:refO m x i=(0,(fieldO m x i false).2):=by
   cases m with
   |none=>rfl
   |some s=>simp only[refO,he,if_false]
  rw[hsh]
  exact⟨rfl,ho2⟩
 match m,h with
 |none,_=>simp[fieldO]at he
 |some s,⟨b,h1,gB,gW,cB,cW,yB,yW,sb,sg,pb,pg,bl,bf,h2,h3⟩=>
  subst h1
  obtain⟨o,k,rfl,g1,g2,g3,g4,g5⟩:=field_spec h3.ok he
  have h3':=h3.keep0 ho2
  have hsh:refO (some s) ((2*o:Nat):Int) i=(s.W.getD k 0,0):=by simp only[refO,he,if_true,g2,tnc]
  rw[hsh,g2]
  have e2:(0:Int)≤(k:Int)∧(k:Int)<(s.W.length:Int):=⟨by omega,by omega⟩
  have hc:=h3'.wcell g5
  refine gJ4 (bnf he) h3'.hb.cell (eq_true e2) hc ?_
  exact ho2
theorem ints_set {xs:List Int} {k:Nat} {x:Int} (rest:List Value) (h:k<xs.length):(ints xs++rest).set k (.int .i64 x)=ints (xs.set k x)++rest:=by
 rw[List.set_append_left _ _ (by simpa[ints]using h)]
 simp[ints,List.map_set]
theorem nd9 (h: [b,gB,gW,sb,sg,pb,pg,bl,bf].Nodup):(b≠gB∧b≠gW∧b≠sb∧b≠sg∧b≠pb∧b≠pg∧b≠bl∧b≠bf)∧(gB≠gW∧gB≠sb∧gB≠sg∧gB≠pb∧gB≠pg∧gB≠bl∧gB≠bf)∧(gW≠sb∧gW≠sg∧gW≠pb∧gW≠pg∧gW≠bl∧gW≠bf)∧(sb≠sg∧sb≠pb∧sb≠pg∧sb≠bl∧sb≠bf)∧(sg≠pb∧sg≠pg∧sg≠bl∧sg≠bf)∧(pb≠pg∧pb≠bl∧pb≠bf)∧(pg≠bl∧pg≠bf)∧bl≠bf:=by
 simp only[List.nodup_cons,List.mem_cons,List.not_mem_nil,or_false,not_or,List.nodup_nil,not_false_eq_true,and_true]at h
 exact h
theorem off1 {x y:Nat} (h:x≠y):x∉ [y]:=by simpa using h
theorem HMs.setW {w':World} {s:HL} {cB cW:Nat} {yB yW:List Value} (h:HMs w b s gB gW cB cW yB yW sb sg pb pg bl bf) {W':List Int} (hl:W'.length=s.W.length) (hok:HL.Ok {s with W:=W'}) (hat:At w' gW (ints W'++yW)) (ho:Only [gW] w w'):
  HMs w' b {s with W:=W'} gB gW cB cW yB yW sb sg pb pg bl bf:=by
 obtain⟨⟨n1,n2,n3,n4,n5,n6,n7,n8⟩,⟨m2,m3,m4,m5,m6,m7,m8⟩,⟨p3,p4,p5,p6,p7,p8⟩,_⟩:=nd9 h.nd
 refine⟨hok,?_,h.hB.keep ho (off1 m2),hat,h.cB,by simpa only[hl]using h.cW,h.hs.keep ho (off1 p3.symm) (off1 p4.symm),h.hp.keep ho (off1 p5.symm) (off1 p6.symm),h.hl.keep ho (off1 p7.symm),h.hf.keep ho (off1 p8.symm),h.nd⟩
 rw[show({s with W:=W'}:HL).W.length=s.W.length from hl]
 exact h.hb.keep ho (off1 n2)
theorem hSetRef (h:HR w a fp m) (x i to:Int) (hx:x≤4611686018427387904) (hto:to≤4611686018427387904):Cs Tryz.prog 66 [.pointer a,.int .i64 x,.int .i64 i,.int .i64 to] w fun v w'=>v=.int .i64 (setRefE m x i to)∧HR w' a fp (setRefM m x i to)∧Only fp w w':=by
 refine enter_heap_Heap_SetRef rfl ?_
 unfold x_heap_Heap_SetRef
 refine gO ?_
 refine callT1 (hField h x i false hx) fun w2 ho2=>?_
 by_cases he:(fieldO m x i false).2=0
 rotate_left
 ·refine gO1 (bnt he) ?_
  have hE:setRefE m x i to=(fieldO m x i false).2:=by
   cases m with
   |none=>rfl
   |some s=>simp only[setRefE,ne_eq,he,not_false_eq_true,if_true]
  have hM:setRefM m x i to=m:=by
   cases m with
   |none=>rfl
   |some s=>simp only[setRefM,hE,he,if_false]
  rw[hE,hM]
  exact⟨rfl,h.keep0 ho2,ho2.of_nil⟩
 match m,h with
 |none,_=>simp[fieldO]at he
 |some s,h0@⟨b,h1,gB,gW,cB,cW,yB,yW,sb,sg,pb,pg,bl,bf,h2,h3⟩=>
  subst h1
  have hnext:(to≠0→hasO (some s) to=true)→ ∀w3,Only [] w w3→setRefE (some s) x i to=0∧ ∃k:Nat,(fieldO (some s) x i false).1=k∧k<s.W.length∧setRefM (some s) x i to=some {s with W:=s.W.set k to}∧HL.Ok {s with W:=s.W.set k to}:=by
   intro hh w3 ho3
   obtain⟨o,k,rfl,g1,g2,g3,g4,g5⟩:=field_spec h3.ok he
   have hE:setRefE (some s) ((2*o:Nat):Int) i to=0:=by
    simp only[setRefE,he,ne_eq,not_true_eq_false,if_false]
    rw[if_neg]
    rintro⟨h4,h5⟩
    rw[hh h4]at h5;cases h5
   refine⟨hE,k,g2,g5,?_,h3.ok.setW (h3.ok.inside g1 g3 g4)⟩
   simp only[setRefM,hE,if_true,g2,tnc]
  have hstore: ∀(w3:World) (k:Nat),Only [] w w3→k<s.W.length→HL.Ok {s with W:=s.W.set k to}→ ∀w4,At w4 gW (ints (s.W.set k to)++yW)→Only [gW] w3 w4→HR w4 (some ⟨b,0,none⟩) fp (some {s with W:=s.W.set k to})∧Only fp w w4:=by
   intro w3 k ho3 hk hok w4 hat4 ho4
   refine⟨⟨b,rfl,gB,gW,cB,cW,yB,yW,sb,sg,pb,pg,bl,bf,h2,(h3.keep0 ho3).setW (by simp) hok hat4 ho4⟩,?_⟩
   exact(ho3.of_nil (T:=fp)).trans ho4 fun y hy=>by simp only[lms]at hy;subst hy;exact .inl (by rw[h2];simp)
  by_cases c0:to=0
  ·obtain⟨hE,k,g2,g5,hM,hok⟩:=hnext (fun h=>absurd c0 h) w2 ho2
   have h3':=h3.keep0 ho2
   have e2:(0:Int)≤(k:Int)∧(k:Int)<(s.W.length:Int):=⟨by omega,by omega⟩
   rw[hE,hM,g2]
   refine gJ4 (bnf he) (bnf c0) h3'.hb.cell (eq_true e2) ?_
   refine stT h3'.hW (by simp[ints];omega) rfl fun w4 hs4 hat4 ho4=>?_
   rw[ints_set yW g5]at hat4
   obtain⟨r1,r2⟩:=hstore w2 k ho2 g5 hok w4 hat4 ho4
   refine gO ?_
   exact⟨r1,r2⟩
  ·refine gO2 (bnf he) (bnt c0) ?_
   refine callT1 (hHas (h0.keep0 ho2) to hto) fun w3 ho3=>?_
   cases hh:hasO (some s) to with
   |false=>
    refine gO ?_
    have hE:setRefE (some s) x i to=1:=by
     simp only[setRefE,he,ne_eq,not_true_eq_false,if_false,c0,not_false_eq_true,hh,and_self,if_true]
    have hM:setRefM (some s) x i to=some s:=by
     simp only[setRefM,hE];rfl
    rw[hE,hM]
    exact⟨rfl,h0.keep0 (ho2.nil ho3),(ho2.nil ho3).of_nil⟩
   |true=>
    obtain⟨hE,k,g2,g5,hM,hok⟩:=hnext (fun _=>hh) w3 (ho2.nil ho3)
    have h3':=h3.keep0 (ho2.nil ho3)
    have e2:(0:Int)≤(k:Int)∧(k:Int)<(s.W.length:Int):=⟨by omega,by omega⟩
    rw[hE,hM,g2]
    refine gJ2 h3'.hb.cell (eq_true e2) ?_
    refine stT h3'.hW (by simp[ints];omega) rfl fun w4 hs4 hat4 ho4=>?_
    rw[ints_set yW g5]at hat4
    obtain⟨r1,r2⟩:=hstore w3 k (ho2.nil ho3) g5 hok w4 hat4 ho4
    refine gO ?_
    exact⟨r1,r2⟩
end
set_option maxRecDepth 8000
theorem lastI_spec {p:Nat→Bool}: ∀ {n i:Nat},lastI p n=some i→i<n∧p i=true
 |0,i,h=>by cases h
 |n+1,i,h=>by
  simp only[lastI]at h
  by_cases hp:p n=true
  ·rw[if_pos hp]at h;cases h;exact⟨Nat.lt_succ_self _,hp⟩
  ·rw[if_neg hp]at h
   have:=lastI_spec h
   exact⟨by omega,this.2⟩
theorem hFind {w:World} {a:Option Addr} {fp:List Nat} {m:HO} (h:HR w a fp m) (x:Int) (hx:x≤4611686018427387904):Cs Tryz.prog 223 [.pointer a,.int .i64 x] w fun v w'=>v=.tuple #[.int .i64 (findO m x).1,.int .i64 (findO m x).2]∧Only [] w w':=by
 refine enter_heap_Heap_Find rfl ?_
 unfold x_heap_Heap_Find
 refine gO ?_
 refine callT0 (hMade h) ?_
 match m,h with
 |none,_=>(repeat(first|with_reducible(first|refine nx ?_|refine r_6 rfl ?_)|simp only[go_sem]));exact⟨rfl,Only.refl _ _⟩
 |some s,⟨b,h1,gB,gW,cB,cW,yB,yW,sb,sg,pb,pg,bl,bf,h2,h3⟩=>
  subst h1
  by_cases c1:x<0
  ·refine gO1 (dtr c1) ?_
   exact⟨by simp[findO,c1],Only.refl _ _⟩
  by_cases c2:(s.W.length:Int)≤x
  ·refine gO3 (dfl c1) h3.hb.cell (dtr c2) ?_
   exact⟨by simp[findO,c2],Only.refl _ _⟩
  obtain⟨k,rfl⟩: ∃k:Nat,x=k:=⟨x.toNat,by omega⟩
  (repeat(first|with_reducible(first|refine nx ?_|refine r_6 rfl ?_)|simp only[go_sem,dfl c1,h3.hb.cell,dfl c2,tdiv2 k (by omega),i64_succ (k/2) (by omega)]))
  refine callT (Last_m (Tab.mk h3.hs) _ 1) ?_
  rintro r w2 ⟨rfl,ho2⟩
  have h3':=h3.keep0 ho2
  have hf:findO (some s) (k:Int)=match s.starts.lastO ((k/2+1:Nat):Int) 1 with
    |none=>(0,4)
    |some i=>if 2*(i:Int)+s.size (2*i)≤(k:Int)then(0,4)else(2*(i:Int),0):=by
   simp only[findO]
   rw[if_neg (by omega),show(k:Int)/2+1=((k/2+1:Nat):Int) by omega]
   all_goals(cases s.starts.lastO ((k/2+1:Nat):Int) 1<;>rfl)
  rw[hf]
  have hst:(some (1,s.st):MT)=s.starts:=rfl
  rw[hst]
  cases hl:s.starts.lastO ((k/2+1:Nat):Int) 1 with
  |none=>
   have e1:MT.err s.starts none=4:=rfl
   refine gO2 e1 (bnt (show¬(4:Int)=0 by omega)) ?_
   exact ho2
  |some i=>
   have e1:MT.err s.starts (some i)=0:=rfl
   have e0:optR (some i)=(i:Int):=rfl
   have hi:i<s.st.length∧s.st.getD i 0=1:=by
    have hl':lastI (fun j=>decide ((j:Int)<((k/2+1:Nat):Int))&&decide (((s.st.getD j 0:Nat):Int)=1)) s.st.length=some i:=hl
    obtain⟨g1,g2⟩:=lastI_spec hl'
    simp only[Bool.and_eq_true,decide_eq_true_eq]at g2
    exact⟨g1,by omega⟩
   have hsl:=h3.ok.sl
   have hB:=h3.ok.b64
   obtain⟨z1,z2,z3,_⟩:=h3.ok.sz hi.2
   have hwl:=h3.ok.wl
   have e2:IntKind.i64.wrap (2*(i:Int))=((2*i:Nat):Int):=by rw[show 2*(i:Int)=((2*i:Nat):Int) by omega];exact i64_of_nat _ (by omega)
   have e3:IntKind.i64.wrap (((2*i:Nat):Int)+s.size (2*i))=((2*i:Nat):Int)+s.size (2*i):=IntWalk.i64_in _ (by omega)
   refine gO4 e1 e0 (bnf (rfl:(0:Int)=0)) e2 ?_
   refine callT1 (hSize h3' hi.2) fun w3 ho3=>?_
   have e4:2*(i:Int)=((2*i:Nat):Int):=by omega
   by_cases c4:((2*i:Nat):Int)+s.size (2*i)≤(k:Int)
   ·refine gO2 e3 (dtr c4) ?_
    simp only[e4,if_pos c4]
    exact⟨by first|rfl|trivial,ho2.nil ho3⟩
   ·refine gO3 e3 (dfl c4) e2 ?_
    simp only[e4,if_neg c4]
    exact⟨by first|rfl|trivial,ho2.nil ho3⟩
section
set_option maxRecDepth 8000
variable {s:HL} {yB yW:List Value} {b bf bl cB cW gB gW pb pg sb sg:Nat} {w:World}
theorem hSpan (h:HMs w b s gB gW cB cW yB yW sb sg pb pg bl bf) (k:Nat) (hk:k<s.B.length):
  Cs Tryz.prog 218 [.pointer (some ⟨b,0,none⟩),.int .i64 (k:Int)] w fun v w'=>v=.int .i64 (s.span k:Nat)∧w'=w:=by
 have hB:=h.ok.b64
 have get: ∀j,j<s.B.length→(blkV s.B++yB)[j*2]? =some (.int .i64 (s.B.getD j (0,0)).1):=fun j hj=>by
  rw[List.getElem?_append_left (by rw[blkV_len];omega),Nat.mul_comm];exact(blkV_get hj).1
 have e1:(0:Int)≤(k:Int)∧(k:Int)<(s.B.length:Int):=⟨by omega,by omega⟩
 refine enter_heap_Heap_span rfl ?_
 unfold x_heap_Heap_span
 refine gO ?_
 refine run_loop (5::6::7::8::9::10::11::12::13::14::15::16::17::18::19::20::21::22::23::24::25::26::27::28::29::30::31::32::33::34::35::36::37::38::39::40::[]) (fun g w'=> ∃n:Nat,g 5=.int .i64 (n:Int)∧1≤n∧k+n≤s.B.length∧((s.B.getD k (0,0)).1=2→tails s.B k (s.B.length+1-n) n=tails s.B k s.B.length 1)∧((s.B.getD k (0,0)).1≠2→n=1)∧w'=w) (fun g _=>upTo (s.B.length+1) 5 g)
  ⟨1,by simp only[go_sem];rfl,by omega,by omega,fun _=>by rw[Nat.add_sub_cancel],fun _=>rfl,rfl⟩ fun g w1 hI hnext=>?_
 obtain⟨n,h5,hn1,hn2,ht,ht',rfl⟩:=hI
 have e2:IntKind.i64.wrap ((k:Int)+(n:Int))=((k+n:Nat):Int):=by rw[IntWalk.i64_in _ (by omega)];omega
 by_cases c1:(s.B.getD k (0,0)).1=2
 rotate_left
 ·(repeat(first|with_reducible(first|refine nx ?_|refine r_6 rfl ?_)|simp only[go_sem,h.hb.cell,h.hB.cell,if_pos e1,tnc,get k hk,bqf c1,h5]))
  have:s.span k=1:=by unfold HL.span;rw[if_neg c1]
  rw[this,ht' c1]
 have ht:=ht c1
 have hsp:s.span k=tails s.B k s.B.length 1:=by unfold HL.span;rw[if_pos c1]
 obtain⟨f,hf⟩: ∃f,s.B.length+1-n=f+1:=⟨s.B.length-n,by omega⟩
 rw[hf,tails]at ht
 by_cases c2:k+n<s.B.length
 rotate_left
 ·rw[if_neg (fun h=>c2 h.1)]at ht
  (repeat(first|with_reducible(first|refine nx ?_|refine r_6 rfl ?_)|simp only[go_sem,h.hb.cell,h.hB.cell,if_pos e1,tnc,get k hk,bqt c1,h5,e2,dfl (show¬((k+n:Nat):Int)<(s.B.length:Int) by omega)]))
  rw[hsp,ht]
 have e3:(0:Int)≤((k+n:Nat):Int)∧((k+n:Nat):Int)<(s.B.length:Int):=⟨by omega,by omega⟩
 by_cases c3:(s.B.getD (k+n) (0,0)).1=3
 rotate_left
 ·rw[if_neg (fun h=>c3 h.2)]at ht
  (repeat(first|with_reducible(first|refine nx ?_|refine r_6 rfl ?_)|simp only[go_sem,h.hb.cell,h.hB.cell,if_pos e1,if_pos e3,tnc,get k hk,get (k+n) c2,bqt c1,h5,e2,dtr e3.2,bqf c3]))
  rw[hsp,ht]
 rw[if_pos ⟨c2,c3⟩]at ht
 (repeat(first|with_reducible(first|refine nx ?_|refine r_6 rfl ?_)|simp only[go_sem,h.hb.cell,h.hB.cell,if_pos e1,if_pos e3,tnc,get k hk,get (k+n) c2,bqt c1,h5,e2,dtr e3.2,bqt c3,i64_succ n (by omega)]))
 refine hnext _ w1 ⟨n+1,?_,by omega,by omega,fun _=>?_,fun h=>absurd c1 h,rfl⟩ ?_
 ·simp only[go_sem]
 ·rw[show s.B.length+1-(n+1)=f by omega];exact ht
 ·exact up_lt h5
theorem hFitsG (h3:HMs w b s gB gW cB cW yB yW sb sg pb pg bl bf) (x words but:Int) (hx:x≤4611686018427387904) (w2:2≤words) (w218:words≤218) (we:words%2=0):Cs Tryz.prog 149 [.pointer (some ⟨b,0,none⟩),.int .i64 x,.int .i64 words,.int .i64 but] w fun v w'=>v=.int .i64 (fitsE s x words but)∧Only [] w w':=by
 refine enter_heap_Heap_fits rfl ?_
 unfold x_heap_Heap_fits
 by_cases c1:x<0
 ·refine gO1 (dtr c1) ?_
  exact⟨by simp[fitsE,argB,c1],Only.refl _ _⟩
 by_cases c2:(s.W.length:Int)≤x
 ·refine gO3 (dfl c1) h3.hb.cell (dtr c2) ?_
  exact⟨by simp[fitsE,argB,c2],Only.refl _ _⟩
 obtain⟨k,rfl⟩: ∃k:Nat,x=k:=⟨x.toNat,by omega⟩
 by_cases c3:k%2=0
 rotate_left
 ·(repeat(first|with_reducible(first|refine nx ?_|refine r_6 rfl ?_)|simp only[go_sem,dfl c1,h3.hb.cell,dfl c2,tmod2 k,bnt (show¬((k%2:Nat):Int)=0 by omega)]))
  exact⟨by simp[fitsE,argB,show¬(k:Int)%2=0 by omega],Only.refl _ _⟩
 have hA:argB s (k:Int)=false:=by simp[argB];omega
 have hwl:=h3.ok.wl
 have hB:=h3.ok.b64
 have t64: ∀n:Nat,n≤4611686018427387904→IntKind.i64.wrap ((n:Int).tdiv 64)=((n/64:Nat):Int):=fun n hn=>tdiv64 n hn
 have hkB:k/64<s.B.length:=by omega
 have e1:(0:Int)≤((k/64:Nat):Int)∧((k/64:Nat):Int)<(s.B.length:Int):=⟨by omega,by omega⟩
 have e2:(blkV s.B++yB)[k/64*2]? =some (.int .i64 (s.B.getD (k/64) (0,0)).1):=by
  rw[List.getElem?_append_left (by rw[blkV_len];omega),Nat.mul_comm];exact(blkV_get hkB).1
 obtain⟨wn,rfl⟩: ∃n:Nat,words=n:=⟨words.toNat,by omega⟩
 have e3:IntKind.i64.wrap ((k:Int)+(wn:Int))=(k:Int)+(wn:Int):=IntWalk.i64_in _ (by omega)
 have e4:IntKind.i64.wrap ((k:Int)+(wn:Int)-1)=((k+wn-1:Nat):Int):=by rw[IntWalk.i64_in _ (by omega)];omega
 have e5:IntKind.i64.wrap (IntKind.i64.wrap ((wn:Int)+64)-1)=((wn+63:Nat):Int):=by rw[IntWalk.i64_in ((wn:Int)+64) (by omega),IntWalk.i64_in _ (by omega)];omega
 have hb:s.b ((k:Int)/64)=s.B.getD (k/64) (0,0):=by unfold HL.b;congr 1
 have k64:((k:Int)/64).toNat=k/64:=by omega
 have hwE:wrongB s (k:Int) (wn:Int)=true→fitsE s (k:Int) (wn:Int) but=5:=fun h=>by unfold fitsE;rw[hA,if_neg (by simp),if_pos h]
 have hfE:wrongB s (k:Int) (wn:Int)=false→fitsE s (k:Int) (wn:Int) but=if(List.range (wn/2)).any (takenB s (k:Int) but)=true then 8 else 0:=fun h=>by
  unfold fitsE
  rw[hA,if_neg (by simp),h,if_neg (by simp),show(((wn:Int)+1)/2).toNat=wn/2 by omega]
 (repeat(first|with_reducible(first|refine r_1 ?_|refine r_2 ?_|refine r_3 ?_|refine r_4 ?_|refine r_5 ?_|refine r_6 rfl ?_)|simp only[go_sem,dfl c1,h3.hb.cell,dfl c2,tmod2 k,bnf (show((k%2:Nat):Int)=0 by omega)]))
 refine run_condT ?_
 simp only[go_sem]
 refine run_skip (run_seq (run_reg ?_))
 simp only[go_sem,t64 k (by omega)]
 refine run_seq ?_
 refine run_cut (31::32::33::34::35::36::37::38::39::40::41::42::43::44::45::46::47::48::49::50::51::52::53::54::55::56::57::58::59::60::61::62::63::64::65::66::67::68::69::70::71::72::73::74::75::[]) (fun _ w'=>w'=w∧wrongB s (k:Int) (wn:Int)=false) (fun kk hkk=>?_) (fun g w' hJ=>?_)
 ·by_cases c32:(wn:Int)≤32
  ·by_cases c4:(s.B.getD (k/64) (0,0)).1=1
   rotate_left
   ·refine gJ6 (dtr c32) h3.hb.cell h3.hB.cell (eq_true e1) e2 (bnt c4) ?_
    refine⟨?_,Only.refl _ _⟩
    rw[hwE]
    unfold wrongB;rw[if_pos c32,hb,dtr (show(s.B.getD (k/64) (0,0)).1≠1 from c4)];rfl
   by_cases c5:(k+wn-1)/64=k/64
   rotate_left
   ·(repeat(first|with_reducible(first|refine nx ?_|refine r_6 rfl ?_)|simp only[go_sem,dtr c32,h3.hb.cell,h3.hB.cell,if_pos e1,tnc,e2,bnf c4,e3,e4,t64 (k+wn-1) (by omega),bnt (show¬(((k+wn-1)/64:Nat):Int)=((k/64:Nat):Int) by omega)]))
    refine⟨?_,Only.refl _ _⟩
    rw[hwE]
    unfold wrongB;rw[if_pos c32]
    have:((k:Int)+(wn:Int)-1)/64≠(k:Int)/64:=by omega
    simp[this]
   (repeat(first|with_reducible(first|refine nx ?_|refine r_6 rfl ?_)|simp only[go_sem,dtr c32,h3.hb.cell,h3.hB.cell,if_pos e1,tnc,e2,bnf c4,e3,e4,t64 (k+wn-1) (by omega),bnf (show(((k+wn-1)/64:Nat):Int)=((k/64:Nat):Int) by omega)]))
   refine hkk _ _ ⟨rfl,?_⟩
   ·unfold wrongB;rw[if_pos c32,hb]
    rw[dfl (show¬(s.B.getD (k/64) (0,0)).1≠1 from fun h=>h c4),dfl (show¬((k:Int)+(wn:Int)-1)/64≠(k:Int)/64 by omega)];rfl
  ·by_cases c4:(s.B.getD (k/64) (0,0)).1=2
   rotate_left
   ·refine gJ6 (dfl c32) h3.hb.cell h3.hB.cell (eq_true e1) e2 (bnt c4) ?_
    refine⟨?_,Only.refl _ _⟩
    rw[hwE]
    unfold wrongB;rw[if_neg c32,hb,dtr (show(s.B.getD (k/64) (0,0)).1≠2 from c4)];rfl
   by_cases c5:k%64=0
   rotate_left
   ·(repeat(first|with_reducible(first|refine nx ?_|refine r_6 rfl ?_)|simp only[go_sem,dfl c32,h3.hb.cell,h3.hB.cell,if_pos e1,tnc,e2,bnf c4,tmod64 k,bnt (show¬((k%64:Nat):Int)=0 by omega)]))
    refine⟨?_,Only.refl _ _⟩
    rw[hwE]
    unfold wrongB;rw[if_neg c32]
    have:(k:Int)%64≠0:=by omega
    simp[this]
   (repeat(first|with_reducible(first|refine nx ?_|refine r_6 rfl ?_)|simp only[go_sem,dfl c32,h3.hb.cell,h3.hB.cell,if_pos e1,tnc,e2,bnf c4,tmod64 k,bnf (show((k%64:Nat):Int)=0 by omega)]))
   refine callT0 (hSpan h3 (k/64) hkB) ?_
   by_cases c6:s.span (k/64)=(wn+63)/64
   rotate_left
   ·(repeat(first|with_reducible(first|refine nx ?_|refine r_6 rfl ?_)|simp only[go_sem,e5,t64 (wn+63) (by omega),bnt (show¬((s.span (k/64):Nat):Int)=(((wn+63)/64:Nat):Int) by omega)]))
    refine⟨?_,Only.refl _ _⟩
    rw[hwE]
    unfold wrongB;rw[if_neg c32,k64]
    have:((s.span (k/64):Nat):Int)≠((wn:Int)+63)/64:=by omega
    simp[this]
   (repeat(first|with_reducible(first|refine nx ?_|refine r_6 rfl ?_)|simp only[go_sem,e5,t64 (wn+63) (by omega),bnf (show((s.span (k/64):Nat):Int)=(((wn+63)/64:Nat):Int) by omega)]))
   refine hkk _ _ ⟨rfl,?_⟩
   ·unfold wrongB;rw[if_neg c32,hb,k64]
    rw[dfl (show¬(s.B.getD (k/64) (0,0)).1≠2 from fun h=>h c4),dfl (show¬(k:Int)%64≠0 by omega),dfl (show¬((s.span (k/64):Nat):Int)≠((wn:Int)+63)/64 by omega)];rfl
 obtain⟨e,hW⟩:=hJ
 subst e
 rw[hfE hW]
 refine gO ?_
 refine run_loop (10::11::12::76::77::78::79::80::81::82::83::84::85::86::87::88::89::90::91::92::93::94::95::[]) (fun g w1=> ∃j:Nat,g 10=.int .i64 ((k+2*j:Nat):Int)∧j≤wn/2∧(∀i,i<j→takenB s (k:Int) but i=false)∧Only [] w' w1) (fun g _=>upTo (k+wn+1) 10 g)
  ⟨0,by simp only[go_sem];rfl,by omega,by omega,Only.refl _ _⟩ fun g w1 hI hnext=>?_
 obtain⟨j,h10,hj,hno,ho⟩:=hI
 refine gO2 h10 e3 ?_
 refine condT (fun hlt=>?_) (fun hge=>?_)
 ·have hlt:k+2*j<k+wn:=by
   have:((k+2*j:Nat):Int)<(k:Int)+(wn:Int):=by simpa using hlt
   omega
  refine gO1 h10 ?_
  refine callT (hFind (m:=some s) ⟨b,rfl,gB,gW,cB,cW,yB,yW,sb,sg,pb,pg,bl,bf,rfl,h3.keep0 ho⟩ ((k+2*j:Nat):Int) (by omega)) ?_
  rintro r w3 ⟨rfl,ho3⟩
  have ht:takenB s (k:Int) but j=((findO (some s) ((k+2*j:Nat):Int)).2==0&&(findO (some s) ((k+2*j:Nat):Int)).1 !=but):=by
   unfold takenB
   rw[show(k:Int)+2*(j:Int)=((k+2*j:Nat):Int) by omega]
  have e5:IntKind.i64.wrap (((k+2*j:Nat):Int)+2)=((k+2*(j+1):Nat):Int):=by rw[IntWalk.i64_in _ (by omega)];omega
  have hgo:takenB s (k:Int) but j=false→ ∀i,i<j+1→takenB s (k:Int) but i=false:=fun h i hi=>by
   by_cases e:i=j
   ·subst e;exact h
   ·exact hno i (by omega)
  generalize findO (some s) ((k+2*j:Nat):Int)=fo at*
  obtain⟨o,e⟩:=fo
  simp only at ht
  by_cases c6:e=0
  ·by_cases c7:o=but
   ·refine gO4 h10 (bqt c6) (bnf c7) e5 ?_
    refine hnext _ w3 ⟨j+1,?_,by omega,hgo (by rw[ht,c6,c7];simp),ho.nil ho3⟩ ?_
    ·simp only[go_sem]
    ·rw[upTo_int h10,upTo_int (k:=.i64) (i:=k+2*(j+1)) (by simp only[go_sem])];omega
   ·refine gO3 h10 (bqt c6) (bnt c7) ?_
    refine⟨?_,ho.nil ho3⟩
    rw[if_pos]
    exact List.any_eq_true.2 ⟨j,List.mem_range.2 (by omega),by rw[ht,c6];simp[c7]⟩
  ·refine gO3 h10 (bqf c6) e5 ?_
   refine hnext _ w3 ⟨j+1,?_,by omega,hgo (by rw[ht];simp[c6]),ho.nil ho3⟩ ?_
   ·simp only[go_sem]
   ·rw[upTo_int h10,upTo_int (k:=.i64) (i:=k+2*(j+1)) (by simp only[go_sem])];omega
 ·have hge: ¬k+2*j<k+wn:=by
   have: ¬((k+2*j:Nat):Int)<(k:Int)+(wn:Int):=by simpa using hge
   omega
  refine gO ?_
  refine⟨?_,ho⟩
  rw[if_neg]
  intro hany
  obtain⟨i,hi,hi2⟩:=List.any_eq_true.1 hany
  rw[hno i (by have:=List.mem_range.1 hi;omega)]at hi2
  cases hi2
end
section
set_option maxRecDepth 8000
variable {m:HO} {fp:List Nat} {a:Option Addr} {w:World}
theorem hPlaceG (h:HR w a fp m) (x:Int) (sh:Sh) (hx:x≤4611686018427387904) (hborn: ∀s,m=some s→s.born≤4611686018427387900):
  Cs Tryz.prog 65 [.pointer a,.int .i64 x,.agg ⟨shV sh⟩] w fun v w'=>v=.tuple #[.int .i64 (placeR m x sh).1,.int .i64 (placeR m x sh).2]∧HR w' a fp (placeM m x sh)∧Only fp w w':=by
 refine enter_heap_Heap_Place rfl ?_
 unfold x_heap_Heap_Place
 refine gO ?_
 refine boxT fun q w1 hq hs1 hat1 ho1=>?_
 refine gO ?_
 refine callT0 (hMade (h.keep0 ho1)) ?_
 match m,h with
 |none,h=>(repeat(first|with_reducible(first|refine nx ?_|refine r_6 rfl ?_)|simp only[go_sem]));exact⟨rfl,h.keep0 ho1,ho1.of_nil⟩
 |some s,h0@⟨b,h1,gB,gW,cB,cW,yB,yW,sb,sg,pb,pg,bl,bf,h2,h3⟩=>
  subst h1
  have hc1:cellsAt w1 ⟨q,0,none⟩ 3=some (shV sh):=cellsAt_at hat1 0 3 (by simp[shV])
  refine gO1 hc1 ?_
  refine callT1 (hValid w1 sh) fun w2 ho2=>?_
  have hc2:cellsAt w2 ⟨q,0,none⟩ 3=some (shV sh):=cellsAt_at (hat1.keep0 ho2) 0 3 (by simp[shV])
  cases hv:validS sh with
  |false=>
   refine gO ?_
   have hR:placeR (some s) x sh=(0,2):=by simp[placeR,hv]
   have hM:placeM (some s) x sh=some s:=by unfold placeM;simp only[hR];rfl
   rw[hR,hM]
   exact⟨rfl,HR.keep0 (m:=some s) h0 (ho1.nil ho2),(ho1.nil ho2).of_nil⟩
  |true=>
   refine gO1 hc2 ?_
   refine callT1 (hWords w2 sh) fun w3 ho3=>?_
   have hw:=words_le hv
   have o3:=(ho1.nil ho2).nil ho3
   refine gO ?_
   refine callT1 (hFitsG (h3.keep0 o3) x (wordsS sh) (-1) hx hw.1 hw.2.1 hw.2.2.1) fun w4 ho4=>?_
   have o4:=o3.nil ho4
   by_cases he:fitsE s x (wordsS sh) (-1)=0
   rotate_left
   ·refine gO1 (bnt he) ?_
    have hR:placeR (some s) x sh=(0,fitsE s x (wordsS sh) (-1)):=by simp[placeR,hv,he]
    have hM:placeM (some s) x sh=some s:=by unfold placeM;simp only[hR,he,if_false]
    rw[hR,hM]
    exact⟨rfl,HR.keep0 (m:=some s) h0 o4,o4.of_nil⟩
   obtain⟨k,rfl,hk,hin,hfree⟩:=fits_spec h3.ok hw.1 hw.2.2.1 hw.2.1 he
   have hR:placeR (some s) ((2*k:Nat):Int) sh=(((s.born+1:Nat):Int),0):=by
    unfold placeR
    simp only[hv,he,Bool.true_eq_false,if_false,ne_eq,not_true_eq_false]
   have hM:placeM (some s) ((2*k:Nat):Int) sh=some {s with W:=(s.W.set (2*k) ((s.born+1:Nat):Int)).set (2*k+1) (numS sh),st:=s.st.set k 1,pl:=putM s.pl ((s.born+1:Nat):Int) (.int .i64 ((2*k:Nat):Int)),born:=s.born+1}:=by
    unfold placeM
    simp only[hR,if_true,tnc,Nat.mul_div_cancel_left k (show 0<2 by omega)]
   have hok:=h3.ok.place (id:=((s.born+1:Nat):Int)) (pl:=putM s.pl ((s.born+1:Nat):Int) (.int .i64 ((2*k:Nat):Int))) (born:=s.born+1) hv hk hin hfree
   rw[hR,hM]
   have hbn:=hborn s rfl
   have h4:=h3.keep0 o4
   have hz4:=o4.size
   have hlt:=h3.lt
   obtain⟨⟨n1,n2,n3,n4,n5,n6,n7,n8⟩,⟨m2,m3,m4,m5,m6,m7,m8⟩,⟨p3,p4,p5,p6,p7,p8⟩,⟨r4,r5,r6,r7,r8⟩,⟨t5,t6,t7,t8⟩,⟨u6,u7,u8⟩,⟨v7,v8⟩,y8⟩:=nd9 h3.nd
   have hqn: ∀z,z∈[b,gB,gW,sb,sg,pb,pg,bl,bf]→z≠q:=fun z hz e=>by have:=hlt z hz;omega
   have e1:IntKind.i64.wrap ((s.born:Int)+1)=((s.born+1:Nat):Int):=i64_succ _ (by omega)
   refine gO3 (bnf he) h4.hb.cell e1 ?_
   refine stT h4.hb (by simp) rfl fun w5 hs5 hb5 ho5=>?_
   simp only[List.set_cons_zero,List.set_cons_succ]at hb5
   have hat5:At w5 q (shV sh):=((hat1.keep0 ((ho2.nil ho3).nil ho4))).keep ho5 (off1 (hqn b (by simp)).symm)
   have hW5:=h4.hW.keep ho5 (off1 n2.symm)
   have hc5:cellsAt w5.drew ⟨q,0,none⟩ 3=some (shV sh):=cellsAt_at hat5.drew 0 3 (by simp[shV])
   have hsl:=h3.ok.sl
   have hwl:=h3.ok.wl
   have hB64:=h3.ok.b64
   have e2:IntKind.i64.wrap (((2*k:Nat):Int)+1)=((2*k+1:Nat):Int):=i64_succ _ (by omega)
   have c1:(0:Int)≤((2*k:Nat):Int)∧((2*k:Nat):Int)<(s.W.length:Int):=⟨by omega,by omega⟩
   have c2:(0:Int)≤((2*k+1:Nat):Int)∧((2*k+1:Nat):Int)<(s.W.length:Int):=⟨by omega,by omega⟩
   refine gO ?_
   refine run_drt [b,q] ?_
   refine gO4 hb5.cell hb5.drew.cell hc5 e2 ?_
   have hb5':=hb5.lt
   have hq5':=hat5.lt
   refine callS1 (hNumber w5.drew sh hv) (.inr ⟨SB.refl _ _,fun z hz=>⟨?_,by simp⟩⟩) fun w6 ho6=>?_
   ·simp only[List.mem_cons,List.not_mem_nil,or_false]at hz
    show z<w5.heap.size
    rcases hz with rfl|rfl
    ·exact hb5'
    ·exact hq5'
   have hW6:=hW5.drew.keep0 ho6
   refine gJ2 (eq_true c1) (eq_true c2) ?_
   refine stS hW6 (by simp[ints];omega) rfl fun w7 hs7 hW7 ho7=>⟨.inl rfl,?_⟩
   rw[ints_set yW (by omega)]at hW7
   refine gJ1 (eq_true c2) ?_
   refine stS hW7 (by simp[ints];omega) rfl fun w8 hs8 hW8 ho8=>⟨.inl rfl,?_⟩
   rw[ints_set yW (by simp;omega)]at hW8
   have o8:Only [gW] w5 w8:=(((Only.drew [] w5).nil ho6).of_nil (T:=[gW])).same (ho7.same ho8)
   have hb8:=hb5.keep o8 (off1 n2)
   have hs8':=(h4.hs.keep ho5 (off1 n3.symm) (off1 n4.symm)).keep o8 (off1 p3.symm) (off1 p4.symm)
   have e3:IntKind.i64.wrap (((2*k:Nat):Int).tdiv 2)=(k:Int):=by rw[tdiv2 _ (by omega)];omega
   refine gO2 hb8.cell e3 ?_
   refine callT (Set_m (Tab.mk hs8') (k:Int) 1) ?_
   rintro r w9 ⟨rfl,htab9,ho9⟩
   have hchk:MT.check (some (1,s.st)) (k:Int) [1]=0:=by
    have h1:hasB s.st.length (k:Int)=true:=hasB_of hk
    simp only[MT.check,h1]
    rfl
   have hsetM:MT.setM (some (1,s.st)) (k:Int) 1=some (1,s.st.set k 1):=by
    simp only[MT.setM,hchk,if_true,tnc];rfl
   rw[hsetM]at htab9
   obtain⟨sb',sg',g1,g2,hs9⟩:=htab9
   cases g2
   have o9:Only [sb,sg] w8 w9:=ho9
   have off2: ∀ {z:Nat},z≠sb→z≠sg→z∉ [sb,sg]:=fun h1 h2=>by simpa using⟨h1,h2⟩
   have hb9:=hb8.keep o9 (off2 n3 n4)
   have hl9:=((h4.hl.keep ho5 (off1 n7.symm)).keep o8 (off1 p7.symm)).keep o9 (off2 r7.symm t7.symm)
   refine gO2 hb9.cell hb9.drew.cell ?_
   refine mputT Tryz.underlying67 Tryz.underlying3 (hl9.keep0 (Only.drew [] w9)) fun w10 hs10 hl10 ho10=>?_
   have o10:Only [bl] w9 w10:=((Only.drew [] w9).of_nil (T:=[bl])).same ho10
   have hb10:=hb9.keep o10 (off1 n7)
   refine gO1 hb10.cell ?_
   refine⟨⟨b,rfl,gB,gW,cB,cW,yB,yW,sb,sg,pb,pg,bl,bf,h2,⟨hok,?_,?_,?_,h3.cB,by simpa using h3.cW,?_,?_,hl10,?_,h3.nd⟩⟩,?_⟩
   ·simpa using hb10
   ·exact(((h4.hB.keep ho5 (off1 n1.symm)).keep o8 (off1 m2)).keep o9 (off2 m3 m4)).keep o10 (off1 m7)
   ·exact(hW8.keep o9 (off2 p3 p4)).keep o10 (off1 p7)
   ·exact hs9.keep o10 (off1 r7) (off1 t7)
   ·exact(((h4.hp.keep ho5 (off1 n5.symm) (off1 n6.symm)).keep o8 (off1 p5.symm) (off1 p6.symm)).keep o9 (off2 r5.symm t5.symm) (off2 r6.symm t6.symm)).keep o10 (off1 u7) (off1 v7)
   ·exact(((h4.hf.keep ho5 (off1 n8.symm)).keep o8 (off1 p8.symm)).keep o9 (off2 r8.symm t8.symm)).keep o10 (off1 y8.symm)
   ·have f: ∀z,z∈[b,gB,gW,sb,sg,pb,pg,bl,bf]→z∈fp:=fun z hz=>by rw[h2];exact hz
    refine((((o4.of_nil (T:=fp)).trans ho5 fun z hz=>.inl (f z ?_)).trans o8 fun z hz=>.inl (f z ?_)).trans o9 fun z hz=>.inl (f z ?_)).trans o10 fun z hz=>.inl (f z ?_)
    all_goals(simp only[List.mem_cons,List.not_mem_nil,or_false]at hz⊢;omega)
theorem hPlace (h:HR w a fp m) (x:Int) (sh:Sh) (hx:x≤4611686018427387904) (hsm:wordsS sh≤32) (hborn: ∀s,m=some s→s.born≤4611686018427387900):
  Cs Tryz.prog 65 [.pointer a,.int .i64 x,.agg ⟨shV sh⟩] w fun v w'=>v=.tuple #[.int .i64 (placeR m x sh).1,.int .i64 (placeR m x sh).2]∧HR w' a fp (placeM m x sh)∧Only fp w w':=hPlaceG h x sh hx hborn
end
section
variable {s:HL} {m:HO} {B B' xs:List (Int×Int)} {fp:List Nat} {cs:List Value} {cap g i o:Nat} {a:Option Addr} {w:World}
def bV (x:Int×Int):List Value:=[.int .i64 x.1,.int .i64 x.2]
theorem hBusy (w:World) (x:Int×Int):Cs Tryz.prog 222 [.agg ⟨bV x⟩] w fun v w'=>v=.bool (x !=(0,0))∧Only [] w w':=by
 obtain⟨a,b⟩:=x
 refine enter_heap_Heap_claim_1 rfl ?_
 unfold x_heap_Heap_claim_1
 refine gO ?_
 refine boxT fun q w1 hq hs1 hat ho1=>?_
 have hc:cellsAt w1 ⟨q,0,none⟩ 2=some (bV (a,b)):=cellsAt_at hat 0 2 (by simp[bV])
 have e1:eqAO true 2 (.agg ⟨bV (a,b)⟩) (.agg ⟨[.int .i64 0,.int .i64 0]⟩)=some (.bool ((a,b) !=((0,0):Int×Int))):=by
  unfold bV
  rw[eqAO_a true 2 _ _ rfl rfl]
  simp only[eqCells_cons,eqCells_nil]
  have e:((a,b) !=((0,0):Int×Int))=!(a==0&&b==0):=by
   rw[Bool.eq_iff_iff]
   simp only[bne_iff_ne,ne_eq,Prod.mk.injEq,Bool.not_eq_true',Bool.and_eq_false_iff,beq_eq_false_iff_ne]
   omega
  rw[e]
  by_cases h1:a=0<;>by_cases h2:b=0<;>simp[h1,h2,notO_some]
 refine gO2 hc e1 ?_
 exact ho1
theorem hIdxB (hat : At w g cs) (hlen : xs.length ≤ 1000) (hcs : ∀ i, i < xs.length → o + i * 2 + 2 ≤ cs.length ∧ (cs.drop (o + i * 2)).take 2 = bV (xs.getD i (0, 0))) :
    Cs Tryz.prog 260 [.slice (some ⟨g, o, none⟩) xs.length cap, .func (.func 222) #[] #[]] w fun v w' => (∃ k : Int, v = .int .i64 k ∧ decide (0 ≤ k) = xs.any (· != (0, 0))) ∧ Only [] w w' := by
  refine enter_slices_IndexFunc___heap_block_heap_block_ rfl ?_
  unfold x_slices_IndexFunc___heap_block_heap_block_
  refine gO ?_
  refine run_loop (5 :: 8 :: 9 :: 10 :: 11 :: 12 :: 13 :: 14 :: 15 :: 16 :: 17 :: 18 :: []) (fun g w' => ∃ i : Nat, g 8 = .int .i64 i ∧ i ≤ xs.length ∧ (xs.take i).any (· != (0, 0)) = false ∧ Only [] w w') (fun g _ => upTo xs.length 8 g) ⟨0, by simp only [go_sem]; rfl, by omega, by simp, Only.refl _ _⟩ fun g8 w' hI hnext => ?_
  obtain ⟨i, h8, hi, hany, ho⟩ := hI
  refine gO1 h8 ?_
  refine condT (fun hlt => ?_) (fun hge => ?_)
  · have hlt : i < xs.length := by simpa using hlt
    obtain ⟨k1, k2⟩ := hcs i hlt
    have c1 : (0 : Int) ≤ (i : Int) ∧ (i : Int) < (xs.length : Int) := ⟨by omega, by omega⟩
    have hc : cellsAt w' ⟨g, o + i * 2, none⟩ 2 = some (bV (xs.getD i (0, 0))) := by rw [cellsAt_at (hat.keep0 ho) (o + i * 2) 2 k1, k2]
    have hsucc : (xs.take (i + 1)).any (· != (0, 0)) = ((xs.take i).any (· != (0, 0)) || (xs.getD i (0, 0) != (0, 0))) := by
      rw [List.take_succ_eq_append_getElem hlt, List.any_append]
      simp [hlt]
    refine gJ3 h8 (eq_true c1) hc ?_
    refine callVT (callVals_f _ #[] _ #[]) (by kernel_rfl) (hBusy w' (xs.getD i (0, 0))) ?_
    rintro v w2 ⟨rfl, ho2⟩
    refine gO ?_
    refine condT (fun hp => ?_) (fun hp => ?_)
    · refine gO ?_
      refine ⟨⟨i, rfl, ?_⟩, ho.nil ho2⟩
      have : xs.any (· != (0, 0)) = true := List.any_eq_true.2 ⟨xs[i], List.getElem_mem hlt, by simpa [hlt] using hp⟩
      rw [this]; simp
    · refine gO2 h8 (i64_succ i (by omega)) ?_
      refine hnext _ w2 ⟨i + 1, ?_, by omega, by rw [hsucc, hany, hp]; rfl, ho.nil ho2⟩ ?_
      · simp only [go_sem]
      · exact up_lt h8
  · have : i = xs.length := by have : ¬ (i < xs.length) := by simpa using hge
                               omega
    subst this
    refine gO ?_
    refine ⟨⟨-1, rfl, ?_⟩, ho⟩
    rw [List.take_length] at hany
    rw [hany]; rfl
theorem hContB (hat:At w g cs) (hlen:xs.length≤1000) (hcs: ∀i,i<xs.length→o+i*2+2≤cs.length∧(cs.drop (o+i*2)).take 2=bV (xs.getD i (0,0))):
  Cs Tryz.prog 221 [.slice (some ⟨g,o,none⟩) xs.length cap,.func (.func 222) #[] #[]] w fun v w'=>v=.bool (xs.any (·!=(0,0)))∧Only [] w w':=by
 refine enter_slices_ContainsFunc___heap_block_heap_block_ rfl ?_
 unfold x_slices_ContainsFunc___heap_block_heap_block_
 refine gO ?_
 refine callT (hIdxB hat hlen hcs) ?_
 rintro v w' ⟨⟨k,rfl,hk⟩,ho⟩
 refine gO1 hk ?_
 exact ho
theorem blkV_drop (rest:List Value) (h:i<B.length):((blkV B++rest).drop (i*2)).take 2=bV (B.getD i (0,0)):=by
 induction B generalizing i with
 |nil=>simp at h
 |cons x B ih=>
  cases i with
  |zero=>rfl
  |succ i=>
   have h':i<B.length:=by simpa using h
   have e:blkV (x::B)++rest=.int .i64 x.1::.int .i64 x.2::(blkV B++rest):=rfl
   rw[e,show(i+1)*2=i*2+1+1 by omega,List.drop_succ_cons,List.drop_succ_cons,ih h']
   simp
theorem blkV_set {x:Int×Int} (rest:List Value) (h:i<B.length):setL (blkV B++rest) (i*2) (bV x)=blkV (B.set i x)++rest:=by
 induction B generalizing i with
 |nil=>simp at h
 |cons y B ih=>
  cases i with
  |zero=>rfl
  |succ i=>
   have h':i<B.length:=by simpa using h
   have ih':=ih h'
   have e:blkV (y::B)++rest=.int .i64 y.1::.int .i64 y.2::(blkV B++rest):=rfl
   have e2:blkV ((y::B).set (i+1) x)++rest=.int .i64 y.1::.int .i64 y.2::(blkV (B.set i x)++rest):=rfl
   rw[e,e2,←ih',show(i+1)*2=i*2+1+1 by omega]
   rfl
theorem bV_one (x:Int×Int): ∀u,u∈bV x→oneC u=true:=by simp[bV,oneC]
theorem HL.Ok.setB (h:s.Ok) (hl:B'.length=s.B.length):HL.Ok {s with B:=B'}:=
 ⟨by simpa only[hl]using h.b2,by simpa only[hl]using h.b64,by simpa only[hl]using h.wl,by simpa only[hl]using h.sl,by simpa only[hl]using h.pl,h.fit,h.dj⟩
theorem HMs.setB {w':World} {b:Nat} {gB gW cB cW:Nat} {yB yW:List Value} {sb sg pb pg bl bf:Nat} (h:HMs w b s gB gW cB cW yB yW sb sg pb pg bl bf) (hl:B'.length=s.B.length) (hat:At w' gB (blkV B'++yB)) (ho:Only [gB] w w'):
  HMs w' b {s with B:=B'} gB gW cB cW yB yW sb sg pb pg bl bf:=by
 obtain⟨⟨n1,n2,n3,n4,n5,n6,n7,n8⟩,⟨m2,m3,m4,m5,m6,m7,m8⟩,_⟩:=nd9 h.nd
 refine⟨h.ok.setB hl,?_,hat,h.hW.keep ho (off1 m2.symm),by simpa only[hl]using h.cB,h.cW,h.hs.keep ho (off1 m3.symm) (off1 m4.symm),h.hp.keep ho (off1 m5.symm) (off1 m6.symm),h.hl.keep ho (off1 m7.symm),h.hf.keep ho (off1 m8.symm),h.nd⟩
 rw[show({s with B:=B'}:HL).B.length=s.B.length from hl]
 exact h.hb.keep ho (off1 n1)
theorem hClaims (h : HR w a fp m) (x many : Int) (first more : Int × Int) (hx : x ≤ 4611686018427387904) (hm : many ≤ 4611686018427387904) :
    Cs Tryz.prog 147 [.pointer a, .int .i64 x, .int .i64 many, .agg ⟨bV first⟩, .agg ⟨bV more⟩] w fun v w' => v = .int .i64 (claimE m x many first) ∧ HR w' a fp (claimM m x many first more) ∧ Only fp w w' := by
  refine enter_heap_Heap_claim rfl ?_
  unfold x_heap_Heap_claim
  refine gO ?_
  refine boxT fun q w1 hq hs1 hat1 ho1 => ?_
  refine gO ?_
  refine boxT fun q2 w2 hq2 hs2 hat2 ho2 => ?_
  have o2 := ho1.nil ho2
  have hF2 := hat1.keep0 ho2
  refine gO ?_
  refine callT0 (hMade (h.keep0 o2)) ?_
  match m, h with
  | none, h => (repeat (first | with_reducible (first | refine nx ?_ | refine r_6 rfl ?_) | simp only [go_sem])); exact ⟨rfl, h.keep0 o2, o2.of_nil⟩
  | some s, h0@⟨b, h1, gB, gW, cB, cW, yB, yW, sb, sg, pb, pg, bl, bf, h2, h3⟩ =>
    subst h1
    have h3' := h3.keep0 o2
    have hB64 := h3.ok.b64
    have bad : claimE (some s) x many first = 1 → (Value.int .i64 1 = Value.int .i64 (claimE (some s) x many first) ∧ HR w2 (some ⟨b, 0, none⟩) fp (claimM (some s) x many first more) ∧ Only fp w w2) := fun e => by
      rw [e]
      have : claimM (some s) x many first more = some s := by unfold claimM; simp only [e]; rfl
      rw [this]
      exact ⟨rfl, HR.keep0 (m := some s) h0 o2, o2.of_nil⟩
    refine gO ?_
    refine callT0 (hThere (HR.keep0 (m := some s) h0 o2) x) ?_
    cases ht : thereO (some s) x with
    | false =>
      refine gO ?_
      exact bad (by unfold claimE; simp only [ht, true_or, if_true])
    | true =>
      have ht' := ht
      simp only [thereO, Bool.and_eq_true, decide_eq_true_eq] at ht'
      obtain ⟨k, rfl⟩ : ∃ k : Nat, x = k := ⟨x.toNat, by omega⟩
      by_cases c1 : many < 1
      · refine gO1 (dtr c1) ?_
        exact bad (by unfold claimE; simp only [c1, true_or, or_true, if_true])
      have e1 : IntKind.i64.wrap ((s.B.length : Int) - (k : Int)) = (s.B.length : Int) - (k : Int) := IntWalk.i64_in _ (by omega)
      by_cases c2 : (s.B.length : Int) - (k : Int) < many
      · refine gO4 (dfl c1) h3'.hb.cell e1 (dtr c2) ?_
        exact bad (by unfold claimE; simp only [c2, true_or, or_true, if_true])
      obtain ⟨n, rfl⟩ : ∃ n : Nat, many = n := ⟨many.toNat, by omega⟩
      have cf1 := hF2.cell 1
      simp only [bV, List.getElem?_cons_zero, List.getElem?_cons_succ] at cf1
      refine gO5 (dfl c1) h3'.hb.cell e1 (dfl c2) cf1 ?_
      refine callT0 (hSpaceB w2 first.2) ?_
      cases hsp : spaceB first.2 with
      | false =>
        refine gO ?_
        exact bad (by unfold claimE; simp only [hsp, or_true, if_true])
      | true =>
        have e2 : IntKind.i64.wrap ((k : Int) + (n : Int)) = ((k + n : Nat) : Int) := i64_of_nat (k + n) (by omega)
        have hcB := h3.cB
        have e3 := slcO_lh (size := 2) (n := s.B.length) (cap := cB) (l := k) (h := k + n) (k := .i64) (k' := .i64) (p := ⟨gB, 0, none⟩) (by omega) (by omega) (by omega)
        simp only [addr_add, Nat.zero_add, Nat.add_sub_cancel_left] at e3
        refine gO3 h3'.hb.cell e2 e3 ?_
        have hxl : ((s.B.drop k).take n).length = n := by rw [List.length_take, List.length_drop]; omega
        have hcs : ∀ i, i < ((s.B.drop k).take n).length → k * 2 + i * 2 + 2 ≤ (blkV s.B ++ yB).length ∧ ((blkV s.B ++ yB).drop (k * 2 + i * 2)).take 2 = bV (((s.B.drop k).take n).getD i (0, 0)) := by
          intro i hi
          rw [hxl] at hi
          refine ⟨by rw [lla, blkV_len]; omega, ?_⟩
          rw [show k * 2 + i * 2 = (k + i) * 2 by omega, blkV_drop yB (by omega)]
          congr 1
          simp only [List.getD_eq_getElem?_getD]
          rw [List.getElem?_take_of_lt hi, List.getElem?_drop]
        have hcont := hContB (cap := cB - k) h3'.hB (by rw [hxl]; omega) hcs
        rw [hxl] at hcont
        refine callT1 hcont fun w3 ho3 => ?_
        have o3 := o2.nil ho3
        have hcl : claimE (some s) (k : Int) (n : Int) first = if ((s.B.drop k).take n).any (fun x => x != (0, 0)) = true then 8 else 0 := by
          unfold claimE
          simp only [ht, hsp, Bool.true_eq_false, c1, c2, or_self, if_false, tnc]
        cases hany : ((s.B.drop k).take n).any (fun x => x != (0, 0)) with
        | true =>
          rw [hany, if_pos rfl] at hcl
          refine gO ?_
          rw [hcl]
          have : claimM (some s) (k : Int) (n : Int) first more = some s := by unfold claimM; simp only [hcl]; rfl
          rw [this]
          exact ⟨rfl, HR.keep0 (m := some s) h0 o3, o3.of_nil⟩
        | false =>
          rw [hany, if_neg (by simp)] at hcl
          have hcm : claimM (some s) (k : Int) (n : Int) first more = some { s with B := (fillB s.B k more n).set k first } := by unfold claimM; simp only [hcl, if_true, tnc]
          rw [hcl, hcm]
          have h33 := h3'.keep0 ho3
          have hlt := h3.lt
          have hq1n : q ≠ gB := by have := hlt gB (by simp); omega
          have hz1 := ho1.size
          have hq2n : q2 ≠ gB := by have := hlt gB (by simp); omega
          have hF3 := hF2.keep0 ho3
          have hM3 := hat2.keep0 ho3
          obtain ⟨⟨n1, _⟩, _⟩ := nd9 h3.nd
          refine gO ?_
          refine run_loop (11 :: 54 :: 55 :: 56 :: 57 :: 58 :: 59 :: 60 :: 61 :: 62 :: 63 :: 64 :: 65 :: 66 :: []) (fun g w' => ∃ j : Nat, g 54 = .int .i64 j ∧ j ≤ n ∧ At w' gB (blkV (fillB s.B k more j) ++ yB) ∧ Only [gB] w3 w') (fun g _ => upTo n 54 g)
            ⟨0, by simp only [go_sem]; rfl, by omega, h33.hB, Only.refl _ _⟩ fun g w4 hI hnext => ?_
          obtain ⟨j, h54, hj, hat4, ho4⟩ := hI
          have hb4 := h33.hb.keep ho4 (off1 n1)
          refine gO1 h54 ?_
          refine condT (fun hlt4 => ?_) (fun hge4 => ?_)
          · have hlt4 : j < n := by simpa using hlt4
            have hM4 := hM3.keep ho4 (off1 hq2n)
            have hc4 : cellsAt w4 ⟨q2, 0, none⟩ 2 = some (bV more) := cellsAt_at hM4 0 2 (by simp [bV])
            have e4 : IntKind.i64.wrap ((k : Int) + (j : Int)) = ((k + j : Nat) : Int) := i64_of_nat (k + j) (by omega)
            have e5 : (0 : Int) ≤ ((k + j : Nat) : Int) ∧ ((k + j : Nat) : Int) < (s.B.length : Int) := ⟨by omega, by omega⟩
            refine gJ5 h54 hb4.cell e4 hc4 (eq_true e5) ?_
            refine stNT (cs := bV more) (n := 2) (i := (k + j) * 2) hat4.drew rfl (by rw [lla, blkV_len, fillB_len]; omega) (bV_one _) fun w5 hs5 hat5 ho5 => ?_
            rw [blkV_set yB (by rw [fillB_len]; omega)] at hat5
            refine gO2 h54 (i64_succ j (by omega)) ?_
            refine hnext _ w5 ⟨j + 1, ?_, by omega, hat5, ho4.same (((Only.drew [] w4).of_nil (T := [gB])).same ho5)⟩ ?_
            · simp only [go_sem]
            · exact up_lt h54
          · have : j = n := by have : ¬ j < n := by simpa using hge4
                               omega
            subst this
            have hF4 := hF3.keep ho4 (off1 hq1n)
            have hc4 : cellsAt w4 ⟨q, 0, none⟩ 2 = some (bV first) := cellsAt_at hF4 0 2 (by simp [bV])
            have e5 : (0 : Int) ≤ (k : Int) ∧ (k : Int) < (s.B.length : Int) := ⟨by omega, by omega⟩
            refine gJ3 hb4.cell hc4 (eq_true e5) ?_
            refine stNT (cs := bV first) (n := 2) (i := k * 2) hat4.drew rfl (by rw [lla, blkV_len, fillB_len]; omega) (bV_one _) fun w5 hs5 hat5 ho5 => ?_
            rw [blkV_set yB (by rw [fillB_len]; omega)] at hat5
            have o5 : Only [gB] w3 w5 := ho4.same (((Only.drew [] w4).of_nil (T := [gB])).same ho5)
            refine gO ?_
            refine ⟨⟨b, rfl, gB, gW, cB, cW, yB, yW, sb, sg, pb, pg, bl, bf, h2, h33.setB (by simp [fillB_len]) hat5 o5⟩, ?_⟩
            exact (o3.of_nil (T := fp)).trans o5 fun z hz => by simp only [lms] at hz; subst hz; exact .inl (by rw [h2]; simp)
theorem hClaim (h:HR w a fp m) (x sp:Int) (hx:x≤4611686018427387904):Cs Tryz.prog 64 [.pointer a,.int .i64 x,.int .i64 sp] w fun v w'=>v=.int .i64 (claimE m x 1 (1,sp))∧HR w' a fp (claimM m x 1 (1,sp) (0,0))∧Only fp w w':=by
 refine enter_heap_Heap_Claim rfl ?_
 unfold x_heap_Heap_Claim
 refine gO ?_
 rw[fillL_one rfl rfl,fillL_one rfl rfl]
 refine gO ?_
 refine callT (hClaims h x 1 (1,sp) (0,0) hx (by omega)) ?_
 rintro v w' ⟨rfl,hr,ho⟩
 refine gO ?_
 exact⟨hr,ho⟩
end
set_option maxRecDepth 8000
theorem mkmapS {P:Program} {fl:Bool} {L:List Nat} {w0 w:World} {t:TypeId} {d:Option Nat} {rest:XT} {ρ:Env} {C:Env→World→Prop}
  (h: ∀b w',b=w.heap.size→w'.heap.size=w.heap.size+1→MpAt w' b []→Only [] w w'→(fl=true∨SB L w0 w')∧VT P L w0 rest (putO ρ d (.map (some b))) w' C):RunS P fl L w0 (Instr.makeMap t none) d rest ρ w C:=by
 obtain⟨h1,h2⟩:=h _ _ rfl (by simp) (MpAt.alloc w) (Only.alloc [] w _)
 exact runS run_mkmap h1 h2
attribute [go_sem] Option.map_none
theorem rowZ_blk (n:Nat):rowZ [Value.int .i64 0,Value.int .i64 0] n=blkV (List.replicate n (0,0)):=by
 have hl:(blkV (List.replicate n (0,0))).length=2*n:=by rw[blkV_len,List.length_replicate]
 apply List.ext_getElem?
 intro i
 by_cases hi:i<2*n
 ·have h1:(rowZ [Value.int .i64 0,Value.int .i64 0] n)[i]? =some (.int .i64 0):=by
   unfold rowZ
   rw[List.getElem?_map,List.getElem?_range (by simp;omega)]
   simp only[Option.map_some]
   have:i%2=0∨i%2=1:=by omega
   rcases this with h|h<;>simp[h]
  have h2:(blkV (List.replicate n (0,0)))[i]? =some (.int .i64 0):=by
   obtain⟨g1,g2⟩:=blkV_get (B:=List.replicate n ((0:Int),(0:Int))) (i:=i/2) (by simp;omega)
   have hz:(List.replicate n ((0:Int),(0:Int))).getD (i/2) (0,0)=(0,0):=by
    simp only[List.getD_eq_getElem?_getD,List.getElem?_replicate]
    split<;>rfl
   rw[hz]at g1 g2
   rcases(show i=2*(i/2)∨i=2*(i/2)+1 by omega)with h|h
   ·rw[h];exact g1
   ·rw[h];exact g2
  rw[h1,h2]
 ·rw[List.getElem?_eq_none (by rw[rowZ_length];simp;omega),List.getElem?_eq_none (by omega)]
theorem ints_rep (n:Nat):List.replicate n (Value.int .i64 0)=ints (List.replicate n 0):=by simp[ints]
theorem hNew (w : World) (x : Int) : Cs Tryz.prog 27 [.int .i64 x] w fun v w' => ∃ a fp, v = .tuple #[.pointer a, .int .i64 (if (newH x).isSome then 0 else 1)] ∧ HR w' a fp (newH x) ∧ (newH x = none → a = none) ∧ (∀ y, y ∈ fp → w.heap.size ≤ y) ∧ Only [] w w' := by
  refine enter_heap_New rfl ?_
  unfold x_heap_New
  have bad : ¬ (2 ≤ x ∧ x ≤ 64) → ∃ a fp, Value.tuple #[.pointer none, .int .i64 1] = .tuple #[.pointer a, .int .i64 (if (newH x).isSome then 0 else 1)] ∧ HR w a fp (newH x) ∧ (newH x = none → a = none) ∧ (∀ y, y ∈ fp → w.heap.size ≤ y) ∧ Only [] w w := fun h => by
    have : newH x = none := if_neg h
    rw [this]
    exact ⟨none, [], rfl, .inl ⟨rfl, rfl⟩, fun _ => rfl, by simp, Only.refl _ _⟩
  by_cases c1 : x < 2
  · refine gO1 (dtr c1) ?_
    exact bad (by omega)
  by_cases c2 : 64 < x
  · refine gO2 (dfl c1) (dtr c2) ?_
    exact bad (by omega)
  obtain ⟨n, rfl⟩ : ∃ n : Nat, x = n := ⟨x.toNat, by omega⟩
  have e1 : IntKind.i64.wrap ((n : Int) * 64) = ((64 * n : Nat) : Int) := by rw [show (n : Int) * 64 = ((64 * n : Nat) : Int) by omega]; exact i64_of_nat _ (by omega)
  have hnew : newH (n : Int) = some ⟨List.replicate n (0, 0), List.replicate (64 * n) 0, List.replicate (32 * n) 0, List.replicate (32 * n) 0, [], [], 0⟩ := by
    unfold newH; rw [if_pos (by omega)]; simp only [tnc]
  have hok := newH_ok hnew
  refine gO2 (dfl c1) (dfl c2) ?_
  refine run_cut (4 :: 11 :: 12 :: 13 :: 14 :: 15 :: 16 :: 17 :: 18 :: 19 :: []) (fun ρ w' => ∃ gB gW bl bf b, ρ 4 = .pointer (some ⟨b, 0, none⟩) ∧ At w' b [.slice (some ⟨gB, 0, none⟩) n n, .slice (some ⟨gW, 0, none⟩) (64 * n) (64 * n), .pointer none, .pointer none, .map (some bl), .map (some bf), .int .i64 0] ∧
      At w' gB (rowZ [Value.int .i64 0, Value.int .i64 0] n) ∧ At w' gW (rowZ [Value.int .i64 0] (64 * n)) ∧ MpAt w' bl [] ∧ MpAt w' bf [] ∧ (b ≠ gB ∧ b ≠ gW ∧ b ≠ bl ∧ b ≠ bf ∧ gB ≠ gW ∧ gB ≠ bl ∧ gB ≠ bf ∧ gW ≠ bl ∧ gW ≠ bf ∧ bl ≠ bf) ∧ (w.heap.size ≤ b ∧ w.heap.size ≤ gB ∧ w.heap.size ≤ gW ∧ w.heap.size ≤ bl ∧ w.heap.size ≤ bf) ∧ Only [] w w') (fun kk hkk => ?_) (fun g w1 hJ => ?_)
  · refine run_drt [] ?_
    have hO : Only [] w w.drew := Only.drew [] w
    have hs0 : w.drew.heap.size = w.heap.size := rfl
    repeat' (first
      | refine And.intro ?_ ?_
      | (refine mksS (n := n) (m := n) (Nat.le_refl _) (by omega) (by omega) fun gB w' hgB hs hB ho => ⟨.inl rfl, ?_⟩
         try (have hW := hW.keep0 ho)
         try (have h6 := h6.keep0 ho)
         try (have h7 := h7.keep0 ho)
         have hO := hO.nil ho
         clear ho)
      | (refine mksS (n := 64 * n) (m := 64 * n) (Nat.le_refl _) (by omega) (by omega) fun gW w' hgW hs hW ho => ⟨.inl rfl, ?_⟩
         try (have hB := hB.keep0 ho)
         try (have h6 := h6.keep0 ho)
         try (have h7 := h7.keep0 ho)
         have hO := hO.nil ho
         clear ho)
      | (refine mkmapS (d := some 16) fun b6 w' hg6 hs h6 ho => ⟨.inl rfl, ?_⟩
         try (have hB := hB.keep0 ho)
         try (have hW := hW.keep0 ho)
         try (have h7 := h7.keep0 ho)
         have hO := hO.nil ho
         clear ho)
      | (refine mkmapS (d := some 17) fun b7 w' hg7 hs h7 ho => ⟨.inl rfl, ?_⟩
         try (have hB := hB.keep0 ho)
         try (have hW := hW.keep0 ho)
         try (have h6 := h6.keep0 ho)
         have hO := hO.nil ho
         clear ho)
      | (refine boxS fun b w' hgb hs hb ho => ⟨.inl rfl, ?_⟩
         have hB := hB.keep0 ho
         have hW := hW.keep0 ho
         have h6 := h6.keep0 ho
         have h7 := h7.keep0 ho
         have hO := hO.nil ho
         clear ho
         simp only [go_sem]
         refine hkk _ _ ⟨gB, gW, b6, b7, b, ?_, hb, hB, hW, h6, h7, ⟨?_, ?_, ?_, ?_, ?_, ?_, ?_, ?_, ?_, ?_⟩, ⟨?_, ?_, ?_, ?_, ?_⟩, hO⟩
         · simp only [go_sem]
         all_goals omega)
      | rw [fillL_one rfl rfl, fillL_one rfl rfl, fillL_one rfl rfl, fillL_one rfl rfl]
      | simp only [go_sem, e1])
  obtain ⟨gB, gW, bl, bf, b, h4, hb, hB, hW, hl, hf, ⟨x1, x2, x3, x4, x5, x6, x7, x8, x9, x10⟩, ⟨y1, y2, y3, y4, y5⟩, hO⟩ := hJ
  rw [rowZ_blk] at hB
  rw [rowZ_one, ints_rep] at hW
  have hz1 := hO.size
  have hm : newM ((32 * n : Nat) : Int) 1 = some (1, List.replicate (32 * n) 0) := by
    unfold newM
    rw [if_pos ⟨by omega, by omega, rfl⟩]; simp only [tnc]; rfl
  have e2 : IntKind.i64.wrap (((64 * n : Nat) : Int).tdiv 2) = ((32 * n : Nat) : Int) := by rw [tdiv2 _ (by omega)]; omega
  refine gO3 h4 hb.cell e2 ?_
  refine callT (New_m w1 ((32 * n : Nat) : Int) 1) ?_
  rintro r w2 ⟨a2, S2, rfl, hT2, ho2⟩
  rw [hm] at hT2 ⊢
  obtain ⟨⟨sb, sg, rfl, rfl, hs2⟩, _, hn2⟩ := hT2
  have hsb := hn2 sb (by simp)
  have hsg := hn2 sg (by simp)
  have hlb := hb.lt
  have hlB := hB.lt
  have hlW := hW.lt
  have hll := hl.lt
  have hlf := hf.lt
  refine gO1 h4 ?_
  refine stT (hb.keep0 ho2) (by simp) rfl fun w3 hz3 hb3 ho3 => ?_
  simp only [List.set_cons_zero, List.set_cons_succ] at hb3
  have hs3 := hs2.keep ho3 (off1 (show sb ≠ b by omega)) (off1 (show sg ≠ b by omega))
  have hl2 := (Tab.mk hs3).lt
  have hlsb := hl2 sb (by simp)
  have hlsg := hl2 sg (by simp)
  refine gO3 h4 hb3.cell e2 ?_
  refine callT (New_m w3 ((32 * n : Nat) : Int) 1) ?_
  rintro r w4 ⟨a4, S4, rfl, hT4, ho4⟩
  rw [hm] at hT4 ⊢
  obtain ⟨⟨pb, pg, rfl, rfl, hp4⟩, _, hn4⟩ := hT4
  have hpb := hn4 pb (by simp)
  have hpg := hn4 pg (by simp)
  have hz2 := ho2.size
  have hz4 := ho4.size
  have hsne : sb ≠ sg := by obtain ⟨_, _, _, _, _, _, h⟩ := hs2.mem; exact h
  have hpne : pb ≠ pg := by obtain ⟨_, _, _, _, _, _, h⟩ := hp4.mem; exact h
  refine gO1 h4 ?_
  refine stT (hb3.keep0 ho4) (by simp) rfl fun w5 hz5 hb5 ho5 => ?_
  simp only [List.set_cons_zero, List.set_cons_succ] at hb5
  refine gO1 h4 ?_
  have o25 : Only [b] w1 w5 := ((ho2.of_nil (T := [b])).same ho3).same ((ho4.of_nil (T := [b])).same ho5)
  rw [hnew]
  have hlen : ∀ (k : Nat) (z : Int), (List.replicate k z).length = k := fun _ _ => List.length_replicate
  refine ⟨some ⟨b, 0, none⟩, _, rfl, ⟨b, rfl, gB, gW, n, 64 * n, [], [], sb, sg, pb, pg, bl, bf, rfl, ⟨hok, ?_, ?_, ?_, by simp, by simp, ?_, ?_, (hl.keep o25 (off1 (Ne.symm x3))), (hf.keep o25 (off1 (Ne.symm x4))), ?_⟩⟩, by simp, ?_, hO.trans o25 fun z hz => by simp only [lms] at hz; subst hz; exact .inr y1⟩
  · simpa using hb5
  · simpa using hB.keep o25 (off1 (Ne.symm x1))
  · simpa using hW.keep o25 (off1 (Ne.symm x2))
  · have := (hs3.keep ho4 (by simp) (by simp)).keep ho5 (off1 (show sb ≠ b by omega)) (off1 (show sg ≠ b by omega))
    simpa using this
  · have := hp4.keep ho5 (off1 (show pb ≠ b by omega)) (off1 (show pg ≠ b by omega))
    simpa using this
  · simp only [List.nodup_cons, List.mem_cons, List.not_mem_nil, or_false, not_or, List.nodup_nil, not_false_eq_true, and_true]
    refine ⟨⟨x1, x2, ?_, ?_, ?_, ?_, x3, x4⟩, ⟨x5, ?_, ?_, ?_, ?_, x6, x7⟩, ⟨?_, ?_, ?_, ?_, x8, x9⟩, ⟨hsne, ?_, ?_, ?_, ?_⟩, ⟨?_, ?_, ?_, ?_⟩, ⟨hpne, ?_, ?_⟩, ⟨?_, ?_⟩, x10⟩
    all_goals omega
  · intro y hy
    simp only [List.mem_cons, List.not_mem_nil, or_false] at hy
    omega
section
set_option maxRecDepth 8000
variable {D S fp:List Nat} {xs:List Value} {cap n sz:Nat} {v:Value} {w w':World}
theorem ints_length (xs:List Int):(ints xs).length=xs.length:=by simp[ints]
theorem ints_append (xs ys:List Int):ints (xs++ys)=ints xs++ints ys:=by simp[ints]
theorem ints_one {xs:List Int}: ∀u,u∈ints xs→oneC u=true:=by
 intro u hu
 simp only[ints,List.mem_map]at hu
 obtain⟨x,_,rfl⟩:=hu
 rfl
theorem add_block (a:Addr) (i:Nat):(a.add i).block=a.block:=by unfold Addr.add;split<;>rfl
theorem Sl.nil1 (w:World):Sl w 1 (.slice none 0 0) 0 [] []:=⟨rfl,.inl ⟨rfl,rfl,rfl⟩⟩
theorem Sl.pos (h:Sl w 1 v n xs fp) (hn:0<n): ∃g cap ys,v=.slice (some ⟨g,0,none⟩) n cap∧At w g (xs++ys)∧fp=[g]∧n≤cap:=by
 rcases h.2 with⟨_,h0,_⟩|⟨g,cap,ys,T,h1,h2,h3,h4,h5⟩
 ·omega
 ·exact⟨g,cap,ys,h1,⟨T,h3⟩,h2,h5⟩
theorem Sl.mk1 {g:Nat} {ys:List Value} (h:At w g (xs++ys)) (h1:xs.length=n) (h2:(xs++ys).length=cap):Sl w 1 (.slice (some ⟨g,0,none⟩) n cap) n xs [g]:=by
 obtain⟨T,h⟩:=h
 refine⟨by simpa using h1,.inr ⟨g,cap,ys,T,rfl,rfl,h,by simpa using h2,?_⟩⟩
 simp at h2;omega
theorem Sl.keep (h:Sl w sz v n xs fp) (k:Only S w w') (hd: ∀x,x∈fp→x∉S):Sl w' sz v n xs fp:=by
 refine⟨h.1,?_⟩
 rcases h.2 with h1|⟨g,cap,ys,T,h1,h2,h3,h4⟩
 ·exact .inl h1
 ·subst h2
  exact .inr ⟨g,cap,ys,T,h1,rfl,by rw[k.block g (Array.getElem?_eq_some_iff.1 h3).1 (hd g (by simp))];exact h3,h4⟩
theorem Sl.keep0 (h:Sl w sz v n xs fp) (k:Only [] w w'):Sl w' sz v n xs fp:=h.keep k (by simp)
theorem Sl.lt (h:Sl w sz v n xs fp): ∀x,x∈fp→x<w.heap.size:=by
 rcases h.2 with⟨_,_,h1⟩|⟨g,cap,ys,T,h1,h2,h3,h4⟩
 ·subst h1;intro x hx;cases hx
 ·subst h2;intro x hx;simp only[lms]at hx;subst hx;exact(Array.getElem?_eq_some_iff.1 h3).1
theorem Sl.val (h:Sl w sz v n xs fp): ∃(a:Option Addr) (cap:Nat),v=.slice a n cap:=by
 rcases h.2 with⟨h1,h2,_⟩|⟨g,cap,ys,T,h1,h2,h3,h4⟩
 ·subst h2;exact⟨none,0,h1⟩
 ·exact⟨_,_,h1⟩
theorem Sl.nodup (h:Sl w sz v n xs fp):fp.Nodup:=by
 rcases h.2 with⟨_,_,h1⟩|⟨g,cap,ys,T,h1,h2,h3,h4⟩
 ·subst h1;simp
 ·subst h2;simp
theorem SrcIs.at {q m c:Nat} {us:List Value} (h:At w q us) (h1:us.length=m*sz):SrcIs w sz (.slice (some ⟨q,0,none⟩) m c) m us:=
 ⟨h1,.inr ⟨_,c,rfl,by rw[cellsAt_at h 0 _ (by omega)];simp[←h1]⟩⟩
theorem Sl.src (h:Sl w 1 v n xs fp):SrcIs w 1 v n xs:=by
 refine⟨h.1,?_⟩
 rcases h.2 with⟨h1,h2,_⟩|⟨g,cap,ys,T,h1,h2,h3,h4⟩
 ·exact .inl ⟨0,h1,h2⟩
 ·refine .inr ⟨_,cap,h1,?_⟩
  have hl:=h.1
  rw[cellsAt_at (vs:=xs++ys) ⟨T,h3⟩ 0 _ (by simp;omega)]
  simp[←hl]
theorem cell_lt {a:Addr} (h:w.cell? a=some v):a.block<w.heap.size:=World.block_lt_of_cell? w a h
def RdB (w:World) (D:List Nat) (v:Value) (xs:List Int):Prop:= ∃(a:Option Addr) (cap:Nat),v=.slice a xs.length cap∧ ∀i,i<xs.length→ ∃p,a=some p∧p.block∈D∧w.cell? (p.add i)=some (.int .i64 (xs.getD i 0))
theorem RdB.keep {xs:List Int} (h:RdB w D v xs) (k:Only S w w') (hd: ∀x,x∈D→x∉S):RdB w' D v xs:=by
 obtain⟨a,cap,h1,h2⟩:=h
 refine⟨a,cap,h1,fun i hi=>?_⟩
 obtain⟨p,h3,h4,h5⟩:=h2 i hi
 refine⟨p,h3,h4,?_⟩
 have hlt:=cell_lt h5
 rw[add_block]at hlt
 rw[cell_of_heap (w:=w) (w':=w') (a:=p.add i) (by rw[add_block];exact k.block _ hlt (hd _ h4))]
 exact h5
theorem Sl.rd {xs:List Int} (h:Sl w 1 v n (ints xs) fp):RdB w fp v xs:=by
 have hn:xs.length=n:=by have:=h.1;rw[ints_length]at this;omega
 subst hn
 rcases h.2 with⟨h1,h2,h3⟩|⟨g,cap,ys,T,h1,h2,h3,h4⟩
 ·exact⟨none,0,by rw[h1,h2],fun i hi=>by omega⟩
 ·refine⟨_,cap,h1,fun i hi=>⟨_,rfl,by rw[h2];simp,?_⟩⟩
  have hat:At w g (ints xs++ys):=⟨T,h3⟩
  rw[addr_add,Nat.zero_add,hat.cell]
  exact ints_append_get ys hi
theorem RdB.get {a:Option Addr} {i:Nat} {xs:List Int} (h:RdB w D (.slice a n cap) xs) (hi:i<xs.length): ∃p,a=some p∧w.cell? (p.add i)=some (.int .i64 (xs.getD i 0)):=by
 obtain⟨a',cap',h1,h2⟩:=h
 cases h1
 obtain⟨p,h3,_,h4⟩:=h2 i hi
 exact⟨p,h3,h4⟩
theorem RdB.val {xs:List Int} (h:RdB w D v xs): ∃(a:Option Addr) (cap:Nat),v=.slice a xs.length cap:=by
 obtain⟨a,cap,h1,_⟩:=h;exact⟨a,cap,h1⟩
end
section
open Go.Shelf
def lays189_ren:Go.Shelf.Ren:=⟨fun|189=>186|125=>245|257=>244|128=>282|129=>283|294=>273|295=>274|296=>275|297=>276|298=>277|299=>278|216=>279|300=>280|301=>281|328=>287|329=>288|330=>289|331=>290|332=>291|215=>292|343=>293|n=>n,fun|28=>33|3=>3|46=>246|0=>0|51=>271|53=>253|4=>4|183=>265|182=>264|131=>198|5=>5|9=>9|218=>276|222=>221|228=>281|229=>282|n=>n,fun|n=>n⟩
theorem lays189:Go.Proofs.Lays.n189 Tryz.prog lays189_ren where
 mixed:=by kernel_rfl
 f125:=Tryz.func245.trans (congrArg some (by kernel_rfl))
 f128:=Tryz.func282.trans (congrArg some (by kernel_rfl))
 f129:=Tryz.func283.trans (congrArg some (by kernel_rfl))
 f189:=Tryz.func186.trans (congrArg some (by kernel_rfl))
 f215:=Tryz.func292.trans (congrArg some (by kernel_rfl))
 f216:=Tryz.func279.trans (congrArg some (by kernel_rfl))
 f257:=Tryz.func244.trans (congrArg some (by kernel_rfl))
 f294:=Tryz.func273.trans (congrArg some (by kernel_rfl))
 f295:=Tryz.func274.trans (congrArg some (by kernel_rfl))
 f296:=Tryz.func275.trans (congrArg some (by kernel_rfl))
 f297:=Tryz.func276.trans (congrArg some (by kernel_rfl))
 f298:=Tryz.func277.trans (congrArg some (by kernel_rfl))
 f299:=Tryz.func278.trans (congrArg some (by kernel_rfl))
 f300:=Tryz.func280.trans (congrArg some (by kernel_rfl))
 f301:=Tryz.func281.trans (congrArg some (by kernel_rfl))
 f328:=Tryz.func287.trans (congrArg some (by kernel_rfl))
 f329:=Tryz.func288.trans (congrArg some (by kernel_rfl))
 f330:=Tryz.func289.trans (congrArg some (by kernel_rfl))
 f331:=Tryz.func290.trans (congrArg some (by kernel_rfl))
 f332:=Tryz.func291.trans (congrArg some (by kernel_rfl))
 f343:=Tryz.func293.trans (congrArg some (by kernel_rfl))
 t0:=Tryz.underlying0
 a0:=Tryz.isAgg0
 z0:=Tryz.sizeOf0
 v0:=Tryz.zeroValue0
 t3:=Tryz.underlying3
 a3:=Tryz.isAgg3
 z3:=Tryz.sizeOf3
 v3:=Tryz.zeroValue3
 t4:=Tryz.underlying4
 a4:=Tryz.isAgg4
 z4:=Tryz.sizeOf4
 v4:=Tryz.zeroValue4
 t5:=Tryz.underlying5
 a5:=Tryz.isAgg5
 z5:=Tryz.sizeOf5
 v5:=Tryz.zeroValue5
 t9:=Tryz.underlying9
 a9:=Tryz.isAgg9
 z9:=Tryz.sizeOf9
 v9:=Tryz.zeroValue9
 t28:=Tryz.underlying33
 a28:=Tryz.isAgg33
 z28:=Tryz.sizeOf33
 v28:=Tryz.zeroValue33
 t46:=Tryz.underlying246
 a46:=Tryz.isAgg246
 z46:=Tryz.sizeOf246
 v46:=Tryz.zeroValue246
 t51:=Tryz.underlying271
 a51:=Tryz.isAgg271
 z51:=Tryz.sizeOf271
 v51:=Tryz.zeroValue271
 t53:=Tryz.underlying253
 a53:=Tryz.isAgg253
 z53:=Tryz.sizeOf253
 v53:=Tryz.zeroValue253
 t131:=Tryz.underlying198
 a131:=Tryz.isAgg198
 z131:=Tryz.sizeOf198
 v131:=Tryz.zeroValue198
 t182:=Tryz.underlying264
 a182:=Tryz.isAgg264
 z182:=Tryz.sizeOf264
 v182:=Tryz.zeroValue264
 t183:=Tryz.underlying265
 a183:=Tryz.isAgg265
 z183:=Tryz.sizeOf265
 v183:=Tryz.zeroValue265
 t218:=Tryz.underlying276
 a218:=Tryz.isAgg276
 z218:=Tryz.sizeOf276
 v218:=Tryz.zeroValue276
 t222:=Tryz.underlying221
 a222:=Tryz.isAgg221
 z222:=Tryz.sizeOf221
 v222:=Tryz.zeroValue221
 t228:=Tryz.underlying281
 a228:=Tryz.isAgg281
 z228:=Tryz.sizeOf281
 v228:=Tryz.zeroValue281
 t229:=Tryz.underlying282
 a229:=Tryz.isAgg282
 z229:=Tryz.sizeOf282
 v229:=Tryz.zeroValue282
end
section
variable {ρ:Env} {m:IM} {zs:List Int} {ps:List Nat} {ys:List Value} {w:World}
def sortI (zs:List Int):List Int:=zs.mergeSort fun x y=>decide (x≤y)
theorem sortI_len (zs:List Int):(sortI zs).length=zs.length:=by simp[sortI]
theorem Sl.oneC' {sz:Nat} {v:Value} {n:Nat} {xs:List Value} {fp:List Nat} (h:Sl w sz v n xs fp):oneC v=true:=by
 obtain⟨a,c,rfl⟩:=h.val;rfl
theorem putCells_ints {ss:List Int} (hl:ss.length=zs.length):Go.Sort.putCells (Value.int .i64) 0 ss.toArray ⟨ints zs++ys⟩=⟨ints ss++ys⟩:=by
 apply Array.ext'
 unfold Go.Sort.putCells
 rw[Array.toList_mapIdx]
 apply List.ext_getElem?
 intro i
 rw[List.getElem?_mapIdx]
 by_cases hi:i<ss.length
 ·have e1:(ints zs++ys)[i]? =some (.int .i64 (zs.getD i 0)):=ints_append_get ys (by omega)
  have e2:(ints ss++ys)[i]? =some (.int .i64 (ss.getD i 0)):=ints_append_get ys hi
  rw[e1,e2]
  simp only[Option.map_some,Nat.zero_le,true_and,Nat.zero_add,List.size_toArray,if_pos hi,Nat.sub_zero]
  simp[hi]
 ·have e1:(ints zs++ys)[i]? =(ints ss++ys)[i]? :=by
   rw[List.getElem?_append_right (by rw[ints_length];omega),List.getElem?_append_right (by rw[ints_length];omega),ints_length,ints_length,hl]
  rw[←e1]
  cases (ints zs++ys)[i]? with
  |none=>rfl
  |some v=>simp[hi]
theorem hSort {g cap:Nat} (h:At w g (ints zs++ys)) (hsz:zs.length≤1000000):Cs Tryz.prog 186 [.slice (some ⟨g,0,none⟩) zs.length cap] w fun v w'=>v=.tuple #[]∧Only [g] w w'∧At w' g (ints (sortI zs)++ys):=by
 have hlt:=h.lt
 have hH:Go.Sort.Holds (Value.int .i64) w g 0 zs.toArray:=by
  intro j hj
  have hj':j<zs.length:=by simpa using hj
  refine⟨?_,h.free _⟩
  rw[Nat.zero_add,h.cell,ints_append_get ys hj']
  simp[hj']
 have hc:=Any.slices_Sort_int lays189 g 0 cap zs w hH hlt (by omega)
 refine Calls.mono (show Calls Tryz.prog 186 #[.slice (some ⟨g,0,none⟩) zs.length cap] w _ from hc) ?_
 rintro e w' ⟨rfl,n,os,rfl⟩
 obtain⟨T,hT⟩:=h
 have hsz0:(Go.Sort.putRow (Value.int .i64) (Go.Sort.ahead w n) g 0 (zs.mergeSort fun x y=>decide (x≤y)).toArray).heap.size=w.heap.size:=by simp[Go.Sort.ahead]
 refine⟨_,rfl,rfl,⟨rfl,rfl,rfl,by simp only[Go.Sort.grow,Array.size_append];omega,fun k hk hn=>?_⟩,T,?_⟩
 ·simp only[lms]at hn
  simp only[Go.Sort.grow]
  rw[Array.getElem?_append_left (by rw[hsz0];exact hk)]
  simp only[Go.Sort.putRow,Go.Sort.mapBlock,Go.Sort.ahead,Array.getElem?_modify,if_neg (Ne.symm hn)]
 ·simp only[Go.Sort.grow]
  rw[Array.getElem?_append_left (by rw[hsz0];exact hlt)]
  simp only[Go.Sort.putRow,Go.Sort.mapBlock,Go.Sort.ahead,Array.getElem?_modify,if_true,hT,Option.map_some,Go.Sort.onCells]
  show some (Obj.cells (Go.Sort.putCells (Value.int .i64) 0 (sortI zs).toArray ⟨ints zs++ys⟩) T (0,0))=_
  rw[putCells_ints (sortI_len zs)]
theorem hSortN (p:Option Addr) (cap:Nat):Cs Tryz.prog 186 [.slice p 0 cap] w fun v w'=>v=.tuple #[]∧w'=w:=by
 have hc:=Any.slices_Sort_int_none lays189 p cap w
 refine Calls.mono (show Calls Tryz.prog 186 #[.slice p 0 cap] w _ from hc) ?_
 rintro e w' ⟨rfl,rfl⟩
 exact⟨_,rfl,rfl,rfl⟩
def IM.keys (m:IM):List Int:=m.map (·.1)
theorem filter_perm (hn:(m.map (·.1)).Nodup) {p:Int×Value} (hp:p∈m):m.Perm (p::m.filter fun q=>q.1 !=p.1):=by
 induction m with
 |nil=>cases hp
 |cons x m ih=>
  simp only[List.map_cons,List.nodup_cons]at hn
  rcases List.mem_cons.1 hp with rfl|hp
  ·have:(p::m).filter (fun q=>q.1 !=p.1)=m:=by
    rw[List.filter_cons,if_neg (by simp)]
    apply List.filter_eq_self.2
    intro q hq
    simp only[bne_iff_ne,ne_eq]
    intro e
    exact hn.1 (by rw[←e];exact List.mem_map.2 ⟨q,hq,rfl⟩)
   rw[this]
  ·have hne:x.1≠p.1:=fun e=>hn.1 (by rw[e];exact List.mem_map.2 ⟨p,hp,rfl⟩)
   rw[List.filter_cons,if_pos (by simpa using hne)]
   exact((ih hn.2 hp).cons x).trans (List.Perm.swap p x _)
theorem filter_nodup (hn:(m.map (·.1)).Nodup) (f:Int×Value→Bool):((m.filter f).map (·.1)).Nodup:=List.Sublist.nodup (List.Sublist.map _ List.filter_sublist) hn
theorem run_rngE {P:Program} {f:FX} {kx:List XI} {R:Value→World→Prop} {g:Operand} {xa xb:XCode} {it:Nat} {caps:List Value} (hro:f.ro=none) (hds:f.ds=[]) (hg:ev ρ g=.func (.func it) #[] ⟨caps⟩) (hok:okF P it=true)
  (h: ∀ρ' ps' xa' xb',ρ'=ρ→ps'=ps→xa'=xa→xb'=xb→ ∀D l w1,D=w.heap.size→l=w.heap.size+1→w1.heap.size=w.heap.size+2→Only [] w w1→w1.heap[D]? =some (.deferred (some []))→LoopAt P f l w1 ρ' ps' xa' xb' .ready D→
   Cs P it (.func (.yield l) #[] #[]::caps) w1 fun _ w2=>LoopAt P f l w2 ρ' ps' xa' xb' .ready D∧
    ∀w3,w3.heap.size=w2.heap.size→Only [l] w2 w3→Run P {f with ds:=[{target:=.collected D,args:=#[]}]} kx ρ w3 R):
  Run P f (.code (.rng g ps xa xb)::kx) ρ w R:=run_rng hro hds hg hok (h ρ ps xa xb rfl rfl rfl rfl)
theorem ys_runE {P:Program} {f:FX} {l:Nat} {ρ':Env} {ps':List Nat} {xa xb xa' xb':XCode} {D:Nat} {args:List Value} {K:Value→World→Prop} (e1:ρ'=ρ) (e2:ps'=ps) (e3:xa'=xa) (e4:xb'=xb) (hf:f.ok P) (hl:LoopAt P f l w ρ' ps' xa' xb' .ready D) (hn:ps.length=args.length)
  (h:Run P {f with ro:=some l,ds:=[]} [.code xa,.bgn,.code xb] (putL ρ ps args) w K):Ys P l args w K:=by
 subst e1;subst e2;subst e3;subst e4
 exact ys_run hf hl hn h
end
section
set_option maxRecDepth 8000
variable {xs:List Int} {D fp:List Nat} {us:List Value} {m sz:Nat} {a:Option Addr} {v:Value} {w:World}
theorem take_contains_succ {i:Nat} {y:Int} (h:i<xs.length):(xs.take (i+1)).contains y=((xs.take i).contains y||decide (y=xs.getD i 0)):=by
 have e:xs.take (i+1)=xs.take i++[xs.getD i 0]:=by rw[List.take_succ_eq_append_getElem h];simp[h]
 rw[e,Bool.eq_iff_iff]
 simp
theorem Index_m (h : RdB w D v xs) (hl : xs.length ≤ 100000) (y : Int) : Cs Tryz.prog 103 [v, .int .i64 y] w fun r w' => (∃ k : Int, r = .int .i64 k ∧ decide (0 ≤ k) = xs.contains y) ∧ w' = w := by
  refine enter_slices_Index___int_int_ rfl ?_
  unfold x_slices_Index___int_int_
  obtain ⟨a, cap, rfl, hrd⟩ := h
  refine gO ?_
  refine run_loop (4 :: 5 :: 6 :: 7 :: 8 :: 9 :: 10 :: 11 :: 12 :: 13 :: 14 :: 15 :: 16 :: 17 :: 18 :: []) (fun g w' => ∃ i : Nat, g 8 = .int .i64 i ∧ g 7 = .int .i64 xs.length ∧ i ≤ xs.length ∧ (xs.take i).contains y = false ∧ w' = w) (fun g _ => upTo xs.length 8 g) ⟨0, by simp only [go_sem]; rfl, by simp only [go_sem], by omega, by simp, rfl⟩ fun g w' hI hnext => ?_
  obtain ⟨i, h8, h7, hi, hno, rfl⟩ := hI
  refine gO2 h8 h7 ?_
  refine condT (fun hlt => ?_) (fun hge => ?_)
  · have hlt : i < xs.length := by simpa using hlt
    obtain ⟨p, rfl, _, hc⟩ := hrd i hlt
    have c1 : (0 : Int) ≤ (i : Int) ∧ (i : Int) < (xs.length : Int) := ⟨by omega, by omega⟩
    by_cases e : y = xs.getD i 0
    · refine gJ5 h8 h7 (eq_true c1) hc (bqt e) ?_
      refine ⟨i, rfl, ?_⟩
      have : xs.contains y = true := by
        rw [List.contains_iff_mem, e, List.getD_eq_getElem?_getD, List.getElem?_eq_getElem hlt]; simp
      rw [this]; simp
    · refine gJ6 h8 h7 (eq_true c1) hc (bqf e) (i64_succ i (by omega)) ?_
      refine hnext _ w' ⟨i + 1, ?_, ?_, by omega, by rw [take_contains_succ hlt, hno]; simpa using e, rfl⟩ ?_
      · simp only [go_sem]
      · simp only [go_sem, h7]
      · exact up_lt h8
  · have : i = xs.length := by have : ¬ (i < xs.length) := by simpa using hge
                               omega
    subst this
    refine gO ?_
    refine ⟨-1, rfl, ?_⟩
    rw [List.take_length] at hno
    rw [hno]; rfl
theorem Contains_m (h:RdB w D v xs) (hl:xs.length≤100000) (y:Int):Cs Tryz.prog 51 [v,.int .i64 y] w fun r w'=>r=.bool (xs.contains y)∧w'=w:=by
 refine enter_slices_Contains___int_int_ rfl ?_
 unfold x_slices_Contains___int_int_
 refine gO ?_
 refine callT (Index_m h hl y) ?_
 rintro r w' ⟨⟨k,rfl,hk⟩,rfl⟩
 (repeat(first|with_reducible(first|refine nx ?_|refine r_6 rfl ?_)|simp only[go_sem,hk]))
theorem SrcIs.keep0 {w':World} (h:SrcIs w sz v m us) (k:Only [] w w'):SrcIs w' sz v m us:=by
 refine⟨h.1,?_⟩
 rcases h.2 with h1|⟨p,c,h1,h2⟩
 ·exact .inl h1
 ·refine .inr ⟨p,c,h1,?_⟩
  rcases Nat.eq_zero_or_pos (m*sz)with h0|h0
  ·rw[h0]at h2⊢;exact h2
  ·have:=(cellsAt_spec h2).2 0 h0
   obtain⟨u,hu⟩: ∃u,us[0]? =some u:=⟨us[0]'(by have:=h.1;omega),List.getElem?_eq_getElem _⟩
   rw[hu]at this
   have hlt:=cell_lt this
   rw[add_block]at hlt
   rw[cellsAt_heap (k.block p.block hlt (by simp))]
   exact h2
theorem SrcIs.val (h:SrcIs w sz v m us): ∃(a:Option Addr) (c:Nat),v=.slice a m c∧(a=none→m=0):=by
 rcases h.2 with⟨c,h1,h2⟩|⟨p,c,h1,h2⟩
 ·subst h2;exact⟨none,c,h1,fun _=>rfl⟩
 ·exact⟨some p,c,h1,fun h=>by cases h⟩
theorem sclone (h:SrcIs w 1 v m us) (h1: ∀u,u∈us→oneC u=true) (hm:m≤100000):Cs Tryz.prog 78 [v] w fun r w'=>Only [] w w'∧ ∃fp,Sl w' 1 r m us fp∧ ∀x,x∈fp→w.heap.size≤x:=by
 refine enter_slices_Clone___int_int_ rfl ?_
 unfold x_slices_Clone___int_int_
 obtain⟨a,c,rfl,h0⟩:=h.val
 cases a with
 |none=>
  have:m=0:=h0 rfl
  subst this
  have:us=[]:=List.eq_nil_of_length_eq_zero (by simpa using h.1)
  subst this
  refine gO ?_
  exact⟨Only.refl _ _,[],Sl.nil1 w,by simp⟩
 |some p=>
  refine gO ?_
  refine bslT fun q w1 hq hs1 hat1 ho1=>?_
  refine gO ?_
  refine appT (n:=0) (xs:=[]) (fp:=[q]) (m:=m) (us:=us) ?_ (h.keep0 ho1) h1 (by omega) (by omega) ?_
  ·have:([]:List Value)++[]=[]:=rfl
   exact Sl.mk1 (ys:=[]) hat1 rfl rfl
  intro v' w2 fp' hs2 hfp ho2 _
  refine gO ?_
  refine⟨ho1.trans ho2 fun x hx=>.inr ?_,fp',by simpa using hs2,?_⟩
  ·simp only[lms]at hx;omega
  ·intro x hx
   rcases hfp with rfl|rfl
   ·simp only[lms]at hx;omega
   ·simp only[lms]at hx;omega
theorem hAt12 (h : RdB w D v xs) (hl : xs.length ≤ 100000) (y : Int) : Cs Tryz.prog 52 [v, .int .i64 y] w fun r w' => (∃ k : Int, r = .int .i64 k ∧ decide (0 ≤ k) = xs.contains y) ∧ w' = w := by
  refine enter_ref12_At rfl ?_
  unfold x_ref12_At
  obtain ⟨a, cap, rfl, hrd⟩ := h
  refine gO ?_
  refine run_loop (4 :: 5 :: 6 :: 7 :: 8 :: 9 :: 10 :: 11 :: 12 :: 13 :: 14 :: 15 :: 16 :: 17 :: 18 :: []) (fun g w' => ∃ i : Nat, g 5 = .int .i64 i ∧ i ≤ xs.length ∧ (xs.take i).contains y = false ∧ w' = w) (fun g _ => upTo xs.length 5 g) ⟨0, by simp only [go_sem]; rfl, by omega, by simp, rfl⟩ fun g w' hI hnext => ?_
  obtain ⟨i, h5, hi, hno, rfl⟩ := hI
  refine gO1 h5 ?_
  refine condT (fun hlt => ?_) (fun hge => ?_)
  · have hlt : i < xs.length := by simpa using hlt
    obtain ⟨p, rfl, _, hc⟩ := hrd i hlt
    have c1 : (0 : Int) ≤ (i : Int) ∧ (i : Int) < (xs.length : Int) := ⟨by omega, by omega⟩
    by_cases e : xs.getD i 0 = y
    · refine gJ4 h5 (eq_true c1) hc (bqt e) ?_
      refine ⟨i, rfl, ?_⟩
      have : xs.contains y = true := by
        rw [List.contains_iff_mem, ← e, List.getD_eq_getElem?_getD, List.getElem?_eq_getElem hlt]; simp
      rw [this]; simp
    · refine gJ5 h5 (eq_true c1) hc (bqf e) (i64_succ i (by omega)) ?_
      refine hnext _ w' ⟨i + 1, ?_, by omega, by rw [take_contains_succ hlt, hno]; simpa using fun h => e h.symm, rfl⟩ ?_
      · simp only [go_sem]
      · exact up_lt h5
  · have : i = xs.length := by have : ¬ (i < xs.length) := by simpa using hge
                               omega
    subst this
    refine gO ?_
    refine ⟨-1, rfl, ?_⟩
    rw [List.take_length] at hno
    rw [hno]; rfl
theorem hHas12 (h:RdB w D v xs) (hl:xs.length≤100000) (y:Int):Cs Tryz.prog 13 [v,.int .i64 y] w fun r w'=>r=.bool (xs.contains y)∧w'=w:=by
 refine enter_ref12_Has rfl ?_
 unfold x_ref12_Has
 refine gO ?_
 refine callT (hAt12 h hl y) ?_
 rintro r w' ⟨⟨k,rfl,hk⟩,rfl⟩
 (repeat(first|with_reducible(first|refine nx ?_|refine r_6 rfl ?_)|simp only[go_sem,hk]))
def refsO (m:HO) (x:Int):List Int:=(List.range (shapeO m x).1.1.toNat).map fun(i:Nat)=>(refO m x (i:Int)).1
theorem shape_refs {m:HO} (hok: ∀s,m=some s→s.Ok) (x:Int):0≤(shapeO m x).1.1∧(shapeO m x).1.1≤15:=by
 match m,hok with
 |none,_=>exact⟨by simp[shapeO],by simp[shapeO]⟩
 |some s,hok=>
  unfold shapeO
  by_cases he:objE (some s) x=0
  ·simp only[he,if_true]
   have hh:hasO (some s) x=true:=by
    cases hh:hasO (some s) x with
    |true=>rfl
    |false=>simp[objE,hh]at he
   obtain⟨i,rfl,hi⟩:=has_spec (hok s rfl) hh
   obtain⟨_,_,r,d,k,g3,_,_,_,_,g8⟩:=(hok s rfl).start hi
   have:s.shapeAt ((2*i:Nat):Int)=((r:Int),(d:Int),(k:Int)):=by unfold HL.shapeAt;rw[tnc];exact g8
   rw[this]
   simp only[validS,Bool.and_eq_true,decide_eq_true_eq]at g3
   simp only
   omega
  ·simp only[he,if_false]
   omega
theorem HR.ok {m:HO} (h:HR w a fp m): ∀s,m=some s→s.Ok:=by
 rintro s rfl
 obtain⟨b,_,gB,gW,cB,cW,yB,yW,sb,sg,pb,pg,bl,bf,_,h3⟩:=h
 exact h3.ok
theorem hRefs {m : HO} (h : HR w a fp m) (x : Int) (hx : x ≤ 4611686018427387904) : Cs Tryz.prog 259 [.pointer a, .int .i64 x] w fun v w' => Only [] w w' ∧ ∃ fq, Sl w' 1 v (refsO m x).length (ints (refsO m x)) fq ∧ ∀ y, y ∈ fq → w.heap.size ≤ y := by
  refine enter_place_Refs rfl ?_
  unfold x_place_Refs
  refine gO ?_
  refine callT1 (hShape h x hx) fun w1 ho1 => ?_
  obtain ⟨hr0, hr15⟩ := shape_refs h.ok x
  have hrl : (refsO m x).length = (shapeO m x).1.1.toNat := by simp [refsO]
  generalize hsh : (shapeO m x).1 = sh at *
  refine gO ?_
  refine boxT fun q w2 hq hs2 hat2 ho2 => ?_
  refine gO ?_
  refine stNT (cs := shV sh) hat2 rfl (by simp) (shV_one _) fun w3 hs3 hat3 ho3 => ?_
  rw [setL_sh] at hat3
  have hz1 := ho1.size
  have o3 : Only [] w w3 := (ho1.nil ho2).trans ho3 fun y hy => by simp only [lms] at hy; subst hy; exact .inr (by omega)
  have c0 := hat3.cell 0
  simp only [shV, List.getElem?_cons_zero] at c0
  obtain ⟨n, hn⟩ : ∃ n : Nat, sh.1 = n := ⟨sh.1.toNat, by omega⟩
  rw [hn] at c0 hrl
  simp only [tnc] at hrl
  refine gO1 c0 ?_
  refine mksT (n := 0) (m := n) (by omega) (by omega) (by omega) fun g w4 hg hs4 hat4 ho4 => ?_
  rw [rowZ_one] at hat4
  have c4 : w4.cell? ⟨q, 0, none⟩ = some (.int .i64 n) := by rw [(hat3.keep0 ho4).cell]; simp [shV, hn]
  have o4 := o3.nil ho4
  refine gO1 c4 ?_
  refine run_loop (7 :: 8 :: 9 :: 10 :: 22 :: 23 :: 24 :: 25 :: 26 :: 27 :: 28 :: 29 :: 30 :: 31 :: 32 :: 33 :: 34 :: 35 :: 36 :: []) (fun g' w' => ∃ (i : Nat) (v : Value) (f : List Nat), g' 22 = .int .i64 i ∧ g' 7 = v ∧ i ≤ n ∧ Sl w' 1 v i (ints ((refsO m x).take i)) f ∧ (∀ y, y ∈ f → w.heap.size ≤ y) ∧ Only [] w w') (fun g' _ => upTo n 22 g')
    ⟨0, .slice (some ⟨g, 0, none⟩) 0 n, [g], by simp only [go_sem]; rfl, by simp only [go_sem], by omega, Sl.mk1 (ys := List.replicate n (.int .i64 0)) hat4 rfl (by simp [ints]), fun y hy => by have := o3.size; simp only [lms] at hy; omega, o4⟩ fun g' w5 hI hnext => ?_
  obtain ⟨i, v, f, h22, h7, hi, hsl, hf, ho5⟩ := hI
  refine gO1 h22 ?_
  refine condT (fun hlt => ?_) (fun hge => ?_)
  · have hlt : i < n := by simpa using hlt
    refine gO1 h22 ?_
    refine callT1 (hRef (h.keep0 ho5) x (i : Int) hx) fun w6 ho6 => ?_
    refine gO1 h7 ?_
    rw [fillL_one rfl rfl]
    refine gO ?_
    refine bslT fun q7 w7 hq7 hs7 hat7 ho7 => ?_
    refine gO1 h7 ?_
    refine appT ((hsl.keep0 ho6).keep0 ho7) (SrcIs.at hat7 rfl) (by simp [oneC]) (by omega) (by omega) ?_
    intro v8 w8 f8 hs8 hf8 ho8 _
    have hz5 := ho5.size
    have hz6 := ho6.size
    have e1 : (refsO m x).take (i + 1) = (refsO m x).take i ++ [(refO m x (i : Int)).1] := by
      rw [List.take_succ_eq_append_getElem (by omega)]
      simp [refsO]
    refine gO2 h22 (i64_succ i (by omega)) ?_
    refine hnext _ w8 ⟨i + 1, v8, f8, ?_, ?_, by omega, by rw [e1, ints_append]; exact hs8, ?_, ((ho5.nil ho6).nil ho7).trans ho8 fun y hy => .inr (hf y hy)⟩ ?_
    · simp only [go_sem]
    · simp only [go_sem]
    · intro y hy
      rcases hf8 with rfl | rfl
      · exact hf y hy
      · simp only [lms] at hy; omega
    · exact up_lt h22
  · have : i = n := by have : ¬ (i < n) := by simpa using hge
                       omega
    subst this
    refine gO1 h7 ?_
    refine ⟨ho5, f, ?_, hf⟩
    rw [hrl]
    rw [List.take_of_length_le (by omega)] at hsl
    exact hsl
end
namespace Rt
set_option maxRecDepth 8000
theorem ints_get {xs:List Int} {i:Nat} (rest:List Value) (h:i<xs.length):(ints xs++rest)[i]? =some (.int .i64 (xs.getD i 0)):=ints_append_get rest h
theorem ints_replicate (n:Nat):ints (List.replicate n 0)=List.replicate n (.int .i64 0):=by simp[ints]
structure MS where
 M:Nat
 S:List Int
 G:List Int
 Q:List Int
structure MS.Ok (s:MS):Prop where
 m1:1≤s.M
 m4:s.M≤4
 ls:s.S.length=16*s.M
 lg:s.G.length=16
 lq:s.Q.length≤64
abbrev PT:=Int×Int×Int
def plV (p:PT):List Value:=[.int .i64 p.1,.int .i64 p.2.1,.int .i64 p.2.2]
theorem plV_eq (p:PT):plV p=[.int .i64 p.1,.int .i64 p.2.1,.int .i64 p.2.2]:=Eq.trans rfl rfl
theorem plV_one {p:PT}: ∀u,u∈plV p→oneC u=true:=by
 intro u hu
 simp only[plV,List.mem_cons,List.not_mem_nil,or_false]at hu
 rcases hu with rfl|rfl|rfl<;>rfl
def seg (s:MS) (p:PT):Option (Nat×Nat):=
 if p.1=0∧0≤p.2.1∧p.2.1<s.M then(if 0≤p.2.2∧p.2.2<16 then some (0,(16*p.2.1+p.2.2).toNat)else none)
 else if p.1=1∧p.2.1=0 then(if 0≤p.2.2∧p.2.2<16 then some (1,p.2.2.toNat)else none)
 else if p.1=2∧p.2.1=0 then(if 0≤p.2.2∧p.2.2<s.Q.length then some (2,p.2.2.toNat)else none)
 else none
def MS.rd (s:MS):Nat×Nat→Int
 |(0,i)=>s.S.getD i 0
 |(1,i)=>s.G.getD i 0
 |(_,i)=>s.Q.getD i 0
def MS.wr (s:MS) (x:Nat×Nat) (a:Int):MS:=match x with
 |(0,i)=> {s with S:=s.S.set i a}
 |(1,i)=> {s with G:=s.G.set i a}
 |(_,i)=> {s with Q:=s.Q.set i a}
theorem MS.Ok.wr {s:MS} (h:s.Ok) (x:Nat×Nat) (a:Int):(s.wr x a).Ok:=by
 obtain⟨h1,h2,h3,h4,h5⟩:=h
 unfold MS.wr
 split<;>exact⟨h1,h2,by simpa using h3,by simpa using h4,by simpa using h5⟩
abbrev MO:=Option MS
def getO (m:MO) (p:PT):Int×Int:=match m with
 |none=>(0,5)
 |some s=>(match seg s p with|none=>(0,1)|some x=>(s.rd x,0))
def badA (p:PT) (a:Int):Bool:=decide (a<0)||(decide (a=0)&&decide (p.1=2))
def setO (m:MO) (p:PT) (a:Int):Int×MO:=match m with
 |none=>(5,none)
 |some s=>(match seg s p with|none=>(1,some s)|some x=>(if badA p a then(1,some s)else(0,some (s.wr x a))))
def pushO (m:MO) (a:Int):Int×MO:=match m with
 |none=>(5,none)
 |some s=>(if a≤0 then(1,some s)else(if s.Q.length=64 then(6,some s)else(0,some {s with Q:=s.Q++[a]})))
def popO (m:MO):(Int×Int)×MO:=match m with
 |none=>((0,5),none)
 |some s=>(match s.Q with| []=>((0,4),some s)|a::q=>((a,0),some {s with Q:=q}))
def newO (n:Int):MO:=if 1≤n∧n≤4 then some ⟨n.toNat,List.replicate (16*n.toNat) 0,List.replicate 16 0,[]⟩else none
theorem newO_ok {n:Int} {s:MS} (h:newO n=some s):s.Ok:=by
 unfold newO at h
 split at h
 ·rename_i hn;cases h
  exact⟨by show 1≤n.toNat;omega,by show n.toNat≤4;omega,by simp,by simp,by simp⟩
 ·cases h
def MS.V (s:MS):List Int:=s.S++s.G++s.Q
def everyS (s:MS):List PT:=((List.range (16*s.M)).map fun j=>((0:Int),((j/16:Nat):Int),((j%16:Nat):Int)))++((List.range 16).map fun j=>((1:Int),(0:Int),((j:Nat):Int)))++((List.range s.Q.length).map fun j=>((2:Int),(0:Int),((j:Nat):Int)))
def everyO:MO→List PT|none=>[]|some s=>everyS s
def mutO:MO→Int|none=>0|some s=>(s.M:Int)
def queueO:MO→List Int|none=>[]|some s=>s.Q
def filled (s:MS):List (PT×Int):=((everyS s).zip s.V).filter fun x=>x.2 !=0
def placesO:MO→List PT|none=>[]|some s=>(filled s).map (·.1)
def addNew (acc:List Int) (x:Int):List Int:=if acc.contains x then acc else acc++[x]
def leadsO:MO→List Int|none=>[]|some s=>((filled s).map (·.2)).foldl addNew []
theorem seg_cases {s:MS} {p:PT} {x:Nat×Nat} (h:s.Ok) (e:seg s p=some x):
  (p.1=0∧0≤p.2.1∧p.2.1<s.M∧0≤p.2.2∧p.2.2<16∧ ∃i,x=(0,i)∧(i:Int)=16*p.2.1+p.2.2∧i<s.S.length)∨
  (p.1=1∧p.2.1=0∧0≤p.2.2∧p.2.2<16∧ ∃i:Nat,x=(1,i)∧(i:Int)=p.2.2∧i<s.G.length)∨
  (p.1=2∧p.2.1=0∧0≤p.2.2∧p.2.2<s.Q.length∧ ∃i:Nat,x=(2,i)∧(i:Int)=p.2.2∧i<s.Q.length):=by
 unfold seg at e
 have h3:=h.ls;have h4:=h.lg
 split at e
 ·rename_i h1
  split at e
  ·rename_i h2;cases e
   exact .inl ⟨h1.1,h1.2.1,h1.2.2,h2.1,h2.2,_,rfl,by omega,by omega⟩
  ·cases e
 ·split at e
  ·rename_i h1
   split at e
   ·rename_i h2;cases e
    exact .inr (.inl ⟨h1.1,h1.2,h2.1,h2.2,_,rfl,by omega,by omega⟩)
   ·cases e
  ·split at e
   ·rename_i h1
    split at e
    ·rename_i h2;cases e
     exact .inr (.inr ⟨h1.1,h1.2,h2.1,h2.2,_,rfl,by omega,by omega⟩)
    ·cases e
   ·cases e
end Rt
section
namespace Rt
variable {S fg fp fq fs:List Nat} {ys:List Value} {m:MO} {s:MS} {b c cap g i n q:Nat} {a:Option Addr} {p:PT} {vg vq vs:Value} {w w':World}
structure PMs (w:World) (b:Nat) (s:MS) (vs vg vq:Value) (fs fg fq:List Nat):Prop where
 ok:s.Ok
 nd:(b::(fs++(fg++fq))).Nodup
 hb:At w b [.int .i64 s.M,vs,vg,vq]
 h0:Sl w 1 vs (16*s.M) (ints s.S) fs
 h1:Sl w 1 vg 16 (ints s.G) fg
 h2:Sl w 1 vq s.Q.length (ints s.Q) fq
def PM (w:World) (b:Nat) (s:MS) (fp:List Nat):Prop:= ∃vs vg vq fs fg fq,fp=b::(fs++(fg++fq))∧PMs w b s vs vg vq fs fg fq
def PR (w:World) (a:Option Addr) (fp:List Nat) (m:MO):Prop:=match m with
 |some s=> ∃b,a=some ⟨b,0,none⟩∧PM w b s fp
 |none=>(a=none∧fp=[])∨ ∃b,a=some ⟨b,0,none⟩∧fp=[b]∧At w b [.int .i64 0,.slice none 0 0,.slice none 0 0,.slice none 0 0]
theorem PMs.keep (h:PMs w b s vs vg vq fs fg fq) (k:Only S w w') (hd: ∀x,x∈b::(fs++(fg++fq))→x∉S):PMs w' b s vs vg vq fs fg fq:=
 ⟨h.ok,h.nd,h.hb.keep k (hd b (by simp)),h.h0.keep k fun x hx=>hd x (by simp[hx]),h.h1.keep k fun x hx=>hd x (by simp[hx]),h.h2.keep k fun x hx=>hd x (by simp[hx])⟩
theorem PMs.keep0 (h:PMs w b s vs vg vq fs fg fq) (k:Only [] w w'):PMs w' b s vs vg vq fs fg fq:=h.keep k fun _ _=>by simp
theorem PM.keep (h:PM w b s fp) (k:Only S w w') (hd: ∀x,x∈fp→x∉S):PM w' b s fp:=by
 obtain⟨vs,vg,vq,fs,fg,fq,rfl,h⟩:=h
 exact⟨vs,vg,vq,fs,fg,fq,rfl,h.keep k hd⟩
theorem PM.lt (h:PM w b s fp): ∀x,x∈fp→x<w.heap.size:=by
 obtain⟨vs,vg,vq,fs,fg,fq,rfl,h⟩:=h
 intro x hx
 simp only[List.mem_cons,List.mem_append]at hx
 rcases hx with rfl|hx|hx|hx
 ·exact h.hb.lt
 ·exact h.h0.lt x hx
 ·exact h.h1.lt x hx
 ·exact h.h2.lt x hx
theorem PR.keep (h:PR w a fp m) (k:Only S w w') (hd: ∀x,x∈fp→x∉S):PR w' a fp m:=by
 match m,h with
 |some s,⟨b,h1,h2⟩=>exact⟨b,h1,h2.keep k hd⟩
 |none,.inl h=>exact .inl h
 |none,.inr ⟨b,h1,h2,h3⟩=>subst h2;exact .inr ⟨b,h1,rfl,h3.keep k (hd b (by simp))⟩
theorem PR.keep0 (h:PR w a fp m) (k:Only [] w w'):PR w' a fp m:=h.keep k fun _ _=>by simp
theorem PR.lt (h:PR w a fp m): ∀x,x∈fp→x<w.heap.size:=by
 match m,h with
 |some s,⟨b,h1,h2⟩=>exact h2.lt
 |none,.inl h=>rw[h.2];intro x hx;cases hx
 |none,.inr ⟨b,h1,h2,h3⟩=>subst h2;intro x hx;simp only[lms]at hx;subst hx;exact h3.lt
def PlaceAt (w:World) (b:Nat) (s:MS) (fp:List Nat) (x:Nat×Nat) (ad:Addr):Prop:=
 ∃g i xs,ad=⟨g,i,none⟩∧At w g xs∧xs[i]? =some (.int .i64 (s.rd x))∧g∈fp∧
  ∀a w',At w' g (xs.set i (.int .i64 a))→Only [g] w w'→PM w' b (s.wr x a) fp
theorem PMs.place0 (h:PMs w b s vs vg vq [g] fg fq) (hv:vs=.slice (some ⟨g,0,none⟩) (16*s.M) cap) (hat:At w g (ints s.S++ys)) (hc:(ints s.S++ys).length=cap) (hi:i<s.S.length):
  PlaceAt w b s (b::([g]++(fg++fq))) (0,i) ⟨g,i,none⟩:=by
 have hnd:=h.nd
 simp only[List.cons_append,List.nil_append,List.nodup_cons,List.mem_cons,List.mem_append,not_or,List.nodup_append]at hnd
 obtain⟨⟨n1,n2,n3⟩,⟨n4,n5⟩,n6⟩:=hnd
 refine⟨g,i,_,rfl,hat,ints_get ys hi,by simp,fun a w' hat' ho=>?_⟩
 refine⟨vs,vg,vq,[g],fg,fq,rfl,h.ok.wr (0,i) a,h.nd,h.hb.keep ho (by simpa using n1),?_,h.h1.keep ho ?_,h.h2.keep ho ?_⟩
 ·rw[ints_set ys hi]at hat'
  rw[hv]
  exact Sl.mk1 hat' (by rw[ints_length];have:=h.ok.ls;simp only[MS.wr,List.length_set];omega) (by rw[←hc];simp[ints_length,MS.wr])
 ·intro x hx;simp only[lms];rintro rfl;exact n4 hx
 ·intro x hx;simp only[lms];rintro rfl;exact n5 hx
theorem PMs.place1 (h:PMs w b s vs vg vq fs [g] fq) (hv:vg=.slice (some ⟨g,0,none⟩) 16 cap) (hat:At w g (ints s.G++ys)) (hc:(ints s.G++ys).length=cap) (hi:i<s.G.length):
  PlaceAt w b s (b::(fs++([g]++fq))) (1,i) ⟨g,i,none⟩:=by
 have hnd:=h.nd
 simp only[List.nodup_cons,List.mem_append,not_or,List.nodup_append,lms,List.cons_append,List.nil_append,List.mem_cons]at hnd
 obtain⟨⟨n1,n2,n3⟩,n4,⟨n5,n5'⟩,n6⟩:=hnd
 refine⟨g,i,_,rfl,hat,ints_get ys hi,by simp,fun a w' hat' ho=>?_⟩
 refine⟨vs,vg,vq,fs,[g],fq,rfl,h.ok.wr (1,i) a,h.nd,h.hb.keep ho (by simpa using n2),h.h0.keep ho ?_,?_,h.h2.keep ho ?_⟩
 ·intro x hx;simp only[lms];rintro rfl;exact n6 x hx x (.inl rfl) rfl
 ·rw[ints_set ys hi]at hat'
  rw[hv]
  exact Sl.mk1 hat' (by rw[ints_length];have:=h.ok.lg;simp only[MS.wr,List.length_set];omega) (by rw[←hc];simp[ints_length,MS.wr])
 ·intro x hx;simp only[lms];rintro rfl;exact n5 hx
theorem PMs.place2 (h:PMs w b s vs vg vq fs fg [g]) (hv:vq=.slice (some ⟨g,0,none⟩) s.Q.length cap) (hat:At w g (ints s.Q++ys)) (hc:(ints s.Q++ys).length=cap) (hi:i<s.Q.length):
  PlaceAt w b s (b::(fs++(fg++[g]))) (2,i) ⟨g,i,none⟩:=by
 have hnd:=h.nd
 simp only[List.nodup_cons,List.mem_append,not_or,List.nodup_append,lms]at hnd
 obtain⟨⟨n1,n2,n3⟩,n4,⟨n5,n5',n6⟩,n7⟩:=hnd
 refine⟨g,i,_,rfl,hat,ints_get ys hi,by simp,fun a w' hat' ho=>?_⟩
 refine⟨vs,vg,vq,fs,fg,[g],rfl,h.ok.wr (2,i) a,h.nd,h.hb.keep ho (by simpa using n3),h.h0.keep ho ?_,h.h1.keep ho ?_,?_⟩
 ·intro x hx;simp only[lms];rintro rfl;exact n7 x hx x (.inr rfl) rfl
 ·intro x hx;simp only[lms];rintro rfl;exact n6 x hx x rfl rfl
 ·rw[ints_set ys hi]at hat'
  rw[hv]
  show Sl w' 1 _ (s.Q.set i a).length (ints (s.Q.set i a)) [g]
  rw[List.length_set]
  exact Sl.mk1 hat' (by rw[ints_length];simp) (by rw[←hc];simp[ints_length])
theorem made_nil (w:World):Cs Tryz.prog 77 [.pointer none] w fun v w'=>v=.bool false∧w'=w:=by
 refine enter_roots_Roots_made rfl ?_
 unfold x_roots_Roots_made
 (repeat(first|with_reducible(first|refine nx ?_|refine r_6 rfl ?_)|simp only[go_sem]))
theorem made_at (b:Nat) (n:Int) (c:List Value) (w:World) (h:At w b (.int .i64 n::c)):Cs Tryz.prog 77 [.pointer (some ⟨b,0,none⟩)] w fun v w'=>v=.bool (decide (0<n))∧w'=w:=by
 refine enter_roots_Roots_made rfl ?_
 unfold x_roots_Roots_made
 (repeat(first|with_reducible(first|refine nx ?_|refine r_6 rfl ?_)|simp only[go_sem,h.cell]))
theorem made_m (h:PR w a fp m):Cs Tryz.prog 77 [.pointer a] w fun v w'=>v=.bool m.isSome∧w'=w:=by
 match m,h with
 |some s,⟨b,h1,vs,vg,vq,fs,fg,fq,_,k⟩=>
  subst h1
  refine(made_at b _ _ w k.hb).mono ?_
  rintro v w' ⟨rfl,rfl⟩
  have:=k.ok.m1
  exact⟨by simp;omega,rfl⟩
 |none,.inl ⟨h1,_⟩=>subst h1;exact made_nil w
 |none,.inr ⟨b,h1,_,h3⟩=>subst h1;exact made_at b 0 _ w h3
theorem at1_in {o:Nat} (hq:At w q (plV p)) (hp:p.2.2=(i:Int)) (hi:i<n):Cs Tryz.prog 284 [.slice (some ⟨g,o,none⟩) n c,.pointer (some ⟨q,0,none⟩)] w fun v w'=>v=.pointer (some ⟨g,o+i,none⟩)∧w'=w:=by
 refine enter_roots_Roots_at_1 rfl ?_
 unfold x_roots_Roots_at_1
 rw[plV_eq]at hq
 have c1: ¬(i:Int)<0:=by omega
 have c2: ¬(n:Int)≤(i:Int):=by omega
 have c3:(0:Int)≤(i:Int)∧(i:Int)<(n:Int):=⟨by omega,by omega⟩
 (repeat(first|with_reducible(first|refine nx ?_|refine r_6 rfl ?_)|simp only[go_sem,hq.cell,hp,dfl c1,dfl c2,if_pos c3,tnc,Nat.mul_one]))
theorem at1_out (hq:At w q (plV p)) (hp: ¬(0≤p.2.2∧p.2.2<n)):Cs Tryz.prog 284 [.slice a n c,.pointer (some ⟨q,0,none⟩)] w fun v w'=>v=.pointer none∧w'=w:=by
 refine enter_roots_Roots_at_1 rfl ?_
 unfold x_roots_Roots_at_1
 rw[plV_eq]at hq
 by_cases c1:p.2.2<0
 ·(repeat(first|with_reducible(first|refine nx ?_|refine r_6 rfl ?_)|simp only[go_sem,hq.cell,dtr c1]))
 ·have c2:(n:Int)≤p.2.2:=by omega
  (repeat(first|with_reducible(first|refine nx ?_|refine r_6 rfl ?_)|simp only[go_sem,hq.cell,dfl c1,dtr c2]))
theorem at_m (h:PM w b s fp) (p:PT):Cs Tryz.prog 247 [.pointer (some ⟨b,0,none⟩),.agg ⟨plV p⟩] w fun v w'=>Only [] w w'∧
  ∃ad,v=.pointer ad∧ad.isSome=(seg s p).isSome∧ ∀x,seg s p=some x→ ∃d,ad=some d∧PlaceAt w' b s fp x d:=by
 refine enter_roots_Roots_at rfl ?_
 unfold x_roots_Roots_at
 refine gO ?_
 refine boxT fun q w1 hq hs1 hat1 ho1=>?_
 obtain⟨vs,vg,vq,fs,fg,fq,rfl,hm⟩:=h
 have m1:=hm.keep0 ho1
 have hb:=m1.hb
 have hok:=hm.ok
 have hM1:=hok.m1;have hM4:=hok.m4;have hls:=hok.ls;have hlg:=hok.lg
 obtain⟨k,m,i⟩:=p
 have hat1:At w1 q (plV (k,m,i)):=hat1
 have hc:At w1 q [.int .i64 k,.int .i64 m,.int .i64 i]:=hat1
 have out: ∀w',Only [] w1 w'→seg s (k,m,i)=none→Only [] w w'∧ ∃ad,(Value.pointer none)=.pointer ad∧ad.isSome=(seg s (k,m,i)).isSome∧ ∀x,seg s (k,m,i)=some x→ ∃d,ad=some d∧PlaceAt w' b s (b::(fs++(fg++fq))) x d:=
  fun w' ho' e=>⟨ho1.nil ho',none,rfl,by rw[e];rfl,fun x hx=>by rw[e]at hx;cases hx⟩
 have hin: ∀w',Only [] w1 w'→ ∀x d,seg s (k,m,i)=some x→PlaceAt w' b s (b::(fs++(fg++fq))) x d→Only [] w w'∧ ∃ad,(Value.pointer (some d))=.pointer ad∧ad.isSome=(seg s (k,m,i)).isSome∧ ∀x,seg s (k,m,i)=some x→ ∃d,ad=some d∧PlaceAt w' b s (b::(fs++(fg++fq))) x d:=
  fun w' ho' x d e hp=>⟨ho1.nil ho',some d,rfl,by rw[e];rfl,fun y hy=>by rw[e]at hy;cases hy;exact⟨d,rfl,hp⟩⟩
 by_cases c0:k=0
 ·subst c0
  by_cases c1:0≤m
  ·by_cases c2:m<(s.M:Int)
   ·obtain⟨mn,rfl⟩: ∃mn:Nat,m=mn:=⟨m.toNat,by omega⟩
    have e1:IntKind.i64.wrap ((mn:Int)*16)=((mn*16:Nat):Int):=by rw[show((mn:Int)*16)=((mn*16:Nat):Int) by omega,i64_of_nat _ (by omega)]
    have e2:IntKind.i64.wrap ((mn:Int)+1)=((mn+1:Nat):Int):=i64_succ mn (by omega)
    have e3:IntKind.i64.wrap (((mn+1:Nat):Int)*16)=(((mn+1)*16:Nat):Int):=by rw[show(((mn+1:Nat):Int)*16)=(((mn+1)*16:Nat):Int) by omega,i64_of_nat _ (by omega)]
    refine gO5 hc.cell hb.cell (bqt (rfl:(0:Int)=0)) (dtr c1) (dtr c2) ?_
    refine run_drt [q,b] ?_
    obtain⟨g,cap,ys,hv,hg,hfs,hcap⟩:=m1.h0.pos (by omega)
    subst hfs
    have hcap2:(ints s.S++ys).length=cap:=by
     rcases m1.h0.2 with⟨_,h0,_⟩|⟨g',cap',ys',T,h1,h2,h3,h4,h5⟩
     ·omega
     ·rw[hv]at h1;cases h1;cases h2
      obtain⟨T',hg⟩:=hg
      rw[hg]at h3;simp at h3
      obtain⟨h3,_⟩:=h3
      rw[h3];simpa using h4
    subst hv
    (repeat(first|with_reducible(first|refine nx ?_|refine r_6 rfl ?_)|simp only[go_sem,hc.cell,hb.cell,e1,e2,e3,Nat.mul_one,slcO_lh (show mn*16≤(mn+1)*16 by omega) (show(mn+1)*16≤cap by omega) (show mn*16<cap by omega)]))
    by_cases c3:0≤i∧i<16
    ·obtain⟨j,rfl⟩: ∃j:Nat,i=j:=⟨i.toNat,by omega⟩
     refine callVS (vs:=[.slice (some ⟨g,mn*16,none⟩) ((mn+1)*16-mn*16) (cap-mn*16),.pointer (some ⟨q,0,none⟩)]) ?_ (by kernel_rfl) (at1_in (w:=w1.drew.drew) (n:=(mn+1)*16-mn*16) (i:=j) (p:=(0,(mn:Int),(j:Int))) hat1 rfl (by omega)) ?_
     ·rfl
     rintro v w' ⟨rfl,rfl⟩
     refine⟨.inr (SB.refl _ _),?_⟩
     refine gO ?_
     refine hin _ (((Only.drew [] _).nil (Only.drew [] _))) (0,mn*16+j) _ ?_ ?_
     ·simp only[seg,c1,c2,and_self,if_true,c3];congr 2;omega
     ·exact(m1.keep0 ((Only.drew [] _).nil (Only.drew [] _))).place0 rfl hg hcap2 (by omega)
    ·refine callVS (vs:=[.slice (some ⟨g,mn*16,none⟩) ((mn+1)*16-mn*16) (cap-mn*16),.pointer (some ⟨q,0,none⟩)]) ?_ (by kernel_rfl) (at1_out (w:=w1.drew.drew) (n:=(mn+1)*16-mn*16) (p:=(0,(mn:Int),i)) hat1 (by simp only;omega)) ?_
     ·rfl
     rintro v w' ⟨rfl,rfl⟩
     refine⟨.inr (SB.refl _ _),?_⟩
     refine gO ?_
     exact out _ (((Only.drew [] _).nil (Only.drew [] _))) (by simp only[seg,c1,c2,and_self,if_true];rw[if_neg c3])
   ·refine gO5 hc.cell hb.cell (bqt (rfl:(0:Int)=0)) (dtr c1) (dfl c2) ?_
    exact out _ (Only.drew [] _) (by simp[seg,c2])
  ·refine gO4 hc.cell hb.cell (bqt (rfl:(0:Int)=0)) (dfl c1) ?_
   exact out _ (Only.drew [] _) (by simp[seg,c1])
 ·by_cases c1:k=1
  ·subst c1
   by_cases c2:m=0
   ·subst c2
    obtain⟨g,cap,ys,hv,hg,hfs,hcap⟩:=m1.h1.pos (by omega)
    subst hfs
    have hcap2:(ints s.G++ys).length=cap:=by
     rcases m1.h1.2 with⟨_,h0,_⟩|⟨g',cap',ys',T,h1,h2,h3,h4,h5⟩
     ·omega
     ·rw[hv]at h1;cases h1;cases h2
      obtain⟨T',hg⟩:=hg
      rw[hg]at h3;simp at h3
      obtain⟨h3,_⟩:=h3
      rw[h3];simpa using h4
    subst hv
    refine gO5 hc.cell hb.cell (bqt (rfl:(1:Int)=1)) (bqt (rfl:(0:Int)=0)) (bqf (show¬(1:Int)=0 by omega)) ?_
    by_cases c3:0≤i∧i<16
    ·obtain⟨j,rfl⟩: ∃j:Nat,i=j:=⟨i.toNat,by omega⟩
     refine callVT (vs:=[.slice (some ⟨g,0,none⟩) 16 cap,.pointer (some ⟨q,0,none⟩)]) rfl (by kernel_rfl) (at1_in (w:=w1.drew) (o:=0) (n:=16) (i:=j) (p:=(1,0,(j:Int))) hat1 rfl (by omega)) ?_
     rintro v w' ⟨rfl,rfl⟩
     refine gO ?_
     refine hin _ (Only.drew [] _) (1,j) _ ?_ ?_
     ·simp[seg,c3]
     ·exact(m1.keep0 (Only.drew [] _)).place1 rfl hg hcap2 (by omega)
    ·refine callVT (vs:=[.slice (some ⟨g,0,none⟩) 16 cap,.pointer (some ⟨q,0,none⟩)]) rfl (by kernel_rfl) (at1_out (w:=w1.drew) (n:=16) (p:=(1,0,i)) hat1 (by simp only;omega)) ?_
     rintro v w' ⟨rfl,rfl⟩
     refine gO ?_
     exact out _ (Only.drew [] _) (by simp[seg];omega)
   ·refine gO6 hc.cell hb.cell (bqt (rfl:(1:Int)=1)) (bqf c2) (bqf (show¬(1:Int)=0 by omega)) (bqf (show¬(1:Int)=2 by omega)) ?_
    exact out _ (Only.drew [] _) (by simp[seg,c2])
  ·by_cases c1':k=2
   ·subst c1'
    by_cases c2:m=0
    ·subst c2
     obtain⟨a',cap,hv⟩:=m1.h2.val
     subst hv
     refine gO6 hc.cell hb.cell (bqt (rfl:(2:Int)=2)) (bqt (rfl:(0:Int)=0)) (bqf (show¬(2:Int)=0 by omega)) (bqf (show¬(2:Int)=1 by omega)) ?_
     by_cases c3:0≤i∧i<s.Q.length
     ·obtain⟨j,rfl⟩: ∃j:Nat,i=j:=⟨i.toNat,by omega⟩
      obtain⟨g,cap,ys,hv,hg,hfs,hcap⟩:=m1.h2.pos (by omega)
      subst hfs
      cases hv
      have hcap2:(ints s.Q++ys).length=cap:=by
       rcases m1.h2.2 with⟨_,h0,_⟩|⟨g',cap',ys',T,h1,h2,h3,h4,h5⟩
       ·omega
       ·cases h1;cases h2
        obtain⟨T',hg⟩:=hg
        rw[hg]at h3;simp at h3
        obtain⟨h3,_⟩:=h3
        rw[h3];simpa using h4
      refine callVT (vs:=[.slice (some ⟨g,0,none⟩) s.Q.length cap,.pointer (some ⟨q,0,none⟩)]) rfl (by kernel_rfl) (at1_in (w:=w1.drew) (o:=0) (n:=s.Q.length) (i:=j) (p:=(2,0,(j:Int))) hat1 rfl (by omega)) ?_
      rintro v w' ⟨rfl,rfl⟩
      refine gO ?_
      refine hin _ (Only.drew [] _) (2,j) _ ?_ ?_
      ·simp[seg];omega
      ·exact(m1.keep0 (Only.drew [] _)).place2 rfl hg hcap2 (by omega)
     ·refine callVT (vs:=[.slice a' s.Q.length cap,.pointer (some ⟨q,0,none⟩)]) rfl (by kernel_rfl) (at1_out (w:=w1.drew) (n:=s.Q.length) (p:=(2,0,i)) hat1 (by simp only;omega)) ?_
      rintro v w' ⟨rfl,rfl⟩
      refine gO ?_
      exact out _ (Only.drew [] _) (by simp[seg];omega)
    ·refine gO6 hc.cell hb.cell (bqt (rfl:(2:Int)=2)) (bqf c2) (bqf (show¬(2:Int)=0 by omega)) (bqf (show¬(2:Int)=1 by omega)) ?_
     exact out _ (Only.drew [] _) (by simp[seg,c2])
   ·refine gO5 hc.cell hb.cell (bqf c0) (bqf c1) (bqf c1') ?_
    exact out _ (Only.drew [] _) (by simp[seg,c0,c1,c1'])
end Rt
end
section
namespace Rt
set_option maxRecDepth 8000
variable {fp:List Nat} {m:MO} {a:Option Addr} {w:World}
theorem lt_of_get {xs:List Value} {i:Nat} {v:Value} (h:xs[i]? =some v):i<xs.length:=(List.getElem?_eq_some_iff.1 h).1
theorem place_m (h : PR w a fp m) (p : PT) : Cs Tryz.prog 189 [.pointer a, .agg ⟨plV p⟩] w fun v w' => Only [] w w' ∧
    ((m = none ∧ v = .tuple #[.pointer none, .int .i64 5]) ∨ ∃ s, m = some s ∧ ((seg s p = none ∧ v = .tuple #[.pointer none, .int .i64 1]) ∨
      ∃ x b d, seg s p = some x ∧ a = some ⟨b, 0, none⟩ ∧ v = .tuple #[.pointer (some d), .int .i64 0] ∧ PlaceAt w' b s fp x d)) := by
  refine enter_roots_Roots_place rfl ?_
  unfold x_roots_Roots_place
  refine gO ?_
  refine boxT fun q w1 hq hs1 hat1 ho1 => ?_
  have h' := h.keep0 ho1
  refine gO ?_
  refine callT0 (made_m h') ?_
  match m, h, h' with
  | none, _, _ =>
    (repeat (first | with_reducible (first | refine nx ?_ | refine r_6 rfl ?_) | simp only [go_sem, Option.isSome_none]))
    exact ho1
  | some s, _, ⟨b, hb, hp⟩ =>
    subst hb
    have hc : At w1 q [.int .i64 p.1, .int .i64 p.2.1, .int .i64 p.2.2] := hat1
    have hcs : cellsAt w1 ⟨q, 0, none⟩ 3 = some (plV p) := cellsAt_at hat1 0 3 (by simp [plV])
    (repeat (first | with_reducible (first | refine nx ?_ | refine r_6 rfl ?_) | simp only [go_sem, Option.isSome_some, hcs]))
    refine callT (at_m hp p) ?_
    rintro v w2 ⟨ho2, ad, rfl, hsome, hx⟩
    cases e : seg s p with
    | none =>
      rw [e] at hsome
      cases ad with
      | some d => cases hsome
      | none =>
        refine gO ?_
        exact ⟨ho1.nil ho2, .inr ⟨s, rfl, .inl (by first | exact e | exact ⟨e, rfl⟩)⟩⟩
    | some x =>
      obtain ⟨d, rfl, hd⟩ := hx x e
      refine gO ?_
      exact ⟨ho1.nil ho2, .inr ⟨s, rfl, .inr ⟨x, b, d, e, rfl, rfl, hd⟩⟩⟩
theorem Get_m (h:PR w a fp m) (p:PT):Cs Tryz.prog 107 [.pointer a,.agg ⟨plV p⟩] w fun v w'=>v=.tuple #[.int .i64 (getO m p).1,.int .i64 (getO m p).2]∧Only [] w w':=by
 refine enter_roots_Roots_Get rfl ?_
 unfold x_roots_Roots_Get
 refine gO ?_
 refine boxT fun q w1 hq hs1 hat1 ho1=>?_
 have h':=h.keep0 ho1
 have hcs:cellsAt w1 ⟨q,0,none⟩ 3=some (plV p):=cellsAt_at hat1 0 3 (by simp[plV])
 refine gO1 hcs ?_
 refine callT (place_m h' p) ?_
 rintro v w2 ⟨ho2,⟨rfl,rfl⟩|⟨s,rfl,⟨e,rfl⟩|⟨x,b,d,e,rfl,rfl,hd⟩⟩⟩
 ·refine gO1 (bnt (show¬(5:Int)=0 by omega)) ?_
  exact⟨rfl,ho1.nil ho2⟩
 ·refine gO1 (bnt (show¬(1:Int)=0 by omega)) ?_
  exact⟨by simp only[getO,e],ho1.nil ho2⟩
 ·obtain⟨g,i,xs,rfl,hat,hget,hg,hset⟩:=hd
  refine gO3 (bnf (rfl:(0:Int)=0)) hat.cell hget ?_
  exact⟨by simp only[getO,e],ho1.nil ho2⟩
theorem Set_m (h:PR w a fp m) (p:PT) (y:Int):Cs Tryz.prog 169 [.pointer a,.agg ⟨plV p⟩,.int .i64 y] w fun v w'=>v=.int .i64 (setO m p y).1∧PR w' a fp (setO m p y).2∧Only fp w w'∧((setO m p y).1≠0→Only [] w w'):=by
 refine enter_roots_Roots_Set rfl ?_
 unfold x_roots_Roots_Set
 refine gO ?_
 refine boxT fun q w1 hq hs1 hat1 ho1=>?_
 have h':=h.keep0 ho1
 have hcs:cellsAt w1 ⟨q,0,none⟩ 3=some (plV p):=cellsAt_at hat1 0 3 (by simp[plV])
 have hc:At w1 q [.int .i64 p.1,.int .i64 p.2.1,.int .i64 p.2.2]:=hat1
 refine gO1 hcs ?_
 refine callT (place_m h' p) ?_
 rintro v w2 ⟨ho2,⟨rfl,rfl⟩|⟨s,rfl,⟨e,rfl⟩|⟨x,b,d,e,rfl,rfl,hd⟩⟩⟩
 ·refine gO1 (bnt (show¬(5:Int)=0 by omega)) ?_
  exact⟨rfl,h'.keep0 ho2,(ho1.nil ho2).of_nil,fun _=>ho1.nil ho2⟩
 ·refine gO1 (bnt (show¬(1:Int)=0 by omega)) ?_
  exact⟨by simp only[setO,e],by simp only[setO,e];exact h'.keep0 ho2,(ho1.nil ho2).of_nil,fun _=>ho1.nil ho2⟩
 ·obtain⟨g,i,xs,rfl,hat,hget,hg,hset⟩:=hd
  have hc2:=hc.keep0 ho2
  have bad:badA p y=true→(setO (some s) p y)=(1,some s):=fun hb=>by simp only[setO,e,hb,if_true]
  have good:badA p y=false→(setO (some s) p y)=(0,some (s.wr x y)):=fun hb=>by simp only[setO,e,hb,Bool.false_eq_true,if_false]
  have fin:badA p y=false→ ∀w',At w' g (xs.set i (.int .i64 y))→Only [g] w2 w'→(Value.int .i64 0)=.int .i64 (setO (some s) p y).1∧PR w' (some ⟨b,0,none⟩) fp (setO (some s) p y).2∧Only fp w w'∧((setO (some s) p y).1≠0→Only [] w w'):=by
   intro hb w' hat' ho'
   rw[good hb]
   exact⟨rfl,⟨b,rfl,hset y w' hat' ho'⟩,(ho1.nil ho2).of_nil.same (ho'.mono fun x hx=>by simp only[lms]at hx;subst hx;exact .inl hg),fun hne=>absurd rfl hne⟩
  by_cases c1:y<0
  ·refine gO2 (bnf (rfl:(0:Int)=0)) (dtr c1) ?_
   rw[bad (by simp[badA,c1])]
   exact⟨rfl,h'.keep0 ho2,(ho1.nil ho2).of_nil,fun _=>ho1.nil ho2⟩
  ·by_cases c2:y=0
   ·by_cases c3:p.1=2
    ·refine gO5 (bnf (rfl:(0:Int)=0)) (dfl c1) (bqt c2) (bqt c3) hc2.cell ?_
     rw[bad (by simp[badA,c2,c3])]
     exact⟨rfl,h'.keep0 ho2,(ho1.nil ho2).of_nil,fun _=>ho1.nil ho2⟩
    ·refine gO5 (bnf (rfl:(0:Int)=0)) (dfl c1) (bqt c2) (bqf c3) hc2.cell ?_
     refine stT hat (lt_of_get hget) rfl fun w3 hs3 hat3 ho3=>?_
     refine gO ?_
     exact fin (by simp[badA,c1,c3]) w3 hat3 ho3
   ·refine gO4 (bnf (rfl:(0:Int)=0)) (dfl c1) (bqf c2) hc2.cell ?_
    refine stT hat (lt_of_get hget) rfl fun w3 hs3 hat3 ho3=>?_
    refine gO ?_
    exact fin (by simp[badA,c1,c2]) w3 hat3 ho3
theorem Mutators_m (h:PR w a fp m):Cs Tryz.prog 100 [.pointer a] w fun v w'=>v=.int .i64 (mutO m)∧w'=w:=by
 refine enter_roots_Roots_Mutators rfl ?_
 unfold x_roots_Roots_Mutators
 refine gO ?_
 refine callT0 (made_m h) ?_
 match m,h with
 |none,_=>
  (repeat(first|with_reducible(first|refine nx ?_|refine r_6 rfl ?_)|simp only[go_sem,Option.isSome_none]))
  rfl
 |some s,⟨b,hb,vs,vg,vq,fs,fg,fq,_,hp⟩=>
  subst hb
  (repeat(first|with_reducible(first|refine nx ?_|refine r_6 rfl ?_)|simp only[go_sem,Option.isSome_some,hp.hb.cell]))
  rfl
theorem Queue_m (h:PR w a fp m):Cs Tryz.prog 20 [.pointer a] w fun v w'=>Only [] w w'∧ ∃fp',Sl w' 1 v (queueO m).length (ints (queueO m)) fp'∧ ∀x,x∈fp'→w.heap.size≤x:=by
 refine enter_roots_Roots_Queue rfl ?_
 unfold x_roots_Roots_Queue
 refine gO ?_
 refine callT0 (made_m h) ?_
 match m,h with
 |none,_=>
  (repeat(first|with_reducible(first|refine nx ?_|refine r_6 rfl ?_)|simp only[go_sem,Option.isSome_none]))
  exact⟨Only.refl _ _,[],Sl.nil1 w,by simp⟩
 |some s,⟨b,hb,vs,vg,vq,fs,fg,fq,_,hp⟩=>
  subst hb
  (repeat(first|with_reducible(first|refine nx ?_|refine r_6 rfl ?_)|simp only[go_sem,Option.isSome_some,hp.hb.cell]))
  refine callT (sclone hp.h2.src ints_one (by have:=hp.ok.lq;omega)) ?_
  rintro v w' ⟨ho,fp',hs,hf⟩
  refine gO ?_
  exact⟨ho,fp',hs,hf⟩
theorem PMs.turn {w':World} {b:Nat} {s:MS} {vs vg vq vq':Value} {fs fg fq fq':List Nat} {q:List Int} (h:PMs w b s vs vg vq fs fg fq) (hl:q.length≤64) (hq:Sl w' 1 vq' q.length (ints q) fq') (hb:At w' b [.int .i64 s.M,vs,vg,vq'])
  (ho:Only (b::fq) w w') (hf: ∀x,x∈fq'→x∈fq∨w.heap.size≤x):PM w' b {s with Q:=q} (b::(fs++(fg++fq'))):=by
 have hnd:=h.nd
 simp only[List.nodup_cons,List.mem_append,not_or,List.nodup_append]at hnd
 obtain⟨⟨n1,n2,n3⟩,n4,⟨n5,n6,n7⟩,n8⟩:=hnd
 have l0:=h.hb.lt
 refine⟨vs,vg,vq',fs,fg,fq',rfl,⟨⟨h.ok.m1,h.ok.m4,h.ok.ls,h.ok.lg,hl⟩,?_,hb,h.h0.keep ho ?_,h.h1.keep ho ?_,hq⟩⟩
 ·simp only[List.nodup_cons,List.mem_append,not_or,List.nodup_append]
  refine⟨⟨n1,n2,fun hx=>?_⟩,n4,⟨n5,hq.nodup,fun x hx y hy e=>?_⟩,fun x hx y hy e=>?_⟩
  ·rcases hf b hx with hx|hx
   ·exact n3 hx
   ·omega
  ·subst e
   rcases hf x hy with hy|hy
   ·exact n7 x hx x hy rfl
   ·have:=h.h1.lt x hx;omega
  ·subst e
   rcases hy with hy|hy
   ·exact n8 x hx x (.inl hy) rfl
   ·rcases hf x hy with hy|hy
    ·exact n8 x hx x (.inr hy) rfl
    ·have:=h.h0.lt x hx;omega
 ·intro x hx hx2
  simp only[List.mem_cons]at hx2
  rcases hx2 with rfl|hx2
  ·exact n1 hx
  ·exact n8 x hx x (.inr hx2) rfl
 ·intro x hx hx2
  simp only[List.mem_cons]at hx2
  rcases hx2 with rfl|hx2
  ·exact n2 hx
  ·exact n7 x hx x hx2 rfl
theorem Push_m (h:PR w a fp m) (y:Int):Cs Tryz.prog 58 [.pointer a,.int .i64 y] w fun v w'=>v=.int .i64 (pushO m y).1∧Only fp w w'∧((pushO m y).1≠0→Only [] w w')∧ ∃fp',PR w' a fp' (pushO m y).2∧ ∀x,x∈fp'→x∈fp∨w.heap.size≤x:=by
 refine enter_roots_Roots_Push rfl ?_
 unfold x_roots_Roots_Push
 refine gO ?_
 refine callT0 (made_m h) ?_
 match m,h with
 |none,h=>
  (repeat(first|with_reducible(first|refine nx ?_|refine r_6 rfl ?_)|simp only[go_sem,Option.isSome_none]))
  exact⟨rfl,Only.refl _ _,fun _=>Only.refl _ _,fp,h,fun x hx=>.inl hx⟩
 |some s,⟨b,hb,vs,vg,vq,fs,fg,fq,hfp,hp⟩=>
  subst hb
  subst hfp
  have h0:PR w (some ⟨b,0,none⟩) (b::(fs++(fg++fq))) (some s):=⟨b,rfl,vs,vg,vq,fs,fg,fq,rfl,hp⟩
  obtain⟨aq,cq,hvq⟩:=hp.h2.val
  subst hvq
  by_cases c1:y≤0
  ·(repeat(first|with_reducible(first|refine nx ?_|refine r_6 rfl ?_)|simp only[go_sem,Option.isSome_some,dtr c1]))
   rw[show pushO (some s) y=(1,some s) by simp[pushO,c1]]
   exact⟨rfl,Only.refl _ _,fun _=>Only.refl _ _,_,h0,fun x hx=>.inl (by simpa using hx)⟩
  ·by_cases c2:s.Q.length=64
   ·(repeat(first|with_reducible(first|refine nx ?_|refine r_6 rfl ?_)|simp only[go_sem,Option.isSome_some,dfl c1,hp.hb.cell,bqt (show(s.Q.length:Int)=64 by omega)]))
    rw[show pushO (some s) y=(6,some s) by simp[pushO,c1,c2]]
    exact⟨rfl,Only.refl _ _,fun _=>Only.refl _ _,_,h0,fun x hx=>.inl (by simpa using hx)⟩
   ·(repeat(first|with_reducible(first|refine nx ?_|refine r_6 rfl ?_)|simp only[go_sem,Option.isSome_some,dfl c1,hp.hb.cell,bqf (show¬(s.Q.length:Int)=64 by omega)]))
    rw[fillL_one rfl rfl]
    refine gO ?_
    refine bslT fun q w1 hq hs1 hat1 ho1=>?_
    refine gO ?_
    refine appT (hp.h2.keep0 ho1) (SrcIs.at hat1 rfl) (by simp[oneC]) (by have:=hp.ok.lq;omega) (by have:=hp.ok.lq;omega) ?_
    intro v' w2 fp' hs2 hfp ho2 _
    have hbn:b∉fq:=by have:=hp.nd;simp only[List.nodup_cons,List.mem_append,not_or]at this;exact this.1.2.2
    have hb2:=(hp.hb.keep0 ho1).keep ho2 hbn
    obtain⟨av,cv,hv'⟩:=hs2.val
    have hone:oneC v'=true:=by rw[hv'];rfl
    refine gO ?_
    refine stT hb2 (by simp) hone fun w3 hs3 hat3 ho3=>?_
    refine gO ?_
    have hlt:=hp.hb.lt
    have hmem: ∀x,x∈fp'→x∈fq∨w.heap.size≤x:=by
     intro x hx
     rcases hfp with rfl|rfl
     ·exact .inl hx
     ·simp only[lms]at hx;right;omega
    have hbf:b∉fp':=by
     intro hx
     rcases hmem b hx with hx|hx
     ·exact hbn hx
     ·omega
    have hO:Only (b::fq) w w3:=(ho1.of_nil.same (ho2.mono fun x hx=>.inl (by simp[hx]))).same (ho3.mono fun x hx=>.inl (by simp only[lms]at hx;simp[hx]))
    have hq3:Sl w3 1 v' (s.Q++[y]).length (ints (s.Q++[y])) fp':=by
     rw[ints_append,lla]
     exact hs2.keep ho3 fun x hx hx2=>by simp only[lms]at hx2;subst hx2;exact hbf hx
    have hp3:=hp.turn (q:=s.Q++[y]) (by simp;have:=hp.ok.lq;omega) hq3 hat3 hO hmem
    rw[show pushO (some s) y=(0,some {s with Q:=s.Q++[y]}) by simp[pushO,c1,c2]]
    refine⟨rfl,hO.mono fun x hx=>.inl ?_,fun hne=>absurd rfl hne,_,⟨b,rfl,hp3⟩,fun x hx=>?_⟩
    ·simp only[List.mem_cons]at hx
     rcases hx with rfl|hx<;>simp_all
    ·simp only[List.mem_cons,List.mem_append]at hx⊢
     rcases hx with rfl|hx|hx|hx
     ·exact .inl (.inl rfl)
     ·exact .inl (.inr (.inl hx))
     ·exact .inl (.inr (.inr (.inl hx)))
     ·exact(hmem x hx).imp (fun h=>.inr (.inr (.inr h))) id
end Rt
end
section
namespace Rt
set_option maxRecDepth 8000
variable {cap g n:Nat} {w:World}
theorem slcO_1 (h1:1≤n) (h2:n≤cap):slcO 1 (.slice (some ⟨g,0,none⟩) n cap) (some (.int .i64 1)) none=some (.slice (some (if cap=1 then⟨g,0,none⟩else⟨g,1,none⟩)) (n-1) (cap-1)):=by
 by_cases e:cap=1
 ·subst e
  have e2:(1:Int)≤(n:Int):=by omega
  simp[slcO,boundO,e2]
 ·have e2:(1:Int)≤(n:Int):=by omega
  simp[slcO,boundO,e2,e,addr_add]
theorem src_tail {x:Int} {q:List Int} {ys:List Value} (hat:At w g (ints (x::q)++ys)) (hn:n=q.length+1) (hc:n≤cap):
  SrcIs w 1 (.slice (some (if cap=1 then⟨g,0,none⟩else⟨g,1,none⟩)) (n-1) (cap-1)) q.length (ints q):=by
 refine⟨by simp[ints_length],.inr ⟨_,cap-1,by rw[hn];rfl,?_⟩⟩
 by_cases e:cap=1
 ·have:q.length=0:=by omega
  have:q=[]:=List.eq_nil_of_length_eq_zero this
  subst this
  rfl
 ·rw[if_neg e,cellsAt_at hat 1 _ (by simp[ints];omega)]
  simp[ints]
theorem Pop_m {a:Option Addr} {fp:List Nat} {m:MO} (h:PR w a fp m):Cs Tryz.prog 98 [.pointer a] w fun v w'=>v=.tuple #[.int .i64 (popO m).1.1,.int .i64 (popO m).1.2]∧Only fp w w'∧((popO m).1.2≠0→Only [] w w')∧ ∃fp',PR w' a fp' (popO m).2∧ ∀x,x∈fp'→x∈fp∨w.heap.size≤x:=by
 refine enter_roots_Roots_Pop rfl ?_
 unfold x_roots_Roots_Pop
 refine gO ?_
 refine callT0 (made_m h) ?_
 match m,h with
 |none,h=>
  (repeat(first|with_reducible(first|refine nx ?_|refine r_6 rfl ?_)|simp only[go_sem,Option.isSome_none]))
  exact⟨rfl,Only.refl _ _,fun _=>Only.refl _ _,fp,h,fun x hx=>.inl hx⟩
 |some s,⟨b,hb,vs,vg,vq,fs,fg,fq,hfp,hp⟩=>
  subst hb
  subst hfp
  have h0:PR w (some ⟨b,0,none⟩) (b::(fs++(fg++fq))) (some s):=⟨b,rfl,vs,vg,vq,fs,fg,fq,rfl,hp⟩
  obtain⟨M,S,G,Q⟩:=s
  cases Q with
  |nil=>
   obtain⟨aq,cq,hvq⟩:=hp.h2.val
   subst hvq
   (repeat(first|with_reducible(first|refine nx ?_|refine r_6 rfl ?_)|simp only[go_sem,Option.isSome_some,hp.hb.cell,bqt (show((0:Nat):Int)=0 by rfl)]))
   rw[show popO (some ⟨M,S,G,[]⟩)=((0,4),some ⟨M,S,G,[]⟩)from rfl]
   exact⟨rfl,Only.refl _ _,fun _=>Only.refl _ _,_,h0,fun x hx=>.inl (by simpa using hx)⟩
  |cons x q=>
   obtain⟨g,cap,ys,hv,hg,hfq,hcap⟩:=hp.h2.pos (by simp)
   subst hv
   subst hfq
   have hlen:(x::q).length=q.length+1:=rfl
   have c1: ¬((((x::q).length:Nat):Int)=0):=by rw[hlen];omega
   have c2:(0:Int)≤0∧(0:Int)<(((x::q).length:Nat):Int):=by rw[hlen];omega
   have hget:(ints (x::q)++ys)[0]? =some (.int .i64 x):=rfl
   have hlq:=hp.ok.lq
   simp only at hlq hcap
   have hz:(0:Int).toNat*1=0:=rfl
   have hpb:=hp.hb
   simp only at hpb
   generalize hL:(x::q).length=L at*
   (repeat(first|with_reducible(first|refine nx ?_|refine r_6 rfl ?_)|simp only[go_sem,Option.isSome_some,hpb.cell,bqf c1,if_pos c2.2,hz,hg.cell,hget,slcO_1 (show 1≤L by omega) hcap]))
   refine callT (sclone (src_tail hg hlen hcap) ints_one (by omega)) ?_
   rintro v' w2 ⟨ho2,fp',hs2,hf2⟩
   have hb2:=hpb.keep0 ho2
   obtain⟨av,cv,hv'⟩:=hs2.val
   have hone:oneC v'=true:=by rw[hv'];rfl
   refine gO1 hpb.cell ?_
   refine stT hb2 (by simp) hone fun w3 hs3 hat3 ho3=>?_
   refine gO ?_
   have hlt:=hpb.lt
   have hbf:b∉fp':=fun hx=>by have:=hf2 b hx;omega
   have hO:Only (b::[g]) w w3:=ho2.of_nil.same (ho3.mono fun x hx=>.inl (by simp only[lms]at hx;simp[hx]))
   have hq3:Sl w3 1 v' q.length (ints q) fp':=hs2.keep ho3 fun x hx hx2=>by simp only[lms]at hx2;subst hx2;exact hbf hx
   subst hL
   have hp3:=hp.turn (q:=q) (by simp at hlq;omega) hq3 hat3 hO (fun x hx=>.inr (hf2 x hx))
   rw[show popO (some ⟨M,S,G,x::q⟩)=((x,0),some ⟨M,S,G,q⟩)from rfl]
   refine⟨rfl,hO.mono fun x hx=>.inl ?_,fun hne=>absurd rfl hne,_,⟨b,rfl,hp3⟩,fun x hx=>?_⟩
   ·simp only[List.mem_cons,List.not_mem_nil,or_false]at hx
    rcases hx with rfl|rfl<;>simp
   ·simp only[List.mem_cons,List.mem_append]at hx⊢
    rcases hx with rfl|hx|hx|hx
    ·exact .inl (.inl rfl)
    ·exact .inl (.inr (.inl hx))
    ·exact .inl (.inr (.inr (.inl hx)))
    ·exact .inr (hf2 x hx)
theorem New_m (w:World) (n:Int):Cs Tryz.prog 28 [.int .i64 n] w fun v w'=>Only [] w w'∧ ∃a fp,v=.tuple #[.pointer a,.int .i64 (if(newO n).isSome then 0 else 1)]∧PR w' a fp (newO n)∧(newO n=none→a=none)∧ ∀x,x∈fp→w.heap.size≤x:=by
 refine enter_roots_New rfl ?_
 unfold x_roots_New
 by_cases c1:n<1
 ·refine gO1 (dtr c1) ?_
  have:newO n=none:=by unfold newO;rw[if_neg (by omega)]
  rw[this]
  exact⟨Only.refl _ _,none,[],rfl,.inl ⟨rfl,rfl⟩,fun _=>rfl,by simp⟩
 by_cases c2:4<n
 ·refine gO2 (dfl c1) (dtr c2) ?_
  have:newO n=none:=by unfold newO;rw[if_neg (by omega)]
  rw[this]
  exact⟨Only.refl _ _,none,[],rfl,.inl ⟨rfl,rfl⟩,fun _=>rfl,by simp⟩
 ·refine gO2 (dfl c1) (dfl c2) ?_
  obtain⟨k,rfl⟩: ∃k:Nat,n=k:=⟨n.toNat,by omega⟩
  have e1:IntKind.i64.wrap ((k:Int)*16)=((16*k:Nat):Int):=by rw[show((k:Int)*16)=((16*k:Nat):Int) by omega,i64_of_nat _ (by omega)]
  have hnew:newO (k:Int)=some ⟨k,List.replicate (16*k) 0,List.replicate 16 0,[]⟩:=by
   unfold newO;rw[if_pos (by omega)];simp
  have fin: ∀q g0 g1 w',Only [] w w'→q<w'.heap.size→At w' q [.int .i64 (k:Int),.slice (some ⟨g0,0,none⟩) (16*k) (16*k),.slice (some ⟨g1,0,none⟩) 16 16,.slice none 0 0]→At w' g0 (List.replicate (16*k) (.int .i64 0))→At w' g1 (List.replicate 16 (.int .i64 0))→
    q≠g0→q≠g1→g0≠g1→w.heap.size≤q→w.heap.size≤g0→w.heap.size≤g1→
    Only [] w w'∧ ∃a fp,Value.tuple #[.pointer (some ⟨q,0,none⟩),.int .i64 0]=.tuple #[.pointer a,.int .i64 (if(newO (k:Int)).isSome then 0 else 1)]∧PR w' a fp (newO (k:Int))∧(newO (k:Int)=none→a=none)∧ ∀x,x∈fp→w.heap.size≤x:=by
   intro q g0 g1 w' ho _ hb h0 h1 n1 n2 n3 l1 l2 l3
   rw[hnew]
   have e0:List.replicate (16*k) (Value.int .i64 0)=ints (List.replicate (16*k) 0)++[]:=by rw[ints_replicate];simp
   have e2:List.replicate 16 (Value.int .i64 0)=ints (List.replicate 16 0)++[]:=by rw[ints_replicate];simp
   rw[e0]at h0
   rw[e2]at h1
   refine⟨ho,some ⟨q,0,none⟩,q::([g0]++([g1]++[])),rfl,⟨q,rfl,_,_,_,[g0],[g1],[],rfl,⟨newO_ok hnew,by simp[n1,n2,n3],hb,Sl.mk1 h0 (by simp[ints_length]) (by simp[ints_length]),Sl.mk1 h1 (by simp[ints_length]) (by simp[ints_length]),Sl.nil1 _⟩⟩,(fun h=>by cases h),fun x hx=>?_⟩
   simp only[List.cons_append,List.nil_append,List.mem_cons,List.not_mem_nil,or_false]at hx
   rcases hx with rfl|rfl|rfl<;>assumption
  refine run_drt [] ?_
  refine gO1 e1 ?_
  have hd:w.drew.heap.size=w.heap.size:=rfl
  refine⟨?_,?_⟩
  ·refine mksS (Nat.le_refl _) (by omega) (by omega) fun g0 w1 hg0 hs1 hat1 ho1=>⟨.inl rfl,?_⟩
   refine gO ?_
   refine mksS (n:=16) (m:=16) (Nat.le_refl _) (by omega) (by omega) fun g1 w2 hg1 hs2 hat2 ho2=>⟨.inl rfl,?_⟩
   refine gO ?_
   rw[fillL_one rfl rfl]
   refine gO ?_
   rw[fillL_one rfl rfl]
   refine gO ?_
   rw[fillL_one rfl rfl]
   refine gO ?_
   rw[fillL_one rfl rfl]
   refine gO ?_
   refine boxS fun q w3 hq hs3 hat3 ho3=>⟨.inl rfl,?_⟩
   refine gO ?_
   rw[rowZ_one]at hat1 hat2
   exact fin q g0 g1 w3 (Only.drew_left ((ho1.nil ho2).nil ho3)) (by omega) hat3 ((hat1.keep0 ho2).keep0 ho3) (hat2.keep0 ho3) (by omega) (by omega) (by omega) (by omega) (by omega) (by omega)
  ·refine mksS (n:=16) (m:=16) (Nat.le_refl _) (by omega) (by omega) fun g1 w1 hg1 hs1 hat1 ho1=>⟨.inl rfl,?_⟩
   refine gO ?_
   refine mksS (Nat.le_refl _) (by omega) (by omega) fun g0 w2 hg0 hs2 hat2 ho2=>⟨.inl rfl,?_⟩
   refine gO ?_
   rw[fillL_one rfl rfl]
   refine gO ?_
   rw[fillL_one rfl rfl]
   refine gO ?_
   rw[fillL_one rfl rfl]
   refine gO ?_
   rw[fillL_one rfl rfl]
   refine gO ?_
   refine boxS fun q w3 hq hs3 hat3 ho3=>⟨.inl rfl,?_⟩
   refine gO ?_
   rw[rowZ_one]at hat1 hat2
   exact fin q g0 g1 w3 (Only.drew_left ((ho1.nil ho2).nil ho3)) (by omega) hat3 (hat2.keep0 ho3) ((hat1.keep0 ho2).keep0 ho3) (by omega) (by omega) (by omega) (by omega) (by omega) (by omega)
end Rt
end
end Go.Proofs.YteiildhelefodaaGreat
