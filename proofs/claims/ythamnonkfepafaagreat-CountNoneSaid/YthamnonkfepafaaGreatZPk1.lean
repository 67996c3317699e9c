import Derived.Test.YthamnonkfepafaaGreatZEngI
import Derived.Test.YthamnonkfepafaaGreatZCode
import Derived.MapKept
import Derived.Maps.RangeRun
import Derived.Test.YthamnonkfepafaaGreatZCodeD
import Derived.Test.YthamnonkfepafaaGreatProg
import Derived.Ground.NamesProg
import Derived.KernelRfl
import Derived.Shelf.Slices.In.SortNone
import Derived.Shelf.Sort.Plain
set_option linter.unusedSimpArgs false
set_option linter.unusedVariables false
namespace Go.Proofs.YthamnonkfepafaaGreat
set_option maxRecDepth 100000
theorem cf (n:Nat):((n:Int)).toNat=n:=Int.toNat_natCast n
theorem bp {d:Type} {a b:d}:a∈[b]↔a=b:=List.mem_singleton
theorem bc {p:Prop} [Decidable p] (h:p):decide p=true:=decide_eq_true h
theorem bt {p:Prop} [Decidable p] (h: ¬p):decide p=false:=decide_eq_false h
theorem gZ {d:Type} {a b:List d}:(a++b).length=a.length+b.length:=List.length_append
section
section
variable {P:Program} {d:Option Nat} {rest:List XO} {ρ:Env} {w:World} {C:Env→World→Prop}
theorem dR {b i n:Nat} {vs cs:List Value} (h:At w b vs) (j:cs.length=n) (t:i+n≤vs.length) (l: ∀u,u∈cs→bu u=true)
  (k: ∀w',w'.heap.size=w.heap.size→At w' b (fS vs i cs)→ad [b] w w'→VO P rest (aV ρ d undef) w' C):zT P n (.pointer (some ⟨b,i,none⟩)) (.agg ⟨cs⟩) d rest ρ w C:=by
 obtain⟨T,h⟩:=h;obtain⟨m,o,q,r⟩:=dN (off:=i) cs 0 w vs h (by omega) l;unfold zT;exact⟨_,_,rfl,rfl,j,m,k _ r ⟨T,o⟩ q⟩
end
theorem pK (w:World) (p:Addr) (n:Nat):aI w.drew p n=aI w p n:=by unfold aI;simp only[World.cell?_drew]
theorem fB {P:Program} {f:FX} {x:aS} {kx:List XI} {ρ:Env} {w:World} {R:Value→World→Prop} (W:List Nat) (J:Env→World→Prop)
  (j: ∀k,(∀b w',J b w'→(d:bb W ρ b:=by(repeat(first|with_reducible exact vk|with_reducible exact bb.nW _ _ _|refine bb.put ?_ rfl _|exact vk|exact bb.nW _ _ _|refine bb.tW ?_ rfl _)))→bD P f k b w' R)→bD P f (.code x::k) ρ w R) (l: ∀g w',J g w'→bD P f kx (nW W g ρ) w' R):bD P f (.code x::kx) ρ w R:=
 j kx fun b w' m d=>by rw[d.eq];exact l b w' m
attribute [go_sem] pK
theorem pL {size n cap l h:Nat} {k k':IntKind} {p:Addr} (m:l≤h) (o:h≤cap) (q:l<cap):nI size (.slice (some p) n cap) (some (.int k (l:Int))) (some (.int k' (h:Int)))=some (.slice (some (p.add (l*size))) (h-l) (cap-l)):=by
 have b:(0:Int)≤(h:Int)∧(h:Int)≤(cap:Int):=by omega
 have d:(0:Int)≤(l:Int)∧(l:Int)≤(h:Int):=by omega
 have j: ¬cap=l:=by omega
 simp[nI,il,b,d,j]
theorem Dk {size n cap l:Nat} {k:IntKind} {p:Addr} (j:l≤n) (m:l<cap):nI size (.slice (some p) n cap) (some (.int k (l:Int))) none=some (.slice (some (p.add (l*size))) (n-l) (cap-l)):=by
 have b:(0:Int)≤(l:Int)∧(l:Int)≤(n:Int):=by omega
 have d: ¬cap=l:=by omega
 simp[nI,il,b,d]
theorem fx {a b:Int} (h:a=b):(a==b)=true:=by simp[h]
theorem fj {a b:Int} (h: ¬a=b):(a==b)=false:=by simp[h]
theorem gm {a b:Int} (h: ¬a=b):(a !=b)=true:=by simp[h]
theorem ep {a b:Int} (h:a=b):(a !=b)=false:=by simp[h]
end
section
variable {l ws:List Nat} {i wd x:Nat}
theorem bg (n:Nat) (h:n≤4611686018427387904):IntKind.i64.wrap (n:Int)=n:=IntWalk.i64_in _ (by omega)
theorem eX (n:Nat) (h:n<18446744073709551616):IntKind.u64.wrap (n:Int)=n:=IntWalk.u64_in _ (by omega)
theorem mQ (n:Int):BitVec.ofInt 64 (IntKind.i64.wrap n)=BitVec.ofInt 64 n:=by
 apply BitVec.eq_of_toNat_eq;rw[BitVec.toNat_ofInt,BitVec.toNat_ofInt,IntKind.wrap_i64];congr 1;have e:((2:Nat)^64:Nat)=18446744073709551616:=by decide
 rw[e];omega
theorem eA (n:Nat):BitVec.ofInt 64 (n:Int)=BitVec.ofNat 64 n:=by
 apply BitVec.eq_of_toNat_eq;simp
theorem xN (d:BinOp) (a b:Int):dz d .i64 a b=IntKind.i64.wrap ((match d with|.and=>(BitVec.ofInt 64 a&&& BitVec.ofInt 64 b).toNat|.or=>(BitVec.ofInt 64 a|||BitVec.ofInt 64 b).toNat|.xor=>(BitVec.ofInt 64 a^^^BitVec.ofInt 64 b).toNat|_=>(BitVec.ofInt 64 a&&& ~~~(BitVec.ofInt 64 b)).toNat:Nat):Int):=rfl
theorem qU (d:BinOp) (a b:Int):dz d .u64 a b=IntKind.u64.wrap ((match d with|.and=>(BitVec.ofInt 64 a&&& BitVec.ofInt 64 b).toNat|.or=>(BitVec.ofInt 64 a|||BitVec.ofInt 64 b).toNat|.xor=>(BitVec.ofInt 64 a^^^BitVec.ofInt 64 b).toNat|_=>(BitVec.ofInt 64 a&&& ~~~(BitVec.ofInt 64 b)).toNat:Nat):Int):=rfl
theorem tw (a k:Nat) (h:a <<< k<2^64):IntKind.u64.wrap ((a:Int)*2^k)=((a <<< k:Nat):Int):=by
 have:((a:Int)*2^k)=((a <<< k:Nat):Int):=by rw[Nat.shiftLeft_eq,Int.natCast_mul,Int.natCast_pow];rfl
 rw[this,eX _ h]
theorem pM {m:Nat} (b:m<4611686018427387904):dz .and .i64 (IntKind.i64.wrap (x:Int)) (m:Int)=((x&&& m:Nat):Int):=by
 rw[xN,mQ,eA,eA];have e:(BitVec.ofNat 64 x&&& BitVec.ofNat 64 m).toNat=x&&& m:=by
  rw[←BitVec.ofNat_and,BitVec.toNat_ofNat,Nat.mod_eq_of_lt];exact Nat.lt_of_le_of_lt Nat.and_le_right (by omega)
 show IntKind.i64.wrap (((BitVec.ofNat 64 x&&& BitVec.ofNat 64 m).toNat:Nat):Int)=_;rw[e,bg];exact Nat.le_trans Nat.and_le_right (by omega)
theorem qV {y:Nat} (b:x<2^64) (d:y<2^64):dz .or .u64 (x:Int) (y:Int)=((x|||y:Nat):Int):=by
 rw[qU,eA,eA];have e:(BitVec.ofNat 64 x|||BitVec.ofNat 64 y).toNat=x|||y:=by
  rw[←BitVec.ofNat_or,BitVec.toNat_ofNat,Nat.mod_eq_of_lt (Nat.or_lt_two_pow b d)]
 show IntKind.u64.wrap (((BitVec.ofNat 64 x|||BitVec.ofNat 64 y).toNat:Nat):Int)=_;rw[e,eX];exact Nat.or_lt_two_pow b d
def AB (x y:Nat):Nat:=(BitVec.ofNat 64 x&&& ~~~(BitVec.ofNat 64 y)).toNat
theorem sx (x y:Nat):AB x y<2^64:=(BitVec.ofNat 64 x&&& ~~~(BitVec.ofNat 64 y)).isLt
theorem AD (x y k:Nat) (d:x<2^64):(AB x y).testBit k=(x.testBit k&&!(y.testBit k)):=by
 unfold AB;rw[BitVec.testBit_toNat,BitVec.getLsbD_and,BitVec.getLsbD_not];simp only[BitVec.getLsbD_ofNat];by_cases b:k<64
 ·simp[b]
 ·have:x.testBit k=false:=Nat.testBit_lt_two_pow (Nat.lt_of_lt_of_le d (Nat.pow_le_pow_right (by omega) (by omega)));simp[b,this]
theorem lf (x y:Nat):dz .andNot .u64 (x:Int) (y:Int)=((AB x y:Nat):Int):=by
 rw[qU,eA,eA];show IntKind.u64.wrap ((AB x y:Nat):Int)=_;rw[eX];exact sx x y
theorem AE (x r:Nat):((x:Int)).fdiv (2^r)=((x >>> r:Nat):Int):=by
 rw[Nat.shiftRight_eq_div_pow];have:((2:Int)^r)=((2^r:Nat):Int):=by simp
 rw[this,Int.fdiv_eq_ediv_of_nonneg _ (Int.natCast_nonneg _)];exact(Int.natCast_ediv _ _).symm
def Wd (wd:Nat):Prop:=wd=1∨wd=2∨wd=4∨wd=8
theorem Wd.pos (h:Wd wd):1≤wd∧wd≤8:=by unfold Wd at h;omega
structure Pk (wd:Nat) (l ws:List Nat):Prop where
 len:ws.length=(l.length*wd+63)/64
 lt: ∀k,ws.getD k 0<2^64
 el: ∀i,l.getD i 0<2^wd
 bit: ∀k,(ws.getD (k/64) 0).testBit (k%64)=(l.getD (k/wd) 0).testBit (k%wd)
theorem Wd.div {j:Nat} (h:Wd wd) (b:j<wd):(i*wd+j)/64=i*wd/64∧(i*wd+j)%64=i*wd%64+j∧(i*wd+j)/wd=i∧(i*wd+j)%wd=j∧i*wd%64+wd≤64:=by
 rcases h with rfl|rfl|rfl|rfl<;>omega
theorem Pk.get (h:Pk wd l ws) (d:Wd wd):((ws.getD (i*wd/64) 0) >>> (i*wd%64))&&& (2^wd-1)=l.getD i 0:=by
 apply Nat.eq_of_testBit_eq;intro j;rw[Nat.testBit_and,Nat.testBit_shiftRight,Nat.testBit_two_pow_sub_one];by_cases b:j<wd
 ·obtain⟨k,m,o,q,_⟩:=d.div (i:=i) b;have:=h.bit (i*wd+j);rw[k,m,o,q]at this;simp only[b,decide_true,Bool.and_true];exact this
 ·have:(l.getD i 0).testBit j=false:=Nat.testBit_lt_two_pow (Nat.lt_of_lt_of_le (h.el i) (Nat.pow_le_pow_right (by omega) (by omega)));rw[this];simp[b]
theorem j0 (l:List Nat) (i j v:Nat):(l.set i v).getD j 0=if i=j∧j<l.length then v else l.getD j 0:=by
 simp only[List.getD_eq_getElem?_getD,List.getElem?_set];by_cases h:i=j
 ·subst h;by_cases b:i<l.length
  ·simp[b]
  ·simp[b]
 ·simp[h]
theorem Pk.put {v:Nat} (h:Pk wd l ws) (d:Wd wd) (I:i<l.length) (t:v<2^wd):
  Pk wd (l.set i v) (ws.set (i*wd/64) (AB (ws.getD (i*wd/64) 0) ((2^wd-1) <<< (i*wd%64))|||(v <<< (i*wd%64)))):=by
 have C:i*wd%64+wd≤64:=(d.div (i:=i) (j:=0) (by have:=d.pos;omega)).2.2.2.2;have D:i*wd/64<ws.length:=by rw[h.len];rcases d with rfl|rfl|rfl|rfl<;>omega
 have u:v <<< (i*wd%64)<2^64:=by
  rw[Nat.shiftLeft_eq]
  calc v*2^(i*wd%64)<2^wd*2^(i*wd%64):=Nat.mul_lt_mul_of_pos_right t (Nat.two_pow_pos _)
   _=2^(wd+i*wd%64):=by rw[Nat.pow_add]
   _≤2^64:=Nat.pow_le_pow_right (by omega) (by omega)
 have w:AB (ws.getD (i*wd/64) 0) ((2^wd-1) <<< (i*wd%64))|||(v <<< (i*wd%64))<2^64:=Nat.or_lt_two_pow (sx _ _) u
 refine⟨by simpa using h.len,fun k=>?_,fun k=>?_,fun k=>?_⟩
 ·rw[j0];split
  ·exact w
  ·exact h.lt k
 ·rw[j0];split
  ·exact t
  ·exact h.el k
 ·rw[j0,j0];by_cases r:i*wd/64=k/64
  ·rw[if_pos ⟨r,by omega⟩,Nat.testBit_or,AD _ _ _ (h.lt _),Nat.testBit_shiftLeft,Nat.testBit_shiftLeft,Nat.testBit_two_pow_sub_one];have E:=h.bit k;rw[←r]at E;by_cases m:i=k/wd
   ·have y:k=i*wd+k%wd:=by rw[m,Nat.mul_comm];exact(Nat.div_add_mod k wd).symm
    have F:k%wd<wd:=Nat.mod_lt _ (by have:=d.pos;omega);have G:=(d.div (i:=i) F).2.1;rw[←y]at G;rw[if_pos ⟨m,by omega⟩];have o:i*wd%64≤k%64:=by omega
    have z:k%64-i*wd%64=k%wd:=by omega
    simp[o,z,F]
   ·rw[if_neg (by intro b;exact m b.1),←E]
    have q: ¬(i*wd%64≤k%64∧k%64-i*wd%64<wd):=by
     intro b;apply m;rcases d with rfl|rfl|rfl|rfl<;>omega
    by_cases o:i*wd%64≤k%64
    ·have z: ¬(k%64-i*wd%64<wd):=fun b=>q ⟨o,b⟩;have H:v.testBit (k%64-i*wd%64)=false:=Nat.testBit_lt_two_pow (Nat.lt_of_lt_of_le t (Nat.pow_le_pow_right (by omega) (by omega)));simp[o,z,H]
    ·simp[o]
  ·rw[if_neg (by intro b;exact r b.1)];have B:i≠k/wd:=by
    intro m;apply r;rw[m];rcases d with rfl|rfl|rfl|rfl<;>omega
   rw[if_neg (by intro b;exact B b.1)];exact h.bit k
theorem Pk.zero (wd n:Nat) (b:Wd wd):Pk wd (List.replicate n 0) (List.replicate ((n*wd+63)/64) 0):=by
 have z: ∀m k,(List.replicate m 0).getD k 0=0:=fun m k=>by
  simp only[List.getD_eq_getElem?_getD,List.getElem?_replicate];split<;>rfl
 refine⟨by simp,fun k=>?_,fun k=>?_,fun k=>?_⟩
 ·rw[z];omega
 ·rw[z];exact Nat.two_pow_pos _
 ·rw[z,z];simp
end
section
variable {l:List Nat} {b g i n wd:Nat} {w:World}
def mR (b:List Nat):List Value:=b.map fun(x:Nat)=>.int .u64 (x:Int)
structure dh (w:World) (b g n wd:Nat) (l:List Nat):Prop where
 hw:Wd wd
 len:l.length=n
 n1:1≤n
 n2:n≤4096
 el: ∀i,l.getD i 0<2^wd
 mem: ∃(ws:List Nat) (cap:Nat) (rest:List Value),Pk wd l ws∧At w b [.int .i64 n,.int .i64 wd,.slice (some ⟨g,0,none⟩) ws.length cap]∧At w g (mR ws++rest)∧b≠g
theorem dh.ae {S:List Nat} {w':World} (h:dh w b g n wd l) (k:ad S w w') (d:b∉S) (j:g∉S):dh w' b g n wd l:=
 ⟨h.hw,h.len,h.n1,h.n2,h.el,let ⟨m,cap,rest,o,q,r,t⟩:=h.mem;⟨m,cap,rest,o,q.ae k d,r.ae k j,t⟩⟩
theorem dh.drew (h:dh w b g n wd l):dh w.drew b g n wd l:=h.ae (ad.drew [] w) (by simp) (by simp)
theorem mS (w:World):Cs Tryz.prog 353 [.pointer none] w fun v w'=>v=.bool false∧w'=w:=by
 refine en [] ?_;(repeat(first|with_reducible(first|refine nx ?_|refine ch rfl ?_)|simp only[go_sem]))
theorem j4 (b:Nat) (n:Int) (c:List Value) (w:World) (h:At w b (.int .i64 n::c)):Cs Tryz.prog 353 [.pointer (some ⟨b,0,none⟩)] w fun v w'=>v=.bool (decide (0<n))∧w'=w:=by
 refine en [] ?_;(repeat(first|with_reducible(first|refine nx ?_|refine ch rfl ?_)|simp only[go_sem,h.cell]))
theorem j5 (h:dh w b g n wd l):Cs Tryz.prog 353 [.pointer (some ⟨b,0,none⟩)] w fun v w'=>v=.bool true∧w'=w:=by
 obtain⟨j,cap,rest,k,d,m,o⟩:=h.mem;refine(j4 b n _ w d).mono ?_;rintro v w' ⟨rfl,rfl⟩;have:=h.n1;exact⟨by simp;omega,rfl⟩
theorem iD (h:dh w b g n wd l):Cs Tryz.prog 417 [.pointer (some ⟨b,0,none⟩)] w fun v w'=>v=.int .i64 ((2^wd-1:Nat):Int)∧w'=w:=by
 obtain⟨m,cap,rest,o,d,q,r⟩:=h.mem;have j:=h.hw;have k:IntKind.i64.wrap (IntKind.i64.wrap (1*2^(min ((wd:Int).toNat) 64))-1)=((2^wd-1:Nat):Int):=by
  rcases j with rfl|rfl|rfl|rfl<;>decide
 refine en [] ?_;(repeat(first|with_reducible(first|refine nx ?_|refine ch rfl ?_)|simp only[go_sem,d.cell,k]))
theorem jk (b:List Nat) (rest:List Value) (i:Nat) (h:i<b.length):(mR b++rest)[i]? =some (.int .u64 ((b.getD i 0:Nat):Int)):=by
 rw[List.getElem?_append_left (by simpa[mR]using h)];simp[mR,h]
theorem pN (n:Nat) (h:n≤4611686018427387904):IntKind.i64.wrap ((n:Int).tdiv 64)=((n/64:Nat):Int):=by
 rw[Int.tdiv_eq_ediv_of_nonneg (by omega),show((n:Int)/64)=((n/64:Nat):Int) by omega,bg _ (by omega)]
theorem sy (n:Nat):((n:Int).tmod 64)=((n%64:Nat):Int):=by
 rw[Int.tmod_eq_emod_of_nonneg (by omega)];omega
theorem kP (b:Wd wd) (d:n≤4096) (j:i<n):
  IntKind.i64.wrap ((i:Int)*(wd:Int))=((i*wd:Nat):Int)∧IntKind.i64.wrap (((i*wd:Nat):Int).tdiv 64)=((i*wd/64:Nat):Int)∧(((i*wd:Nat):Int).tmod 64)=((i*wd%64:Nat):Int):=by
 have k:i*wd≤40000:=by rcases b with rfl|rfl|rfl|rfl<;>omega
 refine⟨?_,pN _ (by omega),sy _⟩;rw[←Int.natCast_mul,bg _ (by omega)]
theorem lF (h:dh w b g n wd l) (o:i<n):Cs Tryz.prog 358 [.pointer (some ⟨b,0,none⟩),.int .i64 i] w fun v w'=>v=.int .i64 ((l.getD i 0:Nat):Int)∧ad [] w w':=by
 obtain⟨d,cap,rest,k,m,q,G⟩:=h.mem;have j:=h.hw;obtain⟨r,t,u⟩:=kP j h.n2 o;have y:i*wd/64<d.length:=by rw[k.len,h.len];rcases j with rfl|rfl|rfl|rfl<;>omega
 have z:=jk d rest _ y;have B:(0:Int)≤((i*wd/64:Nat):Int)∧((i*wd/64:Nat):Int)<(d.length:Int):=⟨by omega,by omega⟩;have C:(((i*wd/64:Nat):Int)).toNat*1=i*wd/64:=by simp only[cf,Nat.mul_one]
 have D:min ((((i*wd%64:Nat):Int)).toNat) 64=i*wd%64:=by simp only[cf];omega
 have E:=k.get (i:=i) j;have F:dz .and .i64 (IntKind.i64.wrap (((d.getD (i*wd/64) 0:Nat):Int).fdiv (2^(i*wd%64)))) ((2^wd-1:Nat):Int)=((l.getD i 0:Nat):Int):=by
  rw[AE,pM,E];rcases j with rfl|rfl|rfl|rfl<;>decide
 refine en [2,5,8,11,14,17,20,23,26,29,32,35,38,42,44,47,0] ?_;refine bj m.cell r ?_;refine bk [b,g] ?_;refine vS m.cell q.cell t u z C (eq_true B) D ?_;refine fR (iD h.drew) (.inr (SB.refl _ _)) ?_;refine aQ F ?_;exact ad.drew _ _
theorem tx {v:Nat} (h:dh w b g n wd l) (u:i<n) (q:v<2^wd):
  Cs Tryz.prog 356 [.pointer (some ⟨b,0,none⟩),.int .i64 i,.int .i64 v] w fun r w'=>r=.tuple #[]∧dh w' b g n wd (l.set i v)∧ad [g] w w':=by
 obtain⟨d,cap,rest,y,o,t,z⟩:=h.mem;have k:=h.hw;obtain⟨M,N,B⟩:=kP k h.n2 u;have C:i*wd/64<d.length:=by rw[y.len,h.len];rcases k with rfl|rfl|rfl|rfl<;>omega
 have D:=jk d rest _ C;have O:(0:Int)≤((i*wd/64:Nat):Int)∧((i*wd/64:Nat):Int)<(d.length:Int):=⟨by omega,by omega⟩;have P:(((i*wd/64:Nat):Int)).toNat*1=i*wd/64:=by simp only[cf,Nat.mul_one]
 have E:min ((((i*wd%64:Nat):Int)).toNat) 64=i*wd%64:=by simp only[cf];omega
 have X:i*wd%64+wd≤64:=(k.div (i:=i) (j:=0) (by have:=k.pos;omega)).2.2.2.2;have Q:(2^wd-1) <<< (i*wd%64)<2^64:=by
  rw[Nat.shiftLeft_eq];have:2^wd-1<2^wd:=by have:=Nat.two_pow_pos wd;omega
  calc (2^wd-1)*2^(i*wd%64)<2^wd*2^(i*wd%64):=Nat.mul_lt_mul_of_pos_right this (Nat.two_pow_pos _)
   _=2^(wd+i*wd%64):=by rw[Nat.pow_add]
   _≤2^64:=Nat.pow_le_pow_right (by omega) (by omega)
 have F:v <<< (i*wd%64)<2^64:=by
  rw[Nat.shiftLeft_eq]
  calc v*2^(i*wd%64)<2^wd*2^(i*wd%64):=Nat.mul_lt_mul_of_pos_right q (Nat.two_pow_pos _)
   _=2^(wd+i*wd%64):=by rw[Nat.pow_add]
   _≤2^64:=Nat.pow_le_pow_right (by omega) (by omega)
 have R:v<256:=Nat.lt_of_lt_of_le q (by rcases k with rfl|rfl|rfl|rfl<;>decide);have S:2^wd-1<256:=by rcases k with rfl|rfl|rfl|rfl<;>decide
 have G:IntKind.u64.wrap ((2^wd-1:Nat):Int)=((2^wd-1:Nat):Int):=eX _ (by omega);have H:IntKind.u64.wrap ((v:Nat):Int)=((v:Nat):Int):=eX _ (by omega);have T:=tw _ _ Q;have I:=tw _ _ F;have U:=lf (d.getD (i*wd/64) 0) ((2^wd-1) <<< (i*wd%64));have V:=qV (sx (d.getD (i*wd/64) 0) ((2^wd-1) <<< (i*wd%64))) F;refine en [2,5,8,11,14,23,26,35,38,41,44,47,18,20,29,32,50,53,58,0] ?_;refine jr o.cell M N (eq_true O) P ?_;refine bk [b,g] ?_;refine vS o.cell t.cell B D E G H I ?_;refine fR (iD h.drew) (.inr (SB.refl _ _)) ?_;refine xM o.cell t.cell B D E G H T I U V ?_;refine A' t.drew (by simp[mR];omega) rfl fun w' W J K=>⟨.inl rfl,?_⟩;refine gO ?_;have m:(mR d++rest).set (i*wd/64) (.int .u64 ((AB (d.getD (i*wd/64) 0) ((2^wd-1) <<< (i*wd%64))|||v <<< (i*wd%64):Nat):Int))=mR (d.set (i*wd/64) (AB (d.getD (i*wd/64) 0) ((2^wd-1) <<< (i*wd%64))|||v <<< (i*wd%64)))++rest:=by
  rw[List.set_append_left _ _ (by simpa[mR]using C)];simp[mR,List.map_set]
 rw[m]at J;have L:=y.put (i:=i) (v:=v) k (by rw[h.len];exact u) q;refine⟨⟨k,by simp[h.len],h.n1,h.n2,L.el,_,cap,rest,L,?_,J,z⟩,K.ey⟩;rw[List.length_set];exact o.drew.ae K (by simp[z])
end
section
variable {i:Int} {k n wd:Nat}
abbrev MT:=Option (Nat×List Nat)
def hasB (n:Nat) (i:Int):Bool:=decide (0≤i)&&decide (i<n)
def ib (wd:Nat) (v:Int):Bool:=decide (0≤v)&&decide (v≤((2^wd-1:Nat):Int))
def MT.check (m:MT) (i:Int) (vs:List Int):Int:=match m with
 |none=>5
 |some (wd,l)=>if hasB l.length i&&vs.all (ib wd)then 0 else 1
def MT.get (m:MT) (i:Int):Int:=match m with
 |none=> -1
 |some (_,l)=>if hasB l.length i then((l.getD i.toNat 0:Nat):Int)else-1
def MT.cC (m:MT) (i v:Int):MT:=match m with
 |none=>none
 |some (wd,l)=>if m.check i [v]=0 then some (wd,l.set i.toNat v.toNat)else some (wd,l)
theorem mT (h:hasB n i=true): ∃k:Nat,i=k∧k<n:=by
 simp only[hasB,Bool.and_eq_true,decide_eq_true_eq]at h;exact⟨i.toNat,by omega,by omega⟩
theorem iP (h:k<n):hasB n (k:Int)=true:=by simp[hasB];omega
theorem xO {v:Int} (h:ib wd v=true): ∃k:Nat,v=k∧k<2^wd:=by
 simp only[ib,Bool.and_eq_true,decide_eq_true_eq]at h;have:=Nat.two_pow_pos wd;exact⟨v.toNat,by omega,by omega⟩
theorem zb (h:k<2^wd):ib wd (k:Int)=true:=by
 have:=Nat.two_pow_pos wd;simp only[ib,Bool.and_eq_true,decide_eq_true_eq];omega
theorem MT.mU (i:Int) (vs:List Int):MT.check none i vs=5:=rfl
theorem MT.kR {l:List Nat} {vs:List Int}:(MT.check (some (wd,l)) i vs=0∧hasB l.length i=true∧vs.all (ib wd)=true)∨(MT.check (some (wd,l)) i vs=1∧(hasB l.length i&&vs.all (ib wd))=false):=by
 simp only[MT.check];cases h:(hasB l.length i&&vs.all (ib wd))with
 |true=>exact .inl ⟨rfl,(Bool.and_eq_true _ _▸h)⟩
 |false=>exact .inr ⟨rfl,rfl⟩
def FW (l:List Nat) (k v:Nat):Nat→List Nat
 |0=>l
 |j+1=>(FW l k v j).set (k+j) v
def kz (p:Nat→Bool):Nat→Option Nat
 |0=>none
 |n+1=>match kz p n with
  |some i=>some i
  |none=>if p n then some n else none
def iE (p:Nat→Bool):Nat→Option Nat
 |0=>none
 |n+1=>if p n then some n else iE p n
theorem fF {p:Nat→Bool}: ∀ {n:Nat},(∀j,j<n→p j=false)→kz p n=none
 |0,_=>rfl
 |n+1,h=>by simp only[kz,fF fun j b=>h j (Nat.lt_succ_of_lt b)];rw[h n (Nat.lt_succ_self n)];rfl
theorem iF {p:Nat→Bool} {i:Nat} (b:p i=true): ∀ {n:Nat},i<n→(∀j,j<i→p j=false)→kz p n=some i
 |0,h,_=>absurd h (Nat.not_lt_zero _)
 |n+1,h,d=>by
  simp only[kz]
  rcases Nat.lt_or_ge i n with k|k
  ·rw[iF b k d]
  ·have:i=n:=by omega
   subst this
   rw[fF d,b];rfl
theorem mV {p:Nat→Bool}: ∀ {n:Nat},(∀j,j<n→p j=false)→iE p n=none
 |0,_=>rfl
 |n+1,h=>by simp only[iE];rw[h n (Nat.lt_succ_self n)];exact mV fun j b=>h j (Nat.lt_succ_of_lt b)
theorem jx {p:Nat→Bool} {i:Nat} (d:p i=true): ∀ {n:Nat},i<n→(∀j,i<j→j<n→p j=false)→iE p n=some i
 |0,h,_=>absurd h (Nat.not_lt_zero _)
 |n+1,h,k=>by
  simp only[iE]
  rcases Nat.lt_or_ge i n with b|b
  ·rw[k n b (Nat.lt_succ_self n)];exact jx d b fun j l m=>k j l (Nat.lt_succ_of_lt m)
  ·have:i=n:=by omega
   subst this;rw[d];rfl
def MT.kA (m:MT) (i d:Int):Int:=match m with
 |none=>5
 |some _=>if m.check i []=0 then(if d< -255∨255<d then 1 else 0)else m.check i []
def dC (wd x:Nat) (d:Int):Nat:=if x<2^wd-1 then(min (max ((x:Int)+d) 0) ((2^wd-1:Nat):Int)).toNat else x
def MT.qW (m:MT) (i d:Int):Int:=match m with
 |none=>0
 |some (wd,l)=>if m.kA i d=0 then((dC wd (l.getD i.toNat 0) d:Nat):Int)else 0
def MT.qX (m:MT) (i d:Int):MT:=match m with
 |none=>none
 |some (wd,l)=>if m.kA i d=0 then some (wd,l.set i.toNat (dC wd (l.getD i.toNat 0) d))else some (wd,l)
def xP (o:Option Nat):Int:=match o with|some i=>i|none=>0
def Ij (o:Option Nat):Int:=match o with|some _=>0|none=>4
def MT.jl (m:MT) (i v:Int):Option Nat:=match m with
 |none=>none
 |some (_,l)=>kz (fun k=>decide (i≤(k:Int))&&decide (((l.getD k 0:Nat):Int)=v)) l.length
def MT.jm (m:MT) (i v:Int):Option Nat:=match m with
 |none=>none
 |some (_,l)=>iE (fun k=>decide ((k:Int)<i)&&decide (((l.getD k 0:Nat):Int)=v)) l.length
def MT.err (m:MT) (o:Option Nat):Int:=match m with|none=>5|some _=>Ij o
def okW (wd:Int):Bool:=[1,2,4,8].any fun x=>wd==x
def lV (n wd:Int):MT:=if 1≤n∧n≤4096∧okW wd=true then some (wd.toNat,List.replicate n.toNat 0)else none
def Bj (m:MT):Int:=if m.isSome then 0 else 1
end
section
variable {caps:Array Value} {p:Int→Bool} {xs:List Int} {l:List Nat} {F b cap g i n t wd:Nat} {a:Option Addr} {w:World}
def ints (xs:List Int):List Value:=xs.map fun(x:Int)=>.int .i64 x
theorem aC (rest:List Value) (h:i<xs.length):(ints xs++rest)[i]? =some (.int .i64 (xs.getD i 0)):=by
 rw[List.getElem?_append_left (by simpa[ints]using h)];simp[ints,h]
def bU (n:Nat) (t:Nat) (g:Env):Nat:=match g t with|.int _ i=>(n-i).toNat|_=>0
theorem eY {g:Env} {k:IntKind} (h:g t=.int k i):bU n t g=n-i:=by unfold bU;rw[h];show((n:Int)-i).toNat=_;omega
theorem aZ {g h:Env} {k:IntKind} (e:g t=.int k i) (b:h t=.int .i64 ((i+1:Nat):Int):=by simp only[go_sem]) (d:i<n:=by omega):bU n t h<bU n t g:=by rw[eY (i:=i) e,eY (i:=i+1) b];omega
theorem au (i:Nat) (h:i≤4611686018427387903):IntKind.i64.wrap ((i:Int)+1)=((i+1:Nat):Int):=bg (i+1) (by omega)
theorem fV (h:i<xs.length):(xs.take (i+1)).any p=((xs.take i).any p||p (xs.getD i 0)):=by
 rw[List.take_succ_eq_append_getElem h,List.any_append];simp[h]
theorem uZ (C : xs ≠ [] → ∃ s rest, a = some ⟨s, 0, none⟩ ∧ At w s (ints xs ++ rest)) (t : okF Tryz.prog F = true)
    (B : xs.length ≤ 1000) (D : ∀ w' x, ad [] w w' → x ∈ xs → Cs Tryz.prog F ([.int .i64 x] ++ caps.toList) w' fun v j => v = .bool (p x) ∧ ad [] w' j) :
    Cs Tryz.prog 266 [.slice a xs.length cap, .func (.func F) #[] caps] w fun v w' => (∃ k : Int, v = .int .i64 k ∧ decide (0 ≤ k) = xs.any p) ∧ ad [] w w' := by
  refine en [] ?_;refine gO ?_;refine aE [5, 8, 9, 10, 11, 12, 13, 14, 15, 16, 18] (fun g w' => ∃ i : Nat, g 8 = .int .i64 i ∧ i ≤ xs.length ∧ (xs.take i).any p = false ∧ ad [] w w') (fun g _ => bU xs.length 8 g) ⟨0, by simp only [go_sem]; rfl, by omega, by simp, ad.refl _ _⟩ fun g w' E l => ?_;obtain ⟨i, r, I, d, m⟩ := E;refine aQ r ?_;refine cD (fun b => ?_) (fun u => ?_)
  · have b : i < xs.length := by simpa using b
    obtain ⟨s, rest, rfl, o⟩ := C (by intro e; subst e; simp at b);have G : (0 : Int) ≤ (i : Int) ∧ (i : Int) < (xs.length : Int) := ⟨by omega, by omega⟩;(repeat (first | with_reducible (first | refine nx ?_ | refine ch rfl ?_) | simp only [go_sem, r, if_pos G, o.cell, (o.aa m).cell, aC rest b, cf, Nat.mul_one]));have y : Cs Tryz.prog F ((#[] : Array Value).toList ++ [.int .i64 (xs.getD i 0)] ++ caps.toList) w' fun v j => v = .bool (p (xs.getD i 0)) ∧ ad [] w' j := by
      have := D w' (xs.getD i 0) m (by simp [b]);simpa using this
    refine di (bA F #[] [.int .i64 (xs.getD i 0)] caps) t y ?_;rintro v H ⟨rfl, q⟩;refine gO ?_;refine cD (fun z => ?_) (fun z => ?_)
    · refine gO ?_;refine ⟨⟨i, rfl, ?_⟩, m.nil q⟩;have : xs.any p = true := List.any_eq_true.2 ⟨_, by simp [b], z⟩;simp [this]
    · refine bj r (au i (by omega)) ?_;refine l _ H ⟨i + 1, ?_, by omega, by rw [fV b, d, z]; rfl, m.nil q⟩ ?_
      · simp only [go_sem]
      · exact aZ r
  · have : i = xs.length := by have : ¬ (i < xs.length) := by simpa using u
                               omega
    subst this;refine gO ?_;refine ⟨⟨-1, rfl, ?_⟩, m⟩;rw [List.take_length] at d;simp [d]
theorem j6 (l:xs≠ []→ ∃s rest,a=some ⟨s,0,none⟩∧At w s (ints xs++rest)) (d:okF Tryz.prog F=true)
  (b:xs.length≤1000) (m: ∀w' x,ad [] w w'→x∈xs→Cs Tryz.prog F ([.int .i64 x]++caps.toList) w' fun v j=>v=.bool (p x)∧ad [] w' j):
  Cs Tryz.prog 268 [.slice a xs.length cap,.func (.func F) #[] caps] w fun v w'=>v=.bool (xs.any p)∧ad [] w w':=by
 refine en [] ?_;refine gO ?_;refine ak (uZ l d b m) ?_;rintro v w' ⟨⟨k,rfl,o⟩,q⟩;refine aQ o ?_;exact q
theorem u0 (h:dh w b g n wd l) (v:Int):Cs Tryz.prog 420 [.pointer (some ⟨b,0,none⟩),.int .i64 v] w fun r w'=>r=.bool (ib wd v)∧ad [] w w':=by
 refine en [] ?_;by_cases d:0≤v
 ·refine aQ (bc d) ?_;refine ao (iD h) ?_;refine gO ?_;exact⟨by simp[ib,d],ad.refl _ _⟩
 ·refine aQ (bt d) ?_;exact⟨by simp[ib,d],ad.refl _ _⟩
theorem sA {q:Nat} (h:dh w b g n wd l) (d:At w q [.pointer (some ⟨b,0,none⟩)]) (v:Int):Cs Tryz.prog 419 [.int .i64 v,.pointer (some ⟨q,0,none⟩)] w fun r w'=>r=.bool (!ib wd v)∧ad [] w w':=by
 refine en [] ?_;refine aQ d.cell ?_;refine aH (u0 h v) fun w' j=>?_;refine gO ?_;exact j
theorem kB (h:dh w b g n wd l) {i:Int} {t:Bool} (k:hasB n i=t):Cs Tryz.prog 357 [.pointer (some ⟨b,0,none⟩),.int .i64 i] w fun r w'=>r=.bool t∧ad [] w w':=by
 subst k;obtain⟨m,cap,rest,o,j,q,u⟩:=h.mem;refine en [] ?_;by_cases d:0≤i
 ·refine bj (bc d) j.cell ?_;refine ao (j5 h) ?_;refine bj (bc d) j.cell ?_;exact⟨by simp[hasB,d],ad.refl _ _⟩
 ·refine bj (bt d) j.cell ?_;refine ao (j5 h) ?_;refine bj (bt d) j.cell ?_;exact⟨by simp[hasB,d],ad.refl _ _⟩
end
set_option maxRecDepth 8000
theorem AF {b:Type} (xs:List b) (p:b→Bool):xs.any (fun x=>!p x)=!xs.all p:=by
 induction xs with
 |nil=>rfl
 |cons x xs d=>simp[d]
theorem u1 {w:World} {b g n wd:Nat} {l:List Nat} (h:dh w b g n wd l) {i:Int} {a:Option Addr} {xs:List Int} {cap:Nat} {e:Int} (m:xs≠ []→ ∃s rest,a=some ⟨s,0,none⟩∧At w s (ints xs++rest))
  (o:xs.length≤1000) (E:MT.check (some (wd,l)) i xs=e):
  Cs Tryz.prog 355 [.pointer (some ⟨b,0,none⟩),.int .i64 i,.slice a xs.length cap] w fun v w'=>v=.int .i64 e∧ad [] w w':=by
 subst E;refine en [] ?_;refine gO ?_;refine bm fun q F H G j r=>?_;have h:=h.ae r (by simp) (by simp);have m:xs≠ []→ ∃s rest,a=some ⟨s,0,none⟩∧At F s (ints xs++rest):=fun z=>let ⟨s,rest,B,C⟩:=m z;⟨s,rest,B,C.aa r⟩
 refine aQ j.cell ?_;refine ao (j5 h) ?_;refine aQ j.cell ?_;by_cases k:hasB n i=true
 ·refine aH (kB h k) fun D d=>?_;have h:=h.ae d (by simp) (by simp);have j:=j.aa d;have m:xs≠ []→ ∃s rest,a=some ⟨s,0,none⟩∧At D s (ints xs++rest):=fun z=>let ⟨s,rest,B,C⟩:=m z;⟨s,rest,B,C.aa d⟩
  refine gO ?_;refine aH (j6 m rfl o (p:=fun x=>!ib wd x) fun w' x t _=>sA (h.ae t (by simp) (by simp)) (j.aa t) x) fun I u=>?_;refine aQ @AF ?_;by_cases y:xs.all (ib wd)=true
  ·refine aQ y ?_;exact⟨by simp[MT.check,h.len,k,y],(r.same d).same u⟩
  ·rw[Bool.not_eq_true]at y;refine aQ y ?_;exact⟨by simp[MT.check,h.len,k,y],(r.same d).same u⟩
 ·rw[Bool.not_eq_true]at k;refine aH (kB h k) fun D d=>?_;refine gO ?_;exact⟨by simp[MT.check,h.len,k],r.same d⟩
section
variable {e:Int} {S T:List Nat} {m:MT} {b:Nat} {a:Option Addr} {w w':World}
def gI (w:World) (a:Option Addr) (S:List Nat) (m:MT):Prop:=match m with
 |some (wd,l)=> ∃b g,a=some ⟨b,0,none⟩∧S=[b,g]∧dh w b g l.length wd l
 |none=>(a=none∧S=[])∨ ∃b,a=some ⟨b,0,none⟩∧S=[b]∧At w b [.int .i64 0,.int .i64 0,.slice none 0 0]
theorem gI.ae (h:gI w a S m) (k:ad T w w') (d: ∀x,x∈S→x∉T):gI w' a S m:=by
 match m,h with
 |some (wd,l),⟨b,g,j,o,q⟩=>subst o;exact⟨b,g,j,rfl,q.ae k (d b (by simp)) (d g (by simp))⟩
 |none,.inl h=>exact .inl h
 |none,.inr ⟨b,j,o,q⟩=>subst o;exact .inr ⟨b,j,rfl,q.ae k (d b (by simp))⟩
theorem gI.aa (h:gI w a S m) (k:ad [] w w'):gI w' a S m:=h.ae k fun _ _=>by simp
theorem gI.lt (h:gI w a S m): ∀x,x∈S→x<w.heap.size:=by
 match m,h with
 |some (wd,l),⟨b,g,o,j,k⟩=>
  subst j;obtain⟨t,cap,rest,_,q,r,_⟩:=k.mem;intro x d;rcases List.mem_cons.1 d with rfl|d
  ·exact q.lt
  ·rcases List.mem_cons.1 d with rfl|d
   ·exact r.lt
   ·cases d
 |none,.inl h=>rw[h.2];intro x d;cases d
 |none,.inr ⟨b,o,j,k⟩=>
  subst j;intro x d;rcases List.mem_cons.1 d with rfl|d
  ·exact k.lt
  ·cases d
theorem gI.mk {g n wd:Nat} {l:List Nat} (h:dh w b g n wd l):gI w (some ⟨b,0,none⟩) [b,g] (some (wd,l)):=⟨b,g,rfl,rfl,by rw[h.len];exact h⟩
theorem ad.sub {a b:World} (h:ad S a b) (d: ∀x,x∈S→x∈T):ad T a b:=h.mono fun x j=>.inl (d x j)
theorem ad.g {g:Nat} (h:ad [g] w w'):ad [b,g] w w':=h.sub (by simp)
theorem kC (h:gI w a S none):Cs Tryz.prog 353 [.pointer a] w fun v w'=>v=.bool false∧w'=w:=by
 rcases h with⟨rfl,_⟩|⟨b,rfl,_,h⟩
 ·exact mS w
 ·exact(j4 b 0 _ w h).mono fun v w' h=>⟨by rw[h.1];rfl,h.2⟩
theorem kD (h:gI w a S m):Cs Tryz.prog 353 [.pointer a] w fun v w'=>v=.bool m.isSome∧w'=w:=by
 match m,h with
 |some (wd,l),⟨b,g,d,k,j⟩=>subst d;exact j5 j
 |none,h=>exact kC h
theorem AG (h:gI w a S m) (i:Int):Cs Tryz.prog 357 [.pointer a,.int .i64 i] w fun v w'=>v=.bool (match m with|none=>false|some (_,l)=>hasB l.length i)∧ad [] w w':=by
 match m,h with
 |some (wd,l),⟨b,g,d,k,j⟩=>subst d;exact kB j rfl
 |none,h=>
  refine en [] ?_;refine gO ?_;refine ao (kC h) ?_;refine gO ?_;exact ad.refl _ _
theorem tz (h:gI w a S m) {i:Int} {s:Option Addr} {xs:List Int} {cap:Nat} (r:xs≠ []→ ∃q rest,s=some ⟨q,0,none⟩∧At w q (ints xs++rest)) (d:xs.length≤1000) (k:m.check i xs=e):
  Cs Tryz.prog 355 [.pointer a,.int .i64 i,.slice s xs.length cap] w fun v w'=>v=.int .i64 e∧ad [] w w':=by
 match m,h with
 |some (wd,l),⟨b,g,t,z,u⟩=>subst t;exact u1 u r d k
 |none,h=>
  subst k;refine en [] ?_;refine gO ?_;refine bm fun q B C y j o=>?_;refine aQ j.cell ?_;refine ao (kC (h.aa o)) ?_;refine aQ j.cell ?_;exact⟨rfl,o⟩
theorem xQ (h:gI w a S m) (i:Int) (b:m.check i []=e):
  Cs Tryz.prog 355 [.pointer a,.int .i64 i,.slice none 0 0] w fun v w'=>v=.int .i64 e∧ad [] w w':=tz h (xs:=[]) (by simp) (by simp) b
theorem xR (h:gI w a S m) (i:Int) {q:Nat} {x:Int} (b:At w q [.int .i64 x]) (d:m.check i [x]=e):
  Cs Tryz.prog 355 [.pointer a,.int .i64 i,.slice (some ⟨q,0,none⟩) 1 1] w fun v w'=>v=.int .i64 e∧ad [] w w':=tz h (xs:=[x]) (fun _=>⟨q,[],rfl,b⟩) (by simp) d
theorem Bk (h:gI w a S m) (i:Int):Cs Tryz.prog 216 [.pointer a,.int .i64 i] w fun v w'=>v=.int .i64 (m.get i)∧ad [] w w':=by
 refine en [] ?_;refine gO ?_;refine aH (AG h i) fun u j=>?_
 match m,h with
 |none,h=>
  refine gO ?_;exact⟨rfl,j⟩
 |some (wd,l),⟨b,g,q,y,r⟩=>
  subst q;simp only[];by_cases d:hasB l.length i=true
  ·obtain⟨k,rfl,t⟩:=mT d;refine aQ d ?_;refine aH (lF (r.ae j (by simp) (by simp)) t) fun z o=>?_;refine gO ?_;exact⟨by simp[MT.get,d],j.same o⟩
  ·rw[Bool.not_eq_true]at d;refine aQ d ?_;exact⟨by simp[MT.get,d],j⟩
theorem lT (h:gI w a S m) (i v:Int):Cs Tryz.prog 220 [.pointer a,.int .i64 i,.int .i64 v] w fun r w'=>r=.int .i64 (m.check i [v])∧gI w' a S (m.cC i v)∧ad S w w':=by
 refine en [] ?_;refine gO ?_;rw[ai rfl rfl];refine gO ?_;refine jc fun q H I z t j=>?_;refine gO ?_;refine aH (xR (h.aa j) i t rfl) fun J d=>?_
 match m,h with
 |none,h=>
  refine aQ @MT.mU ?_;exact⟨h.aa (j.same d),(j.same d).of_nil⟩
 |some (wd,l),⟨b,g,B,C,o⟩=>
  subst B C;have o:=(o.ae j (by simp) (by simp)).ae d (by simp) (by simp);rcases MT.kR (wd:=wd) (l:=l) (i:=i) (vs:=[v])with⟨e,y,D⟩|⟨e,y⟩
  ·obtain⟨k,rfl,E⟩:=mT y;obtain⟨x,rfl,F⟩:=xO (v:=v) (by simpa using D);refine aQ e ?_;refine ak (tx o E F) ?_;rintro r K ⟨rfl,G,u⟩;refine gO ?_;exact⟨by simp only[MT.cC,e,if_true,cf];exact .mk G,(j.same d).of_nil.same u.g⟩
  ·refine aQ e ?_;exact⟨by simp only[MT.cC,e];exact .mk o,(j.same d).of_nil⟩
end
section
set_option maxRecDepth 8000
variable {x:Int} {xs:List Int} {S l:List Nat} {rest:List Value} {m:MT} {b cap g n s wd:Nat} {a:Option Addr} {w:World}
theorem dh.Bl (h:dh w b g n wd l): ∃k cap,At w b [.int .i64 n,.int .i64 wd,.slice (some ⟨g,0,none⟩) k cap]:=by
 obtain⟨j,cap,rest,m,d,o,q⟩:=h.mem;exact⟨_,_,d⟩
theorem xS (h:gI w a S m) (i v:Int):Cs Tryz.prog 295 [.pointer a,.int .i64 i,.int .i64 v] w fun r w'=>r=.tuple #[.int .i64 (xP (m.jl i v)),.int .i64 (m.err (m.jl i v))]∧ad [] w w':=by
 refine en [] ?_;refine gO ?_;refine ao (kD h) ?_
 match m,h with
 |none,h=>
  (repeat(first|with_reducible(first|refine nx ?_|refine ch rfl ?_)|simp only[go_sem,Option.isSome_none]));exact⟨rfl,ad.refl _ _⟩
 |some (wd,l),⟨b,g,G,D,y⟩=>
  subst G D;have M:=y.n2;(repeat(first|with_reducible(first|refine nx ?_|refine ch rfl ?_)|simp only[go_sem,Option.isSome_some]));refine aE [8,14,15,16,17,18,19,20,21,22,23,24,25,26] (fun E w'=> ∃j:Nat,E 8=.int .i64 j∧i≤j∧(∀q:Nat,q<j→q<l.length→i≤q→ ¬((l.getD q 0:Nat):Int)=v)∧ad [] w w') (fun E _=>bU l.length 8 E) ⟨(max i 0).toNat,by simp only[go_sem];congr;omega,by omega,fun q G D y=>absurd y (by omega),ad.refl _ _⟩ fun E w' N o=>?_;obtain⟨j,z,H,t,F⟩:=N;have L:=y.ae F (by simp) (by simp);obtain⟨Q,cap,O⟩:=L.Bl;refine bj z O.cell ?_;refine cD (fun k=>?_) (fun B=>?_)
  ·have k:j<l.length:=by simpa using k
   refine aQ z ?_;refine aH (lF L k) fun P C=>?_;refine gO ?_;refine cD (fun I=>?_) (fun u=>?_)
   ·have I:((l.getD j 0:Nat):Int)=v:=by simpa using I
    have J:MT.jl (some (wd,l)) i v=some j:=iF (by simp[H,←I]) k fun q K=>by
     by_cases d:i≤(q:Int)
     ·have:=t q K (by omega) d;simp only[bt this,Bool.and_false]
     ·simp[d]
    refine aQ z ?_;rw[J];exact⟨rfl,F.same C⟩
   ·have u: ¬((l.getD j 0:Nat):Int)=v:=by simpa using u
    refine bj z (au j (by omega)) ?_;refine o _ P ⟨j+1,?_,by omega,fun q G D y=>?_,F.same C⟩ ?_
    ·simp only[go_sem]
    ·rcases Nat.lt_or_ge q j with h|h
     ·exact t q h D y
     ·have:q=j:=by omega
      subst this;exact u
    ·exact aZ z
  ·have B: ¬j<l.length:=by simpa using B
   have J:MT.jl (some (wd,l)) i v=none:=fF fun q K=>by
    by_cases d:i≤(q:Int)
    ·have:=t q (by omega) K d;simp only[bt this,Bool.and_false]
    ·simp[d]
   refine gO ?_;rw[J];exact⟨rfl,F⟩
def pO (t:Nat) (g:Env):Nat:=match g t with|.int _ i=>(i+1).toNat|_=>0
theorem gP {t:Nat} {g:Env} {k:IntKind} {i:Int} (h:g t=.int k i):pO t g=(i+1).toNat:=by unfold pO;rw[h]
theorem Dl (h:gI w a S m) (i v:Int):Cs Tryz.prog 434 [.pointer a,.int .i64 i,.int .i64 v] w fun r w'=>r=.tuple #[.int .i64 (xP (m.jm i v)),.int .i64 (m.err (m.jm i v))]∧ad [] w w':=by
 refine en [] ?_;refine gO ?_;refine ao (kD h) ?_
 match m,h with
 |none,h=>
  (repeat(first|with_reducible(first|refine nx ?_|refine ch rfl ?_)|simp only[go_sem,Option.isSome_none]));exact⟨rfl,ad.refl _ _⟩
 |some (wd,l),⟨b,g,I,F,t⟩=>
  subst I F;have N:=t.n2;obtain⟨W,cap,O⟩:=t.Bl;have d:IntKind.i64.wrap (min (max i 0) (l.length:Int)-1)=min (max i 0) (l.length:Int)-1:=IntWalk.i64_in _ (by omega);(repeat(first|with_reducible(first|refine nx ?_|refine ch rfl ?_)|simp only[go_sem,Option.isSome_some,O.cell,d]));refine aE [8,20,21,22,23,24,25,26,27,28] (fun G w'=> ∃j:Int,G 8=.int .i64 j∧(j<i∨j<0)∧j<l.length∧ -1≤j∧(∀q:Nat,j<q→q<l.length→(q:Int)<i→ ¬((l.getD q 0:Nat):Int)=v)∧ad [] w w') (fun G _=>pO 8 G) ⟨_,by simp only[go_sem];rfl,by omega,by omega,by omega,fun q I F t=>absurd t (by omega),ad.refl _ _⟩ fun G w' P u=>?_;obtain⟨j,B,Q,R,T,y,H⟩:=P;have U:=t.ae H (by simp) (by simp);refine aQ B ?_;refine cD (fun C=>?_) (fun D=>?_)
  ·have C:0≤j:=by simpa using C
   obtain⟨k,rfl⟩: ∃k:Nat,j=k:=⟨j.toNat,by omega⟩;refine aQ B ?_;refine aH (lF U (by omega)) fun V E=>?_;refine gO ?_;refine cD (fun J=>?_) (fun z=>?_)
   ·have J:((l.getD k 0:Nat):Int)=v:=by simpa using J
    have K:MT.jm (some (wd,l)) i v=some k:=jx (by simp[←J];omega) (by omega) fun q M L=>by
     by_cases o:(q:Int)<i
     ·have:=y q (by omega) L o;simp only[bt this,Bool.and_false]
     ·simp[o]
    refine aQ B ?_;rw[K];exact⟨rfl,H.same E⟩
   ·have z: ¬((l.getD k 0:Nat):Int)=v:=by simpa using z
    have d:IntKind.i64.wrap ((k:Int)-1)=(k:Int)-1:=IntWalk.i64_in _ (by omega);refine bj B d ?_;refine u _ V ⟨(k:Int)-1,?_,by omega,by omega,by omega,fun q I F t=>?_,H.same E⟩ ?_
    ·simp only[go_sem]
    ·rcases Nat.lt_or_ge k q with h|h
     ·exact y q (by omega) F t
     ·have:q=k:=by omega
      subst this;exact z
    ·rw[gP B,gP (k:=.i64) (i:=(k:Int)-1) (by simp only[go_sem])];omega
  ·have D: ¬0≤j:=by simpa using D
   have K:MT.jm (some (wd,l)) i v=none:=mV fun q M=>by
    by_cases o:(q:Int)<i
    ·have:=y q (by omega) M o;simp only[bt this,Bool.and_false]
    ·simp[o]
   refine gO ?_;rw[K];exact⟨rfl,H⟩
theorem index (r : At w s (ints xs ++ rest)) (q : xs.length ≤ 1000) :
    Cs Tryz.prog 330 [.slice (some ⟨s, 0, none⟩) xs.length cap, .int .i64 x] w fun v w' => (∃ k : Int, v = .int .i64 k ∧ decide (0 ≤ k) = xs.any (x == ·)) ∧ w' = w := by
  refine en [] ?_;refine gO ?_;refine aE (5 :: 8 :: 9 :: 10 :: 11 :: 12 :: 13 :: 14 :: 15 :: 16 :: 18 :: []) (fun g w' => ∃ i : Nat, g 8 = .int .i64 i ∧ i ≤ xs.length ∧ (xs.take i).any (x == ·) = false ∧ w' = w) (fun g _ => bU xs.length 8 g) ⟨0, by simp only [go_sem]; rfl, by omega, by simp, rfl⟩ fun g w' t j => ?_;obtain ⟨i, l, y, b, rfl⟩ := t;refine aQ l ?_;refine cD (fun d => ?_) (fun m => ?_)
  · have d : i < xs.length := by simpa using d
    have u : (0 : Int) ≤ (i : Int) ∧ (i : Int) < (xs.length : Int) := ⟨by omega, by omega⟩;refine kZ l (eq_true u) r.cell (aC rest d) @Int.toNat_natCast @Nat.mul_one ?_;refine cD (fun o => ?_) (fun o => ?_)
    · refine gO ?_;refine ⟨i, rfl, ?_⟩;have : xs.any (x == ·) = true := List.any_eq_true.2 ⟨_, by simp [d], o⟩;simp [this]
    · refine bj l (au i (by omega)) ?_;refine j _ _ ⟨i + 1, ?_, by omega, by rw [fV d, b, o]; rfl, rfl⟩ ?_
      · simp only [go_sem]
      · exact aZ l
  · have : i = xs.length := by have : ¬ (i < xs.length) := by simpa using m
                               omega
    subst this;refine gO ?_;refine ⟨-1, rfl, ?_⟩;rw [List.take_length] at b;simp [b]
theorem contains (d:At w s (ints xs++rest)) (b:xs.length≤1000):
  Cs Tryz.prog 226 [.slice (some ⟨s,0,none⟩) xs.length cap,.int .i64 x] w fun v w'=>v=.bool (xs.any (x== ·))∧w'=w:=by
 refine en [] ?_;refine gO ?_;refine ak (index d b) ?_;rintro v w' ⟨⟨k,rfl,j⟩,rfl⟩;(repeat(first|with_reducible(first|refine nx ?_|refine ch rfl ?_)|simp only[go_sem,j]))
structure u2 (h0:Nat) (w:World) (a:Option Addr) (S:List Nat) (m:MT):Prop where
 Ow:gI w a S m
 some:a.isSome=m.isSome
 new: ∀x,x∈S→h0≤x
theorem u2.none (b:Nat) (w:World):u2 b w none [] none:=⟨.inl ⟨rfl,rfl⟩,rfl,by simp⟩
theorem u2.mk' {d:Nat} (h:dh w b g n wd l) (j:d≤b) (k:d≤g):u2 d w (.some ⟨b,0,.none⟩) [b,g] (.some (wd,l)):=
 ⟨.mk h,rfl,by simp;omega⟩
theorem Dm {wd:Int} (h:okW wd=true): ∃k:Nat,wd=k∧Wd k:=by
 simp only[okW,List.any_cons,List.any_nil,Bool.or_eq_true,beq_iff_eq,Bool.false_eq_true,or_false]at h;refine⟨wd.toNat,by omega,?_⟩;unfold Wd;omega
theorem oi (w:World) (n wd:Int):Cs Tryz.prog 223 [.int .i64 n,.int .i64 wd] w fun r w'=> ∃a S,r=.tuple #[.pointer a,.int .i64 (Bj (lV n wd))]∧u2 w.heap.size w' a S (lV n wd)∧ad [] w w':=by
 refine en [] ?_;have j: ∀w',ad [] w w'→ ¬(1≤n∧n≤4096∧okW wd=true)→ ∃a S,Value.tuple #[.pointer none,.int .i64 1]=.tuple #[.pointer a,.int .i64 (Bj (lV n wd))]∧u2 w.heap.size w' a S (lV n wd)∧ad [] w w':=fun w' F D=>by
  have:lV n wd=none:=if_neg D;rw[this];exact⟨none,[],rfl,.none _ _,F⟩
 by_cases z:n<1
 ·refine aQ (bc z) ?_;exact j _ (ad.refl _ _) (by omega)
 by_cases E:4096<n
 ·refine bj (bt z) (bc E) ?_;exact j _ (ad.refl _ _) (by omega)
 refine bj (bt z) (bt E) ?_;rw[ai rfl rfl,ai rfl rfl,ai rfl rfl,ai rfl rfl];refine gO ?_;refine jc fun q U V G B o=>?_;refine gO ?_;refine ao (contains (xs:=[1,2,4,8]) (rest:=[]) B (by simp)) ?_;by_cases m:okW wd=true
 ·have l: [1,2,4,8].any (wd== ·)=true:=m;obtain⟨k,rfl,y⟩:=Dm m;obtain⟨e,rfl⟩: ∃e:Nat,n=e:=⟨n.toNat,by omega⟩;have H:e≤4096:=by omega
  have D:e*k≤40000:=by rcases y with rfl|rfl|rfl|rfl<;>omega
  have I:IntKind.i64.wrap ((e:Int)*k)=((e*k:Nat):Int):=by rw[←Int.natCast_mul,bg _ (by omega)]
  have J:IntKind.i64.wrap (((e*k:Nat):Int)+64)=((e*k+64:Nat):Int):=bg (e*k+64) (by omega);have K:IntKind.i64.wrap (((e*k+64:Nat):Int)-1)=((e*k+63:Nat):Int):=by rw[IntWalk.i64_in _ (by omega)];omega
  have L:=pN (e*k+63) (by omega);refine jr l I J K L ?_;refine FB (Nat.le_refl _) (by omega) ?_ fun g W X M d C=>?_
  ·have:(e*k+63)/64≤1000:=by omega
   omega
  refine gO ?_;rw[ai rfl rfl,ai rfl rfl,ai rfl rfl];refine gO ?_;refine bm fun b N O P t u=>?_;refine gO ?_;have Q:lV (e:Int) (k:Int)=some (k,List.replicate e 0):=by
   unfold lV;rw[if_pos ⟨by omega,by omega,m⟩];simp only[cf]
  rw[Q];have R:eP [Value.int IntKind.u64 0] ((e*k+63)/64)=mR (List.replicate ((e*k+63)/64) 0)++[]:=by
   rw[gy];simp[mR]
  rw[R]at d;have T:dh N b g e k (List.replicate e 0):=by
   refine⟨y,by simp,by omega,H,(Pk.zero k e y).el,List.replicate ((e*k+63)/64) 0,(e*k+63)/64,[],Pk.zero k e y,?_,d.aa u,by omega⟩;rw[List.length_replicate];exact t
  exact⟨_,_,rfl,.mk' T (by omega) (by omega),(o.same C).same u⟩
 ·rw[Bool.not_eq_true]at m;have l: [1,2,4,8].any (wd== ·)=false:=m;refine aQ l ?_;exact j _ o (by rw[m];simp)
end
section
open Go.MapKept Go.ChangeMaps
abbrev IM:=List (Int×Value)
def getM:IM→Int→Option Value
 | [],_=>none
 |p::m,k=>if p.1=k then some p.2 else getM m k
def b9:IM→Int→Value→IM
 | [],k,v=>[(k,v)]
 |p::m,k,v=>if p.1=k then(k,v)::m else p::b9 m k v
def eh:IM→Int→IM
 | [],_=>[]
 |p::m,k=>if p.1=k then m else p::eh m k
theorem Dn: ∀ {m:IM} {j:Nat} {k:Int} {x:Value} (v:Value),(m.map (·.1)).Nodup→m[j]? =some (k,x)→getM m k=some x∧b9 m k v=m.set j (k,v)∧eh m k=m.eraseIdx j
 | [],j,k,x,v,_,h=>by simp at h
 |p::m,0,k,x,v,_,h=>by
  simp only[List.getElem?_cons_zero,Option.some.injEq]at h
  subst h
  simp[getM,b9,eh]
 |p::m,j+1,k,x,v,b,h=>by
  simp only[List.getElem?_cons_succ]at h
  simp only[List.map_cons,List.nodup_cons]at b
  have d:p.1≠k:=fun e=>b.1 (by rw[e];exact List.mem_map.2 ⟨_,List.mem_of_getElem? h,rfl⟩)
  obtain⟨l,o,q⟩:=Dn (m:=m) (j:=j) (x:=x) v b.2 h
  simp[getM,b9,eh,d,l,o,q]
theorem Dp: ∀ {m:IM} {k:Int} (v:Value),(∀p,p∈m→p.1≠k)→getM m k=none∧b9 m k v=m++[(k,v)]∧eh m k=m
 | [],k,v,_=>⟨rfl,rfl,rfl⟩
 |p::m,k,v,h=>by
  have b:=h p (by simp)
  obtain⟨d,j,l⟩:=Dp (m:=m) v fun q o=>h q (by simp[o])
  simp[getM,b9,eh,b,d,j,l]
def vt (b:List MapEntry) (m:IM):Prop:=b.map (fun e=>(e.key,e.val))=m.map fun p=>(Value.int .i64 p.1,p.2)
theorem vt.keys {b:List MapEntry} {m:IM} (h:vt b m):b.map (·.key)=(m.map (·.1)).map (Value.int .i64):=by
 have:=congrArg (List.map (·.1)) h;simpa[List.map_map,Function.comp_def]using this
theorem vt.at {d:List MapEntry} {m:IM} (h:vt d m) {j:Nat} {e:MapEntry} (o:d[j]? =some e): ∃p,m[j]? =some p∧e.key=.int .i64 p.1∧e.val=p.2:=by
 have b:=congrArg (fun l:List (Value×Value)=>l[j]?) h;simp only[List.getElem?_map,o,Option.map_some]at b;cases k:m[j]? with
 |none=>simp[k]at b
 |some p=>
  simp only[k,Option.map_some,Option.some.injEq,Prod.mk.injEq]at b;exact⟨p,rfl,b.1,b.2⟩
theorem vt.isKey {b:List MapEntry} {m:IM} (h:vt b m): ∀x∈b,IsKey (.int .i64) x.key:=by
 intro x d;obtain⟨j,k,rfl⟩:=List.mem_iff_getElem.1 d;obtain⟨p,_,l,_⟩:=h.at (List.getElem?_eq_getElem k);rw[l];rfl
def bP (w:World) (b:Nat) (m:IM):Prop:= ∃(j:Array MapEntry) (d:Nat),w.heap[b]? =some (.map j d)∧vt j.toList m∧Stamped j d
theorem bP.ae {w w':World} {b:Nat} {m:IM} {S:List Nat} (h:bP w b m) (k:ad S w w') (l:b∉S):bP w' b m:=by
 obtain⟨o,d,j,q⟩:=h;refine⟨o,d,?_,q⟩;rw[k.block b ((Array.getElem?_eq_some_iff.1 j).1) l];exact j
theorem bP.aa {w w':World} {b:Nat} {m:IM} (h:bP w b m) (k:ad [] w w'):bP w' b m:=h.ae k (by simp)
theorem bP.lt {w:World} {b:Nat} {m:IM} (h:bP w b m):b<w.heap.size:=by
 obtain⟨k,d,j,_⟩:=h;exact(Array.getElem?_eq_some_iff.1 j).1
theorem bP.nodup {w:World} {b:Nat} {m:IM} (h:bP w b m):(m.map (·.1)).Nodup:=by
 obtain⟨l,d,_,j,k⟩:=h;have:=k.2.2;rw[j.keys]at this;exact(List.pairwise_map.1 this).imp fun h e=>h (by rw[e])
theorem dF {w:World} {b:Nat} {o:Obj}:ad [b] w (setBlock w b o):=by
 refine⟨rfl,rfl,rfl,by simp[setBlock],fun k j d=>?_⟩;simp only[bp]at d;simp[setBlock,Ne.symm d]
theorem dG {w:World} {b:Nat} {o:Obj}:(setBlock w b o).heap.size=w.heap.size:=by simp[setBlock]
section
variable {P:Program} {t kt et:TypeId} {w:World} {b:Nat} {m:IM} {k:Int}
theorem xT {o:Array MapEntry} (h:vt o.toList m) (z:(m.map (·.1)).Nodup) (k:Int) (v:Value):
  (Instr.findNow (.int .i64) (.int .i64 k) o.toList 0=some none∧(∀x∈o.toList,x.key≠.int .i64 k)∧getM m k=none∧b9 m k v=m++[(k,v)]∧eh m k=m)∨
   ∃j e,Instr.findNow (.int .i64) (.int .i64 k) o.toList 0=some (some (j,e.val))∧o.toList[j]? =some e∧e.key=.int .i64 k∧getM m k=some e.val∧b9 m k v=m.set j (k,v)∧eh m k=m.eraseIdx j:=by
 rcases findNow_spec (d:=.int .i64) (k:=.int .i64 k) rfl o.toList 0 h.isKey with⟨t,q⟩|⟨j,e,t,q,y⟩
 ·refine .inl ⟨t,q,Dp v fun p B C=>?_⟩;obtain⟨j,D,rfl⟩:=List.mem_iff_getElem.1 B;have E:o.toList.length=m.length:=by simpa[vt]using congrArg List.length h
  have r:j<o.toList.length:=by omega
  obtain⟨p,b,l,_⟩:=h.at (List.getElem?_eq_getElem r);rw[List.getElem?_eq_getElem D]at b;cases b;exact q _ (List.getElem_mem r) (by rw[l,C])
 ·obtain⟨p,b,l,u⟩:=h.at q;rw[y]at l;have w:p.1=k:=by cases l;rfl
  refine .inr ⟨j,e,by simpa using t,q,y,?_⟩;rw[u];exact Dn v z (by rw[b,←w])
theorem AH (J:P.underlying t=some (.map kt et)) (B:P.underlying kt=some (.int .i64)) (h:bP w b m) (v:Value):
  ∃w',(Instr.mapUpdate t (.map (some b)) (.int .i64 k) v).run P w=.ok () w'∧w'.heap.size=w.heap.size∧bP w' b (b9 m k v)∧ad [b] w w':=by
 have N:=h.nodup;obtain⟨C,q,u,D,K⟩:=h;have F:b<w.heap.size:=(Array.getElem?_eq_some_iff.1 u).1;have r: ∀o:Obj,(setBlock w b o).heap[b]? =some o:=fun o=>by simp[setBlock,F]
 rcases xT D N k v with⟨G,E,_,O,_⟩|⟨j,e,G,E,L,_,Q,_⟩
 ·refine⟨setBlock w b (.map (C.push {key:=.int .i64 k,val:=v,born:=q}) (q+1)),?_,dG,⟨_,_,r _,?_,stamped_push K E⟩,dF⟩
  ·simp[Instr.mapUpdate,run_underlying J,MapKept.run_getObj_map u,run_checkKey B (k:=.int .i64 k) rfl,run_findKey B G,MapKept.run_setObj_map _ u,Result.andThen,setBlock]
  ·rw[O];simp only[vt,Array.toList_push,List.map_append,List.map_cons,List.map_nil];rw[show C.toList.map (fun e=>(e.key,e.val))=_ from D]
 ·have H:C[j]? =some e:=by simpa using E
  refine⟨setBlock w b (.map (C.modify j fun e=> {e with key:=.int .i64 k,val:=v}) q),?_,dG,⟨_,_,r _,?_,stamped_modify K j _ (fun _ _=>rfl) (fun S _ y=>?_)⟩,dF⟩
  ·simp[Instr.mapUpdate,run_underlying J,MapKept.run_getObj_map u,run_checkKey B (k:=.int .i64 k) rfl,run_findKey B G,H,L,run_keyThatStays (d:=.int .i64) (k:=.int .i64 k) rfl,MapKept.run_setObj_map _ u,Result.andThen,setBlock]
  ·rw[Q];apply List.ext_getElem?;intro i;have M:=congrArg (fun l:List (Value×Value)=>l[i]?) D;simp only[List.getElem?_map,Array.getElem?_toList]at M;simp only[List.getElem?_map,Array.getElem?_toList,Array.getElem?_modify,List.getElem?_set];by_cases z:j=i
   ·subst z;have I:j<m.length:=by
     obtain⟨p,R,_⟩:=D.at E;exact(List.getElem?_eq_some_iff.1 R).1
    simp[H,I]
   ·simp[z,M]
  ·rw[H]at y;cases y;exact L.symm
theorem xU (q:P.underlying t=some (.map kt et)) (d:P.underlying kt=some (.int .i64)) {z:Value} (y:(zeroValue et).run P w=.ok z w) (h:bP w b m) (k:Int) (r:Bool):
  (Instr.lookup t (.map (some b)) (.int .i64 k) r).run P w=.ok (if r then .tuple #[(getM m k).getD z,.bool (getM m k).isSome]else(getM m k).getD z) w:=by
 have B:=h.nodup;obtain⟨F,l,u,C,G⟩:=h;rcases xT C B k undef with⟨o,_,D,_⟩|⟨j,e,o,_,_,E,_⟩
 ·simp[Instr.lookup,run_underlying q,MapKept.run_getObj_map u,run_checkKey d (k:=.int .i64 k) rfl,run_findKey d o,Result.andThen,y,D]
 ·simp[Instr.lookup,run_underlying q,MapKept.run_getObj_map u,run_checkKey d (k:=.int .i64 k) rfl,run_findKey d o,Result.andThen,E]
theorem AI {ty E:TypeId} (C:P.underlying t=some (.map kt et)) (u:P.underlying kt=some (.int .i64)) (h:bP w b m):
  ∃w',(Builtin.delete_ #[t,E] ty #[.map (some b),.int .i64 k]).run P w=.ok (.tuple #[]) w'∧w'.heap.size=w.heap.size∧bP w' b (eh m k)∧ad [b] w w':=by
 have F:=h.nodup;obtain⟨q,d,r,y,D⟩:=h;have z:b<w.heap.size:=(Array.getElem?_eq_some_iff.1 r).1;have l: ∀o:Obj,(setBlock w b o).heap[b]? =some o:=fun o=>by simp[setBlock,z]
 rcases xT y F k undef with⟨B,_,_,_,G⟩|⟨j,e,B,H,_,_,_,I⟩
 ·refine⟨setBlock w b (.map q d),?_,dG,⟨_,_,l _,?_,D⟩,dF⟩
  ·simp[Builtin.delete_,run_underlying C,MapKept.run_getObj_map r,run_checkKey u (k:=.int .i64 k) rfl,run_findKey u B,MapKept.run_setObj_map _ r,Result.andThen,setBlock]
  ·rw[G];exact y
 ·refine⟨setBlock w b (.map (q.eraseIdxIfInBounds j) d),?_,dG,⟨_,_,l _,?_,stamped_erase D j⟩,dF⟩
  ·simp[Builtin.delete_,run_underlying C,MapKept.run_getObj_map r,run_checkKey u (k:=.int .i64 k) rfl,run_findKey u B,MapKept.run_setObj_map _ r,Result.andThen,setBlock]
  ·rw[I];have J:j<q.size:=by
    have:=(List.getElem?_eq_some_iff.1 H).1;simpa using this
   have K:(q.eraseIdxIfInBounds j).toList=q.toList.eraseIdx j:=by simp[Array.eraseIdxIfInBounds,J]
   unfold vt;rw[K,map_eraseIdx,map_eraseIdx,show q.toList.map (fun e=>(e.key,e.val))=_ from y]
theorem xV {ty:TypeId} (j:P.underlying t=some (.map kt et)) (h:bP w b m):(Builtin.len_ #[t] ty #[.map (some b)]).run P w=.ok (.int .i64 m.length) w:=by
 obtain⟨k,d,l,o,r⟩:=h;have q:k.size=m.length:=by simpa[vt]using congrArg List.length o
 simp[Builtin.len_,run_underlying j,MapKept.run_getObj_map l,Result.andThen,goInt,q]
theorem oC:(Instr.makeMap t none).run P w=.ok (.map (some w.heap.size)) (w.alloc (.map #[] 0)):=by
 simp[Instr.makeMap,Result.andThen]
theorem bP.alloc (w:World):bP (w.alloc (.map #[] 0)) w.heap.size []:=⟨#[],0,heap_alloc_new w _,rfl,stamped_empty 0⟩
end
section
variable {P:Program} {t kt et:TypeId} {w:World} {b:Nat} {m:IM} {k:Int} {d:Option Nat} {rest:List XO} {ρ:Env} {C:Env→World→Prop}
theorem pd (h: ∀b w',b=w.heap.size→w'.heap.size=w.heap.size+1→bP w' b []→ad [] w w'→VO P rest (aV ρ d (.map (some b))) w' C):kv P (Instr.makeMap t none) d rest ρ w C:=
 runT oC (h _ _ rfl (by simp) (bP.alloc w) (ad.alloc [] w _))
theorem nZ (j:P.underlying t=some (.map kt et)) (l:P.underlying kt=some (.int .i64)) {v:Value} (h:bP w b m) (o: ∀w',w'.heap.size=w.heap.size→bP w' b (b9 m k v)→ad [b] w w'→VO P rest (aV ρ d undef) w' C):
  tp P (Instr.mapUpdate t (.map (some b)) (.int .i64 k) v) d rest ρ w C:=by
 obtain⟨w',q,r,u,y⟩:=AH (k:=k) j l h v;exact FA q (o w' r u y)
theorem Hs (j:P.underlying t=some (.map kt et)) (l:P.underlying kt=some (.int .i64)) {z:Value} (o:(zeroValue et).run P w=.ok z w) (h:bP w b m) (q:VO P rest (aV ρ d ((getM m k).getD z)) w C):kv P (Instr.lookup t (.map (some b)) (.int .i64 k) false) d rest ρ w C:=
 runT (xU j l o h k false) q
theorem Ba {j:TypeId} (l:P.underlying t=some (.map kt et)) (o:P.underlying kt=some (.int .i64)) (h:bP w b m) (q: ∀w',w'.heap.size=w.heap.size→bP w' b (eh m k)→ad [b] w w'→VO P rest (aV ρ d (.tuple #[])) w' C):
  kv P (Builtin.delete_ #[t,j] 0 #[.map (some b),.int .i64 k]) d rest ρ w C:=by
 obtain⟨w',r,u,y,z⟩:=AI (k:=k) l o h;exact runT r (q w' u y z)
theorem Bc (j:P.underlying t=some (.map kt et)) (h:bP w b m) (k:VO P rest (aV ρ d (.int .i64 m.length)) w C):kv P (Builtin.len_ #[t] 0 #[.map (some b)]) d rest ρ w C:=runT (xV j h) k
end
end
structure HL where
 B:List (Int×Int)
 W:List Int
 st:List Nat
 pn:List Nat
 pl:IM
 fw:IM
 born:Nat
abbrev HO:=Option HL
abbrev Sh:=Int×Int×Int
def c8 (s:Sh):List Value:=[.int .i64 s.1,.int .i64 s.2.1,.int .i64 s.2.2]
def aM (s:Sh):Bool:=decide (0≤s.1)&&decide (s.1≤15)&&decide (0≤s.2.1)&&decide (s.2.1≤200)&&decide (0≤s.2.2)&&decide (s.2.2≤3)&&(decide (s.2.2≠1)||decide (1≤s.1))&&(decide (s.2.2≠2)||decide (2≤s.1))
def ay (s:Sh):Int:=if aM s then(2+s.1+s.2.1+1)/2*2 else 0
def dv (s:Sh):Int:=s.1+16*s.2.1+4096*s.2.2
def bL (n:Int):Sh:=(n.tmod 16,(n.tmod 4096).tdiv 16,n.tdiv 4096)
def cP (n:Int):Bool:=decide (0≤n)&&decide (n<8)
def HL.b (s:HL) (i:Int):Int×Int:=s.B.getD i.toNat (0,0)
def dq (m:HO) (b:Int):Bool:=match m with|none=>false|some s=>decide (1≤b)&&decide (b<s.B.length)
def bq (m:HO):Nat:=match m with|none=>0|some s=>s.B.length
def iG (m:HO) (b:Int):Int:=match m with|none=> -1|some s=>if 0≤b∧b<s.B.length then(s.b b).1 else-1
def dr (m:HO) (b:Int):Int:=match m with|none=> -1|some s=>if 0≤b∧b<s.B.length then(s.b b).2 else-1
def fG (B:List (Int×Int)) (k:Nat) (x:Int×Int):Nat→List (Int×Int)
 |0=>B
 |j+1=>(fG B k x j).set (k+j) x
theorem bF (B:List (Int×Int)) (k:Nat) (x:Int×Int) (j:Nat):(fG B k x j).length=B.length:=by
 induction j with
 |zero=>rfl
 |succ j b=>simp[fG,b]
def a8 (m:HO) (b many:Int) (first:Int×Int):Int:=match m with
 |none=>5
 |some s=>if dq m b=false∨many<1∨(s.B.length:Int)-b<many∨cP first.2=false then 1
  else if((s.B.drop b.toNat).take many.toNat).any (fun x=>x !=(0,0))then 8 else 0
def bn (m:HO) (b many:Int) (first more:Int×Int):HO:=match m with
 |none=>none
 |some s=>if a8 m b many first=0 then some {s with B:=(fG s.B b.toNat more many.toNat).set b.toNat first}else some s
def tails (B:List (Int×Int)) (b:Nat):Nat→Nat→Nat
 |0,n=>n
 |f+1,n=>if b+n<B.length∧(B.getD (b+n) (0,0)).1=3 then tails B b f (n+1)else n
def HL.span (s:HL) (b:Nat):Nat:=if(s.B.getD b (0,0)).1=2 then tails s.B b s.B.length 1 else 1
def HL.size (s:HL) (a:Nat):Int:=ay (bL (s.W.getD (a+1) 0))
def HL.fc (s:HL):MT:=some (1,s.st)
def dw (m:HO) (a:Int):Int×Int:=match m with
 |none=>(0,5)
 |some s=>if a<0∨(s.W.length:Int)≤a then(0,4)else match s.fc.jm (a/2+1) 1 with
  |none=>(0,4)
  |some i=>if 2*(i:Int)+s.size (2*i)≤a then(0,4)else(2*(i:Int),0)
def cF (s:HL) (a:Int) (but:Int) (j:Nat):Bool:=(dw (some s) (a+2*(j:Int))).2==0&&(dw (some s) (a+2*(j:Int))).1 !=but
def j7 (s:HL) (a:Int):Bool:=decide (a<0)||decide ((s.W.length:Int)≤a)||decide (¬a%2=0)
def bJ (s:HL) (a b:Int):Bool:=if b≤32 then decide ((s.b (a/64)).1≠1)||decide ((a+b-1)/64≠a/64)else decide ((s.b (a/64)).1≠2)||decide (a%64≠0)||decide ((s.span (a/64).toNat:Int)≠(b+63)/64)
def ct (s:HL) (a b but:Int):Int:=if j7 s a=true then 1 else if bJ s a b=true then 5 else if(List.range ((b+1)/2).toNat).any (cF s a but)=true then 8 else 0
def bx (m:HO) (a:Int) (sh:Sh):Int×Int:=match m with
 |none=>(0,5)
 |some s=>if aM sh=false then(0,2)else if ct s a (ay sh) (-1)≠0 then(0,ct s a (ay sh) (-1))else(((s.born+1:Nat):Int),0)
def bM (m:HO) (a:Int) (sh:Sh):HO:=match m with
 |none=>none
 |some s=>if(bx m a sh).2=0 then some {s with W:=(s.W.set a.toNat ((s.born+1:Nat):Int)).set (a.toNat+1) (dv sh),st:=s.st.set (a.toNat/2) 1,pl:=b9 s.pl ((s.born+1:Nat):Int) (.int .i64 a),born:=s.born+1}else some s
def bw (m:HO) (a:Int):Bool:=match m with
 |none=>false
 |some s=>decide (0≤a)&&decide (a%2=0)&&decide (s.fc.get (a/2)=1)
def b' (m:HO) (a:Int):Int:=match m with
 |none=>5
 |some _=>if bw m a then 0 else 4
def HL.cu (s:HL) (a:Int):Sh:=bL (s.W.getD (a.toNat+1) 0)
def aU (m:HO) (a:Int):Sh×Int:=match m with
 |none=>((0,0,0),5)
 |some s=>if b' m a=0 then(s.cu a,0)else((0,0,0),b' m a)
def ba (m:HO) (a i:Int) (data:Bool):Int×Int:=match m with
 |none=>(0,5)
 |some s=>if b' m a≠0 then(0,b' m a)else
  if i<0∨(bif data then(s.cu a).2.1 else(s.cu a).1)≤i then(0,1)else((bif data then a+2+(s.cu a).1 else a+2)+i,0)
def ic (m:HO) (a i:Int):Int×Int:=match m with
 |none=>(0,5)
 |some s=>if(ba m a i false).2=0 then(s.W.getD (ba m a i false).1.toNat 0,0)else(0,(ba m a i false).2)
def bz (m:HO) (a i to:Int):Int:=match m with
 |none=>5
 |some _=>if(ba m a i false).2≠0 then(ba m a i false).2 else if to≠0∧bw m to=false then 1 else 0
def aP (m:HO) (a i to:Int):HO:=match m with
 |none=>none
 |some s=>if bz m a i to=0 then some {s with W:=s.W.set (ba m a i false).1.toNat to}else some s
structure HL.Ok (s:HL):Prop where
 b2:2≤s.B.length
 ju:s.B.length≤64
 wl:s.W.length=64*s.B.length
 sl:s.st.length=32*s.B.length
 pl:s.pn.length=32*s.B.length
 fit: ∀i,s.st.getD i 0=1→ ∃r d k:Nat,aM (r,d,k)=true∧s.W.getD (2*i+1) 0=dv (r,d,k)∧((2*i:Nat):Int)+ay (r,d,k)≤s.W.length
 dj: ∀i j,s.st.getD i 0=1→s.st.getD j 0=1→i<j→((2*i:Nat):Int)+s.size (2*i)≤((2*j:Nat):Int)
def dY (n:Int):HO:=if 2≤n∧n≤64 then some ⟨List.replicate n.toNat (0,0),List.replicate (64*n.toNat) 0,List.replicate (32*n.toNat) 0,List.replicate (32*n.toNat) 0,[],[],0⟩else none
theorem gC {r d k:Nat} (h:aM (r,d,k)=true):bL (dv (r,d,k))=((r:Int),(d:Int),(k:Int)):=by
 simp only[aM,Bool.and_eq_true,decide_eq_true_eq]at h;have b:dv (r,d,k)=((r+16*d+4096*k:Nat):Int):=by simp[dv]
 rw[b];simp only[bL];rw[Int.tmod_eq_emod_of_nonneg (by omega),Int.tmod_eq_emod_of_nonneg (by omega),Int.tdiv_eq_ediv_of_nonneg (by omega),Int.tdiv_eq_ediv_of_nonneg (by omega)];have:=h.1.1;refine Prod.ext ?_ (Prod.ext ?_ ?_)<;>simp only<;>omega
theorem bY {s:Sh} (h:aM s=true):2≤ay s∧ay s≤218∧ay s%2=0∧2+s.1+s.2.1≤ay s:=by
 unfold ay;rw[if_pos h];simp only[aM,Bool.and_eq_true,decide_eq_true_eq]at h;omega
theorem iQ (s:Sh):0≤ay s∧ay s≤218∧ay s%2=0:=by
 cases h:aM s with
 |true=>have:=bY h;omega
 |false=>unfold ay;rw[h];simp
section
attribute [go_sem] Option.isSome_some Option.isSome_none
variable {s:HL} {m:HO} {S fp:List Nat} {yB yW:List Value} {b bf bl gB gW pb pg sb sg:Nat} {a:Option Addr} {w w':World}
theorem Mp (v:Value):mz 2 v=some v:=Eq.trans rfl rfl
theorem Mq (v:Value):mz 8 v=some v:=Eq.trans rfl rfl
theorem Ik (v:Value):mz 16 v=some v:=Eq.trans rfl rfl
theorem Dq (v:Value):mz 4096 v=some v:=Eq.trans rfl rfl
attribute [go_sem] Mp Mq Ik Dq
def bN (B:List (Int×Int)):List Value:=B.flatMap fun x=>[.int .i64 x.1,.int .i64 x.2]
theorem cd (B:List (Int×Int)):(bN B).length=2*B.length:=by
 induction B with
 |nil=>rfl
 |cons x B b=>simp only[bN,List.flatMap_cons,gZ,List.length_cons,List.length_nil]at b⊢;omega
theorem fe {B:List (Int×Int)} {i:Nat} (h:i<B.length):(bN B)[2*i]? =some (.int .i64 (B.getD i (0,0)).1)∧(bN B)[2*i+1]? =some (.int .i64 (B.getD i (0,0)).2):=by
 induction B generalizing i with
 |nil=>simp at h
 |cons x B b=>
  cases i with
  |zero=>simp[bN]
  |succ i=>
   have d:i<B.length:=by simpa using h
   obtain⟨j,k⟩:=b d;have e:bN (x::B)=.int .i64 x.1::.int .i64 x.2::bN B:=rfl;rw[e,show 2*(i+1)=2*i+1+1 by omega,show 2*i+1+1+1=(2*i+1)+1+1 by omega];simpa using⟨j,k⟩
structure ke (w:World) (b:Nat) (s:HL) (gB gW cB cW:Nat) (yB yW:List Value) (sb sg pb pg bl bf:Nat):Prop where
 ok:s.Ok
 hb:At w b [.slice (some ⟨gB,0,none⟩) s.B.length cB,.slice (some ⟨gW,0,none⟩) s.W.length cW,.pointer (some ⟨sb,0,none⟩),.pointer (some ⟨pb,0,none⟩),.map (some bl),.map (some bf),.int .i64 s.born]
 hB:At w gB (bN s.B++yB)
 hW:At w gW (ints s.W++yW)
 cB:s.B.length≤cB
 cW:s.W.length≤cW
 hs:dh w sb sg s.st.length 1 s.st
 hp:dh w pb pg s.pn.length 1 s.pn
 hl:bP w bl s.pl
 hf:bP w bf s.fw
 nd: [b,gB,gW,sb,sg,pb,pg,bl,bf].Nodup
def HM (w:World) (b:Nat) (s:HL) (fp:List Nat):Prop:= ∃gB gW d cW yB yW sb sg pb pg bl bf,fp=[b,gB,gW,sb,sg,pb,pg,bl,bf]∧ke w b s gB gW d cW yB yW sb sg pb pg bl bf
def HR (w:World) (a:Option Addr) (fp:List Nat) (m:HO):Prop:=match m with
 |some s=> ∃b,a=some ⟨b,0,none⟩∧HM w b s fp
 |none=>(a=none∧fp=[])∨ ∃b,a=some ⟨b,0,none⟩∧fp=[b]∧At w b [.slice none 0 0,.slice none 0 0,.pointer none,.pointer none,.map none,.map none,.int .i64 0]
theorem ke.ae {cB cW:Nat} (h:ke w b s gB gW cB cW yB yW sb sg pb pg bl bf) (k:ad S w w') (d: ∀x,x∈[b,gB,gW,sb,sg,pb,pg,bl,bf]→x∉S):ke w' b s gB gW cB cW yB yW sb sg pb pg bl bf:=
 ⟨h.ok,h.hb.ae k (d _ (by simp)),h.hB.ae k (d _ (by simp)),h.hW.ae k (d _ (by simp)),h.cB,h.cW,h.hs.ae k (d _ (by simp)) (d _ (by simp)),h.hp.ae k (d _ (by simp)) (d _ (by simp)),h.hl.ae k (d _ (by simp)),h.hf.ae k (d _ (by simp)),h.nd⟩
theorem ke.aa {cB cW:Nat} (h:ke w b s gB gW cB cW yB yW sb sg pb pg bl bf) (k:ad [] w w'):ke w' b s gB gW cB cW yB yW sb sg pb pg bl bf:=h.ae k (by simp)
theorem HR.ae (h:HR w a fp m) (k:ad S w w') (o: ∀x,x∈fp→x∉S):HR w' a fp m:=by
 match m,h with
 |some s,⟨b,j,gB,gW,q,cW,yB,yW,sb,sg,pb,pg,bl,bf,d,l⟩=>exact⟨b,j,gB,gW,q,cW,yB,yW,sb,sg,pb,pg,bl,bf,d,l.ae k (by rw[←d];exact o)⟩
 |none,.inl h=>exact .inl h
 |none,.inr ⟨b,j,d,l⟩=>exact .inr ⟨b,j,d,l.ae k (o b (by simp[d]))⟩
theorem HR.aa (h:HR w a fp m) (k:ad [] w w'):HR w' a fp m:=h.ae k (by simp)
theorem ke.lt {cB cW:Nat} (h:ke w b s gB gW cB cW yB yW sb sg pb pg bl bf): ∀x,x∈[b,gB,gW,sb,sg,pb,pg,bl,bf]→x<w.heap.size:=by
 have d:=(gI.mk h.hs).lt;have j:=(gI.mk h.hp).lt;simp only[List.mem_cons,List.not_mem_nil,or_false]at d j⊢;intro x k;rcases k with rfl|rfl|rfl|rfl|rfl|rfl|rfl|rfl|rfl
 ·exact h.hb.lt
 ·exact h.hB.lt
 ·exact h.hW.lt
 ·exact d _ (.inl rfl)
 ·exact d _ (.inr rfl)
 ·exact j _ (.inl rfl)
 ·exact j _ (.inr rfl)
 ·exact h.hl.lt
 ·exact h.hf.lt
theorem HR.lt (h:HR w a fp m): ∀x,x∈fp→x<w.heap.size:=by
 match m,h with
 |some s,⟨b,l,gB,gW,o,cW,yB,yW,sb,sg,pb,pg,bl,bf,d,j⟩=>rw[d];exact j.lt
 |none,.inl h=>rw[h.2];simp
 |none,.inr ⟨b,l,d,j⟩=>rw[d];intro x k;simp only[bp]at k;rw[k];exact j.lt
theorem j8 (h:HR w a fp m):Cs Tryz.prog 121 [.pointer a] w fun v w'=>v=.bool m.isSome∧w'=w:=by
 refine en [] ?_
 match m,h with
 |some s,⟨b,j,gB,gW,l,cW,yB,yW,sb,sg,pb,pg,bl,bf,k,d⟩=>
  subst j;have:=d.ok.b2;(repeat(first|with_reducible(first|refine nx ?_|refine ch rfl ?_)|simp only[go_sem,d.hb.cell,bc (show(0:Int)<(s.B.length:Int) by omega)]))
 |none,.inl h=>obtain⟨rfl,_⟩:=h;(repeat(first|with_reducible(first|refine nx ?_|refine ch rfl ?_)|simp only[go_sem]))
 |none,.inr ⟨b,j,k,d⟩=>subst j;(repeat(first|with_reducible(first|refine nx ?_|refine ch rfl ?_)|simp only[go_sem,d.cell]));rfl
theorem sC (h:HR w a fp m) (i:Int):Cs Tryz.prog 391 [.pointer a,.int .i64 i] w fun v w'=>v=.bool (dq m i)∧w'=w:=by
 refine en [] ?_;refine gO ?_;refine ao (j8 h) ?_
 match m,h with
 |some s,⟨b,k,gB,gW,l,cW,yB,yW,sb,sg,pb,pg,bl,bf,o,j⟩=>
  subst k;by_cases d:(1:Int)≤i
  ·refine bj j.hb.cell (bc d) ?_;simp[dq,d]
  ·refine bj j.hb.cell (bt d) ?_;simp[dq,d]
 |none,_=>
  refine gO ?_;rfl
theorem cq (h:HR w a fp m):Cs Tryz.prog 101 [.pointer a] w fun v w'=>v=.int .i64 (bq m:Nat)∧w'=w:=by
 refine en [] ?_;refine gO ?_;refine ao (j8 h) ?_
 match m,h with
 |some s,⟨b,d,gB,gW,k,cW,yB,yW,sb,sg,pb,pg,bl,bf,l,j⟩=>subst d;(repeat(first|with_reducible(first|refine nx ?_|refine ch rfl ?_)|simp only[go_sem,j.hb.cell]));rfl
 |none,_=>(repeat(first|with_reducible(first|refine nx ?_|refine ch rfl ?_)|simp only[go_sem]));rfl
theorem xW (h:HR w a fp m) (i:Int):Cs Tryz.prog 106 [.pointer a,.int .i64 i] w fun v w'=>v=.int .i64 (iG m i)∧w'=w:=by
 refine en [] ?_;by_cases j:i<0
 ·refine aQ (bc j) ?_;cases m with
  |none=>rfl
  |some s=>simp[iG];omega
 refine aQ (bt j) ?_;refine ao (cq h) ?_;by_cases d:(bq m:Int)≤i
 ·refine aQ (bc d) ?_;cases m with
  |none=>rfl
  |some s=>simp[iG,bq]at d⊢;omega
 match m,h with
 |some s,⟨b,q,gB,gW,u,cW,yB,yW,sb,sg,pb,pg,bl,bf,y,l⟩=>
  subst q;simp only[bq]at d;obtain⟨k,rfl⟩: ∃k:Nat,i=k:=⟨i.toNat,by omega⟩;have o:k<s.B.length:=by omega
  have r:(0:Int)≤(k:Int)∧(k:Int)<(s.B.length:Int):=⟨by omega,by omega⟩;have t:(bN s.B++yB)[k*2]? =some (.int .i64 (s.B.getD k (0,0)).1):=by
   rw[List.getElem?_append_left (by rw[cd];omega),Nat.mul_comm];exact(fe o).1
  (repeat(first|with_reducible(first|refine nx ?_|refine ch rfl ?_)|simp only[go_sem,bt d,bq,l.hb.cell,l.hB.cell,if_pos r,cf,t]));simp[iG,HL.b,o]
 |none,_=>exact absurd (show((0:Nat):Int)≤i by omega) d
theorem sD (h:HR w a fp m) (i:Int):Cs Tryz.prog 107 [.pointer a,.int .i64 i] w fun v w'=>v=.int .i64 (dr m i)∧w'=w:=by
 refine en [] ?_;by_cases j:i<0
 ·refine aQ (bc j) ?_;cases m with
  |none=>rfl
  |some s=>simp[dr];omega
 refine aQ (bt j) ?_;refine ao (cq h) ?_;by_cases d:(bq m:Int)≤i
 ·refine aQ (bc d) ?_;cases m with
  |none=>rfl
  |some s=>simp[dr,bq]at d⊢;omega
 match m,h with
 |some s,⟨b,q,gB,gW,u,cW,yB,yW,sb,sg,pb,pg,bl,bf,y,l⟩=>
  subst q;simp only[bq]at d;obtain⟨k,rfl⟩: ∃k:Nat,i=k:=⟨i.toNat,by omega⟩;have o:k<s.B.length:=by omega
  have r:(0:Int)≤(k:Int)∧(k:Int)<(s.B.length:Int):=⟨by omega,by omega⟩;have t:(bN s.B++yB)[k*2+1]? =some (.int .i64 (s.B.getD k (0,0)).2):=by
   rw[List.getElem?_append_left (by rw[cd];omega),Nat.mul_comm];exact(fe o).2
  (repeat(first|with_reducible(first|refine nx ?_|refine ch rfl ?_)|simp only[go_sem,bt d,bq,l.hb.cell,l.hB.cell,if_pos r,cf,t]));simp[dr,HL.b,o]
 |none,_=>exact absurd (show((0:Nat):Int)≤i by omega) d
theorem AJ (w:World) (n:Int):Cs Tryz.prog 392 [.int .i64 n] w fun v w'=>v=.bool (cP n)∧w'=w:=by
 refine en [] ?_;by_cases b:(0:Int)≤n
 ·refine aQ (bc b) ?_;simp[cP,b]
 ·refine aQ (bt b) ?_;simp[cP,b]
theorem oZ (w:World) (s:Sh):Cs Tryz.prog 217 [.agg ⟨c8 s⟩] w fun v w'=>v=.bool (aM s)∧ad [] w w':=by
 obtain⟨r,d,k⟩:=s;refine en [] ?_;refine gO ?_;refine bm fun q H I G F y=>?_;have m:=F.cell 0;have o:=F.cell 1;have t:=F.cell 2;simp only[c8,List.getElem?_cons_zero,List.getElem?_cons_succ]at m o t;by_cases b:0≤r;rotate_left
 ·refine jI m o t (bt b) ?_;exact⟨by simp[aM,b],y⟩
 by_cases j:r≤15;rotate_left
 ·refine jr m o t (bc b) (bt j) ?_;exact⟨by simp[aM,j],y⟩
 by_cases l:0≤d;rotate_left
 ·refine kZ m o t (bc b) (bc j) (bt l) ?_;exact⟨by simp[aM,l],y⟩
 by_cases u:d≤200;rotate_left
 ·refine nX m o t (bc b) (bc j) (bc l) (bt u) ?_;exact⟨by simp[aM,u],y⟩
 by_cases z:0≤k;rotate_left
 ·refine vS m o t (bc b) (bc j) (bc l) (bc u) (bt z) ?_;exact⟨by simp[aM,z],y⟩
 by_cases C:k≤3;rotate_left
 ·refine FV m o t (bc b) (bc j) (bc l) (bc u) (bc z) (bt C) ?_;exact⟨by simp[aM,C],y⟩
 by_cases D:k=1
 ·have E: ¬k=2:=by omega
  by_cases B:1≤r
  ·refine AA m o t (bc b) (bc j) (bc l) (bc u) (bc z) (bc C) (ep D) (bc B) (gm E) ?_;exact⟨by simp[aM,b,j,l,u,D,B],y⟩
  ·refine xM m o t (bc b) (bc j) (bc l) (bc u) (bc z) (bc C) (ep D) (bt B) ?_;exact⟨by simp[aM,D,B],y⟩
 ·by_cases E:k=2
  ·by_cases B:2≤r
   ·refine AA m o t (bc b) (bc j) (bc l) (bc u) (bc z) (bc C) (gm D) (ep E) (bc B) ?_;exact⟨by simp[aM,b,j,l,u,E,B],y⟩
   ·refine AA m o t (bc b) (bc j) (bc l) (bc u) (bc z) (bc C) (gm D) (ep E) (bt B) ?_;exact⟨by simp[aM,E,B],y⟩
  ·refine xM m o t (bc b) (bc j) (bc l) (bc u) (bc z) (bc C) (gm D) (gm E) ?_;exact⟨by simp[aM,b,j,l,u,z,C,D,E],y⟩
theorem mW (w:World) (s:Sh):Cs Tryz.prog 287 [.agg ⟨c8 s⟩] w fun v w'=>v=.int .i64 (ay s)∧ad [] w w':=by
 refine en [] ?_;refine gO ?_;refine bm fun q t I B l u=>?_;have C:aI t ⟨q,0,none⟩ 3=some (c8 s):=ax l 0 3 (by simp[c8]);refine aQ C ?_;refine aH (oZ t s) fun J j=>?_;have b:=l.aa j;have y:=b.cell 0;have z:=b.cell 1;simp only[c8,List.getElem?_cons_zero,List.getElem?_cons_succ]at y z;cases m:aM s with
 |false=>
  refine gO ?_;exact⟨by simp[ay,m],u.nil j⟩
 |true=>
  obtain⟨r,d,k⟩:=s;have o:=m;simp only[aM,Bool.and_eq_true,decide_eq_true_eq]at m;have D:IntKind.i64.wrap (2+r)=2+r:=IntWalk.i64_in _ (by omega);have E:IntKind.i64.wrap (2+r+d)=2+r+d:=IntWalk.i64_in _ (by omega);have F:IntKind.i64.wrap (2+r+d+1)=2+r+d+1:=IntWalk.i64_in _ (by omega);have G:IntKind.i64.wrap ((2+r+d+1).tdiv 2)=(2+r+d+1)/2:=by rw[Int.tdiv_eq_ediv_of_nonneg (by omega)];exact IntWalk.i64_in _ (by omega)
  have H:IntKind.i64.wrap ((2+r+d+1)/2*2)=(2+r+d+1)/2*2:=IntWalk.i64_in _ (by omega);refine nX y z D E F G H ?_;exact⟨by simp[ay,o],u.nil j⟩
theorem AK (w:World) (s:Sh) (o:aM s=true):Cs Tryz.prog 294 [.agg ⟨c8 s⟩] w fun v w'=>v=.int .i64 (dv s)∧ad [] w w':=by
 obtain⟨r,d,k⟩:=s;refine en [] ?_;refine gO ?_;refine bm fun q D E t b u=>?_;have j:=b.cell 0;have l:=b.cell 1;have m:=b.cell 2;simp only[c8,List.getElem?_cons_zero,List.getElem?_cons_succ]at j l m;simp only[aM,Bool.and_eq_true,decide_eq_true_eq]at o;have y:IntKind.i64.wrap (16*d)=16*d:=IntWalk.i64_in _ (by omega);have z:IntKind.i64.wrap (r+16*d)=r+16*d:=IntWalk.i64_in _ (by omega);have B:IntKind.i64.wrap (4096*k)=4096*k:=IntWalk.i64_in _ (by omega);have C:IntKind.i64.wrap (r+16*d+4096*k)=r+16*d+4096*k:=IntWalk.i64_in _ (by omega);refine nX j l m y z B C ?_;exact⟨rfl,u⟩
end
section
def FY (o:Option Value) (v:Value):Option Value:=match o with|some x=>some (.tuple #[x,v])|none=>none
theorem u3 (x v:Value):FY (some x) v=some (.tuple #[x,v]):=Eq.trans rfl rfl
theorem xX (a n t:Nat) (ρ:Env) (w:World) (R:Value→World→Prop):iC [.cN a n,.t t] ρ w R=xq (FY (eR w n (ρ a)) (ρ t)) w R:=by
 unfold iC xq;simp only[qN,nK,ss];cases eR w n (ρ a)<;>rfl
attribute [go_sem] u3 xX
theorem fH (s:Sh): ∀u,u∈c8 s→bu u=true:=by simp[c8,bu]
theorem fI (a b c:Value) (s:Sh):fS [a,b,c] 0 (c8 s)=c8 s:=rfl
theorem lG (w:World) (n:Int) (l:0≤n) (D:n≤100000):Cs Tryz.prog 288 [.int .i64 n] w fun v w'=>v=.agg ⟨c8 (bL n)⟩∧ad [] w w':=by
 refine en [] ?_;have o:=Int.tmod_eq_emod_of_nonneg (b:=4096) l;have r:IntKind.i64.wrap ((n.tmod 4096).tdiv 16)=(n.tmod 4096).tdiv 16:=by
  rw[o,Int.tdiv_eq_ediv_of_nonneg (by omega)];exact IntWalk.i64_in _ (by omega)
 have t:IntKind.i64.wrap (n.tdiv 4096)=n.tdiv 4096:=by rw[Int.tdiv_eq_ediv_of_nonneg l];exact IntWalk.i64_in _ (by omega)
 refine gO ?_;refine bm fun q E F u j y=>?_;refine bj r t ?_;rw[ai rfl rfl,ai rfl rfl,ai rfl rfl];refine gO ?_;refine dR (cs:=c8 (bL n)) j rfl (by simp) (fH _) fun z B d k=>?_;rw[fI]at d;have C:aI z ⟨q,0,none⟩ 3=some (c8 (bL n)):=ax d 0 3 (by simp[c8]);refine aQ C ?_;exact y.trans k fun x m=>by simp only[bp]at m;subst m;exact .inr (by omega)
section
variable {w:World} {b:Nat} {s:HL} {gB gW cB cW:Nat} {yB yW:List Value} {sb sg pb pg bl bf:Nat}
theorem ke.qY (h:ke w b s gB gW cB cW yB yW sb sg pb pg bl bf) {i:Nat} (d:i<s.W.length):w.cell? ⟨gW,i,none⟩=some (.int .i64 (s.W.getD i 0)):=by
 rw[h.hW.cell,aC yW d]
theorem HL.Ok.start {s:HL} (h:s.Ok) {i:Nat} (j:s.st.getD i 0=1):i<s.st.length∧2*i+1<s.W.length∧ ∃r d k:Nat,aM (r,d,k)=true∧s.W.getD (2*i+1) 0=dv (r,d,k)∧((2*i:Nat):Int)+ay (r,d,k)≤s.W.length∧0≤dv (r,d,k)∧dv (r,d,k)≤100000∧bL (s.W.getD (2*i+1) 0)=((r:Int),(d:Int),(k:Int)):=by
 have l:i<s.st.length:=by
  rcases Nat.lt_or_ge i s.st.length with m|m
  ·exact m
  ·rw[List.getD_eq_getElem?_getD,List.getElem?_eq_none m]at j;simp at j
 obtain⟨r,d,k,o,q,t⟩:=h.fit i j;have u:=o;simp only[aM,Bool.and_eq_true,decide_eq_true_eq]at u;have e:dv (r,d,k)=(r:Int)+16*d+4096*k:=rfl;refine⟨l,by have:=h.sl;have:=h.wl;omega,r,d,k,o,q,t,by rw[e];omega,by rw[e];omega,by rw[q];exact gC o⟩
theorem Bm (h:ke w b s gB gW cB cW yB yW sb sg pb pg bl bf) {i:Nat} (o:s.st.getD i 0=1):Cs Tryz.prog 254 [.pointer (some ⟨b,0,none⟩),.int .i64 ((2*i:Nat):Int)] w fun v w'=>v=.int .i64 (s.size (2*i))∧ad [] w w':=by
 obtain⟨D,q,r,d,k,E,m,F,t,u,G⟩:=h.ok.start o;have H:=h.ok.wl;have I:=h.ok.ju;have y:IntKind.i64.wrap (((2*i:Nat):Int)+1)=((2*i+1:Nat):Int):=au _ (by omega);have z:(0:Int)≤((2*i+1:Nat):Int)∧((2*i+1:Nat):Int)<(s.W.length:Int):=⟨by omega,by omega⟩;have B:=h.qY q;refine en [] ?_;refine kZ h.hb.cell y (eq_true z) @Int.toNat_natCast @Nat.mul_one B ?_;refine aH (lG w _ (by rw[m];exact t) (by rw[m];exact u)) fun C j=>?_;refine gO ?_;refine aH (mW C _) fun J l=>?_;refine gO ?_;exact⟨rfl,j.nil l⟩
theorem oD (n:Nat) (h:n≤4611686018427387904):IntKind.i64.wrap ((n:Int).tdiv 2)=((n/2:Nat):Int):=by
 rw[Int.tdiv_eq_ediv_of_nonneg (by omega),show((n:Int)/2)=((n/2:Nat):Int) by omega,bg _ (by omega)]
theorem tA (n:Nat):((n:Int).tmod 2)=((n%2:Nat):Int):=by
 rw[Int.tmod_eq_emod_of_nonneg (by omega)];omega
theorem xY (h:ke w b s gB gW cB cW yB yW sb sg pb pg bl bf):Cs Tryz.prog 121 [.pointer (some ⟨b,0,none⟩)] w fun v w'=>v=.bool true∧w'=w:=
 j8 (m:=some s) ⟨b,rfl,gB,gW,cB,cW,yB,yW,sb,sg,pb,pg,bl,bf,rfl,h⟩
end
theorem oT {w:World} {a:Option Addr} {fp:List Nat} {m:HO} (h:HR w a fp m) (x:Int) (t:x≤4611686018427387904):Cs Tryz.prog 179 [.pointer a,.int .i64 x] w fun v w'=>v=.bool (bw m x)∧ad [] w w':=by
 refine en [] ?_;refine gO ?_;refine ao (j8 h) ?_
 match m,h with
 |none,_=>(repeat(first|with_reducible(first|refine nx ?_|refine ch rfl ?_)|simp only[go_sem]));exact⟨rfl,ad.refl _ _⟩
 |some s,⟨b,l,u,y,z,cW,yB,yW,B,C,D,E,F,G,H,j⟩=>
  subst l;by_cases d:0≤x;rotate_left
  ·refine aQ (bt d) ?_;exact⟨by simp[bw,d],ad.refl _ _⟩
  obtain⟨k,rfl⟩: ∃k:Nat,x=k:=⟨x.toNat,by omega⟩;by_cases I:k%2=0;rotate_left
  ·refine db (bc d) (tA k) (fj (show¬((k%2:Nat):Int)=0 by omega)) ?_;refine⟨?_,ad.refl _ _⟩;have: ¬(k:Int)%2=0:=by omega
   simp[bw,this]
  refine jr (bc d) (tA k) (fx (show((k%2:Nat):Int)=0 by omega)) j.hb.cell (oD k (by omega)) ?_;refine aH (Bk (gI.mk j.hs) _) fun w' o=>?_;have q:(k:Int)/2=((k/2:Nat):Int):=by omega
  have r:(k:Int)%2=0:=by omega
  refine gO ?_;refine⟨?_,o⟩;simp only[bw,q,r,decide_true,bc d,Bool.true_and,HL.fc];rfl
theorem pP {w:World} {a:Option Addr} {fp:List Nat} {m:HO} (h:HR w a fp m) (x:Int) (j:x≤4611686018427387904):Cs Tryz.prog 252 [.pointer a,.int .i64 x] w fun v w'=>v=.int .i64 (b' m x)∧ad [] w w':=by
 refine en [] ?_;refine gO ?_;refine ao (j8 h) ?_;cases m with
 |none=>(repeat(first|with_reducible(first|refine nx ?_|refine ch rfl ?_)|simp only[go_sem]));exact⟨rfl,ad.refl _ _⟩
 |some s=>
  refine gO ?_;refine aH (oT h x j) fun w' b=>?_;cases d:bw (some s) x with
  |true=>(repeat(first|with_reducible(first|refine nx ?_|refine ch rfl ?_)|simp only[go_sem]));exact⟨by simp[b',d],b⟩
  |false=>(repeat(first|with_reducible(first|refine nx ?_|refine ch rfl ?_)|simp only[go_sem]));exact⟨by simp[b',d],b⟩
theorem iH {s:HL} (h:s.Ok) {x:Int} (d:bw (some s) x=true): ∃i:Nat,x=((2*i:Nat):Int)∧s.st.getD i 0=1:=by
 simp only[bw,Bool.and_eq_true,decide_eq_true_eq]at d;obtain⟨⟨k,l⟩,b⟩:=d;refine⟨(x/2).toNat,by omega,?_⟩;change (if hasB s.st.length (x/2)=true then((s.st.getD (x/2).toNat 0:Nat):Int)else-1)=1 at b;by_cases j:hasB s.st.length (x/2)=true
 ·rw[if_pos j]at b;omega
 ·rw[if_neg j]at b;omega
theorem pQ {w:World} {a:Option Addr} {fp:List Nat} {m:HO} (h:HR w a fp m) (x:Int) (M:x≤4611686018427387904):Cs Tryz.prog 109 [.pointer a,.int .i64 x] w fun v w'=>v=.tuple #[.agg ⟨c8 (aU m x).1⟩,.int .i64 (aU m x).2]∧ad [] w w':=by
 refine en [] ?_;refine gO ?_;refine bm fun q X Y N H l=>?_;refine gO ?_;refine aH (pP (h.aa l) x M) fun O o=>?_;have t:=H.aa o;by_cases C:b' m x=0
 ·match m,h with
  |none,_=>simp[b']at C
  |some s,⟨b,P,Z,gW,cB,cW,yB,yW,sb,sg,pb,pg,bl,bf,h2,D⟩=>
   subst P;have I:bw (some s) x=true:=by
    cases I:bw (some s) x with
    |true=>rfl
    |false=>simp[b',I]at C
   obtain⟨i,rfl,Q⟩:=iH D.ok I;obtain⟨g1,R,r,d,k,g3,L,g5,S,T,g8⟩:=D.ok.start Q;have E:=D.aa (l.nil o);have hl:=D.ok.wl;have hB:=D.ok.ju;have U:IntKind.i64.wrap (((2*i:Nat):Int)+1)=((2*i+1:Nat):Int):=au _ (by omega);have V:(0:Int)≤((2*i+1:Nat):Int)∧((2*i+1:Nat):Int)<(s.W.length:Int):=⟨by omega,by omega⟩;have W:=E.qY R;refine nX (ep C) E.hb.cell U (eq_true V) @Int.toNat_natCast @Nat.mul_one W ?_;refine aH (lG O _ (by rw[L];exact S) (by rw[L];exact T)) fun w3 F=>?_;refine gO ?_;refine dR (cs:=c8 (bL (s.W.getD (2*i+1) 0))) (t.aa F) rfl (by simp) (fH _) fun J K j u=>?_;rw[fI]at j;have z:aI J ⟨q,0,none⟩ 3=some (c8 (bL (s.W.getD (2*i+1) 0))):=ax j 0 3 (by simp[c8]);have B:aU (some s) ((2*i:Nat):Int)=(bL (s.W.getD (2*i+1) 0),0):=by simp only[aU,C,if_true,HL.cu,cf]
   rw[B];refine aQ z ?_;exact((l.nil o).nil F).trans u fun y G=>by simp only[bp]at G;subst G;exact .inr (by omega)
 ·refine aQ (gm C) ?_;have B:aU m x=((0,0,0),b' m x):=by
   cases m with
   |none=>rfl
   |some s=>simp only[aU,C,if_false]
  rw[B];refine dR (cs:=c8 (0,0,0)) t rfl (by simp) (fH _) fun J K j u=>?_;rw[fI]at j;have z:aI J ⟨q,0,none⟩ 3=some (c8 (0,0,0)):=ax j 0 3 (by simp[c8]);refine aQ z ?_;exact(l.nil o).trans u fun y G=>by simp only[bp]at G;subst G;exact .inr (by omega)
end
section
variable {s:HL} {a x:Int} {i j k:Nat}
theorem HL.Ok.sz (h:s.Ok) (m:s.st.getD i 0=1):2≤s.size (2*i)∧((2*i:Nat):Int)+s.size (2*i)≤s.W.length∧s.size (2*i)%2=0∧ ∃r d k:Nat,aM (r,d,k)=true∧bL (s.W.getD (2*i+1) 0)=((r:Int),(d:Int),(k:Int))∧s.size (2*i)=ay (r,d,k):=by
 obtain⟨r,d,k,j,l,o⟩:=h.fit i m;have e:s.size (2*i)=ay (r,d,k):=by unfold HL.size;rw[l,gC j]
 have:=bY j;exact⟨by rw[e];omega,by rw[e];exact o,by rw[e];omega,r,d,k,j,by rw[l];exact gC j,e⟩
theorem j9 (h:s.Ok) (b:s.st.getD j 0=1) {a:Nat} (t:2*j≤a) (u:(a:Int)<((2*j:Nat):Int)+s.size (2*j)):dw (some s) a=(2*(j:Int),0):=by
 obtain⟨w,y,z,_⟩:=h.sz b;have o:s.fc.jm ((a:Int)/2+1) 1=some j:=by
  show iE (fun k=>decide ((k:Int)<(a:Int)/2+1)&&decide (((s.st.getD k 0:Nat):Int)=1)) s.st.length=some j;have d:j<s.st.length:=by
   rcases Nat.lt_or_ge j s.st.length with l|l
   ·exact l
   ·rw[List.getD_eq_getElem?_getD,List.getElem?_eq_none l]at b;simp at b
  refine jx ?_ d fun k m q=>?_
  ·simp only[Bool.and_eq_true,decide_eq_true_eq];omega
  ·simp only[Bool.and_eq_false_iff,decide_eq_false_iff_not];by_cases r:s.st.getD k 0=1
   ·have:=h.dj j k b r m;left;omega
   ·right;omega
 simp only[dw,o];rw[if_neg (by omega),if_neg (by omega)]
theorem HL.size_set (d:2*i+1≠k):HL.size {s with W:=s.W.set k x} (2*i)=s.size (2*i):=by
 unfold HL.size;simp only[List.getD_eq_getElem?_getD];rw[List.getElem?_set_ne (fun e=>d e.symm)]
theorem HL.Ok.AL (h:s.Ok) (o: ∀j,s.st.getD j 0=1→2*j+1≠k):HL.Ok {s with W:=s.W.set k x}:=by
 refine⟨h.b2,h.ju,by simpa using h.wl,h.sl,h.pl,fun i l=>?_,fun i j l u m=>?_⟩
 ·obtain⟨r,d,q,w,t,y⟩:=h.fit i l;refine⟨r,d,q,w,?_,by simpa using y⟩;simp only[List.getD_eq_getElem?_getD]at t⊢;rw[List.getElem?_set_ne (fun e=>o i l e.symm)];exact t
 ·rw[HL.size_set (o i l)];exact h.dj i j l u m
theorem HL.Ok.inside (h:s.Ok) (m:s.st.getD i 0=1) (o:2*i+2≤k) (q:(k:Int)<((2*i:Nat):Int)+s.size (2*i)): ∀j,s.st.getD j 0=1→2*j+1≠k:=by
 intro j l e;rcases Nat.lt_trichotomy i j with d|d|d
 ·have:=h.dj i j m l d;omega
 ·subst d;omega
 ·have:=h.dj j i l m d;have:=(h.sz l).1;omega
theorem qZ (B:List (Int×Int)) (b:Nat): ∀f n,b+n≤B.length→b+tails B b f n≤B.length∧n≤tails B b f n
 |0,n,h=>⟨h,Nat.le_refl _⟩
 |f+1,n,h=>by
  unfold tails
  split
  ·rename_i d
   have:=qZ B b f (n+1) (by omega)
   omega
  ·exact⟨h,Nat.le_refl _⟩
theorem pR {b:Nat} (h:b<s.B.length):b+s.span b≤s.B.length∧1≤s.span b:=by
 unfold HL.span;split
 ·exact qZ _ _ _ _ (by omega)
 ·omega
theorem kE (h:s.Ok) {d but:Int} (B:2≤d) (t:d%2=0) (u:d≤218) (l:ct s a d but=0): ∃k:Nat,a=((2*k:Nat):Int)∧k<s.st.length∧a+d≤s.W.length∧
  (∀j,j<(d/2).toNat→cF s a but j=false):=by
 unfold ct at l;have q:j7 s a=false:=by
  cases c:j7 s a with
  |false=>rfl
  |true=>rw[if_pos c]at l;cases l
 rw[q,if_neg (by simp)]at l;have m:bJ s a d=false:=by
  cases c:bJ s a d with
  |false=>rfl
  |true=>rw[if_pos c]at l;cases l
 rw[m,if_neg (by simp)]at l;have r:(List.range ((d+1)/2).toNat).any (cF s a but)=false:=by
  cases c:(List.range ((d+1)/2).toNat).any (cF s a but)with
  |false=>rfl
  |true=>rw[if_pos c]at l;cases l
 have w:=h.sl;have y:=h.wl;simp only[j7,Bool.or_eq_false_iff,decide_eq_false_iff_not,Decidable.not_not]at q;refine⟨(a/2).toNat,by omega,by omega,?_,fun j C=>?_⟩
 ·unfold bJ at m;by_cases o:d≤32
  ·rw[if_pos o]at m;simp only[Bool.or_eq_false_iff,decide_eq_false_iff_not,Decidable.not_not]at m;omega
  ·rw[if_neg o]at m;simp only[Bool.or_eq_false_iff,decide_eq_false_iff_not,Decidable.not_not]at m;have:=pR (s:=s) (b:=(a/64).toNat) (by omega);omega
 ·cases z:cF s a but j with
  |false=>rfl
  |true=>
   have:=List.any_eq_true.2 ⟨j,List.mem_range.2 (show j<((d+1)/2).toNat by omega),z⟩;rw[this]at r;cases r
theorem gQ (b:cF s a (-1) j=false):(dw (some s) (a+2*(j:Int))).2≠0:=by
 intro e;unfold cF at b;rw[e]at b;simp only[beq_self_eq_true,Bool.true_and,bne_eq_false_iff_eq]at b;unfold dw at b e;simp only at b e;split at b
 ·simp at b
 ·rename_i d;rw[if_neg d]at e;split at b
  ·simp at b
  ·split at b
   ·simp at b
   ·simp only at b;omega
theorem HL.Ok.place (h:s.Ok) {sh:Sh} {id:Int} {pl:IM} {born:Nat} (H:aM sh=true) (U:k<s.st.length) (I:((2*k:Nat):Int)+ay sh≤s.W.length)
  (m: ∀j,j<(ay sh/2).toNat→cF s ((2*k:Nat):Int) (-1) j=false):HL.Ok {s with W:=(s.W.set (2*k) id).set (2*k+1) (dv sh),st:=s.st.set k 1,pl:=pl,born:=born}:=by
 obtain⟨r,d,q⟩:=sh;have J:=H;simp only[aM,Bool.and_eq_true,decide_eq_true_eq]at J;obtain⟨r,rfl⟩: ∃n:Nat,r=n:=⟨r.toNat,by omega⟩;obtain⟨d,rfl⟩: ∃n:Nat,d=n:=⟨d.toNat,by omega⟩;obtain⟨q,rfl⟩: ∃n:Nat,q=n:=⟨q.toNat,by omega⟩;have V:=bY H
 have w: ∀i,s.st.getD i 0=1→((2*i:Nat):Int)+s.size (2*i)≤((2*k:Nat):Int)∨((2*k:Nat):Int)+ay ((r:Int),(d:Int),(q:Int))≤((2*i:Nat):Int):=by
  intro i l;obtain⟨X,Y,Z,_⟩:=h.sz l;by_cases c1:k≤i
  ·right;refine Decidable.byContradiction fun N=>?_;have y:=gQ (m (i-k) (by omega));have K:((2*k:Nat):Int)+2*((i-k:Nat):Int)=((2*i:Nat):Int):=by omega
   rw[K,j9 h l (Nat.le_refl _) (by omega)]at y;exact y rfl
  ·left;refine Decidable.byContradiction fun N=>?_;have y:=gQ (m 0 (by omega));have K:((2*k:Nat):Int)+2*((0:Nat):Int)=((2*k:Nat):Int):=by omega
   rw[K,j9 h l (by omega) (by omega)]at y;exact y rfl
 have O:s.st.getD k 0≠1:=fun e=>by
  have:=w k e;have:=(h.sz e).1;omega
 have o: ∀i,(s.st.set k 1).getD i 0=1→i=k∨(i≠k∧s.st.getD i 0=1):=by
  intro i l;by_cases e:i=k
  ·exact .inl e
  ·refine .inr ⟨e,?_⟩;simp only[List.getD_eq_getElem?_getD]at l⊢;rw[List.getElem?_set_ne (fun h=>e h.symm)]at l;exact l
 have C:((s.W.set (2*k) id).set (2*k+1) (dv ((r:Int),(d:Int),(q:Int)))).getD (2*k+1) 0=dv ((r:Int),(d:Int),(q:Int)):=by
  simp only[List.getD_eq_getElem?_getD];rw[List.getElem?_set_self (by simp;omega)];rfl
 have D: ∀i,i≠k→((s.W.set (2*k) id).set (2*k+1) (dv ((r:Int),(d:Int),(q:Int)))).getD (2*i+1) 0=s.W.getD (2*i+1) 0:=by
  intro i l;simp only[List.getD_eq_getElem?_getD];rw[List.getElem?_set_ne (by omega),List.getElem?_set_ne (by omega)]
 have E:HL.size {s with W:=(s.W.set (2*k) id).set (2*k+1) (dv ((r:Int),(d:Int),(q:Int))),st:=s.st.set k 1,pl:=pl,born:=born} (2*k)=ay ((r:Int),(d:Int),(q:Int)):=by
  unfold HL.size;simp only;rw[C,gC H]
 have F: ∀i,i≠k→HL.size {s with W:=(s.W.set (2*k) id).set (2*k+1) (dv ((r:Int),(d:Int),(q:Int))),st:=s.st.set k 1,pl:=pl,born:=born} (2*i)=s.size (2*i):=by
  intro i l;unfold HL.size;simp only;rw[D i l]
 refine⟨h.b2,h.ju,by simpa using h.wl,by simpa using h.sl,h.pl,fun i l=>?_,fun i j l M L=>?_⟩
 ·rcases o i l with rfl|⟨z,t⟩
  ·exact⟨r,d,q,H,C,by simpa using I⟩
  ·obtain⟨P,Q,R,y,S,T⟩:=h.fit i t;exact⟨P,Q,R,y,by rw[D i z];exact S,by simpa using T⟩
 ·rcases o i l with rfl|⟨z,t⟩
  ·rcases o j M with rfl|⟨G,u⟩
   ·omega
   ·rw[E];have:=w j u;have:=(h.sz u).1;omega
  ·rw[F i z];rcases o j M with rfl|⟨G,u⟩
   ·have:=w i t;omega
   ·exact h.dj i j t u L
theorem ff (h:s.Ok) {i:Int} {data:Bool} (b:(ba (some s) x i data).2=0): ∃o k:Nat,x=((2*o:Nat):Int)∧s.st.getD o 0=1∧(ba (some s) x i data).1=(k:Int)∧2*o+2≤k∧(k:Int)<((2*o:Nat):Int)+s.size (2*o)∧k<s.W.length:=by
 unfold ba at b⊢;simp only at b⊢;by_cases m:b' (some s) x≠0
 ·rw[if_pos m]at b;exact absurd b m
 ·rw[if_neg m]at b⊢;have q:bw (some s) x=true:=by
   cases q:bw (some s) x with
   |true=>rfl
   |false=>simp[b',q]at m
  simp only[bw,Bool.and_eq_true,decide_eq_true_eq]at q;obtain⟨⟨E,F⟩,t⟩:=q;change (if hasB s.st.length (x/2)=true then((s.st.getD (x/2).toNat 0:Nat):Int)else-1)=1 at t;have j:s.st.getD (x/2).toNat 0=1:=by
   by_cases u:hasB s.st.length (x/2)=true
   ·rw[if_pos u]at t;omega
   ·rw[if_neg u]at t;omega
  obtain⟨G,H,I,r,d,k,w,y,J⟩:=h.sz j;have z:=bY w;have B:2*(x/2).toNat+1=x.toNat+1:=by omega
  rw[B]at y;have C:s.cu x=((r:Int),(d:Int),(k:Int)):=y;rw[C]at b⊢;simp only at b⊢z;have D:=w;simp only[aM,Bool.and_eq_true,decide_eq_true_eq]at D;cases data with
  |true=>
   simp only[cond_true]at b⊢;by_cases l:i<0∨(d:Int)≤i
   ·rw[if_pos l]at b;cases b
   ·rw[if_neg l];exact⟨(x/2).toNat,(x+2+r+i).toNat,by omega,j,by simp only;omega,by omega,by omega,by omega⟩
  |false=>
   simp only[cond_false]at b⊢;by_cases l:i<0∨(r:Int)≤i
   ·rw[if_pos l]at b;cases b
   ·rw[if_neg l];exact⟨(x/2).toNat,(x+2+i).toNat,by omega,j,by simp only;omega,by omega,by omega,by omega⟩
theorem tB {n:Int} (h:dY n=some s):s.Ok:=by
 unfold dY at h;split at h
 ·rename_i k;cases h;have d: ∀i,¬(List.replicate (32*n.toNat) 0).getD i 0=1:=by
   intro i;simp only[List.getD_eq_getElem?_getD,List.getElem?_replicate];split<;>simp
  refine⟨by simp;omega,by simp;omega,by simp,by simp,by simp,fun i b=>absurd b (d i),fun i j b=>absurd b (d i)⟩
 ·cases h
end
section
set_option maxRecDepth 8000
variable {m:HO} {fp:List Nat} {b bf bl gB gW pb pg sb sg:Nat} {a:Option Addr} {w:World}
theorem xZ (h:HR w a fp m) (x i:Int) (data:Bool) (U:x≤4611686018427387904):Cs Tryz.prog 289 [.pointer a,.int .i64 x,.int .i64 i,.bool data] w fun v w'=>v=.tuple #[.int .i64 (ba m x i data).1,.int .i64 (ba m x i data).2]∧ad [] w w':=by
 refine en [0,0] ?_;refine gO ?_;refine aH (pP h x U) fun V l=>?_;by_cases C:b' m x=0;rotate_left
 ·refine aQ (gm C) ?_;have J:ba m x i data=(0,b' m x):=by
   cases m with
   |none=>rfl
   |some s=>simp only[ba,C,ne_eq,not_false_eq_true,if_true]
  rw[J];exact⟨rfl,l⟩
 match m,h with
 |none,_=>simp[b']at C
 |some s,⟨b,W,gB,gW,cB,cW,yB,yW,sb,sg,pb,pg,bl,bf,h2,F⟩=>
  subst W;have K:bw (some s) x=true:=by
   cases K:bw (some s) x with
   |true=>rfl
   |false=>simp[b',K]at C
  obtain⟨o,rfl,X⟩:=iH F.ok K;obtain⟨g1,Y,r,d,k,Z,R,g5,g6,g7,S⟩:=F.ok.start X;have G:=F.aa l;have hl:=F.ok.wl;have hB:=F.ok.ju;have hv:=Z;simp only[aM,Bool.and_eq_true,decide_eq_true_eq]at hv;have e1:IntKind.i64.wrap (((2*o:Nat):Int)+1)=((2*o+1:Nat):Int):=au _ (by omega);have e2:(0:Int)≤((2*o+1:Nat):Int)∧((2*o+1:Nat):Int)<(s.W.length:Int):=⟨by omega,by omega⟩;have hc:=G.qY Y;have L:s.cu ((2*o:Nat):Int)=((r:Int),(d:Int),(k:Int)):=by unfold HL.cu;rw[cf];exact S
  have D:IntKind.i64.wrap (((2*o:Nat):Int)+2)=((2*o:Nat):Int)+2:=IntWalk.i64_in _ (by omega);have M:IntKind.i64.wrap (((2*o:Nat):Int)+2+r)=((2*o:Nat):Int)+2+r:=IntWalk.i64_in _ (by omega);refine nX (ep C) G.hb.cell e1 (eq_true e2) @Int.toNat_natCast @Nat.mul_one hc ?_;refine aH (lG V _ (by rw[R];exact g6) (by rw[R];exact g7)) fun w3 H=>?_;rw[S];refine gO ?_;refine bm fun q w4 hq tR I N=>?_;refine gO ?_;refine dR (cs:=c8 ((r:Int),(d:Int),(k:Int))) I rfl (by simp) (fH _) fun w5 yG j O=>?_;rw[fI]at j;have E:ad [] w w5:=((l.nil H).nil N).trans O fun y T=>by have:=l.size;have:=H.size;simp only[bp]at T;subst T;exact .inr (by omega)
  have u:=j.cell 0;have z:=j.cell 1;simp only[c8,List.getElem?_cons_zero,List.getElem?_cons_succ]at u z;have P:ba (some s) ((2*o:Nat):Int) i data=if i<0∨(bif data then(d:Int)else(r:Int))≤i then(0,1)else((bif data then((2*o:Nat):Int)+2+r else((2*o:Nat):Int)+2)+i,0):=by
   simp only[ba,C,ne_eq,not_true_eq_false,if_false,L]
  rw[P];cases data with
  |false=>
   simp only[cond_false];by_cases t:i<0
   ·refine jI u z D (bc t) ?_;rw[if_pos (.inl t)];exact⟨rfl,E.nil (ad.drew [] _)⟩
   ·by_cases B:(r:Int)≤i
    ·refine jr u z D (bt t) (bc B) ?_;rw[if_pos (.inr B)];exact⟨rfl,E.nil (ad.drew [] _)⟩
    ·have Q:IntKind.i64.wrap (((2*o:Nat):Int)+2+i)=((2*o:Nat):Int)+2+i:=IntWalk.i64_in _ (by omega);refine kZ u z D (bt t) (bt B) Q ?_;rw[if_neg (by omega)];exact⟨rfl,E.nil (ad.drew [] _)⟩
  |true=>
   simp only[cond_true];by_cases t:i<0
   ·refine jr u z D M (bc t) ?_;rw[if_pos (.inl t)];exact⟨rfl,(E.nil (ad.drew [] _)).nil (ad.drew [] _)⟩
   ·by_cases B:(d:Int)≤i
    ·refine kZ u z D M (bt t) (bc B) ?_;rw[if_pos (.inr B)];exact⟨rfl,(E.nil (ad.drew [] _)).nil (ad.drew [] _)⟩
    ·have Q:IntKind.i64.wrap (((2*o:Nat):Int)+2+r+i)=((2*o:Nat):Int)+2+r+i:=IntWalk.i64_in _ (by omega);refine nX u z D M (bt t) (bt B) Q ?_;rw[if_neg (by omega)];exact⟨rfl,(E.nil (ad.drew [] _)).nil (ad.drew [] _)⟩
theorem vQ (h:HR w a fp m) (x i:Int) (u:x≤4611686018427387904):Cs Tryz.prog 110 [.pointer a,.int .i64 x,.int .i64 i] w fun v w'=>v=.tuple #[.int .i64 (ic m x i).1,.int .i64 (ic m x i).2]∧ad [] w w':=by
 refine en [] ?_;refine gO ?_;refine aH (xZ h x i false u) fun D d=>?_;by_cases l:(ba m x i false).2=0;rotate_left
 ·refine aQ (gm l) ?_;have j:ic m x i=(0,(ba m x i false).2):=by
   cases m with
   |none=>rfl
   |some s=>simp only[ic,l,if_false]
  rw[j];exact⟨rfl,d⟩
 match m,h with
 |none,_=>simp[ba]at l
 |some s,⟨b,y,gB,gW,E,cW,yB,yW,sb,sg,pb,pg,bl,bf,F,r⟩=>
  subst y;obtain⟨o,k,rfl,G,t,H,I,z⟩:=ff r.ok l;have q:=r.aa d;have j:ic (some s) ((2*o:Nat):Int) i=(s.W.getD k 0,0):=by simp only[ic,l,if_true,t,cf]
  rw[j,t];have B:(0:Int)≤(k:Int)∧(k:Int)<(s.W.length:Int):=⟨by omega,by omega⟩;have C:=q.qY z;refine kZ (ep l) q.hb.cell (eq_true B) @Int.toNat_natCast @Nat.mul_one C ?_;exact d
theorem ints_set {xs:List Int} {k:Nat} {x:Int} (rest:List Value) (h:k<xs.length):(ints xs++rest).set k (.int .i64 x)=ints (xs.set k x)++rest:=by
 rw[List.set_append_left _ _ (by simpa[ints]using h)];simp[ints,List.map_set]
theorem FZ (h: [b,gB,gW,sb,sg,pb,pg,bl,bf].Nodup):(b≠gB∧b≠gW∧b≠sb∧b≠sg∧b≠pb∧b≠pg∧b≠bl∧b≠bf)∧(gB≠gW∧gB≠sb∧gB≠sg∧gB≠pb∧gB≠pg∧gB≠bl∧gB≠bf)∧(gW≠sb∧gW≠sg∧gW≠pb∧gW≠pg∧gW≠bl∧gW≠bf)∧(sb≠sg∧sb≠pb∧sb≠pg∧sb≠bl∧sb≠bf)∧(sg≠pb∧sg≠pg∧sg≠bl∧sg≠bf)∧(pb≠pg∧pb≠bl∧pb≠bf)∧(pg≠bl∧pg≠bf)∧bl≠bf:=by
 simp only[List.nodup_cons,List.mem_cons,List.not_mem_nil,or_false,not_or,List.nodup_nil,not_false_eq_true,and_true]at h;exact h
theorem aW {x y:Nat} (h:x≠y):x∉ [y]:=by simpa using h
theorem ke.AL {w':World} {s:HL} {cB cW:Nat} {yB yW:List Value} (h:ke w b s gB gW cB cW yB yW sb sg pb pg bl bf) {j:List Int} (hl:j.length=s.W.length) (k:HL.Ok {s with W:=j}) (l:At w' gW (ints j++yW)) (d:ad [gW] w w'):
  ke w' b {s with W:=j} gB gW cB cW yB yW sb sg pb pg bl bf:=by
 obtain⟨⟨B,m,C,D,E,F,G,H⟩,⟨o,I,J,K,L,M,N⟩,⟨q,r,t,u,y,z⟩,_⟩:=FZ h.nd;refine⟨k,?_,h.hB.ae d (aW o),l,h.cB,by simpa only[hl]using h.cW,h.hs.ae d (aW q.symm) (aW r.symm),h.hp.ae d (aW t.symm) (aW u.symm),h.hl.ae d (aW y.symm),h.hf.ae d (aW z.symm),h.nd⟩;rw[show({s with W:=j}:HL).W.length=s.W.length from hl];exact h.hb.ae d (aW m)
theorem lr (h:HR w a fp m) (x i to:Int) (X:x≤4611686018427387904) (L:to≤4611686018427387904):Cs Tryz.prog 120 [.pointer a,.int .i64 x,.int .i64 i,.int .i64 to] w fun v w'=>v=.int .i64 (bz m x i to)∧HR w' a fp (aP m x i to)∧ad fp w w':=by
 refine en [] ?_;refine gO ?_;refine aH (xZ h x i false X) fun Q d=>?_;by_cases C:(ba m x i false).2=0;rotate_left
 ·refine aQ (gm C) ?_;have t:bz m x i to=(ba m x i false).2:=by
   cases m with
   |none=>rfl
   |some s=>simp only[bz,ne_eq,C,not_false_eq_true,if_true]
  have F:aP m x i to=m:=by
   cases m with
   |none=>rfl
   |some s=>simp only[aP,t,C,if_false]
  rw[t,F];exact⟨rfl,h.aa d,d.of_nil⟩
 match m,h with
 |none,_=>simp[ba]at C
 |some s,R@⟨b,Y,gB,gW,Z,cW,yB,yW,sb,sg,pb,pg,bl,bf,S,H⟩=>
  subst Y;have u:(to≠0→bw (some s) to=true)→ ∀D,ad [] w D→bz (some s) x i to=0∧ ∃k:Nat,(ba (some s) x i false).1=k∧k<s.W.length∧aP (some s) x i to=some {s with W:=s.W.set k to}∧HL.Ok {s with W:=s.W.set k to}:=by
   intro J D l;obtain⟨o,k,rfl,g1,I,g3,g4,G⟩:=ff H.ok C;have t:bz (some s) ((2*o:Nat):Int) i to=0:=by
    simp only[bz,C,ne_eq,not_true_eq_false,if_false];rw[if_neg];rintro⟨h4,U⟩;rw[J h4]at U;cases U
   refine⟨t,k,I,G,?_,H.ok.AL (H.ok.inside g1 g3 g4)⟩;simp only[aP,t,if_true,I,cf]
  have q: ∀(D:World) (k:Nat),ad [] w D→k<s.W.length→HL.Ok {s with W:=s.W.set k to}→ ∀E,At E gW (ints (s.W.set k to)++yW)→ad [gW] D E→HR E (some ⟨b,0,none⟩) fp (some {s with W:=s.W.set k to})∧ad fp w E:=by
   intro D k l hk z E j r;refine⟨⟨b,rfl,gB,gW,Z,cW,yB,yW,sb,sg,pb,pg,bl,bf,S,(H.aa l).AL (by simp) z j r⟩,?_⟩;exact(l.of_nil (T:=fp)).trans r fun y V=>by simp only[bp]at V;subst V;exact .inl (by rw[S];simp)
  by_cases K:to=0
  ·obtain⟨t,k,I,G,F,z⟩:=u (fun h=>absurd K h) Q d;have B:=H.aa d;have M:(0:Int)≤(k:Int)∧(k:Int)<(s.W.length:Int):=⟨by omega,by omega⟩;rw[t,F,I];refine kZ (ep C) (ep K) B.hb.cell (eq_true M) @Int.toNat_natCast @Nat.mul_one ?_;refine nt B.hW (by simp[ints];omega) rfl fun E N j r=>?_;rw[ints_set yW G]at j;obtain⟨O,P⟩:=q Q k d G z E j r;refine gO ?_;exact⟨O,P⟩
  ·refine bj (ep C) (gm K) ?_;refine aH (oT (R.aa d) to L) fun D l=>?_;cases J:bw (some s) to with
   |false=>
    refine gO ?_;have t:bz (some s) x i to=1:=by
     simp only[bz,C,ne_eq,not_true_eq_false,if_false,K,not_false_eq_true,J,and_self,if_true]
    have F:aP (some s) x i to=some s:=by
     simp only[aP,t];rfl
    rw[t,F];exact⟨rfl,R.aa (d.nil l),(d.nil l).of_nil⟩
   |true=>
    obtain⟨t,k,I,G,F,z⟩:=u (fun _=>J) D (d.nil l);have B:=H.aa (d.nil l);have M:(0:Int)≤(k:Int)∧(k:Int)<(s.W.length:Int):=⟨by omega,by omega⟩;rw[t,F,I];refine jI B.hb.cell (eq_true M) @Int.toNat_natCast @Nat.mul_one ?_;refine nt B.hW (by simp[ints];omega) rfl fun E N j r=>?_;rw[ints_set yW G]at j;obtain⟨O,P⟩:=q D k (d.nil l) G z E j r;refine gO ?_;exact⟨O,P⟩
end
set_option maxRecDepth 8000
theorem jy {p:Nat→Bool}: ∀ {n i:Nat},iE p n=some i→i<n∧p i=true
 |0,i,h=>by cases h
 |n+1,i,h=>by
  simp only[iE]at h
  by_cases b:p n=true
  ·rw[if_pos b]at h;cases h;exact⟨Nat.lt_succ_self _,b⟩
  ·rw[if_neg b]at h
   have:=jy h
   exact⟨by omega,this.2⟩
theorem F1 {w:World} {a:Option Addr} {fp:List Nat} {m:HO} (h:HR w a fp m) (x:Int) (P:x≤4611686018427387904):Cs Tryz.prog 395 [.pointer a,.int .i64 x] w fun v w'=>v=.tuple #[.int .i64 (dw m x).1,.int .i64 (dw m x).2]∧ad [] w w':=by
 refine en [] ?_;refine gO ?_;refine ao (j8 h) ?_
 match m,h with
 |none,_=>(repeat(first|with_reducible(first|refine nx ?_|refine ch rfl ?_)|simp only[go_sem]));exact⟨rfl,ad.refl _ _⟩
 |some s,⟨b,H,Q,R,S,cW,yB,yW,T,U,V,W,X,Y,Z,l⟩=>
  subst H;by_cases q:x<0
  ·refine aQ (bc q) ?_;exact⟨by simp[dw,q],ad.refl _ _⟩
  by_cases u:(s.W.length:Int)≤x
  ·refine db (bt q) l.hb.cell (bc u) ?_;exact⟨by simp[dw,u],ad.refl _ _⟩
  obtain⟨k,rfl⟩: ∃k:Nat,x=k:=⟨x.toNat,by omega⟩;refine jr (bt q) l.hb.cell (bt u) (oD k (by omega)) (au (k/2) (by omega)) ?_;refine ak (Dl (gI.mk l.hs) _ 1) ?_;rintro r w2 ⟨rfl,d⟩;have y:=l.aa d;have I:dw (some s) (k:Int)=match s.fc.jm ((k/2+1:Nat):Int) 1 with
    |none=>(0,4)
    |some i=>if 2*(i:Int)+s.size (2*i)≤(k:Int)then(0,4)else(2*(i:Int),0):=by
   simp only[dw];rw[if_neg (by omega),show(k:Int)/2+1=((k/2+1:Nat):Int) by omega]
   all_goals(cases s.fc.jm ((k/2+1:Nat):Int) 1<;>rfl)
  rw[I];have z:(some (1,s.st):MT)=s.fc:=rfl;rw[z];cases J:s.fc.jm ((k/2+1:Nat):Int) 1 with
  |none=>
   have B:MT.err s.fc none=4:=rfl;refine bj B (gm (show¬(4:Int)=0 by omega)) ?_;exact d
  |some i=>
   have B:MT.err s.fc (some i)=0:=rfl;have K:xP (some i)=(i:Int):=rfl;have D:i<s.st.length∧s.st.getD i 0=1:=by
    have C:iE (fun j=>decide ((j:Int)<((k/2+1:Nat):Int))&&decide (((s.st.getD j 0:Nat):Int)=1)) s.st.length=some i:=J;obtain⟨L,M⟩:=jy C;simp only[Bool.and_eq_true,decide_eq_true_eq]at M;exact⟨L,by omega⟩
   have N:=l.ok.sl;have hB:=l.ok.ju;obtain⟨z1,z2,z3,_⟩:=l.ok.sz D.2;have O:=l.ok.wl;have E:IntKind.i64.wrap (2*(i:Int))=((2*i:Nat):Int):=by rw[show 2*(i:Int)=((2*i:Nat):Int) by omega];exact bg _ (by omega)
   have F:IntKind.i64.wrap (((2*i:Nat):Int)+s.size (2*i))=((2*i:Nat):Int)+s.size (2*i):=IntWalk.i64_in _ (by omega);refine jI B K (ep (rfl:(0:Int)=0)) E ?_;refine aH (Bm y D.2) fun w3 o=>?_;have G:2*(i:Int)=((2*i:Nat):Int):=by omega
   by_cases t:((2*i:Nat):Int)+s.size (2*i)≤(k:Int)
   ·refine bj F (bc t) ?_;simp only[G,if_pos t];exact⟨by first|rfl|trivial,d.nil o⟩
   ·refine db F (bt t) E ?_;simp only[G,if_neg t];exact⟨by first|rfl|trivial,d.nil o⟩
section
set_option maxRecDepth 8000
variable {s:HL} {yB yW:List Value} {b bf bl cB cW gB gW pb pg sb sg:Nat} {w:World}
theorem Bn (h:ke w b s gB gW cB cW yB yW sb sg pb pg bl bf) (k:Nat) (r:k<s.B.length):
  Cs Tryz.prog 384 [.pointer (some ⟨b,0,none⟩),.int .i64 (k:Int)] w fun v w'=>v=.int .i64 (s.span k:Nat)∧w'=w:=by
 have J:=h.ok.ju;have get: ∀j,j<s.B.length→(bN s.B++yB)[j*2]? =some (.int .i64 (s.B.getD j (0,0)).1):=fun j D=>by
  rw[List.getElem?_append_left (by rw[cd];omega),Nat.mul_comm];exact(fe D).1
 have t:(0:Int)≤(k:Int)∧(k:Int)<(s.B.length:Int):=⟨by omega,by omega⟩;refine en [] ?_;refine gO ?_;refine aE (5::6::7::8::9::10::11::12::13::14::15::16::17::18::19::20::21::22::23::24::25::26::27::28::29::30::31::32::33::34::35::36::37::38::39::40::[]) (fun g w'=> ∃n:Nat,g 5=.int .i64 (n:Int)∧1≤n∧k+n≤s.B.length∧((s.B.getD k (0,0)).1=2→tails s.B k (s.B.length+1-n) n=tails s.B k s.B.length 1)∧((s.B.getD k (0,0)).1≠2→n=1)∧w'=w) (fun g _=>bU (s.B.length+1) 5 g)
  ⟨1,by simp only[go_sem];rfl,by omega,by omega,fun _=>by rw[Nat.add_sub_cancel],fun _=>rfl,rfl⟩ fun g E F m=>?_
 obtain⟨n,o,G,H,d,B,rfl⟩:=F;have C:IntKind.i64.wrap ((k:Int)+(n:Int))=((k+n:Nat):Int):=by rw[IntWalk.i64_in _ (by omega)];omega
 by_cases l:(s.B.getD k (0,0)).1=2;rotate_left
 ·refine nX h.hb.cell h.hB.cell (eq_true t) @Int.toNat_natCast (get k r) (fj l) o ?_;have:s.span k=1:=by unfold HL.span;rw[if_neg l]
  rw[this,B l]
 have d:=d l;have q:s.span k=tails s.B k s.B.length 1:=by unfold HL.span;rw[if_pos l]
 obtain⟨f,I⟩: ∃f,s.B.length+1-n=f+1:=⟨s.B.length-n,by omega⟩;rw[I,tails]at d;by_cases u:k+n<s.B.length;rotate_left
 ·rw[if_neg (fun h=>u h.1)]at d;refine FV h.hb.cell h.hB.cell (eq_true t) @Int.toNat_natCast (get k r) (fx l) o C (bt (show¬((k+n:Nat):Int)<(s.B.length:Int) by omega)) ?_;rw[q,d]
 have y:(0:Int)≤((k+n:Nat):Int)∧((k+n:Nat):Int)<(s.B.length:Int):=⟨by omega,by omega⟩;by_cases z:(s.B.getD (k+n) (0,0)).1=3;rotate_left
 ·rw[if_neg (fun h=>z h.2)]at d;refine AA h.hb.cell h.hB.cell (eq_true t) (eq_true y) @Int.toNat_natCast (get k r) (get (k+n) u) (fx l) o C (bc y.2) (fj z) ?_;rw[q,d]
 rw[if_pos ⟨u,z⟩]at d;refine Ii h.hb.cell h.hB.cell (eq_true t) (eq_true y) @Int.toNat_natCast (get k r) (get (k+n) u) (fx l) o C (bc y.2) (fx z) (au n (by omega)) ?_;refine m _ E ⟨n+1,?_,by omega,by omega,fun _=>?_,fun h=>absurd l h,rfl⟩ ?_
 ·simp only[go_sem]
 ·rw[show s.B.length+1-(n+1)=f by omega];exact d
 ·exact aZ o
theorem Dr (t:ke w b s gB gW cB cW yB yW sb sg pb pg bl bf) (x l but:Int) (hx:x≤4611686018427387904) (w2:2≤l) (Z:l≤218) (we:l%2=0):Cs Tryz.prog 293 [.pointer (some ⟨b,0,none⟩),.int .i64 x,.int .i64 l,.int .i64 but] w fun v w'=>v=.int .i64 (ct s x l but)∧ad [] w w':=by
 refine en [] ?_;by_cases H:x<0
 ·refine aQ (bc H) ?_;exact⟨by simp[ct,j7,H],ad.refl _ _⟩
 by_cases T:(s.W.length:Int)≤x
 ·refine db (bt H) t.hb.cell (bc T) ?_;exact⟨by simp[ct,j7,T],ad.refl _ _⟩
 obtain⟨k,rfl⟩: ∃k:Nat,x=k:=⟨x.toNat,by omega⟩;by_cases c3:k%2=0;rotate_left
 ·refine jr (bt H) t.hb.cell (bt T) (tA k) (gm (show¬((k%2:Nat):Int)=0 by omega)) ?_;exact⟨by simp[ct,j7,show¬(k:Int)%2=0 by omega],ad.refl _ _⟩
 have hA:j7 s (k:Int)=false:=by simp[j7];omega
 have GL:=t.ok.wl;have hB:=t.ok.ju;have y: ∀n:Nat,n≤4611686018427387904→IntKind.i64.wrap ((n:Int).tdiv 64)=((n/64:Nat):Int):=fun n hn=>pN n hn;have I:k/64<s.B.length:=by omega
 have F:(0:Int)≤((k/64:Nat):Int)∧((k/64:Nat):Int)<(s.B.length:Int):=⟨by omega,by omega⟩;have G:(bN s.B++yB)[k/64*2]? =some (.int .i64 (s.B.getD (k/64) (0,0)).1):=by
  rw[List.getElem?_append_left (by rw[cd];omega),Nat.mul_comm];exact(fe I).1
 obtain⟨d,rfl⟩: ∃n:Nat,l=n:=⟨l.toNat,by omega⟩;have X:IntKind.i64.wrap ((k:Int)+(d:Int))=(k:Int)+(d:Int):=IntWalk.i64_in _ (by omega);have e4:IntKind.i64.wrap ((k:Int)+(d:Int)-1)=((k+d-1:Nat):Int):=by rw[IntWalk.i64_in _ (by omega)];omega
 have J:IntKind.i64.wrap (IntKind.i64.wrap ((d:Int)+64)-1)=((d+63:Nat):Int):=by rw[IntWalk.i64_in ((d:Int)+64) (by omega),IntWalk.i64_in _ (by omega)];omega
 have U:s.b ((k:Int)/64)=s.B.getD (k/64) (0,0):=by unfold HL.b;congr 1
 have K:((k:Int)/64).toNat=k/64:=by omega
 have z:bJ s (k:Int) (d:Int)=true→ct s (k:Int) (d:Int) but=5:=fun h=>by unfold ct;rw[hA,if_neg (by simp),if_pos h]
 have Y:bJ s (k:Int) (d:Int)=false→ct s (k:Int) (d:Int) but=if(List.range (d/2)).any (cF s (k:Int) but)=true then 8 else 0:=fun h=>by
  unfold ct;rw[hA,if_neg (by simp),h,if_neg (by simp),show(((d:Int)+1)/2).toNat=d/2 by omega]
 (repeat(first|with_reducible(first|refine DS ?_|refine DT ?_|refine JK ?_|refine DU ?_|refine DV ?_|refine ch rfl ?_)|simp only[go_sem,bt H,t.hb.cell,bt T,tA k,ep (show((k%2:Nat):Int)=0 by omega)]));refine oA ?_;simp only[go_sem];refine qP (run_seq (tu ?_));simp only[go_sem,y k (by omega)];refine run_seq ?_;refine fB (31::32::33::34::35::36::37::38::39::40::41::42::43::44::45::46::47::48::49::50::51::52::53::54::55::56::57::58::59::60::61::62::63::64::65::66::67::68::69::70::71::72::73::74::75::[]) (fun _ w'=>w'=w∧bJ s (k:Int) (d:Int)=false) (fun kk L=>?_) (fun g w' hJ=>?_)
 ·by_cases q:(d:Int)≤32
  ·by_cases B:(s.B.getD (k/64) (0,0)).1=1;rotate_left
   ·refine nX (bc q) t.hb.cell t.hB.cell (eq_true F) @Int.toNat_natCast G (gm B) ?_;refine⟨?_,ad.refl _ _⟩;rw[z];unfold bJ;rw[if_pos q,U,bc (show(s.B.getD (k/64) (0,0)).1≠1 from B)];rfl
   by_cases c5:(k+d-1)/64=k/64;rotate_left
   ·refine xM (bc q) t.hb.cell t.hB.cell (eq_true F) @Int.toNat_natCast G (ep B) X e4 (y (k+d-1) (by omega)) (gm (show¬(((k+d-1)/64:Nat):Int)=((k/64:Nat):Int) by omega)) ?_;refine⟨?_,ad.refl _ _⟩;rw[z];unfold bJ;rw[if_pos q];have:((k:Int)+(d:Int)-1)/64≠(k:Int)/64:=by omega
    simp[this]
   refine xM (bc q) t.hb.cell t.hB.cell (eq_true F) @Int.toNat_natCast G (ep B) X e4 (y (k+d-1) (by omega)) (ep (show(((k+d-1)/64:Nat):Int)=((k/64:Nat):Int) by omega)) ?_;refine L _ _ ⟨rfl,?_⟩
   ·unfold bJ;rw[if_pos q,U];rw[bt (show¬(s.B.getD (k/64) (0,0)).1≠1 from fun h=>h B),bt (show¬((k:Int)+(d:Int)-1)/64≠(k:Int)/64 by omega)];rfl
  ·by_cases B:(s.B.getD (k/64) (0,0)).1=2;rotate_left
   ·refine nX (bt q) t.hb.cell t.hB.cell (eq_true F) @Int.toNat_natCast G (gm B) ?_;refine⟨?_,ad.refl _ _⟩;rw[z];unfold bJ;rw[if_neg q,U,bc (show(s.B.getD (k/64) (0,0)).1≠2 from B)];rfl
   by_cases c5:k%64=0;rotate_left
   ·refine FV (bt q) t.hb.cell t.hB.cell (eq_true F) @Int.toNat_natCast G (ep B) (sy k) (gm (show¬((k%64:Nat):Int)=0 by omega)) ?_;refine⟨?_,ad.refl _ _⟩;rw[z];unfold bJ;rw[if_neg q];have:(k:Int)%64≠0:=by omega
    simp[this]
   refine FV (bt q) t.hb.cell t.hB.cell (eq_true F) @Int.toNat_natCast G (ep B) (sy k) (ep (show((k%64:Nat):Int)=0 by omega)) ?_;refine ao (Bn t (k/64) I) ?_;by_cases D:s.span (k/64)=(d+63)/64;rotate_left
   ·refine db J (y (d+63) (by omega)) (gm (show¬((s.span (k/64):Nat):Int)=(((d+63)/64:Nat):Int) by omega)) ?_;refine⟨?_,ad.refl _ _⟩;rw[z];unfold bJ;rw[if_neg q,K];have:((s.span (k/64):Nat):Int)≠((d:Int)+63)/64:=by omega
    simp[this]
   refine db J (y (d+63) (by omega)) (ep (show((s.span (k/64):Nat):Int)=(((d+63)/64:Nat):Int) by omega)) ?_;refine L _ _ ⟨rfl,?_⟩
   ·unfold bJ;rw[if_neg q,U,K];rw[bt (show¬(s.B.getD (k/64) (0,0)).1≠2 from fun h=>h B),bt (show¬(k:Int)%64≠0 by omega),bt (show¬((s.span (k/64):Nat):Int)≠((d:Int)+63)/64 by omega)];rfl
 obtain⟨e,hW⟩:=hJ;subst e;rw[Y hW];refine gO ?_;refine aE (10::11::12::76::77::78::79::80::81::82::83::84::85::86::87::88::89::90::91::92::93::94::95::[]) (fun g w1=> ∃j:Nat,g 10=.int .i64 ((k+2*j:Nat):Int)∧j≤d/2∧(∀i,i<j→cF s (k:Int) but i=false)∧ad [] w' w1) (fun g _=>bU (k+d+1) 10 g)
  ⟨0,by simp only[go_sem];rfl,by omega,by omega,ad.refl _ _⟩ fun g w1 hI C=>?_
 obtain⟨j,u,hj,M,N⟩:=hI;refine bj u X ?_;refine cD (fun O=>?_) (fun P=>?_)
 ·have O:k+2*j<k+d:=by
   have:((k+2*j:Nat):Int)<(k:Int)+(d:Int):=by simpa using O
   omega
  refine aQ u ?_;refine ak (F1 (m:=some s) ⟨b,rfl,gB,gW,cB,cW,yB,yW,sb,sg,pb,pg,bl,bf,rfl,t.aa N⟩ ((k+2*j:Nat):Int) (by omega)) ?_;rintro r w3 ⟨rfl,E⟩;have V:cF s (k:Int) but j=((dw (some s) ((k+2*j:Nat):Int)).2==0&&(dw (some s) ((k+2*j:Nat):Int)).1 !=but):=by
   unfold cF;rw[show(k:Int)+2*(j:Int)=((k+2*j:Nat):Int) by omega]
  have J:IntKind.i64.wrap (((k+2*j:Nat):Int)+2)=((k+2*(j+1):Nat):Int):=by rw[IntWalk.i64_in _ (by omega)];omega
  have Q:cF s (k:Int) but j=false→ ∀i,i<j+1→cF s (k:Int) but i=false:=fun h i hi=>by
   by_cases e:i=j
   ·subst e;exact h
   ·exact M i (by omega)
  generalize dw (some s) ((k+2*j:Nat):Int)=fo at*;obtain⟨o,e⟩:=fo;simp only at V;by_cases D:e=0
  ·by_cases W:o=but
   ·refine jI u (fx D) (ep W) J ?_;refine C _ w3 ⟨j+1,?_,by omega,Q (by rw[V,D,W];simp),N.nil E⟩ ?_
    ·simp only[go_sem]
    ·rw[eY u,eY (k:=.i64) (i:=k+2*(j+1)) (by simp only[go_sem])];omega
   ·refine db u (fx D) (gm W) ?_;refine⟨?_,N.nil E⟩;rw[if_pos];exact List.any_eq_true.2 ⟨j,List.mem_range.2 (by omega),by rw[V,D];simp[W]⟩
  ·refine db u (fj D) J ?_;refine C _ w3 ⟨j+1,?_,by omega,Q (by rw[V];simp[D]),N.nil E⟩ ?_
   ·simp only[go_sem]
   ·rw[eY u,eY (k:=.i64) (i:=k+2*(j+1)) (by simp only[go_sem])];omega
 ·have P: ¬k+2*j<k+d:=by
   have: ¬((k+2*j:Nat):Int)<(k:Int)+(d:Int):=by simpa using P
   omega
  refine gO ?_;refine⟨?_,N⟩;rw[if_neg];intro R;obtain⟨i,hi,S⟩:=List.any_eq_true.1 R;rw[M i (by have:=List.mem_range.1 hi;omega)]at S;cases S
end
set_option maxRecDepth 8000
theorem AM {w:World} {a:Option Addr} {fp:List Nat} {m:HO} (h:HR w a fp m) (x:Int) (sh:Sh) (hx:x≤4611686018427387904) (H: ∀s,m=some s→s.born≤4611686018427387900):
  Cs Tryz.prog 119 [.pointer a,.int .i64 x,.agg ⟨c8 sh⟩] w fun v w'=>v=.tuple #[.int .i64 (bx m x sh).1,.int .i64 (bx m x sh).2]∧HR w' a fp (bM m x sh)∧ad fp w w':=by
 refine en [2,5,8,11,14,17,20,23,26,29,32,35,38,41,44,47,51,53,58,59,64,0,0] ?_;refine gO ?_;refine bm fun q w1 hq qb t l=>?_;refine gO ?_;refine ao (j8 (h.aa l)) ?_
 match m,h with
 |none,h=>(repeat(first|with_reducible(first|refine nx ?_|refine ch rfl ?_)|simp only[go_sem]));exact⟨rfl,h.aa l,l.of_nil⟩
 |some s,h0@⟨b,U,gB,V,cB,cW,yB,yW,N,O,pb,pg,X,bf,h2,o⟩=>
  subst U;have Il:aI w1 ⟨q,0,none⟩ 3=some (c8 sh):=ax t 0 3 (by simp[c8]);refine aQ Il ?_;refine aH (oZ w1 sh) fun w2 u=>?_;have Im:aI w2 ⟨q,0,none⟩ 3=some (c8 sh):=ax (t.aa u) 0 3 (by simp[c8]);cases P:aM sh with
  |false=>
   refine gO ?_;have D:bx (some s) x sh=(0,2):=by simp[bx,P]
   have Y:bM (some s) x sh=some s:=by unfold bM;simp only[D];rfl
   rw[D,Y];exact⟨rfl,HR.aa (m:=some s) h0 (l.nil u),(l.nil u).of_nil⟩
  |true=>
   refine aQ Im ?_;refine aH (mW w2 sh) fun w3 Z=>?_;have Q:=bY P;have o3:=(l.nil u).nil Z;refine gO ?_;refine aH (Dr (o.aa o3) x (ay sh) (-1) hx Q.1 Q.2.1 Q.2.2.1) fun w4 ll=>?_;have o4:=o3.nil ll;by_cases R:ct s x (ay sh) (-1)=0;rotate_left
   ·refine aQ (gm R) ?_;have D:bx (some s) x sh=(0,ct s x (ay sh) (-1)):=by simp[bx,P,R]
    have Y:bM (some s) x sh=some s:=by unfold bM;simp only[D,R,if_false]
    rw[D,Y];exact⟨rfl,HR.aa (m:=some s) h0 o4,o4.of_nil⟩
   obtain⟨k,rfl,hk,Mr,I⟩:=kE o.ok Q.1 Q.2.2.1 Q.2.1 R;have D:bx (some s) ((2*k:Nat):Int) sh=(((s.born+1:Nat):Int),0):=by
    unfold bx;simp only[P,R,Bool.true_eq_false,if_false,ne_eq,not_true_eq_false]
   have Y:bM (some s) ((2*k:Nat):Int) sh=some {s with W:=(s.W.set (2*k) ((s.born+1:Nat):Int)).set (2*k+1) (dv sh),st:=s.st.set k 1,pl:=b9 s.pl ((s.born+1:Nat):Int) (.int .i64 ((2*k:Nat):Int)),born:=s.born+1}:=by
    unfold bM;simp only[D,if_true,cf,Nat.mul_div_cancel_left k (show 0<2 by omega)]
   have Io:=o.ok.place (id:=((s.born+1:Nat):Int)) (pl:=b9 s.pl ((s.born+1:Nat):Int) (.int .i64 ((2*k:Nat):Int))) (born:=s.born+1) P hk Mr I;rw[D,Y];have Ox:=H s rfl;have E:=o.aa o4;have Ms:=o4.size;have y0:=o.lt;obtain⟨⟨n1,n2,n3,n4,n5,n6,n7,n8⟩,⟨m2,m3,m4,m5,m6,m7,m8⟩,⟨p3,p4,p5,p6,p7,p8⟩,⟨r4,r5,r6,r7,r8⟩,⟨t5,t6,t7,t8⟩,⟨u6,u7,u8⟩,⟨v7,v8⟩,y8⟩:=FZ o.nd;have Mt: ∀z,z∈[b,gB,V,N,O,pb,pg,X,bf]→z≠q:=fun z y e=>by have:=y0 z y;omega
   have e1:IntKind.i64.wrap ((s.born:Int)+1)=((s.born+1:Nat):Int):=au _ (by omega);refine db (ep R) E.hb.cell e1 ?_;refine nt E.hb (by simp) rfl fun S yG B d=>?_;simp only[List.set_cons_zero,List.set_cons_succ]at B;have F:At S q (c8 sh):=((t.aa ((u.nil Z).nil ll))).ae d (aW (Mt b (by simp)).symm);have Mu:=E.hW.ae d (aW n2.symm);have Hw:aI S.drew ⟨q,0,none⟩ 3=some (c8 sh):=ax F.drew 0 3 (by simp[c8]);have GM:=o.ok.sl;have GL:=o.ok.wl;have zr:=o.ok.ju;have e2:IntKind.i64.wrap (((2*k:Nat):Int)+1)=((2*k+1:Nat):Int):=au _ (by omega);have c1:(0:Int)≤((2*k:Nat):Int)∧((2*k:Nat):Int)<(s.W.length:Int):=⟨by omega,by omega⟩;have c2:(0:Int)≤((2*k+1:Nat):Int)∧((2*k+1:Nat):Int)<(s.W.length:Int):=⟨by omega,by omega⟩;refine gO ?_;refine bk [b,q] ?_;refine jI B.cell B.drew.cell Hw e2 ?_;have Ip:=B.lt;have Iq:=F.lt;refine rU (AK S.drew sh P) (.inr ⟨SB.refl _ _,fun z y=>⟨?_,by simp⟩⟩) fun w6 p9=>?_
   ·simp only[List.mem_cons,List.not_mem_nil,or_false]at y;show z<S.heap.size;rcases y with rfl|rfl
    ·exact Ip
    ·exact Iq
   have Mv:=Mu.drew.aa p9;refine jI (eq_true c1) (eq_true c2) @Int.toNat_natCast @Nat.mul_one ?_;refine A' Mv (by simp[ints];omega) rfl fun w7 Bb JN lx=>⟨.inl rfl,?_⟩;rw[ints_set yW (by omega)]at JN;refine db (eq_true c2) @Int.toNat_natCast @Nat.mul_one ?_;refine A' JN (by simp[ints];omega) rfl fun w8 F2 JO nw=>⟨.inl rfl,?_⟩;rw[ints_set yW (by simp;omega)]at JO;have J:ad [V] S w8:=(((ad.drew [] S).nil p9).of_nil (T:=[V])).same (lx.same nw);have Gt:=B.ae J (aW n2);have Ir:=(E.hs.ae d (aW n3.symm) (aW n4.symm)).ae J (aW p3.symm) (aW p4.symm);have e3:IntKind.i64.wrap (((2*k:Nat):Int).tdiv 2)=(k:Int):=by rw[oD _ (by omega)];omega
   refine bj Gt.cell e3 ?_;refine ak (lT (gI.mk Ir) (k:Int) 1) ?_;rintro r w9 ⟨rfl,C,oa⟩;have Is:MT.check (some (1,s.st)) (k:Int) [1]=0:=by
    have U:hasB s.st.length (k:Int)=true:=iP hk;simp only[MT.check,U];rfl
   have K:MT.cC (some (1,s.st)) (k:Int) 1=some (1,s.st.set k 1):=by
    simp only[MT.cC,Is,if_true,cf];rfl
   rw[K]at C;obtain⟨Oy,Oz,g1,g2,yH⟩:=C;cases g2;have L:ad [N,O] w8 w9:=oa;have ft: ∀ {z:Nat},z≠N→z≠O→z∉ [N,O]:=fun U h2=>by simpa using⟨U,h2⟩
   have M:=Gt.ae L (ft n3 n4);have Mw:=((E.hl.ae d (aW n7.symm)).ae J (aW p7.symm)).ae L (ft r7.symm t7.symm);refine bj M.cell M.drew.cell ?_;refine nZ Tryz.underlying121 Tryz.underlying3 (Mw.aa (ad.drew [] w9)) fun yI zu It BQ=>?_;have j:ad [X] w9 yI:=((ad.drew [] w9).of_nil (T:=[X])).same BQ;have G:=M.ae j (aW n7);refine aQ G.cell ?_;refine⟨⟨b,rfl,gB,V,cB,cW,yB,yW,N,O,pb,pg,X,bf,h2,⟨Io,?_,?_,?_,o.cB,by simpa using o.cW,?_,?_,It,?_,o.nd⟩⟩,?_⟩
   ·simpa using G
   ·exact(((E.hB.ae d (aW n1.symm)).ae J (aW m2)).ae L (ft m3 m4)).ae j (aW m7)
   ·exact(JO.ae L (ft p3 p4)).ae j (aW p7)
   ·exact yH.ae j (aW r7) (aW t7)
   ·exact(((E.hp.ae d (aW n5.symm) (aW n6.symm)).ae J (aW p5.symm) (aW p6.symm)).ae L (ft r5.symm t5.symm) (ft r6.symm t6.symm)).ae j (aW u7) (aW v7)
   ·exact(((E.hf.ae d (aW n8.symm)).ae J (aW p8.symm)).ae L (ft r8.symm t8.symm)).ae j (aW y8.symm)
   ·have f: ∀z,z∈[b,gB,V,N,O,pb,pg,X,bf]→z∈fp:=fun z y=>by rw[h2];exact y
    refine((((o4.of_nil (T:=fp)).trans d fun z y=>.inl (f z ?_)).trans J fun z y=>.inl (f z ?_)).trans L fun z y=>.inl (f z ?_)).trans j fun z y=>.inl (f z ?_)
    all_goals(simp only[List.mem_cons,List.not_mem_nil,or_false]at y⊢;omega)
section
variable {s:HL} {m:HO} {B B' xs:List (Int×Int)} {fp:List Nat} {cs:List Value} {cap g i o:Nat} {a:Option Addr} {w:World}
def bV (x:Int×Int):List Value:=[.int .i64 x.1,.int .i64 x.2]
set_option maxHeartbeats 1000000 in
theorem F3 (w:World) (x:Int×Int):Cs Tryz.prog 394 [.agg ⟨bV x⟩] w fun v w'=>v=.bool (x !=(0,0))∧ad [] w w':=by
 obtain⟨a,b⟩:=x;refine fY rfl ?_;unfold dT;refine gO ?_;refine bm fun q k u l d j=>?_;have m:aI k ⟨q,0,none⟩ 2=some (bV (a,b)):=ax d 0 2 (by simp[bV]);have o:rV true 2 (.agg ⟨bV (a,b)⟩) (.agg ⟨[.int .i64 0,.int .i64 0]⟩)=some (.bool ((a,b) !=((0,0):Int×Int))):=by
  unfold bV;rw[wA true 2 _ _ rfl rfl];simp only[jZ,kO];have e:((a,b) !=((0,0):Int×Int))=!(a==0&&b==0):=by
   rw[Bool.eq_iff_iff];simp only[bne_iff_ne,ne_eq,Prod.mk.injEq,Bool.not_eq_true',Bool.and_eq_false_iff,beq_eq_false_iff_ne];omega
  rw[e];by_cases r:a=0<;>by_cases t:b=0<;>simp[r,t,oB]
 refine bj m o ?_;exact j
theorem F4 (t : At w g cs) (B : xs.length ≤ 1000) (u : ∀ i, i < xs.length → o + i * 2 + 2 ≤ cs.length ∧ (cs.drop (o + i * 2)).take 2 = bV (xs.getD i (0, 0))) :
    Cs Tryz.prog 433 [.slice (some ⟨g, o, none⟩) xs.length cap, .func (.func 394) #[] #[]] w fun v w' => (∃ k : Int, v = .int .i64 k ∧ decide (0 ≤ k) = xs.any (· != (0, 0))) ∧ ad [] w w' := by
  refine en [] ?_;refine gO ?_;refine aE (5 :: 8 :: 9 :: 10 :: 11 :: 12 :: 13 :: 14 :: 15 :: 16 :: 17 :: 18 :: []) (fun g w' => ∃ i : Nat, g 8 = .int .i64 i ∧ i ≤ xs.length ∧ (xs.take i).any (· != (0, 0)) = false ∧ ad [] w w') (fun g _ => bU xs.length 8 g) ⟨0, by simp only [go_sem]; rfl, by omega, by simp, ad.refl _ _⟩ fun I w' C j => ?_;obtain ⟨i, q, J, d, r⟩ := C;refine aQ q ?_;refine cD (fun b => ?_) (fun y => ?_)
  · have b : i < xs.length := by simpa using b
    obtain ⟨D, E⟩ := u i b;have F : (0 : Int) ≤ (i : Int) ∧ (i : Int) < (xs.length : Int) := ⟨by omega, by omega⟩;have G : aI w' ⟨g, o + i * 2, none⟩ 2 = some (bV (xs.getD i (0, 0))) := by rw [ax (t.aa r) (o + i * 2) 2 D, E]
    have l : (xs.take (i + 1)).any (· != (0, 0)) = ((xs.take i).any (· != (0, 0)) || (xs.getD i (0, 0) != (0, 0))) := by
      rw [List.take_succ_eq_append_getElem b, List.any_append];simp [b]
    refine jI q (eq_true F) @Int.toNat_natCast G ?_;refine di (bA _ #[] _ #[]) (by kernel_rfl) (F3 w' (xs.getD i (0, 0))) ?_;rintro v H ⟨rfl, m⟩;refine gO ?_;refine cD (fun z => ?_) (fun z => ?_)
    · refine gO ?_;refine ⟨⟨i, rfl, ?_⟩, r.nil m⟩;have : xs.any (· != (0, 0)) = true := List.any_eq_true.2 ⟨xs[i], List.getElem_mem b, by simpa [b] using z⟩;rw [this]; simp
    · refine bj q (au i (by omega)) ?_;refine j _ H ⟨i + 1, ?_, by omega, by rw [l, d, z]; rfl, r.nil m⟩ ?_
      · simp only [go_sem]
      · exact aZ q
  · have : i = xs.length := by have : ¬ (i < xs.length) := by simpa using y
                               omega
    subst this;refine gO ?_;refine ⟨⟨-1, rfl, ?_⟩, r⟩;rw [List.take_length] at d;rw [d]; rfl
theorem Ds (d:At w g cs) (b:xs.length≤1000) (j: ∀i,i<xs.length→o+i*2+2≤cs.length∧(cs.drop (o+i*2)).take 2=bV (xs.getD i (0,0))):
  Cs Tryz.prog 393 [.slice (some ⟨g,o,none⟩) xs.length cap,.func (.func 394) #[] #[]] w fun v w'=>v=.bool (xs.any (·!=(0,0)))∧ad [] w w':=by
 refine en [] ?_;refine gO ?_;refine ak (F4 d b j) ?_;rintro v w' ⟨⟨k,rfl,l⟩,m⟩;refine aQ l ?_;exact m
theorem oE (rest:List Value) (h:i<B.length):((bN B++rest).drop (i*2)).take 2=bV (B.getD i (0,0)):=by
 induction B generalizing i with
 |nil=>simp at h
 |cons x B b=>
  cases i with
  |zero=>rfl
  |succ i=>
   have d:i<B.length:=by simpa using h
   have e:bN (x::B)++rest=.int .i64 x.1::.int .i64 x.2::(bN B++rest):=rfl;rw[e,show(i+1)*2=i*2+1+1 by omega,List.drop_succ_cons,List.drop_succ_cons,b d];simp
theorem mX {x:Int×Int} (rest:List Value) (h:i<B.length):fS (bN B++rest) (i*2) (bV x)=bN (B.set i x)++rest:=by
 induction B generalizing i with
 |nil=>simp at h
 |cons y B d=>
  cases i with
  |zero=>rfl
  |succ i=>
   have j:i<B.length:=by simpa using h
   have b:=d j;have e:bN (y::B)++rest=.int .i64 y.1::.int .i64 y.2::(bN B++rest):=rfl;have k:bN ((y::B).set (i+1) x)++rest=.int .i64 y.1::.int .i64 y.2::(bN (B.set i x)++rest):=rfl;rw[e,k,←b,show(i+1)*2=i*2+1+1 by omega];rfl
theorem kF (x:Int×Int): ∀u,u∈bV x→bu u=true:=by simp[bV,bu]
theorem HL.Ok.pS (h:s.Ok) (d:B'.length=s.B.length):HL.Ok {s with B:=B'}:=
 ⟨by simpa only[d]using h.b2,by simpa only[d]using h.ju,by simpa only[d]using h.wl,by simpa only[d]using h.sl,by simpa only[d]using h.pl,h.fit,h.dj⟩
theorem ke.pS {w':World} {b:Nat} {j l cB cW:Nat} {yB yW:List Value} {m o q r t u:Nat} (h:ke w b s j l cB cW yB yW m o q r t u) (hl:B'.length=s.B.length) (k:At w' j (bN B'++yB)) (d:ad [j] w w'):
  ke w' b {s with B:=B'} j l cB cW yB yW m o q r t u:=by
 obtain⟨⟨y,I,J,K,L,M,N,O⟩,⟨z,C,D,E,F,G,H⟩,_⟩:=FZ h.nd;refine⟨h.ok.pS hl,?_,k,h.hW.ae d (aW z.symm),by simpa only[hl]using h.cB,h.cW,h.hs.ae d (aW C.symm) (aW D.symm),h.hp.ae d (aW E.symm) (aW F.symm),h.hl.ae d (aW G.symm),h.hf.ae d (aW H.symm),h.nd⟩;rw[show({s with B:=B'}:HL).B.length=s.B.length from hl];exact h.hb.ae d (aW y)
theorem tC (h : HR w a fp m) (x many : Int) (first more : Int × Int) (hx : x ≤ 4611686018427387904) (hm : many ≤ 4611686018427387904) :
    Cs Tryz.prog 292 [.pointer a, .int .i64 x, .int .i64 many, .agg ⟨bV first⟩, .agg ⟨bV more⟩] w fun v w' => v = .int .i64 (a8 m x many first) ∧ HR w' a fp (bn m x many first more) ∧ ad fp w w' := by
  refine en [0,0] ?_;refine gO ?_;refine bm fun q w1 hq qb O P => ?_;refine gO ?_;refine bm fun q2 w2 GW D7 Q R => ?_;have F := P.nil R;have S := O.aa R;refine gO ?_;refine ao (j8 (h.aa F)) ?_
  match m, h with
  | none, h => (repeat (first | with_reducible (first | refine nx ?_ | refine ch rfl ?_) | simp only [go_sem])); exact ⟨rfl, h.aa F, F.of_nil⟩
  | some s, h0@⟨b, h1, r, gW, cB, cW, yB, yW, sb, sg, pb, pg, bl, bf, h2, U⟩ =>
    subst h1;have t := U.aa F;have zr := U.ok.ju;have C : a8 (some s) x many first = 1 → (Value.int .i64 1 = Value.int .i64 (a8 (some s) x many first) ∧ HR w2 (some ⟨b, 0, none⟩) fp (bn (some s) x many first more) ∧ ad fp w w2) := fun e => by
      rw [e];have : bn (some s) x many first more = some s := by unfold bn; simp only [e]; rfl
      rw [this];exact ⟨rfl, HR.aa (m := some s) h0 F, F.of_nil⟩
    refine gO ?_;refine ao (sC (HR.aa (m := some s) h0 F) x) ?_;cases ht : dq (some s) x with
    | false =>
      refine gO ?_;exact C (by unfold a8; simp only [ht, true_or, if_true])
    | true =>
      have H' := ht;simp only [dq, Bool.and_eq_true, decide_eq_true_eq] at H';obtain ⟨k, rfl⟩ : ∃ k : Nat, x = k := ⟨x.toNat, by omega⟩;by_cases V : many < 1
      · refine aQ (bc V) ?_;exact C (by unfold a8; simp only [V, true_or, or_true, if_true])
      have e1 : IntKind.i64.wrap ((s.B.length : Int) - (k : Int)) = (s.B.length : Int) - (k : Int) := IntWalk.i64_in _ (by omega);by_cases c2 : (s.B.length : Int) - (k : Int) < many
      · refine jI (bt V) t.hb.cell e1 (bc c2) ?_;exact C (by unfold a8; simp only [c2, true_or, or_true, if_true])
      obtain ⟨n, rfl⟩ : ∃ n : Nat, many = n := ⟨many.toNat, by omega⟩;have W := S.cell 1;simp only [bV, List.getElem?_cons_zero, List.getElem?_cons_succ] at W;refine jr (bt V) t.hb.cell e1 (bt c2) W ?_;refine ao (AJ w2 first.2) ?_;cases X : cP first.2 with
      | false =>
        refine gO ?_;exact C (by unfold a8; simp only [X, or_true, if_true])
      | true =>
        have e2 : IntKind.i64.wrap ((k : Int) + (n : Int)) = ((k + n : Nat) : Int) := bg (k + n) (by omega);have OA := U.cB;have e3 := pL (size := 2) (n := s.B.length) (cap := cB) (l := k) (h := k + n) (k := .i64) (k' := .i64) (p := ⟨r, 0, none⟩) (by omega) (by omega) (by omega);simp only [bX, Nat.zero_add, Nat.add_sub_cancel_left] at e3;refine db t.hb.cell e2 e3 ?_;have J : ((s.B.drop k).take n).length = n := by rw [List.length_take, List.length_drop]; omega
        have BN : ∀ i, i < ((s.B.drop k).take n).length → k * 2 + i * 2 + 2 ≤ (bN s.B ++ yB).length ∧ ((bN s.B ++ yB).drop (k * 2 + i * 2)).take 2 = bV (((s.B.drop k).take n).getD i (0, 0)) := by
          intro i hi;rw [J] at hi;refine ⟨by rw [gZ, cd]; omega, ?_⟩;rw [show k * 2 + i * 2 = (k + i) * 2 by omega, oE yB (by omega)];congr 1;simp only [List.getD_eq_getElem?_getD];rw [List.getElem?_take_of_lt hi, List.getElem?_drop]
        have u := Ds (cap := cB - k) t.hB (by rw [J]; omega) BN;rw [J] at u;refine aH u fun w3 D => ?_;have o3 := F.nil D;have o : a8 (some s) (k : Int) (n : Int) first = if ((s.B.drop k).take n).any (fun x => x != (0, 0)) = true then 8 else 0 := by
          unfold a8;simp only [ht, X, Bool.true_eq_false, V, c2, or_self, if_false, cf]
        cases G : ((s.B.drop k).take n).any (fun x => x != (0, 0)) with
        | true =>
          rw [G, if_pos rfl] at o;refine gO ?_;rw [o];have : bn (some s) (k : Int) (n : Int) first more = some s := by unfold bn; simp only [o]; rfl
          rw [this];exact ⟨rfl, HR.aa (m := some s) h0 o3, o3.of_nil⟩
        | false =>
          rw [G, if_neg (by simp)] at o;have Mx : bn (some s) (k : Int) (n : Int) first more = some { s with B := (fG s.B k more n).set k first } := by unfold bn; simp only [o, if_true, cf]
          rw [o, Mx];have K := t.aa D;have Y := U.lt;have Z : q ≠ r := by have := Y r (by simp); omega
          have D8 := P.size;have Iu : q2 ≠ r := by have := Y r (by simp); omega
          have My := S.aa D;have Mz := Q.aa D;obtain ⟨⟨n1, _⟩, _⟩ := FZ U.nd;refine gO ?_;refine aE (11 :: 54 :: 55 :: 56 :: 57 :: 58 :: 59 :: 60 :: 61 :: 62 :: 63 :: 64 :: 65 :: 66 :: []) (fun g w' => ∃ j : Nat, g 54 = .int .i64 j ∧ j ≤ n ∧ At w' r (bN (fG s.B k more j) ++ yB) ∧ ad [r] w3 w') (fun g _ => bU n 54 g)
            ⟨0, by simp only [go_sem]; rfl, by omega, K.hB, ad.refl _ _⟩ fun g w4 hI L => ?_
          obtain ⟨j, E, hj, H, y⟩ := hI;have vK := K.hb.ae y (aW n1);refine aQ E ?_;refine cD (fun I => ?_) (fun Iv => ?_)
          · have I : j < n := by simpa using I
            have JP := Mz.ae y (aW Iu);have M : aI w4 ⟨q2, 0, none⟩ 2 = some (bV more) := ax JP 0 2 (by simp [bV]);have e4 : IntKind.i64.wrap ((k : Int) + (j : Int)) = ((k + j : Nat) : Int) := bg (k + j) (by omega);have e5 : (0 : Int) ≤ ((k + j : Nat) : Int) ∧ ((k + j : Nat) : Int) < (s.B.length : Int) := ⟨by omega, by omega⟩;refine kZ E vK.cell e4 M (eq_true e5) @Int.toNat_natCast ?_;refine dR (cs := bV more) (n := 2) (i := (k + j) * 2) H.drew rfl (by rw [gZ, cd, bF]; omega) (kF _) fun w5 yG d N => ?_;rw [mX yB (by rw [bF]; omega)] at d;refine bj E (au j (by omega)) ?_;refine L _ w5 ⟨j + 1, ?_, by omega, d, y.same (((ad.drew [] w4).of_nil (T := [r])).same N)⟩ ?_
            · simp only [go_sem]
            · exact aZ E
          · have : j = n := by have : ¬ j < n := by simpa using Iv
                               omega
            subst this;have MA := My.ae y (aW Z);have M : aI w4 ⟨q, 0, none⟩ 2 = some (bV first) := ax MA 0 2 (by simp [bV]);have e5 : (0 : Int) ≤ (k : Int) ∧ (k : Int) < (s.B.length : Int) := ⟨by omega, by omega⟩;refine jI vK.cell M (eq_true e5) @Int.toNat_natCast ?_;refine dR (cs := bV first) (n := 2) (i := k * 2) H.drew rfl (by rw [gZ, cd, bF]; omega) (kF _) fun w5 yG d N => ?_;rw [mX yB (by rw [bF]; omega)] at d;have o5 : ad [r] w3 w5 := y.same (((ad.drew [] w4).of_nil (T := [r])).same N);refine gO ?_;refine ⟨⟨b, rfl, r, gW, cB, cW, yB, yW, sb, sg, pb, pg, bl, bf, h2, K.pS (by simp [bF]) d o5⟩, ?_⟩;exact (o3.of_nil (T := fp)).trans o5 fun z hz => by simp only [bp] at hz; subst hz; exact .inl (by rw [h2]; simp)
theorem Dt (h:HR w a fp m) (x sp:Int) (b:x≤4611686018427387904):Cs Tryz.prog 118 [.pointer a,.int .i64 x,.int .i64 sp] w fun v w'=>v=.int .i64 (a8 m x 1 (1,sp))∧HR w' a fp (bn m x 1 (1,sp) (0,0))∧ad fp w w':=by
 refine en [] ?_;refine gO ?_;rw[ai rfl rfl,ai rfl rfl];refine gO ?_;refine ak (tC h x 1 (1,sp) (0,0) b (by omega)) ?_;rintro v w' ⟨rfl,d,j⟩;refine gO ?_;exact⟨d,j⟩
end
set_option maxRecDepth 8000
theorem x' {P:Program} {fl:Bool} {L:List Nat} {w0 w:World} {t:TypeId} {d:Option Nat} {rest:XT} {ρ:Env} {C:Env→World→Prop}
  (h: ∀b w',b=w.heap.size→w'.heap.size=w.heap.size+1→bP w' b []→ad [] w w'→(fl=true∨SB L w0 w')∧VT P L w0 rest (aV ρ d (.map (some b))) w' C):Ae P fl L w0 (Instr.makeMap t none) d rest ρ w C:=by
 obtain⟨j,k⟩:=h _ _ rfl (by simp) (bP.alloc w) (ad.alloc [] w _);exact Ie oC j k
attribute [go_sem] Option.map_none
theorem ya (n:Nat):eP [Value.int .i64 0,Value.int .i64 0] n=bN (List.replicate n (0,0)):=by
 have m:(bN (List.replicate n (0,0))).length=2*n:=by rw[cd,List.length_replicate]
 apply List.ext_getElem?;intro i;by_cases o:i<2*n
 ·have j:(eP [Value.int .i64 0,Value.int .i64 0] n)[i]? =some (.int .i64 0):=by
   unfold eP;rw[List.getElem?_map,List.getElem?_range (by simp;omega)];simp only[Option.map_some];have:i%2=0∨i%2=1:=by omega
   rcases this with h|h<;>simp[h]
  have k:(bN (List.replicate n (0,0)))[i]? =some (.int .i64 0):=by
   obtain⟨b,d⟩:=fe (B:=List.replicate n ((0:Int),(0:Int))) (i:=i/2) (by simp;omega);have l:(List.replicate n ((0:Int),(0:Int))).getD (i/2) (0,0)=(0,0):=by
    simp only[List.getD_eq_getElem?_getD,List.getElem?_replicate];split<;>rfl
   rw[l]at b d;rcases(show i=2*(i/2)∨i=2*(i/2)+1 by omega)with h|h
   ·rw[h];exact b
   ·rw[h];exact d
  rw[j,k]
 ·rw[List.getElem?_eq_none (by rw[qz];simp;omega),List.getElem?_eq_none (by omega)]
theorem yb (n:Nat):List.replicate n (Value.int .i64 0)=ints (List.replicate n 0):=by simp[ints]
theorem Fa (w : World) (x : Int) : Cs Tryz.prog 58 [.int .i64 x] w fun v w' => ∃ a fp, v = .tuple #[.pointer a, .int .i64 (if (dY x).isSome then 0 else 1)] ∧ HR w' a fp (dY x) ∧ (dY x = none → a = none) ∧ (∀ y, y ∈ fp → w.heap.size ≤ y) ∧ ad [] w w' := by
  refine en [2,8,11,1,1,1,7,1,1,16,1,19,22,23,28,29,0,22,19,23,28,29,0,19,1,16,22,23,28,29,0,22,16,23,28,29,0,22,1,16,19,23,28,29,0,19,16,23,28,29,0,16,1,1,7,1,19,22,23,28,29,0,22,19,23,28,29,0,19,1,7,22,23,28,29,0,22,7,23,28,29,0,22,1,7,19,23,28,29,0,19,7,23,28,29,0,19,1,1,7,1,16,22,23,28,29,0,22,16,23,28,29,0,16,1,7,22,23,28,29,0,22,7,23,28,29,0,22,1,7,16,23,28,29,0,16,7,23,28,29,0,22,1,1,7,1,16,19,23,28,29,0,19,16,23,28,29,0,16,1,7,19,23,28,29,0,19,7,23,28,29,0,19,1,7,16,23,28,29,0,16,7,23,28,29,0] ?_;have N : ¬ (2 ≤ x ∧ x ≤ 64) → ∃ a fp, Value.tuple #[.pointer none, .int .i64 1] = .tuple #[.pointer a, .int .i64 (if (dY x).isSome then 0 else 1)] ∧ HR w a fp (dY x) ∧ (dY x = none → a = none) ∧ (∀ y, y ∈ fp → w.heap.size ≤ y) ∧ ad [] w w := fun h => by
    have : dY x = none := if_neg h;rw [this];exact ⟨none, [], rfl, .inl ⟨rfl, rfl⟩, fun _ => rfl, by simp, ad.refl _ _⟩
  by_cases c1 : x < 2
  · refine aQ (bc c1) ?_;exact N (by omega)
  by_cases c2 : 64 < x
  · refine bj (bt c1) (bc c2) ?_;exact N (by omega)
  obtain ⟨n, rfl⟩ : ∃ n : Nat, x = n := ⟨x.toNat, by omega⟩;have e1 : IntKind.i64.wrap ((n : Int) * 64) = ((64 * n : Nat) : Int) := by rw [show (n : Int) * 64 = ((64 * n : Nat) : Int) by omega]; exact bg _ (by omega)
  have H : dY (n : Int) = some ⟨List.replicate n (0, 0), List.replicate (64 * n) 0, List.replicate (32 * n) 0, List.replicate (32 * n) 0, [], [], 0⟩ := by
    unfold dY; rw [if_pos (by omega)]; simp only [cf]
  have Io := tB H;refine bj (bt c1) (bt c2) ?_;refine fB (4 :: 11 :: 12 :: 13 :: 14 :: 15 :: 16 :: 17 :: 18 :: 19 :: []) (fun ρ w' => ∃ t u C D b, ρ 4 = .pointer (some ⟨b, 0, none⟩) ∧ At w' b [.slice (some ⟨t, 0, none⟩) n n, .slice (some ⟨u, 0, none⟩) (64 * n) (64 * n), .pointer none, .pointer none, .map (some C), .map (some D), .int .i64 0] ∧
      At w' t (eP [Value.int .i64 0, Value.int .i64 0] n) ∧ At w' u (eP [Value.int .i64 0] (64 * n)) ∧ bP w' C [] ∧ bP w' D [] ∧ (b ≠ t ∧ b ≠ u ∧ b ≠ C ∧ b ≠ D ∧ t ≠ u ∧ t ≠ C ∧ t ≠ D ∧ u ≠ C ∧ u ≠ D ∧ C ≠ D) ∧ (w.heap.size ≤ b ∧ w.heap.size ≤ t ∧ w.heap.size ≤ u ∧ w.heap.size ≤ C ∧ w.heap.size ≤ D) ∧ ad [] w w') (fun kk Du => ?_) (fun g w1 hJ => ?_)
  · refine bk [] ?_;have l : ad [] w w.drew := ad.drew [] w;have HN : w.drew.heap.size = w.heap.size := rfl
    repeat' (first
      | refine And.intro ?_ ?_
      | (refine uL (n := n) (m := n) (Nat.le_refl _) (by omega) (by omega) fun t w' OB hs o j => ⟨.inl rfl, ?_⟩
         try (have q := q.aa j)
         try (have E := E.aa j)
         try (have F := F.aa j)
         have l := l.nil j;clear j)
      | (refine uL (n := 64 * n) (m := 64 * n) (Nat.le_refl _) (by omega) (by omega) fun u w' OC hs q j => ⟨.inl rfl, ?_⟩
         try (have o := o.aa j)
         try (have E := E.aa j)
         try (have F := F.aa j)
         have l := l.nil j;clear j)
      | (refine x' (d := some 16) fun b6 w' OD hs E j => ⟨.inl rfl, ?_⟩
         try (have o := o.aa j)
         try (have q := q.aa j)
         try (have F := F.aa j)
         have l := l.nil j;clear j)
      | (refine x' (d := some 17) fun b7 w' OE hs F j => ⟨.inl rfl, ?_⟩
         try (have o := o.aa j)
         try (have q := q.aa j)
         try (have E := E.aa j)
         have l := l.nil j;clear j)
      | (refine C' fun b w' K5 hs O j => ⟨.inl rfl, ?_⟩
         have o := o.aa j;have q := q.aa j;have E := E.aa j;have F := F.aa j;have l := l.nil j;clear j;simp only [go_sem];refine Du _ _ ⟨t, u, b6, b7, b, ?_, O, o, q, E, F, ⟨?_, ?_, ?_, ?_, ?_, ?_, ?_, ?_, ?_, ?_⟩, ⟨?_, ?_, ?_, ?_, ?_⟩, l⟩
         · simp only [go_sem]
         all_goals omega)
      | rw [ai rfl rfl, ai rfl rfl, ai rfl rfl, ai rfl rfl]
      | simp only [go_sem, e1])
  obtain ⟨t, u, C, D, b, P, O, o, q, hl, hf, ⟨x1, x2, x3, x4, x5, x6, x7, x8, x9, MC⟩, ⟨y1, y2, y3, y4, y5⟩, l⟩ := hJ;rw [ya] at o;rw [gy, yb] at q;have D8 := l.size;have hm : lV ((32 * n : Nat) : Int) 1 = some (1, List.replicate (32 * n) 0) := by
    unfold lV;rw [if_pos ⟨by omega, by omega, rfl⟩]; simp only [cf]; rfl
  have e2 : IntKind.i64.wrap (((64 * n : Nat) : Int).tdiv 2) = ((32 * n : Nat) : Int) := by rw [oD _ (by omega)]; omega
  refine db P O.cell e2 ?_;refine ak (oi w1 ((32 * n : Nat) : Int) 1) ?_;rintro r w2 ⟨a2, S2, rfl, Q, I⟩;rw [hm] at Q ⊢;obtain ⟨⟨L, M, rfl, rfl, R⟩, _, S⟩ := Q;have JJ := S L (by simp);have OF := S M (by simp);have OG := O.lt;have OH := o.lt;have OI := q.lt;have Gp := hl.lt;have OJ := hf.lt;refine aQ P ?_;refine nt (O.aa I) (by simp) rfl fun w3 OK J U => ?_;simp only [List.set_cons_zero, List.set_cons_succ] at J;have V := R.ae U (aW (show L ≠ b by omega)) (aW (show M ≠ b by omega));have W := (gI.mk V).lt;have MD := W L (by simp);have ME := W M (by simp);refine db P J.cell e2 ?_;refine ak (oi w3 ((32 * n : Nat) : Int) 1) ?_;rintro r w4 ⟨a4, S4, rfl, X, G⟩;rw [hm] at X ⊢;obtain ⟨⟨pb, pg, rfl, rfl, Y⟩, _, Z⟩ := X;have OL := Z pb (by simp);have OM := Z pg (by simp);have GX := I.size;have Ms := G.size;have Iw : L ≠ M := by obtain ⟨_, _, _, _, _, _, h⟩ := R.mem; exact h
  have Ix : pb ≠ pg := by obtain ⟨_, _, _, _, _, _, h⟩ := Y.mem; exact h
  refine aQ P ?_;refine nt (J.aa G) (by simp) rfl fun w5 MF Ex K => ?_;simp only [List.set_cons_zero, List.set_cons_succ] at Ex;refine aQ P ?_;have B : ad [b] w1 w5 := ((I.of_nil (T := [b])).same U).same ((G.of_nil (T := [b])).same K);rw [H];have hlen : ∀ (k : Nat) (z : Int), (List.replicate k z).length = k := fun _ _ => List.length_replicate;refine ⟨some ⟨b, 0, none⟩, _, rfl, ⟨b, rfl, t, u, n, 64 * n, [], [], L, M, pb, pg, C, D, rfl, ⟨Io, ?_, ?_, ?_, by simp, by simp, ?_, ?_, (hl.ae B (aW (Ne.symm x3))), (hf.ae B (aW (Ne.symm x4))), ?_⟩⟩, by simp, ?_, l.trans B fun z hz => by simp only [bp] at hz; subst hz; exact .inr y1⟩
  · simpa using Ex
  · simpa using o.ae B (aW (Ne.symm x1))
  · simpa using q.ae B (aW (Ne.symm x2))
  · have := (V.ae G (by simp) (by simp)).ae K (aW (show L ≠ b by omega)) (aW (show M ≠ b by omega));simpa using this
  · have := Y.ae K (aW (show pb ≠ b by omega)) (aW (show pg ≠ b by omega));simpa using this
  · simp only [List.nodup_cons, List.mem_cons, List.not_mem_nil, or_false, not_or, List.nodup_nil, not_false_eq_true, and_true];refine ⟨⟨x1, x2, ?_, ?_, ?_, ?_, x3, x4⟩, ⟨x5, ?_, ?_, ?_, ?_, x6, x7⟩, ⟨?_, ?_, ?_, ?_, x8, x9⟩, ⟨Iw, ?_, ?_, ?_, ?_⟩, ⟨?_, ?_, ?_, ?_⟩, ⟨Ix, ?_, ?_⟩, ⟨?_, ?_⟩, MC⟩
    all_goals omega
  · intro y hy;simp only [List.mem_cons, List.not_mem_nil, or_false] at hy;omega
section
set_option maxRecDepth 8000
variable {fp:List Nat} {xs:List Value} {n sz:Nat} {v:Value} {w w':World}
theorem aG (xs:List Int):(ints xs).length=xs.length:=by simp[ints]
theorem cH (xs ys:List Int):ints (xs++ys)=ints xs++ints ys:=by simp[ints]
theorem lU {xs:List Int}: ∀u,u∈ints xs→bu u=true:=by
 intro u b;simp only[ints,List.mem_map]at b;obtain⟨x,_,rfl⟩:=b;rfl
theorem u4 (a:Addr) (i:Nat):(a.add i).block=a.block:=by unfold Addr.add;split<;>rfl
theorem Sl.pe (w:World):Sl w 1 (.slice none 0 0) 0 [] []:=⟨rfl,.inl ⟨rfl,rfl,rfl⟩⟩
theorem Sl.pos (h:Sl w 1 v n xs fp) (l:0<n): ∃g cap ys,v=.slice (some ⟨g,0,none⟩) n cap∧At w g (xs++ys)∧fp=[g]∧n≤cap:=by
 rcases h.2 with⟨_,m,_⟩|⟨g,cap,ys,T,b,d,j,o,k⟩
 ·omega
 ·exact⟨g,cap,ys,b,⟨T,j⟩,d,k⟩
theorem Sl.AN {g cap:Nat} {ys:List Value} (h:At w g (xs++ys)) (d:xs.length=n) (b:(xs++ys).length=cap):Sl w 1 (.slice (some ⟨g,0,none⟩) n cap) n xs [g]:=by
 obtain⟨T,h⟩:=h;refine⟨by simpa using d,.inr ⟨g,cap,ys,T,rfl,rfl,h,by simpa using b,?_⟩⟩;simp at b;omega
theorem Sl.ae {S:List Nat} (h:Sl w sz v n xs fp) (k:ad S w w') (j: ∀x,x∈fp→x∉S):Sl w' sz v n xs fp:=by
 refine⟨h.1,?_⟩;rcases h.2 with b|⟨g,cap,ys,T,b,l,d,m⟩
 ·exact .inl b
 ·subst l;exact .inr ⟨g,cap,ys,T,b,rfl,by rw[k.block g (Array.getElem?_eq_some_iff.1 d).1 (j g (by simp))];exact d,m⟩
theorem Sl.aa (h:Sl w sz v n xs fp) (k:ad [] w w'):Sl w' sz v n xs fp:=h.ae k (by simp)
theorem Sl.lt (h:Sl w sz v n xs fp): ∀x,x∈fp→x<w.heap.size:=by
 rcases h.2 with⟨_,_,d⟩|⟨g,cap,ys,T,d,j,k,l⟩
 ·subst d;intro x b;cases b
 ·subst j;intro x b;simp only[bp]at b;subst b;exact(Array.getElem?_eq_some_iff.1 k).1
theorem Sl.val (h:Sl w sz v n xs fp): ∃(a:Option Addr) (cap:Nat),v=.slice a n cap:=by
 rcases h.2 with⟨b,d,_⟩|⟨g,cap,ys,T,b,d,j,k⟩
 ·subst d;exact⟨none,0,b⟩
 ·exact⟨_,_,b⟩
theorem Sl.nodup (h:Sl w sz v n xs fp):fp.Nodup:=by
 rcases h.2 with⟨_,_,b⟩|⟨g,cap,ys,T,b,d,j,k⟩
 ·subst b;simp
 ·subst d;simp
theorem bO.at {q m c:Nat} {us:List Value} (h:At w q us) (b:us.length=m*sz):bO w sz (.slice (some ⟨q,0,none⟩) m c) m us:=
 ⟨b,.inr ⟨_,c,rfl,by rw[ax h 0 _ (by omega)];simp[←b]⟩⟩
theorem Sl.src (h:Sl w 1 v n xs fp):bO w 1 v n xs:=by
 refine⟨h.1,?_⟩;rcases h.2 with⟨b,d,_⟩|⟨g,cap,ys,T,b,d,j,l⟩
 ·exact .inl ⟨0,b,d⟩
 ·refine .inr ⟨_,cap,b,?_⟩;have k:=h.1;rw[ax (vs:=xs++ys) ⟨T,j⟩ 0 _ (by simp;omega)];simp[←k]
theorem AO {a:Addr} (h:w.cell? a=some v):a.block<w.heap.size:=World.block_lt_of_cell? w a h
def F5 (w:World) (D:List Nat) (v:Value) (xs:List Int):Prop:= ∃(a:Option Addr) (cap:Nat),v=.slice a xs.length cap∧ ∀i,i<xs.length→ ∃p,a=some p∧p.block∈D∧w.cell? (p.add i)=some (.int .i64 (xs.getD i 0))
theorem Sl.rd {xs:List Int} (h:Sl w 1 v n (ints xs) fp):F5 w fp v xs:=by
 have m:xs.length=n:=by have:=h.1;rw[aG]at this;omega
 subst m;rcases h.2 with⟨b,d,k⟩|⟨g,cap,ys,T,b,d,k,o⟩
 ·exact⟨none,0,by rw[b,d],fun i l=>by omega⟩
 ·refine⟨_,cap,b,fun i l=>⟨_,rfl,by rw[d];simp,?_⟩⟩;have j:At w g (ints xs++ys):=⟨T,k⟩;rw[bX,Nat.zero_add,j.cell];exact aC ys l
end
section
open Go.Shelf
end
set_option maxRecDepth 8000
theorem Sl.nS {w:World} {sz:Nat} {v:Value} {n:Nat} {xs:List Value} {fp:List Nat} (h:Sl w sz v n xs fp):bu v=true:=by
 obtain⟨a,c,rfl⟩:=h.val;rfl
section
set_option maxRecDepth 8000
variable {xs:List Int} {D fp:List Nat} {us:List Value} {m sz:Nat} {a:Option Addr} {v:Value} {w:World}
theorem da {i:Nat} {y:Int} (h:i<xs.length):(xs.take (i+1)).contains y=((xs.take i).contains y||decide (y=xs.getD i 0)):=by
 have e:xs.take (i+1)=xs.take i++[xs.getD i 0]:=by rw[List.take_succ_eq_append_getElem h];simp[h]
 rw[e,Bool.eq_iff_iff];simp
theorem pT (h : F5 w D v xs) (B : xs.length ≤ 100000) (y : Int) : Cs Tryz.prog 330 [v, .int .i64 y] w fun r w' => (∃ k : Int, r = .int .i64 k ∧ decide (0 ≤ k) = xs.contains y) ∧ w' = w := by
  refine en [] ?_;obtain ⟨a, cap, rfl, o⟩ := h;refine gO ?_;refine aE (4 :: 5 :: 6 :: 7 :: 8 :: 9 :: 10 :: 11 :: 12 :: 13 :: 14 :: 15 :: 16 :: 17 :: 18 :: []) (fun g w' => ∃ i : Nat, g 8 = .int .i64 i ∧ g 7 = .int .i64 xs.length ∧ i ≤ xs.length ∧ (xs.take i).contains y = false ∧ w' = w) (fun g _ => bU xs.length 8 g) ⟨0, by simp only [go_sem]; rfl, by simp only [go_sem], by omega, by simp, rfl⟩ fun g w' z d => ?_;obtain ⟨i, l, m, C, j, rfl⟩ := z;refine bj l m ?_;refine cD (fun b => ?_) (fun q => ?_)
  · have b : i < xs.length := by simpa using b
    obtain ⟨p, rfl, _, t⟩ := o i b;have u : (0 : Int) ≤ (i : Int) ∧ (i : Int) < (xs.length : Int) := ⟨by omega, by omega⟩;by_cases e : y = xs.getD i 0
    · refine nX l m (eq_true u) @Int.toNat_natCast @Nat.mul_one t (fx e) ?_;refine ⟨i, rfl, ?_⟩;have : xs.contains y = true := by
        rw [List.contains_iff_mem, e, List.getD_eq_getElem?_getD, List.getElem?_eq_getElem b]; simp
      rw [this]; simp
    · refine vS l m (eq_true u) @Int.toNat_natCast @Nat.mul_one t (fj e) (au i (by omega)) ?_;refine d _ w' ⟨i + 1, ?_, ?_, by omega, by rw [da b, j]; simpa using e, rfl⟩ ?_
      · simp only [go_sem]
      · simp only [go_sem, m]
      · exact aZ l
  · have : i = xs.length := by have : ¬ (i < xs.length) := by simpa using q
                               omega
    subst this;refine gO ?_;refine ⟨-1, rfl, ?_⟩;rw [List.take_length] at j;rw [j]; rfl
theorem gG (h:F5 w D v xs) (b:xs.length≤100000) (y:Int):Cs Tryz.prog 226 [v,.int .i64 y] w fun r w'=>r=.bool (xs.contains y)∧w'=w:=by
 refine en [] ?_;refine gO ?_;refine ak (pT h b y) ?_;rintro r w' ⟨⟨k,rfl,d⟩,rfl⟩;(repeat(first|with_reducible(first|refine nx ?_|refine ch rfl ?_)|simp only[go_sem,d]))
theorem bO.aa {w':World} (h:bO w sz v m us) (k:ad [] w w'):bO w' sz v m us:=by
 refine⟨h.1,?_⟩;rcases h.2 with j|⟨p,c,j,d⟩
 ·exact .inl j
 ·refine .inr ⟨p,c,j,?_⟩;rcases Nat.eq_zero_or_pos (m*sz)with l|l
  ·rw[l]at d⊢;exact d
  ·have:=(gJ d).2 0 l;obtain⟨u,o⟩: ∃u,us[0]? =some u:=⟨us[0]'(by have:=h.1;omega),List.getElem?_eq_getElem _⟩;rw[o]at this;have b:=AO this;rw[u4]at b;rw[jV (k.block p.block b (by simp))];exact d
theorem bO.val (h:bO w sz v m us): ∃(a:Option Addr) (c:Nat),v=.slice a m c∧(a=none→m=0):=by
 rcases h.2 with⟨c,b,d⟩|⟨p,c,b,d⟩
 ·subst d;exact⟨none,c,b,fun _=>rfl⟩
 ·exact⟨some p,c,b,fun h=>by cases h⟩
theorem BJ (h:bO w 1 v m us) (y: ∀u,u∈us→bu u=true) (C:m≤100000):Cs Tryz.prog 113 [v] w fun r w'=>ad [] w w'∧ ∃fp,Sl w' 1 r m us fp∧ ∀x,x∈fp→w.heap.size≤x:=by
 refine en [] ?_;obtain⟨a,c,rfl,z⟩:=h.val;cases a with
 |none=>
  have:m=0:=z rfl;subst this;have:us=[]:=List.eq_nil_of_length_eq_zero (by simpa using h.1);subst this;refine gO ?_;exact⟨ad.refl _ _,[],Sl.pe w,by simp⟩
 |some p=>
  refine gO ?_;refine jc fun q D E B b d=>?_;refine gO ?_;refine nu (n:=0) (xs:=[]) (fp:=[q]) (m:=m) (us:=us) ?_ (h.aa d) y (by omega) (by omega) ?_
  ·have:([]:List Value)++[]=[]:=rfl;exact Sl.AN (ys:=[]) b rfl rfl
  intro F G k l o t _;refine gO ?_;refine⟨d.trans t fun x j=>.inr ?_,k,by simpa using l,?_⟩
  ·simp only[bp]at j;omega
  ·intro x j;rcases o with rfl|rfl
   ·simp only[bp]at j;omega
   ·simp only[bp]at j;omega
def gD (m:HO) (x:Int):List Int:=(List.range (aU m x).1.1.toNat).map fun(i:Nat)=>(ic m x (i:Int)).1
theorem sE {m:HO} (b: ∀s,m=some s→s.Ok) (x:Int):0≤(aU m x).1.1∧(aU m x).1.1≤15:=by
 match m,b with
 |none,_=>exact⟨by simp[aU],by simp[aU]⟩
 |some s,b=>
  unfold aU;by_cases j:b' (some s) x=0
  ·simp only[j,if_true];have l:bw (some s) x=true:=by
    cases l:bw (some s) x with
    |true=>rfl
    |false=>simp[b',l]at j
   obtain⟨i,rfl,o⟩:=iH (b s rfl) l;obtain⟨_,_,r,d,k,q,_,_,_,_,t⟩:=(b s rfl).start o;have:s.cu ((2*i:Nat):Int)=((r:Int),(d:Int),(k:Int)):=by unfold HL.cu;rw[cf];exact t
   rw[this];simp only[aM,Bool.and_eq_true,decide_eq_true_eq]at q;simp only;omega
  ·simp only[j,if_false];omega
theorem HR.ok {m:HO} (h:HR w a fp m): ∀s,m=some s→s.Ok:=by
 rintro s rfl;obtain⟨b,_,j,k,l,cW,yB,yW,o,q,r,t,u,y,_,d⟩:=h;exact d.ok
theorem A7 {m : HO} (h : HR w a fp m) (x : Int) (Q : x ≤ 4611686018427387904) : Cs Tryz.prog 297 [.pointer a, .int .i64 x] w fun v w' => ad [] w w' ∧ ∃ R, Sl w' 1 v (gD m x).length (ints (gD m x)) R ∧ ∀ y, y ∈ R → w.heap.size ≤ y := by
  refine en [] ?_;refine gO ?_;refine aH (pQ h x Q) fun w1 z => ?_;obtain ⟨V, S⟩ := sE h.ok x;have o : (gD m x).length = (aU m x).1.1.toNat := by simp [gD]
  generalize W : (aU m x).1 = sh at *;refine gO ?_;refine bm fun q w2 hq X B H => ?_;refine gO ?_;refine dR (cs := c8 sh) B rfl (by simp) (fH _) fun Y Z b I => ?_;rw [fI] at b;have D8 := z.size;have T : ad [] w Y := (z.nil H).trans I fun y d => by simp only [bp] at d; subst d; exact .inr (by omega)
  have J := b.cell 0;simp only [c8, List.getElem?_cons_zero] at J;obtain ⟨n, U⟩ : ∃ n : Nat, sh.1 = n := ⟨sh.1.toNat, by omega⟩;rw [U] at J o;simp only [cf] at o;refine aQ J ?_;refine FB (n := 0) (m := n) (by omega) (by omega) (by omega) fun g w4 hg tR l C => ?_;rw [gy] at l;have c4 : w4.cell? ⟨q, 0, none⟩ = some (.int .i64 n) := by rw [(b.aa C).cell]; simp [c8, U]
  have o4 := T.nil C;refine aQ c4 ?_;refine aE (7 :: 8 :: 9 :: 10 :: 22 :: 23 :: 24 :: 25 :: 26 :: 27 :: 28 :: 29 :: 30 :: 31 :: 32 :: 33 :: 34 :: 35 :: 36 :: []) (fun D w' => ∃ (i : Nat) (v : Value) (f : List Nat), D 22 = .int .i64 i ∧ D 7 = v ∧ i ≤ n ∧ Sl w' 1 v i (ints ((gD m x).take i)) f ∧ (∀ y, y ∈ f → w.heap.size ≤ y) ∧ ad [] w w') (fun D _ => bU n 22 D)
    ⟨0, .slice (some ⟨g, 0, none⟩) 0 n, [g], by simp only [go_sem]; rfl, by simp only [go_sem], by omega, Sl.AN (ys := List.replicate n (.int .i64 0)) l rfl (by simp [ints]), fun y d => by have := T.size; simp only [bp] at d; omega, o4⟩ fun D w5 hI r => ?_
  obtain ⟨i, v, f, j, K, hi, t, L, k⟩ := hI;refine aQ j ?_;refine cD (fun E => ?_) (fun M => ?_)
  · have E : i < n := by simpa using E
    refine aQ j ?_;refine aH (vQ (h.aa k) x (i : Int) Q) fun w6 u => ?_;refine aQ K ?_;rw [ai rfl rfl];refine gO ?_;refine jc fun q7 w7 BU Bb F G => ?_;refine aQ K ?_;refine nu ((t.aa u).aa G) (bO.at F rfl) (by simp [bu]) (by omega) (by omega) ?_;intro v8 w8 f8 N O P _;have MF := k.size;have MG := u.size;have e1 : (gD m x).take (i + 1) = (gD m x).take i ++ [(ic m x (i : Int)).1] := by
      rw [List.take_succ_eq_append_getElem (by omega)];simp [gD]
    refine bj j (au i (by omega)) ?_;refine r _ w8 ⟨i + 1, v8, f8, ?_, ?_, by omega, by rw [e1, cH]; exact N, ?_, ((k.nil u).nil G).trans P fun y d => .inr (L y d)⟩ ?_
    · simp only [go_sem]
    · simp only [go_sem]
    · intro y d;rcases O with rfl | rfl
      · exact L y d
      · simp only [bp] at d; omega
    · exact aZ j
  · have : i = n := by have : ¬ (i < n) := by simpa using M
                       omega
    subst this;refine aQ K ?_;refine ⟨k, f, ?_, L⟩;rw [o];rw [List.take_of_length_le (by omega)] at t;exact t
end
namespace Rt
set_option maxRecDepth 8000
theorem j' {xs:List Int} {i:Nat} (rest:List Value) (h:i<xs.length):(ints xs++rest)[i]? =some (.int .i64 (xs.getD i 0)):=aC rest h
theorem iI (n:Nat):ints (List.replicate n 0)=List.replicate n (.int .i64 0):=by simp[ints]
structure MS where
 M:Nat
 S:List Int
 G:List Int
 Q:List Int
structure MS.Ok (s:MS):Prop where
 m1:1≤s.M
 m4:s.M≤4
 ls:s.S.length=16*s.M
 lg:s.G.length=16
 lq:s.Q.length≤64
abbrev PT:=Int×Int×Int
def sF (p:PT):List Value:=[.int .i64 p.1,.int .i64 p.2.1,.int .i64 p.2.2]
theorem yc (p:PT):sF p=[.int .i64 p.1,.int .i64 p.2.1,.int .i64 p.2.2]:=Eq.trans rfl rfl
def lH (s:MS) (p:PT):Option (Nat×Nat):=
 if p.1=0∧0≤p.2.1∧p.2.1<s.M then(if 0≤p.2.2∧p.2.2<16 then some (0,(16*p.2.1+p.2.2).toNat)else none)
 else if p.1=1∧p.2.1=0 then(if 0≤p.2.2∧p.2.2<16 then some (1,p.2.2.toNat)else none)
 else if p.1=2∧p.2.1=0 then(if 0≤p.2.2∧p.2.2<s.Q.length then some (2,p.2.2.toNat)else none)
 else none
def MS.rd (s:MS):Nat×Nat→Int
 |(0,i)=>s.S.getD i 0
 |(1,i)=>s.G.getD i 0
 |(_,i)=>s.Q.getD i 0
def MS.wr (s:MS) (x:Nat×Nat) (a:Int):MS:=match x with
 |(0,i)=> {s with S:=s.S.set i a}
 |(1,i)=> {s with G:=s.G.set i a}
 |(_,i)=> {s with Q:=s.Q.set i a}
theorem MS.Ok.wr {s:MS} (h:s.Ok) (x:Nat×Nat) (a:Int):(s.wr x a).Ok:=by
 obtain⟨b,d,j,k,l⟩:=h;unfold MS.wr;split<;>exact⟨b,d,by simpa using j,by simpa using k,by simpa using l⟩
abbrev MO:=Option MS
def MH (m:MO) (p:PT):Int×Int:=match m with
 |none=>(0,5)
 |some s=>(match lH s p with|none=>(0,1)|some x=>(s.rd x,0))
def ra (p:PT) (a:Int):Bool:=decide (a<0)||(decide (a=0)&&decide (p.1=2))
def jd (m:MO) (p:PT) (a:Int):Int×MO:=match m with
 |none=>(5,none)
 |some s=>(match lH s p with|none=>(1,some s)|some x=>(if ra p a then(1,some s)else(0,some (s.wr x a))))
def hE (n:Int):MO:=if 1≤n∧n≤4 then some ⟨n.toNat,List.replicate (16*n.toNat) 0,List.replicate 16 0,[]⟩else none
theorem te {n:Int} {s:MS} (h:hE n=some s):s.Ok:=by
 unfold hE at h;split at h
 ·rename_i b;cases h;exact⟨by show 1≤n.toNat;omega,by show n.toNat≤4;omega,by simp,by simp,by simp⟩
 ·cases h
def MS.V (s:MS):List Int:=s.S++s.G++s.Q
def yd (s:MS):List PT:=((List.range (16*s.M)).map fun j=>((0:Int),((j/16:Nat):Int),((j%16:Nat):Int)))++((List.range 16).map fun j=>((1:Int),(0:Int),((j:Nat):Int)))++((List.range s.Q.length).map fun j=>((2:Int),(0:Int),((j:Nat):Int)))
def zq:MO→Int|none=>0|some s=>(s.M:Int)
def filled (s:MS):List (PT×Int):=((yd s).zip s.V).filter fun x=>x.2 !=0
def dD (b:List Int) (x:Int):List Int:=if b.contains x then b else b++[x]
def bG:MO→List Int|none=>[]|some s=>((filled s).map (·.2)).foldl dD []
end Rt
section
namespace Rt
variable {S fg fp fq fs:List Nat} {ys:List Value} {m:MO} {s:MS} {b c cap g i n q:Nat} {a:Option Addr} {p:PT} {vg vq vs:Value} {w w':World}
structure rI (w:World) (b:Nat) (s:MS) (vs vg vq:Value) (fs fg fq:List Nat):Prop where
 ok:s.Ok
 nd:(b::(fs++(fg++fq))).Nodup
 hb:At w b [.int .i64 s.M,vs,vg,vq]
 h0:Sl w 1 vs (16*s.M) (ints s.S) fs
 h1:Sl w 1 vg 16 (ints s.G) fg
 h2:Sl w 1 vq s.Q.length (ints s.Q) fq
def PM (w:World) (b:Nat) (s:MS) (fp:List Nat):Prop:= ∃vs vg vq fs fg fq,fp=b::(fs++(fg++fq))∧rI w b s vs vg vq fs fg fq
def PR (w:World) (a:Option Addr) (fp:List Nat) (m:MO):Prop:=match m with
 |some s=> ∃b,a=some ⟨b,0,none⟩∧PM w b s fp
 |none=>(a=none∧fp=[])∨ ∃b,a=some ⟨b,0,none⟩∧fp=[b]∧At w b [.int .i64 0,.slice none 0 0,.slice none 0 0,.slice none 0 0]
theorem rI.ae (h:rI w b s vs vg vq fs fg fq) (k:ad S w w') (j: ∀x,x∈b::(fs++(fg++fq))→x∉S):rI w' b s vs vg vq fs fg fq:=
 ⟨h.ok,h.nd,h.hb.ae k (j b (by simp)),h.h0.ae k fun x d=>j x (by simp[d]),h.h1.ae k fun x d=>j x (by simp[d]),h.h2.ae k fun x d=>j x (by simp[d])⟩
theorem rI.aa (h:rI w b s vs vg vq fs fg fq) (k:ad [] w w'):rI w' b s vs vg vq fs fg fq:=h.ae k fun _ _=>by simp
theorem PM.ae (h:PM w b s fp) (k:ad S w w') (d: ∀x,x∈fp→x∉S):PM w' b s fp:=by
 obtain⟨vs,vg,vq,fs,fg,fq,rfl,h⟩:=h;exact⟨vs,vg,vq,fs,fg,fq,rfl,h.ae k d⟩
theorem PM.lt (h:PM w b s fp): ∀x,x∈fp→x<w.heap.size:=by
 obtain⟨vs,vg,vq,fs,fg,fq,rfl,h⟩:=h;intro x d;simp only[List.mem_cons,List.mem_append]at d;rcases d with rfl|d|d|d
 ·exact h.hb.lt
 ·exact h.h0.lt x d
 ·exact h.h1.lt x d
 ·exact h.h2.lt x d
theorem PR.ae (h:PR w a fp m) (k:ad S w w') (l: ∀x,x∈fp→x∉S):PR w' a fp m:=by
 match m,h with
 |some s,⟨b,d,j⟩=>exact⟨b,d,j.ae k l⟩
 |none,.inl h=>exact .inl h
 |none,.inr ⟨b,d,j,o⟩=>subst j;exact .inr ⟨b,d,rfl,o.ae k (l b (by simp))⟩
theorem PR.aa (h:PR w a fp m) (k:ad [] w w'):PR w' a fp m:=h.ae k fun _ _=>by simp
theorem PR.lt (h:PR w a fp m): ∀x,x∈fp→x<w.heap.size:=by
 match m,h with
 |some s,⟨b,k,j⟩=>exact j.lt
 |none,.inl h=>rw[h.2];intro x d;cases d
 |none,.inr ⟨b,k,j,l⟩=>subst j;intro x d;simp only[bp]at d;subst d;exact l.lt
def fJ (w:World) (b:Nat) (s:MS) (fp:List Nat) (x:Nat×Nat) (d:Addr):Prop:=
 ∃g i xs,d=⟨g,i,none⟩∧At w g xs∧xs[i]? =some (.int .i64 (s.rd x))∧g∈fp∧
  ∀a w',At w' g (xs.set i (.int .i64 a))→ad [g] w w'→PM w' b (s.wr x a) fp
theorem rI.Dv (h:rI w b s vs vg vq [g] fg fq) (q:vs=.slice (some ⟨g,0,none⟩) (16*s.M) cap) (k:At w g (ints s.S++ys)) (r:(ints s.S++ys).length=cap) (o:i<s.S.length):
  fJ w b s (b::([g]++(fg++fq))) (0,i) ⟨g,i,none⟩:=by
 have j:=h.nd;simp only[List.cons_append,List.nil_append,List.nodup_cons,List.mem_cons,List.mem_append,not_or,List.nodup_append]at j;obtain⟨⟨t,z,B⟩,⟨u,y⟩,C⟩:=j;refine⟨g,i,_,rfl,k,j' ys o,by simp,fun a w' d l=>?_⟩;refine⟨vs,vg,vq,[g],fg,fq,rfl,h.ok.wr (0,i) a,h.nd,h.hb.ae l (by simpa using t),?_,h.h1.ae l ?_,h.h2.ae l ?_⟩
 ·rw[ints_set ys o]at d;rw[q];exact Sl.AN d (by rw[aG];have:=h.ok.ls;simp only[MS.wr,List.length_set];omega) (by rw[←r];simp[aG,MS.wr])
 ·intro x m;simp only[bp];rintro rfl;exact u m
 ·intro x m;simp only[bp];rintro rfl;exact y m
theorem rI.Dw (h:rI w b s vs vg vq fs [g] fq) (q:vg=.slice (some ⟨g,0,none⟩) 16 cap) (k:At w g (ints s.G++ys)) (r:(ints s.G++ys).length=cap) (o:i<s.G.length):
  fJ w b s (b::(fs++([g]++fq))) (1,i) ⟨g,i,none⟩:=by
 have j:=h.nd;simp only[List.nodup_cons,List.mem_append,not_or,List.nodup_append,bp,List.cons_append,List.nil_append,List.mem_cons]at j;obtain⟨⟨B,t,C⟩,D,⟨u,y⟩,z⟩:=j;refine⟨g,i,_,rfl,k,j' ys o,by simp,fun a w' d l=>?_⟩;refine⟨vs,vg,vq,fs,[g],fq,rfl,h.ok.wr (1,i) a,h.nd,h.hb.ae l (by simpa using t),h.h0.ae l ?_,?_,h.h2.ae l ?_⟩
 ·intro x m;simp only[bp];rintro rfl;exact z x m x (.inl rfl) rfl
 ·rw[ints_set ys o]at d;rw[q];exact Sl.AN d (by rw[aG];have:=h.ok.lg;simp only[MS.wr,List.length_set];omega) (by rw[←r];simp[aG,MS.wr])
 ·intro x m;simp only[bp];rintro rfl;exact u m
theorem rI.Dx (h:rI w b s vs vg vq fs fg [g]) (q:vq=.slice (some ⟨g,0,none⟩) s.Q.length cap) (k:At w g (ints s.Q++ys)) (r:(ints s.Q++ys).length=cap) (o:i<s.Q.length):
  fJ w b s (b::(fs++(fg++[g]))) (2,i) ⟨g,i,none⟩:=by
 have j:=h.nd;simp only[List.nodup_cons,List.mem_append,not_or,List.nodup_append,bp]at j;obtain⟨⟨B,C,t⟩,D,⟨E,u,y⟩,z⟩:=j;refine⟨g,i,_,rfl,k,j' ys o,by simp,fun a w' d l=>?_⟩;refine⟨vs,vg,vq,fs,fg,[g],rfl,h.ok.wr (2,i) a,h.nd,h.hb.ae l (by simpa using t),h.h0.ae l ?_,h.h1.ae l ?_,?_⟩
 ·intro x m;simp only[bp];rintro rfl;exact z x m x (.inr rfl) rfl
 ·intro x m;simp only[bp];rintro rfl;exact y x m x rfl rfl
 ·rw[ints_set ys o]at d;rw[q];show Sl w' 1 _ (s.Q.set i a).length (ints (s.Q.set i a)) [g];rw[List.length_set];exact Sl.AN d (by rw[aG];simp) (by rw[←r];simp[aG])
theorem mS (w:World):Cs Tryz.prog 112 [.pointer none] w fun v w'=>v=.bool false∧w'=w:=by
 refine en [] ?_;(repeat(first|with_reducible(first|refine nx ?_|refine ch rfl ?_)|simp only[go_sem]))
theorem j4 (b:Nat) (n:Int) (c:List Value) (w:World) (h:At w b (.int .i64 n::c)):Cs Tryz.prog 112 [.pointer (some ⟨b,0,none⟩)] w fun v w'=>v=.bool (decide (0<n))∧w'=w:=by
 refine en [] ?_;(repeat(first|with_reducible(first|refine nx ?_|refine ch rfl ?_)|simp only[go_sem,h.cell]))
theorem kD (h:PR w a fp m):Cs Tryz.prog 112 [.pointer a] w fun v w'=>v=.bool m.isSome∧w'=w:=by
 match m,h with
 |some s,⟨b,d,vs,vg,vq,fs,fg,fq,_,k⟩=>
  subst d;refine(j4 b _ _ w k.hb).mono ?_;rintro v w' ⟨rfl,rfl⟩;have:=k.ok.m1;exact⟨by simp;omega,rfl⟩
 |none,.inl ⟨d,_⟩=>subst d;exact mS w
 |none,.inr ⟨b,d,_,j⟩=>subst d;exact j4 b 0 _ w j
theorem sG {o:Nat} (b:At w q (sF p)) (d:p.2.2=(i:Int)) (m:i<n):Cs Tryz.prog 421 [.slice (some ⟨g,o,none⟩) n c,.pointer (some ⟨q,0,none⟩)] w fun v w'=>v=.pointer (some ⟨g,o+i,none⟩)∧w'=w:=by
 refine en [] ?_;rw[yc]at b;have j: ¬(i:Int)<0:=by omega
 have k: ¬(n:Int)≤(i:Int):=by omega
 have l:(0:Int)≤(i:Int)∧(i:Int)<(n:Int):=⟨by omega,by omega⟩;(repeat(first|with_reducible(first|refine nx ?_|refine ch rfl ?_)|simp only[go_sem,b.cell,d,bt j,bt k,if_pos l,cf,Nat.mul_one]))
theorem pU (b:At w q (sF p)) (k: ¬(0≤p.2.2∧p.2.2<n)):Cs Tryz.prog 421 [.slice a n c,.pointer (some ⟨q,0,none⟩)] w fun v w'=>v=.pointer none∧w'=w:=by
 refine en [] ?_;rw[yc]at b;by_cases d:p.2.2<0
 ·(repeat(first|with_reducible(first|refine nx ?_|refine ch rfl ?_)|simp only[go_sem,b.cell,bc d]))
 ·have j:(n:Int)≤p.2.2:=by omega
  (repeat(first|with_reducible(first|refine nx ?_|refine ch rfl ?_)|simp only[go_sem,b.cell,bt d,bc j]))
theorem Iy (h:PM w b s fp) (p:PT):Cs Tryz.prog 362 [.pointer (some ⟨b,0,none⟩),.agg ⟨sF p⟩] w fun v w'=>ad [] w w'∧
  ∃D,v=.pointer D∧D.isSome=(lH s p).isSome∧ ∀x,lH s p=some x→ ∃d,D=some d∧fJ w' b s fp x d:=by
 refine en [0,2,5,8,11,14,17,20,23,26,29,32,35,38,43,44,0] ?_;refine gO ?_;refine bm fun q G hq qb r O=>?_;obtain⟨vs,vg,vq,fs,fg,fq,rfl,Z⟩:=h;have E:=Z.aa O;have I:=E.hb;have J:=Z.ok;have ON:=J.m1;have JP:=J.m4;have Ji:=J.ls;have OO:=J.lg;obtain⟨k,m,i⟩:=p;have r:At G q (sF (k,m,i)):=r;have K:At G q [.int .i64 k,.int .i64 m,.int .i64 i]:=r;have u: ∀w',ad [] G w'→lH s (k,m,i)=none→ad [] w w'∧ ∃D,(Value.pointer none)=.pointer D∧D.isSome=(lH s (k,m,i)).isSome∧ ∀x,lH s (k,m,i)=some x→ ∃d,D=some d∧fJ w' b s (b::(fs++(fg++fq))) x d:=
  fun w' P e=>⟨O.nil P,none,rfl,by rw[e];rfl,fun x hx=>by rw[e]at hx;cases hx⟩
 have Q: ∀w',ad [] G w'→ ∀x d,lH s (k,m,i)=some x→fJ w' b s (b::(fs++(fg++fq))) x d→ad [] w w'∧ ∃D,(Value.pointer (some d))=.pointer D∧D.isSome=(lH s (k,m,i)).isSome∧ ∀x,lH s (k,m,i)=some x→ ∃d,D=some d∧fJ w' b s (b::(fs++(fg++fq))) x d:=
  fun w' P x d e hp=>⟨O.nil P,some d,rfl,by rw[e];rfl,fun y hy=>by rw[e]at hy;cases hy;exact⟨d,rfl,hp⟩⟩
 by_cases Y:k=0
 ·subst Y;by_cases H:0≤m
  ·by_cases C:m<(s.M:Int)
   ·obtain⟨l,rfl⟩: ∃l:Nat,m=l:=⟨m.toNat,by omega⟩;have e1:IntKind.i64.wrap ((l:Int)*16)=((l*16:Nat):Int):=by rw[show((l:Int)*16)=((l*16:Nat):Int) by omega,bg _ (by omega)]
    have e2:IntKind.i64.wrap ((l:Int)+1)=((l+1:Nat):Int):=au l (by omega);have e3:IntKind.i64.wrap (((l+1:Nat):Int)*16)=(((l+1)*16:Nat):Int):=by rw[show(((l+1:Nat):Int)*16)=(((l+1)*16:Nat):Int) by omega,bg _ (by omega)]
    refine jr K.cell I.cell (fx (rfl:(0:Int)=0)) (bc H) (bc C) ?_;refine bk [q,b] ?_;obtain⟨g,cap,ys,L,B,F,M⟩:=E.h0.pos (by omega);subst F;have t:(ints s.S++ys).length=cap:=by
     rcases E.h0.2 with⟨_,h0,_⟩|⟨g',N,U,T,R,V,z,W,h5⟩
     ·omega
     ·rw[L]at R;cases R;cases V;obtain⟨T',B⟩:=B;rw[B]at z;simp at z;obtain⟨z,_⟩:=z;rw[z];simpa using W
    subst L;(repeat(first|with_reducible(first|refine nx ?_|refine ch rfl ?_)|simp only[go_sem,K.cell,I.cell,e1,e2,e3,Nat.mul_one,pL (show l*16≤(l+1)*16 by omega) (show(l+1)*16≤cap by omega) (show l*16<cap by omega)]));by_cases X:0≤i∧i<16
    ·obtain⟨j,rfl⟩: ∃j:Nat,i=j:=⟨i.toNat,by omega⟩;refine xi (vs:=[.slice (some ⟨g,l*16,none⟩) ((l+1)*16-l*16) (cap-l*16),.pointer (some ⟨q,0,none⟩)]) ?_ (by kernel_rfl) (sG (w:=G.drew.drew) (n:=(l+1)*16-l*16) (i:=j) (p:=(0,(l:Int),(j:Int))) r rfl (by omega)) ?_
     ·rfl
     rintro v w' ⟨rfl,rfl⟩;refine⟨.inr (SB.refl _ _),?_⟩;refine gO ?_;refine Q _ (((ad.drew [] _).nil (ad.drew [] _))) (0,l*16+j) _ ?_ ?_
     ·simp only[lH,H,C,and_self,if_true,X];congr 2;omega
     ·exact(E.aa ((ad.drew [] _).nil (ad.drew [] _))).Dv rfl B t (by omega)
    ·refine xi (vs:=[.slice (some ⟨g,l*16,none⟩) ((l+1)*16-l*16) (cap-l*16),.pointer (some ⟨q,0,none⟩)]) ?_ (by kernel_rfl) (pU (w:=G.drew.drew) (n:=(l+1)*16-l*16) (p:=(0,(l:Int),i)) r (by simp only;omega)) ?_
     ·rfl
     rintro v w' ⟨rfl,rfl⟩;refine⟨.inr (SB.refl _ _),?_⟩;refine gO ?_;exact u _ (((ad.drew [] _).nil (ad.drew [] _))) (by simp only[lH,H,C,and_self,if_true];rw[if_neg X])
   ·refine jr K.cell I.cell (fx (rfl:(0:Int)=0)) (bc H) (bt C) ?_;exact u _ (ad.drew [] _) (by simp[lH,C])
  ·refine jI K.cell I.cell (fx (rfl:(0:Int)=0)) (bt H) ?_;exact u _ (ad.drew [] _) (by simp[lH,H])
 ·by_cases H:k=1
  ·subst H;by_cases C:m=0
   ·subst C;obtain⟨g,cap,ys,L,B,F,M⟩:=E.h1.pos (by omega);subst F;have t:(ints s.G++ys).length=cap:=by
     rcases E.h1.2 with⟨_,h0,_⟩|⟨g',N,U,T,R,V,z,W,h5⟩
     ·omega
     ·rw[L]at R;cases R;cases V;obtain⟨T',B⟩:=B;rw[B]at z;simp at z;obtain⟨z,_⟩:=z;rw[z];simpa using W
    subst L;refine jr K.cell I.cell (fx (rfl:(1:Int)=1)) (fx (rfl:(0:Int)=0)) (fj (show¬(1:Int)=0 by omega)) ?_;by_cases X:0≤i∧i<16
    ·obtain⟨j,rfl⟩: ∃j:Nat,i=j:=⟨i.toNat,by omega⟩;refine di (vs:=[.slice (some ⟨g,0,none⟩) 16 cap,.pointer (some ⟨q,0,none⟩)]) rfl (by kernel_rfl) (sG (w:=G.drew) (o:=0) (n:=16) (i:=j) (p:=(1,0,(j:Int))) r rfl (by omega)) ?_;rintro v w' ⟨rfl,rfl⟩;refine gO ?_;refine Q _ (ad.drew [] _) (1,j) _ ?_ ?_
     ·simp[lH,X]
     ·exact(E.aa (ad.drew [] _)).Dw rfl B t (by omega)
    ·refine di (vs:=[.slice (some ⟨g,0,none⟩) 16 cap,.pointer (some ⟨q,0,none⟩)]) rfl (by kernel_rfl) (pU (w:=G.drew) (n:=16) (p:=(1,0,i)) r (by simp only;omega)) ?_;rintro v w' ⟨rfl,rfl⟩;refine gO ?_;exact u _ (ad.drew [] _) (by simp[lH];omega)
   ·refine kZ K.cell I.cell (fx (rfl:(1:Int)=1)) (fj C) (fj (show¬(1:Int)=0 by omega)) (fj (show¬(1:Int)=2 by omega)) ?_;exact u _ (ad.drew [] _) (by simp[lH,C])
  ·by_cases S:k=2
   ·subst S;by_cases C:m=0
    ·subst C;obtain⟨a',cap,L⟩:=E.h2.val;subst L;refine kZ K.cell I.cell (fx (rfl:(2:Int)=2)) (fx (rfl:(0:Int)=0)) (fj (show¬(2:Int)=0 by omega)) (fj (show¬(2:Int)=1 by omega)) ?_;by_cases X:0≤i∧i<s.Q.length
     ·obtain⟨j,rfl⟩: ∃j:Nat,i=j:=⟨i.toNat,by omega⟩;obtain⟨g,cap,ys,L,B,F,M⟩:=E.h2.pos (by omega);subst F;cases L;have t:(ints s.Q++ys).length=cap:=by
       rcases E.h2.2 with⟨_,h0,_⟩|⟨g',N,U,T,R,V,z,W,h5⟩
       ·omega
       ·cases R;cases V;obtain⟨T',B⟩:=B;rw[B]at z;simp at z;obtain⟨z,_⟩:=z;rw[z];simpa using W
      refine di (vs:=[.slice (some ⟨g,0,none⟩) s.Q.length cap,.pointer (some ⟨q,0,none⟩)]) rfl (by kernel_rfl) (sG (w:=G.drew) (o:=0) (n:=s.Q.length) (i:=j) (p:=(2,0,(j:Int))) r rfl (by omega)) ?_;rintro v w' ⟨rfl,rfl⟩;refine gO ?_;refine Q _ (ad.drew [] _) (2,j) _ ?_ ?_
      ·simp[lH];omega
      ·exact(E.aa (ad.drew [] _)).Dx rfl B t (by omega)
     ·refine di (vs:=[.slice a' s.Q.length cap,.pointer (some ⟨q,0,none⟩)]) rfl (by kernel_rfl) (pU (w:=G.drew) (n:=s.Q.length) (p:=(2,0,i)) r (by simp only;omega)) ?_;rintro v w' ⟨rfl,rfl⟩;refine gO ?_;exact u _ (ad.drew [] _) (by simp[lH];omega)
    ·refine kZ K.cell I.cell (fx (rfl:(2:Int)=2)) (fj C) (fj (show¬(2:Int)=0 by omega)) (fj (show¬(2:Int)=1 by omega)) ?_;exact u _ (ad.drew [] _) (by simp[lH,C])
   ·refine jr K.cell I.cell (fj Y) (fj H) (fj S) ?_;exact u _ (ad.drew [] _) (by simp[lH,Y,H,S])
end Rt
end
section
namespace Rt
set_option maxRecDepth 8000
variable {fp:List Nat} {m:MO} {a:Option Addr} {w:World}
theorem kG {xs:List Value} {i:Nat} {v:Value} (h:xs[i]? =some v):i<xs.length:=(List.getElem?_eq_some_iff.1 h).1
theorem AP (h : PR w a fp m) (p : PT) : Cs Tryz.prog 221 [.pointer a, .agg ⟨sF p⟩] w fun v w' => ad [] w w' ∧
    ((m = none ∧ v = .tuple #[.pointer none, .int .i64 5]) ∨ ∃ s, m = some s ∧ ((lH s p = none ∧ v = .tuple #[.pointer none, .int .i64 1]) ∨
      ∃ x b d, lH s p = some x ∧ a = some ⟨b, 0, none⟩ ∧ v = .tuple #[.pointer (some d), .int .i64 0] ∧ fJ w' b s fp x d)) := by
  refine en [] ?_;refine gO ?_;refine bm fun q t F y l k => ?_;have u := h.aa k;refine gO ?_;refine ao (kD u) ?_
  match m, h, u with
  | none, _, _ =>
    (repeat (first | with_reducible (first | refine nx ?_ | refine ch rfl ?_) | simp only [go_sem, Option.isSome_none]));exact k
  | some s, _, ⟨b, z, B⟩ =>
    subst z;have G : At t q [.int .i64 p.1, .int .i64 p.2.1, .int .i64 p.2.2] := l;have r : aI t ⟨q, 0, none⟩ 3 = some (sF p) := ax l 0 3 (by simp [sF]);(repeat (first | with_reducible (first | refine nx ?_ | refine ch rfl ?_) | simp only [go_sem, Option.isSome_some, r]));refine ak (Iy B p) ?_;rintro v H ⟨o, C, rfl, j, D⟩;cases e : lH s p with
    | none =>
      rw [e] at j;cases C with
      | some d => cases j
      | none =>
        refine gO ?_;exact ⟨k.nil o, .inr ⟨s, rfl, .inl (by first | exact e | exact ⟨e, rfl⟩)⟩⟩
    | some x =>
      obtain ⟨d, rfl, E⟩ := D x e;refine gO ?_;exact ⟨k.nil o, .inr ⟨s, rfl, .inr ⟨x, b, d, e, rfl, rfl, E⟩⟩⟩
theorem lT (h:PR w a fp m) (p:PT) (y:Int):Cs Tryz.prog 56 [.pointer a,.agg ⟨sF p⟩,.int .i64 y] w fun v w'=>v=.int .i64 (jd m p y).1∧PR w' a fp (jd m p y).2∧ad fp w w'∧((jd m p y).1≠0→ad [] w w'):=by
 refine en [] ?_;refine gO ?_;refine bm fun q Q X S o k=>?_;have B:=h.aa k;have M:aI Q ⟨q,0,none⟩ 3=some (sF p):=ax o 0 3 (by simp[sF]);have T:At Q q [.int .i64 p.1,.int .i64 p.2.1,.int .i64 p.2.2]:=o;refine aQ M ?_;refine ak (AP B p) ?_;rintro v U ⟨j,⟨rfl,rfl⟩|⟨s,rfl,⟨e,rfl⟩|⟨x,b,d,e,rfl,rfl,V⟩⟩⟩
 ·refine aQ (gm (show¬(5:Int)=0 by omega)) ?_;exact⟨rfl,B.aa j,(k.nil j).of_nil,fun _=>k.nil j⟩
 ·refine aQ (gm (show¬(1:Int)=0 by omega)) ?_;exact⟨by simp only[jd,e],by simp only[jd,e];exact B.aa j,(k.nil j).of_nil,fun _=>k.nil j⟩
 ·obtain⟨g,i,xs,rfl,C,r,W,D⟩:=V;have t:=T.aa j;have E:ra p y=true→(jd (some s) p y)=(1,some s):=fun F=>by simp only[jd,e,F,if_true]
  have G:ra p y=false→(jd (some s) p y)=(0,some (s.wr x y)):=fun F=>by simp only[jd,e,F,Bool.false_eq_true,if_false]
  have H:ra p y=false→ ∀w',At w' g (xs.set i (.int .i64 y))→ad [g] U w'→(Value.int .i64 0)=.int .i64 (jd (some s) p y).1∧PR w' (some ⟨b,0,none⟩) fp (jd (some s) p y).2∧ad fp w w'∧((jd (some s) p y).1≠0→ad [] w w'):=by
   intro F w' I J;rw[G F];exact⟨rfl,⟨b,rfl,D y w' I J⟩,(k.nil j).of_nil.same (J.mono fun x R=>by simp only[bp]at R;subst R;exact .inl W),fun N=>absurd rfl N⟩
  by_cases u:y<0
  ·refine bj (ep (rfl:(0:Int)=0)) (bc u) ?_;rw[E (by simp[ra,u])];exact⟨rfl,B.aa j,(k.nil j).of_nil,fun _=>k.nil j⟩
  ·by_cases K:y=0
   ·by_cases L:p.1=2
    ·refine jr (ep (rfl:(0:Int)=0)) (bt u) (fx K) (fx L) t.cell ?_;rw[E (by simp[ra,K,L])];exact⟨rfl,B.aa j,(k.nil j).of_nil,fun _=>k.nil j⟩
    ·refine jr (ep (rfl:(0:Int)=0)) (bt u) (fx K) (fj L) t.cell ?_;refine nt C (kG r) rfl fun O P l z=>?_;refine gO ?_;exact H (by simp[ra,u,L]) O l z
   ·refine jI (ep (rfl:(0:Int)=0)) (bt u) (fj K) t.cell ?_;refine nt C (kG r) rfl fun O P l z=>?_;refine gO ?_;exact H (by simp[ra,u,K]) O l z
theorem jv (h:PR w a fp m):Cs Tryz.prog 159 [.pointer a] w fun v w'=>v=.int .i64 (zq m)∧w'=w:=by
 refine en [] ?_;refine gO ?_;refine ao (kD h) ?_
 match m,h with
 |none,_=>
  (repeat(first|with_reducible(first|refine nx ?_|refine ch rfl ?_)|simp only[go_sem,Option.isSome_none]));rfl
 |some s,⟨b,d,vs,k,l,o,q,r,_,j⟩=>
  subst d;(repeat(first|with_reducible(first|refine nx ?_|refine ch rfl ?_)|simp only[go_sem,Option.isSome_some,j.hb.cell]));rfl
end Rt
end
namespace Rt
set_option maxRecDepth 8000
theorem oi (w:World) (n:Int):Cs Tryz.prog 59 [.int .i64 n] w fun v w'=>ad [] w w'∧ ∃a fp,v=.tuple #[.pointer a,.int .i64 (if(hE n).isSome then 0 else 1)]∧PR w' a fp (hE n)∧(hE n=none→a=none)∧ ∀x,x∈fp→w.heap.size≤x:=by
 refine en [2,5,8,1,13,16,17,22,23,26,0,16,13,17,22,23,26,0] ?_;by_cases B:n<1
 ·refine aQ (bc B) ?_;have:hE n=none:=by unfold hE;rw[if_neg (by omega)]
  rw[this];exact⟨ad.refl _ _,none,[],rfl,.inl ⟨rfl,rfl⟩,fun _=>rfl,by simp⟩
 by_cases I:4<n
 ·refine bj (bt B) (bc I) ?_;have:hE n=none:=by unfold hE;rw[if_neg (by omega)]
  rw[this];exact⟨ad.refl _ _,none,[],rfl,.inl ⟨rfl,rfl⟩,fun _=>rfl,by simp⟩
 ·refine bj (bt B) (bt I) ?_;obtain⟨k,rfl⟩: ∃k:Nat,n=k:=⟨n.toNat,by omega⟩;have M:IntKind.i64.wrap ((k:Int)*16)=((16*k:Nat):Int):=by rw[show((k:Int)*16)=((16*k:Nat):Int) by omega,bg _ (by omega)]
  have u:hE (k:Int)=some ⟨k,List.replicate (16*k) 0,List.replicate 16 0,[]⟩:=by
   unfold hE;rw[if_pos (by omega)];simp
  have z: ∀q l o w',ad [] w w'→q<w'.heap.size→At w' q [.int .i64 (k:Int),.slice (some ⟨l,0,none⟩) (16*k) (16*k),.slice (some ⟨o,0,none⟩) 16 16,.slice none 0 0]→At w' l (List.replicate (16*k) (.int .i64 0))→At w' o (List.replicate 16 (.int .i64 0))→
    q≠l→q≠o→l≠o→w.heap.size≤q→w.heap.size≤l→w.heap.size≤o→
    ad [] w w'∧ ∃a fp,Value.tuple #[.pointer (some ⟨q,0,none⟩),.int .i64 0]=.tuple #[.pointer a,.int .i64 (if(hE (k:Int)).isSome then 0 else 1)]∧PR w' a fp (hE (k:Int))∧(hE (k:Int)=none→a=none)∧ ∀x,x∈fp→w.heap.size≤x:=by
   intro q l o w' N _ O J K P Q R X Y Z;rw[u];have S:List.replicate (16*k) (Value.int .i64 0)=ints (List.replicate (16*k) 0)++[]:=by rw[iI];simp
   have T:List.replicate 16 (Value.int .i64 0)=ints (List.replicate 16 0)++[]:=by rw[iI];simp
   rw[S]at J;rw[T]at K;refine⟨N,some ⟨q,0,none⟩,q::([l]++([o]++[])),rfl,⟨q,rfl,_,_,_,[l],[o],[],rfl,⟨te u,by simp[P,Q,R],O,Sl.AN J (by simp[aG]) (by simp[aG]),Sl.AN K (by simp[aG]) (by simp[aG]),Sl.pe _⟩⟩,(fun h=>by cases h),fun x L=>?_⟩;simp only[List.cons_append,List.nil_append,List.mem_cons,List.not_mem_nil,or_false]at L;rcases L with rfl|rfl|rfl<;>assumption
  refine bk [] ?_;refine aQ M ?_;have hd:w.drew.heap.size=w.heap.size:=rfl;refine⟨?_,?_⟩
  ·refine uL (Nat.le_refl _) (by omega) (by omega) fun l U C D b y=>⟨.inl rfl,?_⟩;refine gO ?_;refine uL (n:=16) (m:=16) (Nat.le_refl _) (by omega) (by omega) fun o V E F d r=>⟨.inl rfl,?_⟩;refine gO ?_;rw[ai rfl rfl];refine gO ?_;rw[ai rfl rfl];refine gO ?_;rw[ai rfl rfl];refine gO ?_;rw[ai rfl rfl];refine gO ?_;refine C' fun q G W H t j=>⟨.inl rfl,?_⟩;refine gO ?_;rw[gy]at b d;exact z q l o G (ad.ey ((y.nil r).nil j)) (by omega) t ((b.aa r).aa j) (d.aa j) (by omega) (by omega) (by omega) (by omega) (by omega) (by omega)
  ·refine uL (n:=16) (m:=16) (Nat.le_refl _) (by omega) (by omega) fun o U E D b y=>⟨.inl rfl,?_⟩;refine gO ?_;refine uL (Nat.le_refl _) (by omega) (by omega) fun l V C F d r=>⟨.inl rfl,?_⟩;refine gO ?_;rw[ai rfl rfl];refine gO ?_;rw[ai rfl rfl];refine gO ?_;rw[ai rfl rfl];refine gO ?_;rw[ai rfl rfl];refine gO ?_;refine C' fun q G W H t j=>⟨.inl rfl,?_⟩;refine gO ?_;rw[gy]at b d;exact z q l o G (ad.ey ((y.nil r).nil j)) (by omega) t (d.aa j) ((b.aa r).aa j) (by omega) (by omega) (by omega) (by omega) (by omega) (by omega)
end Rt
section
namespace Rt
variable {f:Int→Int} {L:List Int} {fg fq fs:List Nat} {s:MS} {b i k t x:Nat} {vg vq vs:Value} {w w':World}
def nL (f:Int→Int) (L:List Int) (i:Nat):List Int:=(L.take i).map f++L.drop i
theorem gR (f:Int→Int) (L:List Int) (i:Nat):(nL f L i).length=L.length:=by simp only[nL,gZ,List.length_map,List.length_take,List.length_drop];omega
theorem rh (f:Int→Int) (L:List Int):nL f L 0=L:=by simp[nL]
theorem AQ (f:Int→Int) (L:List Int):nL f L L.length=L.map f:=by simp[nL]
theorem tD (f:Int→Int) (h:i<L.length):(nL f L i).getD i 0=L.getD i 0:=by
 simp only[nL,List.getD_eq_getElem?_getD];rw[List.getElem?_append_right (by simp;omega),List.length_map,List.length_take,Nat.min_eq_left (by omega),Nat.sub_self];simp
theorem tE (f:Int→Int) (h:i<L.length):(nL f L i).set i (f (L.getD i 0))=nL f L (i+1):=by
 have b:((L.take i).map f).length=i:=by simp;omega
 unfold nL;rw[List.set_append_right _ _ (by omega),b,Nat.sub_self,List.drop_eq_getElem_cons h,List.set_cons_zero,List.take_succ_eq_append_getElem h,List.map_append,List.append_assoc];simp[h]
theorem ye (f:Int→Int) (d:f 0=0) (h:i<L.length) (b:L.getD i 0=0):nL f L i=nL f L (i+1):=by
 rw[←tE f h,b,d];apply List.ext_getElem (by simp);intro k j l;rw[List.getElem_set];split
 ·rename_i e;subst e;have:=tD f h;rw[b]at this;simp only[List.getD_eq_getElem?_getD,List.getElem?_eq_getElem j,Option.getD_some]at this;exact this
 ·rfl
def bB (s:MS):Nat→List Int
 |0=>s.S
 |1=>s.G
 |_=>s.Q
def fK {d:Type} (a b c:d):Nat→d
 |0=>a
 |1=>b
 |_=>c
def pl (k i:Nat):PT:=if k=0 then(0,((i/16:Nat):Int),((i%16:Nat):Int))else((k:Int),0,(i:Int))
def fl (k:Nat) (L:List Int):List (PT×Int):=(((List.range L.length).map (pl k)).zip L).filter fun x=>x.2 !=0
theorem Dy (k:Nat):fl k []=[]:=rfl
theorem tF (k:Nat) (h:i<L.length):fl k (L.take (i+1))=fl k (L.take i)++(if L.getD i 0=0 then []else [(pl k i,L.getD i 0)]):=by
 have e:L.take (i+1)=L.take i++[L.getD i 0]:=by rw[List.take_succ_eq_append_getElem h];simp[h]
 have d:(L.take i).length=i:=by simp;omega
 unfold fl;rw[e,gZ,d];simp only[List.length_singleton];rw[List.range_succ,List.map_append,List.zip_append (by simp[d]),List.filter_append];congr 1;by_cases b:L.getD i 0=0
 ·rw[if_pos b];simp only[List.map_cons,List.map_nil,List.zip_cons_cons,List.zip_nil_right];rw[List.filter_cons];simp only[b];rfl
 ·rw[if_neg b];simp only[List.map_cons,List.map_nil,List.zip_cons_cons,List.zip_nil_right];rw[List.filter_cons,if_pos (by simpa using b)];rfl
theorem iX (k:Nat) (L:List Int):(fl k L).length≤L.length:=by
 unfold fl;refine Nat.le_trans (List.length_filter_le _ _) ?_;simp
theorem kS (h:s.Ok):filled s=fl 0 s.S++(fl 1 s.G++fl 2 s.Q):=by
 unfold filled yd MS.V fl;rw[List.zip_append (by simp[h.ls,h.lg]),List.zip_append (by simp[h.ls]),List.filter_append,List.filter_append,List.append_assoc,h.ls,h.lg];congr 1
def yf (s:MS) (k:Nat):List (PT×Int):=(if 0<k then fl 0 s.S else [])++((if 1<k then fl 1 s.G else [])++(if 2<k then fl 2 s.Q else []))
theorem yg (s:MS) (h:k<3):yf s (k+1)=yf s k++fl k (bB s k):=by
 have:k=0∨k=1∨k=2:=by omega
 rcases this with rfl|rfl|rfl<;>simp[yf,bB]
theorem sH (s:MS) (k:Nat):(yf s k).length≤s.S.length+(s.G.length+s.Q.length):=by
 unfold yf;simp only[gZ];refine Nat.add_le_add ?_ (Nat.add_le_add ?_ ?_)
 ·split
  ·exact iX _ _
  ·simp
 ·split
  ·exact iX _ _
  ·simp
 ·split
  ·exact iX _ _
  ·simp
def rJ (f:Int→Int) (s:MS) (k i t:Nat):List Int:=if t<k then(bB s t).map f else if t=k then nL f (bB s t) i else bB s t
theorem u5 (f:Int→Int) (s:MS) (t:Nat):rJ f s 0 0 t=bB s t:=by
 unfold rJ;rw[if_neg (by omega)];split
 ·exact rh _ _
 ·rfl
theorem yh (f:Int→Int) (s:MS) (k t:Nat):rJ f s k (bB s k).length t=rJ f s (k+1) 0 t:=by
 unfold rJ;by_cases b:t<k
 ·rw[if_pos b,if_pos (by omega)]
 ·rw[if_neg b];by_cases d:t=k
  ·subst d;rw[if_pos rfl,if_pos (by omega),AQ]
  ·rw[if_neg d,if_neg (by omega)];split
   ·exact(rh _ _).symm
   ·rfl
def Rows (w:World) (s:MS) (f:Int→Int) (vs vg vq:Value) (fs fg fq:List Nat) (k i:Nat):Prop:=
 ∀t,t<3→Sl w 1 (fK vs vg vq t) (bB s t).length (ints (rJ f s k i t)) (fK fs fg fq t)
theorem rI.rows (h:rI w b s vs vg vq fs fg fq) (f:Int→Int):Rows w s f vs vg vq fs fg fq 0 0:=by
 intro t d;rw[u5];have:t=0∨t=1∨t=2:=by omega
 rcases this with rfl|rfl|rfl
 ·have:=h.h0;rw[←h.ok.ls]at this;exact this
 ·have:=h.h1;rw[←h.ok.lg]at this;exact this
 ·exact h.h2
theorem Rows.aa (h:Rows w s f vs vg vq fs fg fq k i) (b:ad [] w w'):Rows w' s f vs vg vq fs fg fq k i:=fun t d=>(h t d).aa b
theorem oF (h:x∈fK fs fg fq t):x∈fs++(fg++fq):=by
 unfold fK at h;split at h<;>simp[h]
theorem AR {u:Nat} (h:(b::(fs++(fg++fq))).Nodup) (r:t<3) (w:u<3) (d:t≠u) (j:x∈fK fs fg fq t) (k:x∈fK fs fg fq u):False:=by
 simp only[List.nodup_cons,List.mem_append,not_or,List.nodup_append]at h;obtain⟨_,_,⟨_,_,m⟩,l⟩:=h;have o:t=0∨t=1∨t=2:=by omega
 have q:u=0∨u=1∨u=2:=by omega
 rcases o with rfl|rfl|rfl<;>rcases q with rfl|rfl|rfl<;>simp only[fK]at j k
 ·exact d rfl
 ·exact l x j x (.inl k) rfl
 ·exact l x j x (.inr k) rfl
 ·exact l x k x (.inl j) rfl
 ·exact d rfl
 ·exact m x j x k rfl
 ·exact l x k x (.inr j) rfl
 ·exact m x k x j rfl
 ·exact d rfl
theorem Rows.at (h:Rows w s f vs vg vq fs fg fq k i) (l:k<3) (q:i<(bB s k).length):
  ∃g cap ys,fK vs vg vq k=.slice (some ⟨g,0,none⟩) (bB s k).length cap∧fK fs fg fq k=[g]∧At w g (ints (nL f (bB s k) i)++ys)∧(ints (nL f (bB s k) i)++ys).length=cap:=by
 have m:=h k l;rcases m.2 with⟨_,b,_⟩|⟨g,cap,ys,T,b,o,d,j,r⟩
 ·omega
 ·have e:rJ f s k i k=nL f (bB s k) i:=by unfold rJ;rw[if_neg (by omega),if_pos rfl]
  rw[e]at d j;exact⟨g,cap,ys,b,o,⟨T,d⟩,by simpa using j⟩
theorem Rows.step {g cap:Nat} {ys:List Value} (m:(b::(fs++(fg++fq))).Nodup) (h:Rows w s f vs vg vq fs fg fq k i) (D:k<3) (z:i<(bB s k).length)
  (E:fK vs vg vq k=.slice (some ⟨g,0,none⟩) (bB s k).length cap) (d:fK fs fg fq k=[g]) (F:(ints (nL f (bB s k) i)++ys).length=cap)
  (j:At w' g ((ints (nL f (bB s k) i)++ys).set i (.int .i64 (f ((bB s k).getD i 0))))) (G: ∀x,x∈fs++(fg++fq)→x≠g→w'.heap[x]? =w.heap[x]?):Rows w' s f vs vg vq fs fg fq k (i+1):=by
 intro t B;by_cases e:t=k
 ·subst e;rw[ints_set ys (by rw[gR];exact z),tE f z]at j;rw[E,d];have o:rJ f s t (i+1) t=nL f (bB s t) (i+1):=by unfold rJ;rw[if_neg (by omega),if_pos rfl]
  rw[o];refine Sl.AN j (by rw[aG,gR]) ?_;rw[←F];simp[aG,gR]
 ·have C:=h t B;have o:rJ f s k (i+1) t=rJ f s k i t:=by unfold rJ;simp[e]
  rw[o];refine⟨C.1,?_⟩;rcases C.2 with q|⟨r,l,u,T,q,y,H,I⟩
  ·exact .inl q
  ·refine .inr ⟨r,l,u,T,q,y,?_,I⟩;rw[G r (oF (t:=t) (by rw[y];simp)) (fun J=>AR m B D e (x:=r) (by rw[y];simp) (by rw[d,J];simp))];exact H
theorem Rows.skip (h:Rows w s f vs vg vq fs fg fq k i) (b:f 0=0) (d:i<(bB s k).length) (j:(bB s k).getD i 0=0):Rows w s f vs vg vq fs fg fq k (i+1):=by
 intro t l;have e:rJ f s k (i+1) t=rJ f s k i t:=by
  unfold rJ;by_cases e:t=k
  ·subst e;rw[if_neg (by omega),if_pos rfl,if_neg (by omega),if_pos rfl,ye f b d j]
  ·simp[e]
 rw[e];exact h t l
theorem Rows.next (h:Rows w s f vs vg vq fs fg fq k (bB s k).length):Rows w s f vs vg vq fs fg fq (k+1) 0:=by
 intro t b;rw[←yh];exact h t b
theorem Dz (n:Nat) (h:n≤4611686018427387904):IntKind.i64.wrap ((n:Int).tdiv 16)=((n/16:Nat):Int):=by
 rw[Int.tdiv_eq_ediv_of_nonneg (by omega),show((n:Int)/16)=((n/16:Nat):Int) by omega,bg _ (by omega)]
theorem DA (n:Nat):((n:Int).tmod 16)=((n%16:Nat):Int):=by
 rw[Int.tmod_eq_emod_of_nonneg (by omega)];omega
theorem sI (x y z a b c:Value):fS [x,y,z] 0 [a,b,c]=[a,b,c]:=Eq.trans rfl rfl
theorem AS (v:Value):mz 16 v=some v:=Eq.trans rfl rfl
theorem DB {l rb : Nat} (hp : rI w b s vs vg vq fs fg fq) (GN : At w rb [.pointer (some ⟨b, 0, none⟩)]) (f : Int → Int) (MI : f 0 = 0)
    (J : List (PT × Int) → List Nat → World → Prop) (B : List Nat) (hB : ∀ x, x ∈ B → x < w.heap.size) (MJ : J [] [] w) (Y : ∀ pre F G U, J pre F G → ad [] G U → J pre F U)
    (hY : ∀ pre F k i g xs G, k < 3 → i < (bB s k).length → J pre F G → (∀ x, x ∈ F → w.heap.size ≤ x) → pre.length ≤ 300 → w.heap.size ≤ G.heap.size → ad B w G → g ∈ fK fs fg fq k → At G g xs → xs[i]? = some (.int .i64 ((bB s k).getD i 0)) → (bB s k).getD i 0 ≠ 0 →
      Ys Tryz.prog l [.agg ⟨sF (pl k i)⟩, .pointer (some ⟨g, i, none⟩)] G fun r U => r = .bool true ∧ (∃ F', J (pre ++ [(pl k i, (bB s k).getD i 0)]) F' U ∧ ∀ x, x ∈ F' → x ∈ F ∨ G.heap.size ≤ x) ∧ ad (B ++ F) G U ∧ At U g (xs.set i (.int .i64 (f ((bB s k).getD i 0)))) ∧
        ∀ R, R ∈ fs ++ (fg ++ fq) → R ≠ g → U.heap[R]? = G.heap[R]?) :
    Cs Tryz.prog 418 [.func (.yield l) #[] #[], .pointer (some ⟨rb, 0, none⟩)] w fun _ w' => (∃ F, J (filled s) F w' ∧ ∀ x, x ∈ F → w.heap.size ≤ x) ∧ ad B w w' ∧ Rows w' s f vs vg vq fs fg fq 3 0 := by
  refine en [2,5,8,11,14,17,20,23,26,29,32,35,44,40,41,0,2,5,8,11,14,17,20,23,26,29,32,37,38,41,0] ?_;refine gO ?_;refine bk [rb, b] ?_;have H := hp.ok;have D : ∀ k, (bB s k).length ≤ 64 := by
    intro k;have h1 := H.ls; have h2 := H.lg; have h3 := H.lq; have h4 := H.m4;unfold bB; split <;> omega
  refine bj GN.cell hp.hb.cell ?_;have I : ∀ t, t < 3 → bu (fK vs vg vq t) = true := by
    intro t ht;obtain ⟨a, c, e⟩ := (hp.rows f t ht).val;rw [e]; rfl
  have Iz : bu vs = true := I 0 (by omega);have IA : bu vg = true := I 1 (by omega);have IB : bu vq = true := I 2 (by omega);rw [ai Iz rfl];refine gO ?_;rw [ai IA rfl];refine gO ?_;rw [ai IB rfl];refine gO ?_;refine BK fun u G MK qb wg oe => ?_;have hd : w.drew.heap.size = w.heap.size := rfl;have Z : ad [] w G := ad.ey oe;refine ⟨.inr ((SB.refl _ _).only oe (fun x o => by
    simp only [List.mem_cons, List.not_mem_nil, or_false] at o;rcases o with rfl | rfl
    · exact ⟨GN.lt, by simp⟩
    · exact ⟨hp.hb.lt, by simp⟩)), ?_⟩
  refine gO ?_;have IC : w.heap.size ≤ u := by omega
  have F6 : u ∉ B := fun o => by have := hB _ o; omega
  have K : ∀ {t : Nat} {g : Env} {i : Nat}, g t = .int .i64 i → bU 3 t g = 3 - i := fun h => eY h;refine aE (3 :: 4 :: 5 :: 6 :: 21 :: 22 :: 23 :: 24 :: 25 :: 26 :: 27 :: 28 :: 29 :: 30 :: 31 :: 32 :: 33 :: 34 :: 35 :: 36 :: 37 :: 38 :: 39 :: 40 :: 41 :: 42 :: 43 :: 44 :: 45 :: 46 :: 47 :: 48 :: 49 :: 50 :: 51 :: 52 :: 53 :: 54 :: 55 :: 56 :: 57 :: []) (fun g w' => ∃ k : Nat, g 21 = .int .i64 k ∧ k ≤ 3 ∧ (∃ F, J (yf s k) F w' ∧ u ∉ F ∧ ∀ x, x ∈ F → w.heap.size ≤ x) ∧ ad B w w' ∧ Rows w' s f vs vg vq fs fg fq k 0 ∧ At w' u [vs, vg, vq]) (fun g _ => bU 3 21 g)
    ⟨0, by simp only [go_sem]; rfl, by omega, ⟨[], Y _ _ _ _ (by simpa [yf] using MJ) Z, by simp, by simp⟩, Z.of_nil, (hp.rows f).aa Z, wg⟩ fun g U hI qi => ?_
  obtain ⟨k, j, hk, ⟨F0, hJ, ML, V⟩, ho, hR, BI⟩ := hI;have e3 : ((3 : Nat) : Int) = 3 := rfl;refine bj j e3 ?_;refine cD (fun y => ?_) (fun Gz => ?_);rotate_left
  · have : k = 3 := by have : ¬ ((k : Int) < 3) := by simpa using Gz
                       omega
    subst this;refine gO ?_;refine ⟨⟨F0, ?_, V⟩, ho, hR⟩;rw [kS H];simpa [yf] using hJ
  have y : k < 3 := by have : (k : Int) < 3 := by simpa using y
                       omega
  have W : [vs, vg, vq][k]? = some (fK vs vg vq k) := by
    have : k = 0 ∨ k = 1 ∨ k = 2 := by omega
    rcases this with rfl | rfl | rfl <;> rfl
  have c1 : (0 : Int) ≤ (k : Int) ∧ (k : Int) < 3 := ⟨by omega, by omega⟩;obtain ⟨a4, c4, S⟩ := (hR k y).val;have MM := D k;(repeat (first | with_reducible (first | refine DS ?_ | refine DT ?_ | refine DU ?_ | refine DV ?_ | refine ch rfl ?_ | refine FM ?_ | refine FN ?_ | refine FO ?_ | refine FP ?_) | simp only [go_sem, j, e3, if_pos c1, cf, Nat.mul_one, BI.cell, W, S]));refine iV ?_;(repeat (first | with_reducible (first | refine DS ?_ | refine DT ?_ | refine DU ?_ | refine DV ?_ | refine ch rfl ?_ | refine FM ?_ | refine FN ?_ | refine FO ?_ | refine FP ?_) | simp only [go_sem, j, e3, if_pos c1, cf, Nat.mul_one, BI.cell, W, S]));refine iV ?_;refine aE (5 :: 6 :: 28 :: 29 :: 30 :: 31 :: 32 :: 33 :: 34 :: 35 :: 36 :: 37 :: 38 :: 39 :: 40 :: 41 :: 42 :: 43 :: 44 :: 45 :: 46 :: 47 :: 48 :: 49 :: 50 :: 51 :: 52 :: 53 :: 54 :: 55 :: 56 :: []) (fun R w' => ∃ i : Nat, R 28 = .int .i64 i ∧ i ≤ (bB s k).length ∧ (∃ F, J (yf s k ++ fl k ((bB s k).take i)) F w' ∧ u ∉ F ∧ ∀ x, x ∈ F → w.heap.size ≤ x) ∧ ad B w w' ∧ Rows w' s f vs vg vq fs fg fq k i ∧ At w' u [vs, vg, vq]) (fun R _ => bU (bB s k).length 28 R)
    ⟨0, by simp only [go_sem]; rfl, by omega, ⟨F0, by simpa [Dy] using hJ, ML, V⟩, ho, hR, BI⟩ fun R w3 hI E => ?_
  obtain ⟨i, m, hi, ⟨F, T, hF, L⟩, kX, Gy, X⟩ := hI;refine aQ m ?_;refine cD (fun d => ?_) (fun ID => ?_);rotate_left
  · have : i = (bB s k).length := by have : ¬ (i < (bB s k).length) := by simpa using ID
                                     omega
    subst this;refine bj j (au k (by omega)) ?_;refine qi _ w3 ⟨k + 1, ?_, by omega, ?_, kX, Gy.next, X⟩ ?_
    · simp only [go_sem]
    · rw [yg s y]; rw [List.take_length] at T; exact ⟨F, T, hF, L⟩
    · rw [K j, K (i := k + 1) (by simp only [go_sem])]; omega
  have d : i < (bB s k).length := by simpa using d
  (repeat (first | with_reducible (first | refine DS ?_ | refine DT ?_ | refine DU ?_ | refine DV ?_ | refine ch rfl ?_ | refine FM ?_ | refine FN ?_ | refine FO ?_ | refine FP ?_) | simp only [go_sem, m, j]));refine iV ?_;(repeat (first | with_reducible (first | refine DS ?_ | refine DT ?_ | refine DU ?_ | refine DV ?_ | refine ch rfl ?_ | refine FM ?_ | refine FN ?_ | refine FO ?_ | refine FP ?_) | simp only [go_sem, m, j]));rw [ai rfl rfl];refine gO ?_;rw [ai rfl rfl];refine gO ?_;refine bm fun q w4 hq tR ko ll => ?_;refine gO ?_;refine dR ko rfl (by simp) (by simp [bu]) fun w5 yG M pZ => ?_;rw [sI] at M;have JQ : ad [] w3 w5 := ll.trans pZ fun x o => .inr (by simp only [bp] at o; omega);simp only [go_sem];refine run_seq ?_;refine fB (34 :: 35 :: 36 :: 37 :: 38 :: 39 :: 40 :: 41 :: []) (fun _ w' => ad [] w3 w' ∧ At w' q (sF (pl k i))) (fun kk Du => ?_) (fun g6 w6 MN => ?_)
  · by_cases GO : k = 0
    · subst GO;have b0 : ((0 : Nat) : Int) = 0 := rfl;refine kZ j m (fx b0) @AS (Dz i (by omega)) (DA i) ?_;refine nt M (by simp) rfl fun w6 vm N z => ?_;refine gO ?_;refine nt N (by simp) rfl fun w7 Bb O lx => ?_;refine gO ?_;refine Du _ w7 ⟨(JQ.trans z fun x o => .inr ?_).trans lx fun x o => .inr ?_, O⟩
      · simp only [bp] at o; omega
      · simp only [bp] at o; omega
    · refine db j m (fj (show ¬ (k : Int) = 0 by omega)) ?_;refine Du _ w5 ⟨JQ, ?_⟩;have : pl k i = ((k : Int), 0, (i : Int)) := by unfold pl; rw [if_neg GO]
      rw [this]; exact M
  obtain ⟨P, N⟩ := MN;have IE := Gy.aa P;obtain ⟨g, cap, ys, hv, zj, Q, F7⟩ := IE.at y d;rw [S] at hv;cases hv;have IG : (ints (nL f (bB s k) i) ++ ys)[i]? = some (.int .i64 ((bB s k).getD i 0)) := by
    rw [j' ys (by rw [gR]; exact d), tD f d]
  have BN : aI w6 ⟨q, 0, none⟩ 3 = some (sF (pl k i)) := ax N 0 3 (by simp [sF]);have c2 : (0 : Int) ≤ (i : Int) ∧ (i : Int) < ((bB s k).length : Int) := ⟨by omega, by omega⟩;have z : ad B w w6 := kX.nil P;have C := X.aa P;have DQ : (yf s k ++ fl k ((bB s k).take i)).length ≤ 300 := by
    rw [gZ];have h1 := sH s k;have h2 := iX k ((bB s k).take i);have h3 : ((bB s k).take i).length ≤ 64 := by rw [List.length_take]; omega
    have h4 : s.S.length ≤ 64 := D 0;have h5 : s.G.length ≤ 64 := D 1;have h6 : s.Q.length ≤ 64 := D 2;omega
  refine run_seq ?_;refine bk [g, q] ?_;by_cases hz : (bB s k).getD i 0 = 0
  · refine Ih j m (eq_true c2) @Int.toNat_natCast @Nat.mul_one Q.cell IG (ep hz) BN (au i (by omega)) ?_;refine E _ w6.drew ⟨i + 1, ?_, by omega, ?_, z.nil (ad.drew [] _), (IE.aa (ad.drew [] _)).skip MI d hz, C⟩ ?_
    · simp only [go_sem]
    · rw [tF k d, if_pos hz, List.append_nil]; exact ⟨F, Y _ _ _ _ T (P.nil (ad.drew [] _)), hF, L⟩
    · exact aZ m
  · refine FV j m (eq_true c2) @Int.toNat_natCast @Nat.mul_one Q.cell IG (gm hz) BN ?_;refine C9 (hY (yf s k ++ fl k ((bB s k).take i)) F k i g _ w6.drew y d (Y _ _ _ _ T (P.nil (ad.drew [] _))) L DQ (by have := z.size; exact this) (z.nil (ad.drew [] _)) (by rw [zj]; simp) Q IG hz) ?_;rintro v w7 ⟨rfl, ⟨F', MP, Bo⟩, JR, O, IH⟩;have Jp : w6.drew.heap.size = w6.heap.size := rfl;have JS := C.lt;have MG := z.size;have II : u ∉ F' := fun o => (Bo _ o).elim hF (fun h => by omega);have IJ : ∀ x, x ∈ F' → w.heap.size ≤ x := fun x o => (Bo x o).elim (L x) (fun h => by omega);refine ⟨.inl rfl, ?_⟩;refine bj m (au i (by omega)) ?_;refine E _ w7 ⟨i + 1, ?_, by omega, ?_, (z.nil (ad.drew [] _)).trans JR (fun x o => (List.mem_append.1 o).imp id (L x)), ?_, (C.drew).ae JR (by simp only [List.mem_append, not_or]; exact ⟨F6, hF⟩)⟩ ?_
    · simp only [go_sem]
    · rw [tF k d, if_neg hz, ← List.append_assoc]; exact ⟨F', MP, II, IJ⟩
    · exact (IE.aa (ad.drew [] _)).step hp.nd y d S zj F7 O IH
    · exact aZ m
end Rt
end
section
namespace Rt
set_option maxRecDepth 8000
variable {xs:List Value} {v:Value}
theorem yi {i:Nat} (h:xs[i]? =some v):xs.set i v=xs:=by
 apply List.ext_getElem?;intro k;rw[List.getElem?_set];split
 ·rename_i e;subst e;have b:=kG h;rw[if_pos b,h]
 ·rfl
theorem _root_.Go.Proofs.YthamnonkfepafaaGreat.Sl.bu {w:World} {sz:Nat} {n:Nat} {fp:List Nat} (h:Sl w sz v n xs fp):Go.Proofs.YthamnonkfepafaaGreat.bu v=true:=by
 obtain⟨a,c,e⟩:=h.val;rw[e];rfl
theorem F8 (w:World) (a:Option Addr):Cs Tryz.prog 345 [.pointer a] w fun v w'=>ad [] w w'∧ ∃d,v=.func (.func 418) #[] #[.pointer (some ⟨d,0,none⟩)]∧At w' d [.pointer a]∧w.heap.size≤d:=by
 refine en [] ?_;refine gO ?_;refine bm fun q l m k b j=>?_;refine gO ?_;exact⟨j,q,rfl,b,by omega⟩
end Rt
end
section
namespace Rt
set_option maxRecDepth 8000
variable {xs:List Int} {D:List Nat} {v:Value} {w:World}
theorem da {i:Nat} {y:Int} (h:i<xs.length):(xs.take (i+1)).contains y=((xs.take i).contains y||decide (y=xs.getD i 0)):=by
 have e:xs.take (i+1)=xs.take i++[xs.getD i 0]:=by rw[List.take_succ_eq_append_getElem h];simp[h]
 rw[e,Bool.eq_iff_iff];simp
theorem pT (h : F5 w D v xs) (B : xs.length ≤ 100000) (y : Int) : Cs Tryz.prog 330 [v, .int .i64 y] w fun r w' => (∃ k : Int, r = .int .i64 k ∧ decide (0 ≤ k) = xs.contains y) ∧ w' = w := by
  refine en [] ?_;obtain ⟨a, cap, rfl, o⟩ := h;refine gO ?_;refine aE (4 :: 5 :: 6 :: 7 :: 8 :: 9 :: 10 :: 11 :: 12 :: 13 :: 14 :: 15 :: 16 :: 17 :: 18 :: []) (fun g w' => ∃ i : Nat, g 8 = .int .i64 i ∧ g 7 = .int .i64 xs.length ∧ i ≤ xs.length ∧ (xs.take i).contains y = false ∧ w' = w) (fun g _ => bU xs.length 8 g) ⟨0, by simp only [go_sem]; rfl, by simp only [go_sem], by omega, by simp, rfl⟩ fun g w' z d => ?_;obtain ⟨i, l, m, C, j, rfl⟩ := z;refine bj l m ?_;refine cD (fun b => ?_) (fun q => ?_)
  · have b : i < xs.length := by simpa using b
    obtain ⟨p, rfl, _, t⟩ := o i b;have u : (0 : Int) ≤ (i : Int) ∧ (i : Int) < (xs.length : Int) := ⟨by omega, by omega⟩;by_cases e : y = xs.getD i 0
    · refine nX l m (eq_true u) @Int.toNat_natCast @Nat.mul_one t (fx e) ?_;refine ⟨i, rfl, ?_⟩;have : xs.contains y = true := by
        rw [List.contains_iff_mem, e, List.getD_eq_getElem?_getD, List.getElem?_eq_getElem b]; simp
      rw [this]; simp
    · refine vS l m (eq_true u) @Int.toNat_natCast @Nat.mul_one t (fj e) (au i (by omega)) ?_;refine d _ w' ⟨i + 1, ?_, ?_, by omega, by rw [da b, j]; simpa using e, rfl⟩ ?_
      · simp only [go_sem]
      · simp only [go_sem, m]
      · exact aZ l
  · have : i = xs.length := by have : ¬ (i < xs.length) := by simpa using q
                               omega
    subst this;refine gO ?_;refine ⟨-1, rfl, ?_⟩;rw [List.take_length] at j;rw [j]; rfl
theorem gG (h:F5 w D v xs) (b:xs.length≤100000) (y:Int):Cs Tryz.prog 226 [v,.int .i64 y] w fun r w'=>r=.bool (xs.contains y)∧w'=w:=by
 refine en [] ?_;refine gO ?_;refine ak (pT h b y) ?_;rintro r w' ⟨⟨k,rfl,d⟩,rfl⟩;(repeat(first|with_reducible(first|refine nx ?_|refine ch rfl ?_)|simp only[go_sem,d]))
end Rt
end
namespace Rt
def gE (l:List Int):List Int:=l.foldl dD []
theorem nM (b:List Int) (x:Int):(dD b x).length≤b.length+1:=by unfold dD;split<;>simp
theorem dV: ∀(l b:List Int),(l.foldl dD b).length≤b.length+l.length
 | [],b=>by simp
 |x::l,b=>by
  have d:=dV l (dD b x)
  have j:=nM b x
  simp only[List.foldl_cons,List.length_cons];omega
theorem pV (l:List Int):(gE l).length≤l.length:=by have:=dV l [];simpa[gE]using this
theorem mY (l:List Int) (x:Int):gE (l++[x])=dD (gE l) x:=by simp[gE]
theorem oV {w:World} {a:Option Addr} {fp:List Nat} {m:MO} (h:PR w a fp m):Cs Tryz.prog 224 [.pointer a] w fun v w'=>ad [] w w'∧ ∃tY,Sl w' 1 v (bG m).length (ints (bG m)) tY∧ ∀x,x∈tY→w.heap.size≤x:=by
 refine fX rfl ?_;unfold cK;refine gO ?_;refine ao (kD h) ?_
 match m,h with
 |none,_=>
  (repeat(first|with_reducible(first|refine nx ?_|refine ch rfl ?_)|simp only[go_sem,Option.isSome_none]));exact⟨ad.refl _ _,[],Sl.pe w,by simp⟩
 |some s,⟨b,hb,vs,vg,vq,fs,fg,fq,zj,hp⟩=>
  subst hb;(repeat(first|with_reducible(first|refine nx ?_|refine ch rfl ?_)|simp only[go_sem,Option.isSome_some]));refine bm fun q w1 J6 qb wg oe=>?_;refine gO ?_;refine ak (F8 w1 _) ?_;rintro v w2 ⟨V,rb,rfl,GN,D6⟩;refine gO ?_;refine Al (it:=418) (caps:=[.pointer (some ⟨rb,0,none⟩)]) rfl rfl (by simp only[go_sem]) (by kernel_rfl) fun D l w3 hD hl vw W nv X=>?_;have JT:ad [] w w3:=(oe.nil V).nil W;have MQ:=hp.aa JT;have MR:=hp.hb.lt;have GX:=V.size;have t: ∀x,x∈b::(fs++(fg++fq))→x<w.heap.size:=(show PM w b s (b::(fs++(fg++fq)))from⟨vs,vg,vq,fs,fg,fq,rfl,hp⟩).lt;have JU: ∀x,x∈[q,l]→w.heap.size≤x:=by
   intro x d;simp only[List.mem_cons,List.not_mem_nil,or_false]at d;rcases d with rfl|rfl<;>omega
  refine(DB MQ (GN.aa W) id rfl
   (fun pre F w'=>cE Tryz.prog aY l w' _ _ _ _ .ready D∧w'.heap[D]? =some (.deferred (some []))∧ ∃v,At w' q [v]∧Sl w' 1 v (gE (pre.map (·.2))).length (ints (gE (pre.map (·.2)))) F)
   [q,l] ?_ ⟨X,nv,_,(wg.aa V).aa W,Sl.pe _⟩ ?_ ?_).mono ?_
  ·intro x d;simp only[List.mem_cons,List.not_mem_nil,or_false]at d;rcases d with rfl|rfl<;>omega
  ·rintro pre F Y w5 ⟨O,P,v,k4,k5⟩ ho;exact⟨O.ae ho (by simp),by rw[ho.block D (Array.getElem?_eq_some_iff.1 P).1 (by simp)];exact P,v,k4.aa ho,k5.aa ho⟩
  ·rintro pre F k i g xs Y hk hi ⟨O,P,v,k4,k5⟩ z DQ IC JV hg Q B EB;have JW:(gE (pre.map (·.2))).length≤300:=by have:=pV (pre.map (·.2));rw[List.length_map]at this;omega
   refine Dc dI O rfl ?_;refine gO ?_;have l1:=O.lt;have l2:=(Array.getElem?_eq_some_iff.1 P).1;have l4:=k4.lt;have l5:=k5.lt;have JX:g∈b::(fs++(fg++fq)):=by have:=oF hg;simp only[List.mem_cons];exact .inr this
   have MU:=t g JX;have y:q≠l:=by omega
   have r: ∀x,x∈F→x≠l∧x≠q∧x≠D:=fun x d=>by have:=z x d;exact⟨by omega,by omega,by omega⟩
   refine Ak (l:=l) rfl O fun J Bb L JY=>?_;have C:At J q [v]:=k4.ae L (by simpa using y);have Z:=k5.ae L (fun x d=>by simpa using(r x d).1);have g7:At J g xs:=Q.ae L (by simp;omega);have R: ∀x,x∈b::(fs++(fg++fq))→x∉ [q,l]++F:=fun x d MV=>by
    have:=t x d;rcases List.mem_append.1 MV with h1|h1
    ·have:=JU x h1;omega
    ·have:=z x h1;omega
   have fin: ∀u j K S,ad ([q,l]++F) J u→ad [l] u j→At u q [S]→Sl u 1 S (gE ((pre++[(pl k i,(bB s k).getD i 0)]).map (·.2))).length (ints (gE ((pre++[(pl k i,(bB s k).getD i 0)]).map (·.2)))) K→
     (∀x,x∈K→x∈F∨Y.heap.size≤x)→j.heap[D]? =some (.deferred (some []))∧At j q [S]∧Sl j 1 S (gE ((pre++[(pl k i,(bB s k).getD i 0)]).map (·.2))).length (ints (gE ((pre++[(pl k i,(bB s k).getD i 0)]).map (·.2)))) K∧
      ad ([q,l]++F) Y j∧At j g (xs.set i (.int .i64 (id ((bB s k).getD i 0))))∧ ∀U,U∈fs++(fg++fq)→U≠g→j.heap[U]? =Y.heap[U]? :=by
    intro u j K S IK o MW MX Bo;have hO:ad ([q,l]++F) Y j:=((L.mono (T:=[q,l]++F) fun x d=>by simp only[bp]at d;subst d;exact .inl (by simp)).same IK).same (o.mono fun x d=>by simp only[bp]at d;subst d;exact .inl (by simp));have E: ∀x,x∈K→x≠l:=fun x d=>(Bo x d).elim (fun h=>(r x h).1) (fun h=>by omega);refine⟨?_,MW.ae o (by simpa using y),MX.ae o (fun x d=>by simpa using E x d),hO,?_,fun U JZ _=>?_⟩
    ·rw[hO.block D l2 (by simp only[List.mem_append,List.mem_cons,List.not_mem_nil,or_false,not_or];exact⟨⟨by omega,by omega⟩,fun d=>(r D d).2.2 rfl⟩)];exact P
    ·rw[show(id ((bB s k).getD i 0))=(bB s k).getD i 0 from rfl,yi B];exact Q.ae hO (R g JX)
    ·exact hO.block U (by have:=t U (by simp only[List.mem_cons];exact .inr JZ);omega) (R U (by simp only[List.mem_cons];exact .inr JZ))
   refine gO ?_;refine bk [q,g] ?_;refine db C.cell g7.cell B ?_;refine fR (gG (Z.aa (ad.drew [] J)).rd (by omega) _) (.inl rfl) ?_;cases hc:(gE (pre.map (·.2))).contains ((bB s k).getD i 0)with
   |true=>
    refine gO ?_;refine qS (l:=l) rfl (JY.heap (w':=J.drew) rfl) fun j IL o G=>?_;obtain⟨e1,e2,e3,e4,e5,e6⟩:=fin J.drew j F v (ad.drew _ _) o C (by
     rw[List.map_append,List.map_cons,List.map_nil,mY,dD,if_pos hc];exact Z.aa (ad.drew [] J)) (fun x d=>.inl d)
    exact⟨rfl,⟨F,⟨G,e1,v,e2,e3⟩,fun x d=>.inl d⟩,e4,e5,e6⟩
   |false=>
    refine gO ?_;refine bk [q,g] ?_;refine db C.cell g7.cell B ?_;rw[ai rfl rfl];refine gO ?_;refine BK fun q8 w8 Gl F2 yj nw=>?_;have M:ad [] J w8:=ad.ey (ad.ey nw);refine⟨.inr ((SB.refl _ _).only nw (fun x d=>⟨?_,by simp⟩)),?_⟩
    ·simp only[List.mem_cons,List.not_mem_nil,or_false]at d;rcases d with rfl|rfl
     ·exact C.lt
     ·exact g7.lt
    refine gO ?_;refine Ec (Z.aa M) (bO.at yj rfl) (by simp[Go.Proofs.YthamnonkfepafaaGreat.bu]) (by omega) (by omega) ?_;intro S w9 K yH Bo oa _;refine⟨.inl rfl,?_⟩;have IN:q∉F:=fun d=>(r q d).2.1 rfl;have MY:=(C.aa M).ae oa IN;have OP:J.drew.drew.heap.size=J.heap.size:=rfl;refine gO ?_;refine A' MY (by simp) yH.bu fun u zu oj H=>⟨.inl rfl,?_⟩;refine gO ?_;have I: ∀x,x∈K→x∈F∨Y.heap.size≤x:=by
     intro x d;rcases Bo with rfl|rfl
     ·exact .inl d
     ·simp only[bp]at d;right;omega
    have E: ∀x,x∈K→x≠q:=fun x d=>(I x d).elim (fun h=>(r x h).2.1) (fun h=>by omega);have MZ:l∉F:=fun d=>(r l d).1 rfl;refine qS (l:=l) rfl (((JY.ae M (by simp)).ae oa MZ).ae H (by simp;omega)) fun j IL o G=>?_;obtain⟨e1,e2,e3,e4,e5,e6⟩:=fin u j K S ((M.of_nil.same (oa.mono fun x d=>.inl (by simp[d]))).same (H.mono fun x d=>.inl (by simp only[bp]at d;subst d;simp))) o oj (by
     rw[List.map_append,List.map_cons,List.map_nil,mY,dD,if_neg (by rw[hc];simp),gZ,cH];exact yH.ae H (fun x d=>by simpa using E x d)) I
    exact⟨rfl,⟨K,⟨G,e1,S,e2,e3⟩,I⟩,e4,e5,e6⟩
  ·rintro _ Y ⟨⟨F,⟨O,P,v,k4,k5⟩,z⟩,JV,JC⟩;refine⟨O,fun w5 yG N=>?_⟩;have l1:=O.lt;have y:q≠l:=by omega
   have r: ∀x,x∈F→x≠l∧x≠q∧x≠D:=fun x d=>by have:=z x d;exact⟨by omega,by omega,by omega⟩
   have M0:=k4.ae N (by simpa using y);have M1:=k5.ae N (fun x d=>by simpa using(r x d).1);have M2:w5.heap[D]? =some (.deferred (some [])):=by rw[N.block D (Array.getElem?_eq_some_iff.1 P).1 (by simp;omega)];exact P
   refine aQ M0.cell ?_;refine uR M2 fun w6 vm p9=>?_;refine gO ?_;have M3:ad [] w w6:=by
    refine((JT.trans JV fun x d=>.inr (JU x d)).trans N fun x d=>.inr ?_).trans p9 fun x d=>.inr ?_
    ·simp only[bp]at d;omega
    ·simp only[bp]at d;omega
   refine⟨M3,F,?_,fun x d=>by have:=z x d;omega⟩;exact M1.ae p9 (fun x d=>by simpa using(r x d).2.2)
end Rt
namespace Rt
end Rt
namespace Rt
end Rt
namespace Rt
end Rt
namespace Rt
end Rt
namespace Rt
end Rt
namespace Rt
end Rt
namespace Rt
set_option maxRecDepth 8000
theorem _root_.Go.Proofs.YthamnonkfepafaaGreat.Sl.GU {w:World} {sz:Nat} {v:Value} {n:Nat} {xs:List Value} {fp:List Nat} (h:Sl w sz v n xs fp) (k:0<n): ∃g cap ys,v=.slice (some ⟨g,0,none⟩) n cap∧At w g (xs++ys)∧fp=[g]:=by
 rcases h.2 with⟨_,l,_⟩|⟨g,cap,ys,T,b,d,j,m,o⟩
 ·omega
 ·exact⟨g,cap,ys,b,⟨T,j⟩,d⟩
end Rt
namespace Rt
end Rt
namespace Rt
end Rt
section
theorem jJ {cs vs:List Value} {off n:Nat} {r:List (Nat×Nat×Value)} (b:vs.length=n) (d:Nat.ble (off+n) cs.length=true):cV cs ((off,n,.agg ⟨vs⟩)::r)=cV (fS cs off vs) r:=by
 have j:(Value.agg ⟨vs⟩).cells.size=n∧off+n≤cs.length:=⟨by show(⟨vs⟩:Array Value).size=n;simpa using b,Nat.le_of_ble_eq_true d⟩;rw[cV];exact if_pos j
theorem List.nT {b:Type} {xs ys:List b} (d:b) (k:xs.length=ys.length) (h: ∀i,i<xs.length→xs.getD i d=ys.getD i d):xs=ys:=by
 apply List.ext_getElem k;intro i j l;have:=h i j;simpa[List.getD_eq_getElem?_getD,j,l]using this
end
section
section
variable {P:Program} {t et:TypeId} {w:World} {g o n cap:Nat} {vs:List Value} {z:Value}
theorem nN (z:Value) (n:Nat):(Builtin.zeroCells #[z] n).toList=List.replicate n z:=by
 apply List.ext_getElem
 ·simp[Builtin.zeroCells]
 ·intro i b d;simp[Builtin.zeroCells,Nat.mod_one]
theorem ri: ∀(n o:Nat) (vs:List Value),o+n≤vs.length→fS vs o (List.replicate n z)=vs.take o++List.replicate n z++vs.drop (o+n)
 |0,o,vs,_=>by simp[fS]
 |n+1,o,vs,h=>by
  rw[List.replicate_succ,fS,ri n (o+1) (vs.set o z) (by simp;omega)]
  have b:(vs.set o z).take (o+1)=vs.take o++[z]:=by
   rw[List.take_add_one,List.take_set_of_le (Nat.le_refl o)];simp[show o<vs.length by omega]
  have d:(vs.set o z).drop (o+1+n)=vs.drop (o+(n+1)):=by
   rw[List.drop_set_of_lt (by omega),show o+1+n=o+(n+1) by omega]
  rw[b,d];simp
theorem sJ {ty:TypeId} (d:P.underlying t=some (.slice et)) (l:(zeroValue et).run P w=.ok z w) (j:bu z=true) (h:At w g vs) (k:o+n≤vs.length):
  ∃w',(Builtin.clear_ #[t] ty #[.slice (some ⟨g,o,none⟩) n cap]).run P w=.ok (.tuple #[]) w'∧w'.heap.size=w.heap.size∧At w' g (vs.take o++List.replicate n z++vs.drop (o+n))∧ad [g] w w':=by
 obtain⟨T,m⟩:=h;have b: ∀u,u∈List.replicate n z→bu u=true:=fun u q=>by rw[(List.mem_replicate.1 q).2];exact j
 obtain⟨r,y,B,C⟩:=dN (off:=o) (List.replicate n z) 0 w vs m (by simpa using k) b;refine⟨World.setCells w ⟨g,o,none⟩ (List.replicate n z) 0,?_,C,⟨T,?_⟩,B⟩
 ·cases n with
  |zero=>simp[Builtin.clear_,aK d,World.setCells]
  |succ n=>
   have e:=bW (P:=P) (p:=⟨g,o,none⟩) (List.replicate (n+1) z) 0 w r;have D:(Builtin.zeroCells z.cells (n+1)).toList=List.replicate (n+1) z:=by rw[(jR j).2];exact nN z (n+1)
   simp[Builtin.clear_,aK d,l,D,e]
 ·rw[y,Nat.add_zero,ri n o vs k]
theorem yk {d:Option Nat} {rest:List XO} {ρ:Env} {C:Env→World→Prop} (b:P.underlying t=some (.slice et)) (j:(zeroValue et).run P w=.ok z w) (l:bu z=true) (h:At w g vs) (m:o+n≤vs.length)
  (k: ∀w',w'.heap.size=w.heap.size→At w' g (vs.take o++List.replicate n z++vs.drop (o+n))→ad [g] w w'→VO P rest (aV ρ d (.tuple #[])) w' C):kv P (Builtin.clear_ #[t] 0 #[.slice (some ⟨g,o,none⟩) n cap]) d rest ρ w C:=by
 obtain⟨w',q,r,u,y⟩:=sJ (P:=P) (ty:=0) (cap:=cap) b j l h m;exact runT q (k w' r u y)
end
def fM (W:List Int) (a n:Nat):List Int:=W.take a++List.replicate n 0++W.drop (a+n)
theorem iY {W:List Int} {a n:Nat} (h:a+n≤W.length):(fM W a n).length=W.length:=by simp[fM];omega
theorem gF {W:List Int} {a n:Nat} (h:a+n≤W.length) (i:Nat):(fM W a n).getD i 0=if a≤i∧i<a+n then 0 else W.getD i 0:=by
 unfold fM;simp only[List.getD_eq_getElem?_getD];by_cases b:i<a
 ·rw[if_neg (by omega),List.append_assoc,List.getElem?_append_left (by simp;omega),List.getElem?_take,if_pos b]
 ·by_cases d:i<a+n
  ·rw[if_pos ⟨by omega,d⟩,List.append_assoc,List.getElem?_append_right (by simp;omega),List.getElem?_append_left (by simp;omega)];simp only[List.length_take];rw[List.getElem?_replicate,if_pos (by omega)];rfl
  ·rw[if_neg (by omega),List.getElem?_append_right (by simp;omega),List.getElem?_drop];congr 2;simp;omega
def dO (m:HO) (x:Int):HO:=match m with
 |none=>none
 |some s=>if b' (some s) x=0 then some {s with W:=fM s.W x.toNat (s.size x.toNat).toNat,st:=s.st.set (x.toNat/2) 0,pn:=s.pn.set (x.toNat/2) 0,pl:=eh s.pl (s.W.getD x.toNat 0)}else some s
theorem AT {m:HO} {x:Int} (h:b' m x=0): ∃s,m=some s∧bw (some s) x=true:=by
 cases m with
 |none=>cases h
 |some s=>
  cases b:bw (some s) x with
  |true=>exact⟨s,rfl,b⟩
  |false=>simp[b',b]at h
theorem HL.Ok.kill {s:HL} (h:s.Ok) {i:Nat} (y:s.st.getD i 0=1) {pn:List Nat} {pl:IM} (G:pn.length=32*s.B.length):HL.Ok {s with W:=fM s.W (2*i) (s.size (2*i)).toNat,st:=s.st.set i 0,pn:=pn,pl:=pl}:=by
 obtain⟨M,N,O,_⟩:=h.sz y;have t:2*i+(s.size (2*i)).toNat≤s.W.length:=by omega
 have u: ∀j,(s.st.set i 0).getD j 0=1→j≠i∧s.st.getD j 0=1:=by
  intro j l;by_cases e:j=i
  ·subst e;simp only[List.getD_eq_getElem?_getD]at l;by_cases E:j<s.st.length
   ·rw[List.getElem?_set_self E]at l;cases l
   ·rw[List.getElem?_eq_none (by simpa using E)]at l;cases l
  ·refine⟨e,?_⟩;simp only[List.getD_eq_getElem?_getD]at l⊢;rw[List.getElem?_set_ne (fun h=>e h.symm)]at l;exact l
 have F: ∀j,j≠i→s.st.getD j 0=1→(fM s.W (2*i) (s.size (2*i)).toNat).getD (2*j+1) 0=s.W.getD (2*j+1) 0:=by
  intro j m l;rw[gF t,if_neg];have:=(h.sz l).1;rcases Nat.lt_or_ge i j with w|w
  ·have:=h.dj i j y l w;omega
  ·have:=h.dj j i l y (by omega);omega
 have z: ∀j,j≠i→s.st.getD j 0=1→HL.size {s with W:=fM s.W (2*i) (s.size (2*i)).toNat,st:=s.st.set i 0,pn:=pn,pl:=pl} (2*j)=s.size (2*j):=by
  intro j m l;show ay (bL ((fM s.W (2*i) (s.size (2*i)).toNat).getD (2*j+1) 0))=_;rw[F j m l];rfl
 refine⟨h.b2,h.ju,by simp only;rw[iY t];exact h.wl,by simpa using h.sl,G,fun j l=>?_,fun j k l H C=>?_⟩
 ·obtain⟨m,o⟩:=u j l;obtain⟨r,d,q,I,J,K⟩:=h.fit j o;exact⟨r,d,q,I,by simp only;rw[F j m o];exact J,by simp only;rw[iY t];exact K⟩
 ·obtain⟨m,o⟩:=u j l;obtain⟨L,D⟩:=u k H;rw[z j m o];exact h.dj j k o D C
theorem ym {w:World} {b d cW i:Nat} {l:Value} {cs:List Value} {W:List Int} {yW:List Value} (m:At w b (l::.slice (some ⟨d,0,none⟩) W.length cW::cs)) (o:At w d (ints W++yW)) (q:2*i+1<W.length) (C:W.length≤4096) (r:0≤W.getD (2*i+1) 0) (t:W.getD (2*i+1) 0≤100000):
  Cs Tryz.prog 254 [.pointer (some ⟨b,0,none⟩),.int .i64 ((2*i:Nat):Int)] w fun v w'=>v=.int .i64 (ay (bL (W.getD (2*i+1) 0)))∧ad [] w w':=by
 have u:IntKind.i64.wrap (((2*i:Nat):Int)+1)=((2*i+1:Nat):Int):=au _ (by omega);have y:(0:Int)≤((2*i+1:Nat):Int)∧((2*i+1:Nat):Int)<(W.length:Int):=⟨by omega,by omega⟩;have z:w.cell? ⟨d,2*i+1,none⟩=some (.int .i64 (W.getD (2*i+1) 0)):=by rw[o.cell,aC yW q]
 refine en [] ?_;refine kZ m.cell u (eq_true y) @Int.toNat_natCast @Nat.mul_one z ?_;refine aH (lG w _ r t) fun B j=>?_;refine gO ?_;refine aH (mW B _) fun D k=>?_;refine gO ?_;exact j.nil k
theorem u9 {W:List Int} {a n:Nat} (yW:List Value) (h:a+n≤W.length):(ints W++yW).take a++List.replicate n (Value.int .i64 0)++(ints W++yW).drop (a+n)=ints (fM W a n)++yW:=by
 have b:(ints W).length=W.length:=aG W;rw[List.take_append_of_le_length (by omega),List.drop_append_of_le_length (by omega)];simp[fM,ints,List.map_take,List.map_drop,List.append_assoc]
theorem F9 {w:World} {b d cW a n:Nat} {m:Value} {cs:List Value} {W:List Int} {yW:List Value} (o:At w b (m::.slice (some ⟨d,0,none⟩) W.length cW::cs)) (q:At w d (ints W++yW)) (u:W.length≤cW) (r:a+n≤W.length) (y:W.length≤4096) (z:a<W.length):
  Cs Tryz.prog 253 [.pointer (some ⟨b,0,none⟩),.int .i64 ((a:Nat):Int),.int .i64 ((n:Nat):Int)] w fun v w'=>v=.tuple #[]∧w'.heap.size=w.heap.size∧At w' d (ints (fM W a n)++yW)∧ad [d] w w':=by
 have t:IntKind.i64.wrap ((a:Int)+(n:Int))=((a+n:Nat):Int):=by rw[IntWalk.i64_in _ (by omega)];omega
 refine en [] ?_;refine bj o.cell t ?_;rw[pL (show a≤a+n by omega) (by omega) (by omega)];refine jI @bX @Nat.zero_add @Nat.mul_one (show a+n-a=n by omega) ?_;refine yk Tryz.underlying35 (Tryz.zeroValue3 w) rfl q (by rw[gZ,aG];omega) fun B j l k=>?_;rw[u9 yW r]at l;refine gO ?_;exact⟨j,l,k⟩
end
section
set_option maxRecDepth 8000
variable {l:List Nat} {b:Nat} {w:World}
theorem HR.intro {s:HL} {d j t cW:Nat} {yB yW:List Value} {k l m o q r:Nat} (h:ke w b s d j t cW yB yW k l m o q r):HR w (some ⟨b,0,none⟩) [b,d,j,k,l,m,o,q,r] (some s):=
 ⟨b,rfl,d,j,t,cW,yB,yW,k,l,m,o,q,r,rfl,h⟩
theorem ft {x y z:Nat} (b:x≠y) (d:x≠z):x∉ [y,z]:=by simpa using⟨b,d⟩
theorem AU {k:Nat} {v:Nat} (d:k<l.length) (m:v≤1):MT.cC (some (1,l)) (k:Int) (v:Int)=some (1,l.set k v):=by
 have j:hasB l.length (k:Int)=true:=iP d;have b:MT.check (some (1,l)) (k:Int) [(v:Int)]=0:=by
  simp only[MT.check,j];have:v=0∨v=1:=by omega
  rcases this with rfl|rfl<;>rfl
 simp only[MT.cC,b,if_true,cf]
theorem tG {g n:Nat} (h:dh w b g n 1 l) (k v:Nat) (m:k<n) (o:v≤1):Cs Tryz.prog 220 [.pointer (some ⟨b,0,none⟩),.int .i64 (k:Int),.int .i64 (v:Int)] w fun r w'=>(∃e,r=.int .i64 e)∧dh w' b g n 1 (l.set k v)∧ad [b,g] w w':=by
 refine(lT (gI.mk h) (k:Int) (v:Int)).mono ?_;rintro r w' ⟨rfl,d,q⟩;rw[AU (by rw[h.len];exact m) o]at d;obtain⟨z,t,u,y,j⟩:=d;cases u;have e:t=g:=by simpa using y.symm
 subst e;refine⟨⟨_,rfl⟩,?_,q⟩;have:(l.set k v).length=n:=by simpa using h.len
 rw[this]at j;exact j
theorem Eo {a:Option Addr} {fp:List Nat} {m:HO} (h:HR w a fp m) (x:Int) (hx:x≤4611686018427387904):Cs Tryz.prog 79 [.pointer a,.int .i64 x] w fun r w'=>r=.int .i64 (b' m x)∧HR w' a fp (dO m x)∧ad fp w w':=by
 refine en [0] ?_;refine gO ?_;refine aH (pP h x hx) fun R y=>?_;by_cases E:b' m x=0;rotate_left
 ·refine aQ (gm E) ?_;have K:dO m x=m:=by
   cases m with
   |none=>rfl
   |some s=>unfold dO;simp only[E,if_false]
  rw[K];exact⟨h.aa y,y.of_nil⟩
 obtain⟨s,rfl,hh⟩:=AT E;obtain⟨b,rfl,S,U,cB,cW,yB,yW,V,X,Y,Z,bl,bf,h2,l⟩:=h;obtain⟨i,rfl,L⟩:=iH l.ok hh;obtain⟨y0,hl,r,d,k,k1,k2,k3,k4,k5,k6⟩:=l.ok.start L;obtain⟨g1,g2,g3,_⟩:=l.ok.sz L;have GM:=l.ok.sl;have DQ:=l.ok.pl;have GL:=l.ok.wl;have hB:=l.ok.ju;have B:=(l.aa y).aa (ad.drew [] R);have e2:(0:Int)≤((2*i:Nat):Int)∧((2*i:Nat):Int)<(s.W.length:Int):=⟨by omega,by omega⟩;have e3:IntKind.i64.wrap (((2*i:Nat):Int).tdiv 2)=(i:Int):=by rw[oD _ (by omega)];omega
 obtain⟨⟨n1,n2,n3,n4,n5,n6,n7,n8⟩,⟨m2,m3,m4,m5,m6,m7,m8⟩,⟨p3,p4,p5,p6,p7,p8⟩,⟨r4,r5,r6,r7,r8⟩,⟨t5,t6,t7,t8⟩,⟨u6,u7,u8⟩,⟨v7,v8⟩,y8⟩:=FZ l.nd;refine kZ (ep E) B.hb.cell (eq_true e2) @Int.toNat_natCast @Nat.mul_one (B.qY (show 2*i<s.W.length by omega)) ?_;refine Ba Tryz.underlying121 Tryz.underlying3 B.hl fun w2 D7 M o=>?_;have F:=B.hb.ae o (aW n7);refine bj F.cell e3 ?_;refine ak (tG (B.hs.ae o (aW r7) (aW t7)) i 0 (by omega) (by omega)) ?_;rintro r1 w3 ⟨⟨e,rfl⟩,G,q⟩;have H:=F.ae q (ft n3 n4);refine bj H.cell e3 ?_;refine ak (tG ((B.hp.ae o (aW u7) (aW v7)).ae q (ft r5.symm t5.symm) (ft r6.symm t6.symm)) i 0 (by omega) (by omega)) ?_;rintro r2 w4 ⟨⟨e',rfl⟩,N,t⟩;have C:=H.ae t (ft n5 n6);have I:=((B.hW.ae o (aW p7)).ae q (ft p3 p4)).ae t (ft p5 p6);refine gO ?_;refine aH (ym C I hl (by omega) (by rw[k2];exact k4) (by rw[k2];exact k5)) fun w5 j=>?_;have O:ay (bL (s.W.getD (2*i+1) 0))=s.size (2*i):=rfl;have P:s.size (2*i)=(((s.size (2*i)).toNat:Nat):Int):=by omega
 rw[O,P];refine gO ?_;refine ak (F9 (C.aa j) (I.aa j) l.cW (by omega) (by omega) (by omega)) ?_;rintro r3 w6 ⟨rfl,vm,Q,u⟩;refine gO ?_;have K:dO (some s) ((2*i:Nat):Int)=some {s with W:=fM s.W (2*i) (s.size (2*i)).toNat,st:=s.st.set i 0,pn:=s.pn.set i 0,pl:=eh s.pl (s.W.getD (2*i) 0)}:=by
  unfold dO;simp only[E,if_true,cf,Nat.mul_div_cancel_left i (show 0<2 by omega)]
 rw[K,E];subst h2;have J:2*i+(s.size (2*i)).toNat≤s.W.length:=by omega
 refine⟨rfl,HR.intro (yB:=yB) (yW:=yW) (cW:=cW) ⟨l.ok.kill L (by simpa using l.ok.pl),?_,?_,?_,l.cB,?_,?_,?_,?_,?_,l.nd⟩,?_⟩
 ·simp only[iY J];exact(C.aa j).ae u (aW n2)
 ·exact((((B.hB.ae o (aW m7)).ae q (ft m3 m4)).ae t (ft m5 m6)).aa j).ae u (aW m2)
 ·exact Q
 ·simp only[iY J];exact l.cW
 ·simp only[List.length_set];exact((G.ae t (ft r5 r6) (ft t5 t6)).ae j (by simp) (by simp)).ae u (aW p3.symm) (aW p4.symm)
 ·simp only[List.length_set];exact(N.ae j (by simp) (by simp)).ae u (aW p5.symm) (aW p6.symm)
 ·exact(((M.ae q (ft r7.symm t7.symm)).ae t (ft u7.symm v7.symm)).aa j).ae u (aW p7.symm)
 ·exact((((B.hf.ae o (aW y8.symm)).ae q (ft r8.symm t8.symm)).ae t (ft u8.symm v8.symm)).aa j).ae u (aW p8.symm)
 ·have o2:ad [b,S,U,V,X,Y,Z,bl,bf] w w2:=((y.nil (ad.drew [] R)).of_nil (T:=[b,S,U,V,X,Y,Z,bl,bf])).trans o fun z D=>.inl (by simp only[List.mem_cons,List.not_mem_nil,or_false]at D⊢;omega);have o3:=o2.trans q fun z D=>.inl (by simp only[List.mem_cons,List.not_mem_nil,or_false]at D⊢;omega);have o4:=o3.trans t fun z D=>.inl (by simp only[List.mem_cons,List.not_mem_nil,or_false]at D⊢;omega);exact(o4.nil j).trans u fun z D=>.inl (by simp only[List.mem_cons,List.not_mem_nil,or_false]at D⊢;omega)
end
end Go.Proofs.YthamnonkfepafaaGreat
