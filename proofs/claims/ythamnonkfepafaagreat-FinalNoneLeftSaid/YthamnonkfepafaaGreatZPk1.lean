import Derived.Test.YthamnonkfepafaaGreatZEngI
import Derived.Test.YthamnonkfepafaaGreatZCode
import Derived.MapKept
import Derived.Maps.RangeRun
import Derived.Test.YthamnonkfepafaaGreatZCodeD
import Derived.Test.YthamnonkfepafaaGreatProg
import Derived.Ground.NamesProg
import Derived.KernelRfl
import Derived.Shelf.Slices.In.SortNone
import Derived.Shelf.Sort.Plain
set_option linter.unusedSimpArgs false
set_option linter.unusedVariables false
namespace Go.Proofs.YthamnonkfepafaaGreat
set_option maxRecDepth 100000
theorem c9 (n:Nat):((n:Int)).toNat=n:=Int.toNat_natCast n
theorem aK {α:Type} {a b:α}:a∈[b]↔a=b:=List.mem_singleton
theorem aU {p:Prop} [Decidable p] (h:p):decide p=true:=decide_eq_true h
theorem aX {p:Prop} [Decidable p] (h: ¬p):decide p=false:=decide_eq_false h
theorem cH {α:Type} {a b:List α}:(a++b).length=a.length+b.length:=List.length_append
section
section
variable {P:Program} {d:Option Nat} {rest:List XO} {ρ:Env} {w:World} {C:Env→World→Prop}
theorem dF {b i n:Nat} {vs cs:List Value} (h:At w b vs) (j:cs.length=n) (t:i+n≤vs.length) (l: ∀u,u∈cs→bh u=true)
  (k: ∀w',w'.heap.size=w.heap.size→At w' b (dU vs i cs)→ae [b] w w'→VO P rest (bo ρ d undef) w' C):He P n (.pointer (some ⟨b,i,none⟩)) (.agg ⟨cs⟩) d rest ρ w C:=by
 obtain⟨T,h⟩:=h;obtain⟨m,o,q,r⟩:=fY (off:=i) cs 0 w vs h (by omega) l;unfold He;exact⟨_,_,rfl,rfl,j,m,k _ r ⟨T,o⟩ q⟩
theorem pB {fl:Bool} {rest:XT} {L:List Nat} {w0:World} {b i n:Nat} {vs cs:List Value} (h:At w b vs) (l:cs.length=n) (y:i+n≤vs.length) (j: ∀u,u∈cs→bh u=true)
  (k: ∀w',w'.heap.size=w.heap.size→At w' b (dU vs i cs)→ae [b] w w'→(fl=true∨SB L w0 w')∧VT P L w0 rest (bo ρ d undef) w' C):Hs P fl L w0 n (.pointer (some ⟨b,i,none⟩)) (.agg ⟨cs⟩) d rest ρ w C:=by
 obtain⟨T,h⟩:=h;obtain⟨m,o,q,r⟩:=fY (off:=i) cs 0 w vs h (by omega) j;obtain⟨j,t⟩:=k _ r ⟨T,o⟩ q;unfold Hs;exact⟨_,_,rfl,rfl,l,m,j,t⟩
end
theorem wW (w:World) (p:Addr) (n:Nat):aC w.drew p n=aC w p n:=by unfold aC;simp only[World.cell?_drew]
theorem bH {P:Program} {f:FX} {x:bu} {kx:List XI} {ρ:Env} {w:World} {R:Value→World→Prop} (W:List Nat) (J:Env→World→Prop)
  (j: ∀k,(∀b w',J b w'→(d:cw W ρ b:=by(repeat(first|with_reducible exact GK|with_reducible exact cw.xF _ _ _|refine cw.put ?_ rfl _|exact GK|exact cw.xF _ _ _|refine cw.En ?_ rfl _)))→dr P f k b w' R)→dr P f (.code x::k) ρ w R) (l: ∀g w',J g w'→dr P f kx (xF W g ρ) w' R):dr P f (.code x::kx) ρ w R:=
 j kx fun b w' m d=>by rw[d.eq];exact l b w' m
attribute [go_sem] wW
theorem sD {size n cap l h:Nat} {k k':IntKind} {p:Addr} (m:l≤h) (o:h≤cap) (q:l<cap):iD size (.slice (some p) n cap) (some (.int k (l:Int))) (some (.int k' (h:Int)))=some (.slice (some (p.add (l*size))) (h-l) (cap-l)):=by
 have b:(0:Int)≤(h:Int)∧(h:Int)≤(cap:Int):=by omega
 have d:(0:Int)≤(l:Int)∧(l:Int)≤(h:Int):=by omega
 have j: ¬cap=l:=by omega
 simp[iD,gU,b,d,j]
theorem As {size n cap l:Nat} {k:IntKind} {p:Addr} (j:l≤n) (m:l<cap):iD size (.slice (some p) n cap) (some (.int k (l:Int))) none=some (.slice (some (p.add (l*size))) (n-l) (cap-l)):=by
 have b:(0:Int)≤(l:Int)∧(l:Int)≤(n:Int):=by omega
 have d: ¬cap=l:=by omega
 simp[iD,gU,b,d]
theorem yK {size n l:Nat} {k:IntKind} {p:Option Addr} (b:l=n):iD size (.slice p n n) (some (.int k (l:Int))) none=some (.slice p 0 0):=by
 subst b;have d:(0:Int)≤(l:Int)∧(l:Int)≤(l:Int):=by omega
 simp[iD,gU,d]
theorem cZ {a b:Int} (h:a=b):(a==b)=true:=by simp[h]
theorem cU {a b:Int} (h: ¬a=b):(a==b)=false:=by simp[h]
theorem eE {a b:Int} (h: ¬a=b):(a !=b)=true:=by simp[h]
theorem dg {a b:Int} (h:a=b):(a !=b)=false:=by simp[h]
end
section
variable {l ws:List Nat} {i wd x:Nat}
theorem bU (n:Nat) (h:n≤4611686018427387904):IntKind.i64.wrap (n:Int)=n:=IntWalk.i64_in _ (by omega)
theorem jE (n:Nat) (h:n<18446744073709551616):IntKind.u64.wrap (n:Int)=n:=IntWalk.u64_in _ (by omega)
theorem tD (n:Int):BitVec.ofInt 64 (IntKind.i64.wrap n)=BitVec.ofInt 64 n:=by
 apply BitVec.eq_of_toNat_eq;rw[BitVec.toNat_ofInt,BitVec.toNat_ofInt,IntKind.wrap_i64];congr 1;have e:((2:Nat)^64:Nat)=18446744073709551616:=by decide
 rw[e];omega
theorem jf (n:Nat):BitVec.ofInt 64 (n:Int)=BitVec.ofNat 64 n:=by
 apply BitVec.eq_of_toNat_eq;simp
theorem Ft (d:BinOp) (a b:Int):km d .i64 a b=IntKind.i64.wrap ((match d with|.and=>(BitVec.ofInt 64 a&&& BitVec.ofInt 64 b).toNat|.or=>(BitVec.ofInt 64 a|||BitVec.ofInt 64 b).toNat|.xor=>(BitVec.ofInt 64 a^^^BitVec.ofInt 64 b).toNat|_=>(BitVec.ofInt 64 a&&& ~~~(BitVec.ofInt 64 b)).toNat:Nat):Int):=rfl
theorem yL (d:BinOp) (a b:Int):km d .u64 a b=IntKind.u64.wrap ((match d with|.and=>(BitVec.ofInt 64 a&&& BitVec.ofInt 64 b).toNat|.or=>(BitVec.ofInt 64 a|||BitVec.ofInt 64 b).toNat|.xor=>(BitVec.ofInt 64 a^^^BitVec.ofInt 64 b).toNat|_=>(BitVec.ofInt 64 a&&& ~~~(BitVec.ofInt 64 b)).toNat:Nat):Int):=rfl
theorem Bv (a k:Nat) (h:a <<< k<2^64):IntKind.u64.wrap ((a:Int)*2^k)=((a <<< k:Nat):Int):=by
 have:((a:Int)*2^k)=((a <<< k:Nat):Int):=by rw[Nat.shiftLeft_eq,Int.natCast_mul,Int.natCast_pow];rfl
 rw[this,jE _ h]
theorem wX {m:Nat} (b:m<4611686018427387904):km .and .i64 (IntKind.i64.wrap (x:Int)) (m:Int)=((x&&& m:Nat):Int):=by
 rw[Ft,tD,jf,jf];have e:(BitVec.ofNat 64 x&&& BitVec.ofNat 64 m).toNat=x&&& m:=by
  rw[←BitVec.ofNat_and,BitVec.toNat_ofNat,Nat.mod_eq_of_lt];exact Nat.lt_of_le_of_lt Nat.and_le_right (by omega)
 show IntKind.i64.wrap (((BitVec.ofNat 64 x&&& BitVec.ofNat 64 m).toNat:Nat):Int)=_;rw[e,bU];exact Nat.le_trans Nat.and_le_right (by omega)
theorem yM {y:Nat} (b:x<2^64) (d:y<2^64):km .or .u64 (x:Int) (y:Int)=((x|||y:Nat):Int):=by
 rw[yL,jf,jf];have e:(BitVec.ofNat 64 x|||BitVec.ofNat 64 y).toNat=x|||y:=by
  rw[←BitVec.ofNat_or,BitVec.toNat_ofNat,Nat.mod_eq_of_lt (Nat.or_lt_two_pow b d)]
 show IntKind.u64.wrap (((BitVec.ofNat 64 x|||BitVec.ofNat 64 y).toNat:Nat):Int)=_;rw[e,jE];exact Nat.or_lt_two_pow b d
def zF (x y:Nat):Nat:=(BitVec.ofNat 64 x&&& ~~~(BitVec.ofNat 64 y)).toNat
theorem Au (x y:Nat):zF x y<2^64:=(BitVec.ofNat 64 x&&& ~~~(BitVec.ofNat 64 y)).isLt
theorem Ii (x y k:Nat) (d:x<2^64):(zF x y).testBit k=(x.testBit k&&!(y.testBit k)):=by
 unfold zF;rw[BitVec.testBit_toNat,BitVec.getLsbD_and,BitVec.getLsbD_not];simp only[BitVec.getLsbD_ofNat];by_cases b:k<64
 ·simp[b]
 ·have:x.testBit k=false:=Nat.testBit_lt_two_pow (Nat.lt_of_lt_of_le d (Nat.pow_le_pow_right (by omega) (by omega)));simp[b,this]
theorem rX (x y:Nat):km .andNot .u64 (x:Int) (y:Int)=((zF x y:Nat):Int):=by
 rw[yL,jf,jf];show IntKind.u64.wrap ((zF x y:Nat):Int)=_;rw[jE];exact Au x y
theorem Ij (x r:Nat):((x:Int)).fdiv (2^r)=((x >>> r:Nat):Int):=by
 rw[Nat.shiftRight_eq_div_pow];have:((2:Int)^r)=((2^r:Nat):Int):=by simp
 rw[this,Int.fdiv_eq_ediv_of_nonneg _ (Int.natCast_nonneg _)];exact(Int.natCast_ediv _ _).symm
def Wd (wd:Nat):Prop:=wd=1∨wd=2∨wd=4∨wd=8
theorem Wd.pos (h:Wd wd):1≤wd∧wd≤8:=by unfold Wd at h;omega
structure Pk (wd:Nat) (l ws:List Nat):Prop where
 len:ws.length=(l.length*wd+63)/64
 lt: ∀k,ws.getD k 0<2^64
 el: ∀i,l.getD i 0<2^wd
 bit: ∀k,(ws.getD (k/64) 0).testBit (k%64)=(l.getD (k/wd) 0).testBit (k%wd)
theorem Wd.div {j:Nat} (h:Wd wd) (b:j<wd):(i*wd+j)/64=i*wd/64∧(i*wd+j)%64=i*wd%64+j∧(i*wd+j)/wd=i∧(i*wd+j)%wd=j∧i*wd%64+wd≤64:=by
 rcases h with rfl|rfl|rfl|rfl<;>omega
theorem Pk.get (h:Pk wd l ws) (d:Wd wd):((ws.getD (i*wd/64) 0) >>> (i*wd%64))&&& (2^wd-1)=l.getD i 0:=by
 apply Nat.eq_of_testBit_eq;intro j;rw[Nat.testBit_and,Nat.testBit_shiftRight,Nat.testBit_two_pow_sub_one];by_cases b:j<wd
 ·obtain⟨k,m,o,q,_⟩:=d.div (i:=i) b;have:=h.bit (i*wd+j);rw[k,m,o,q]at this;simp only[b,decide_true,Bool.and_true];exact this
 ·have:(l.getD i 0).testBit j=false:=Nat.testBit_lt_two_pow (Nat.lt_of_lt_of_le (h.el i) (Nat.pow_le_pow_right (by omega) (by omega)));rw[this];simp[b]
theorem pN (l:List Nat) (i j v:Nat):(l.set i v).getD j 0=if i=j∧j<l.length then v else l.getD j 0:=by
 simp only[List.getD_eq_getElem?_getD,List.getElem?_set];by_cases h:i=j
 ·subst h;by_cases b:i<l.length
  ·simp[b]
  ·simp[b]
 ·simp[h]
theorem Pk.put {v:Nat} (h:Pk wd l ws) (d:Wd wd) (I:i<l.length) (t:v<2^wd):
  Pk wd (l.set i v) (ws.set (i*wd/64) (zF (ws.getD (i*wd/64) 0) ((2^wd-1) <<< (i*wd%64))|||(v <<< (i*wd%64)))):=by
 have C:i*wd%64+wd≤64:=(d.div (i:=i) (j:=0) (by have:=d.pos;omega)).2.2.2.2;have D:i*wd/64<ws.length:=by rw[h.len];rcases d with rfl|rfl|rfl|rfl<;>omega
 have u:v <<< (i*wd%64)<2^64:=by
  rw[Nat.shiftLeft_eq]
  calc v*2^(i*wd%64)<2^wd*2^(i*wd%64):=Nat.mul_lt_mul_of_pos_right t (Nat.two_pow_pos _)
   _=2^(wd+i*wd%64):=by rw[Nat.pow_add]
   _≤2^64:=Nat.pow_le_pow_right (by omega) (by omega)
 have w:zF (ws.getD (i*wd/64) 0) ((2^wd-1) <<< (i*wd%64))|||(v <<< (i*wd%64))<2^64:=Nat.or_lt_two_pow (Au _ _) u
 refine⟨by simpa using h.len,fun k=>?_,fun k=>?_,fun k=>?_⟩
 ·rw[pN];split
  ·exact w
  ·exact h.lt k
 ·rw[pN];split
  ·exact t
  ·exact h.el k
 ·rw[pN,pN];by_cases r:i*wd/64=k/64
  ·rw[if_pos ⟨r,by omega⟩,Nat.testBit_or,Ii _ _ _ (h.lt _),Nat.testBit_shiftLeft,Nat.testBit_shiftLeft,Nat.testBit_two_pow_sub_one];have E:=h.bit k;rw[←r]at E;by_cases m:i=k/wd
   ·have y:k=i*wd+k%wd:=by rw[m,Nat.mul_comm];exact(Nat.div_add_mod k wd).symm
    have F:k%wd<wd:=Nat.mod_lt _ (by have:=d.pos;omega);have G:=(d.div (i:=i) F).2.1;rw[←y]at G;rw[if_pos ⟨m,by omega⟩];have o:i*wd%64≤k%64:=by omega
    have z:k%64-i*wd%64=k%wd:=by omega
    simp[o,z,F]
   ·rw[if_neg (by intro b;exact m b.1),←E]
    have q: ¬(i*wd%64≤k%64∧k%64-i*wd%64<wd):=by
     intro b;apply m;rcases d with rfl|rfl|rfl|rfl<;>omega
    by_cases o:i*wd%64≤k%64
    ·have z: ¬(k%64-i*wd%64<wd):=fun b=>q ⟨o,b⟩;have H:v.testBit (k%64-i*wd%64)=false:=Nat.testBit_lt_two_pow (Nat.lt_of_lt_of_le t (Nat.pow_le_pow_right (by omega) (by omega)));simp[o,z,H]
    ·simp[o]
  ·rw[if_neg (by intro b;exact r b.1)];have B:i≠k/wd:=by
    intro m;apply r;rw[m];rcases d with rfl|rfl|rfl|rfl<;>omega
   rw[if_neg (by intro b;exact B b.1)];exact h.bit k
theorem Pk.zero (wd n:Nat) (b:Wd wd):Pk wd (List.replicate n 0) (List.replicate ((n*wd+63)/64) 0):=by
 have z: ∀m k,(List.replicate m 0).getD k 0=0:=fun m k=>by
  simp only[List.getD_eq_getElem?_getD,List.getElem?_replicate];split<;>rfl
 refine⟨by simp,fun k=>?_,fun k=>?_,fun k=>?_⟩
 ·rw[z];omega
 ·rw[z];exact Nat.two_pow_pos _
 ·rw[z,z];simp
end
section
variable {l:List Nat} {b g i n wd:Nat} {w:World}
def tE (b:List Nat):List Value:=b.map fun(x:Nat)=>.int .u64 (x:Int)
structure gZ (w:World) (b g n wd:Nat) (l:List Nat):Prop where
 hw:Wd wd
 len:l.length=n
 n1:1≤n
 n2:n≤4096
 el: ∀i,l.getD i 0<2^wd
 mem: ∃(ws:List Nat) (cap:Nat) (rest:List Value),Pk wd l ws∧At w b [.int .i64 n,.int .i64 wd,.slice (some ⟨g,0,none⟩) ws.length cap]∧At w g (tE ws++rest)∧b≠g
theorem gZ.keep {S:List Nat} {w':World} (h:gZ w b g n wd l) (k:ae S w w') (d:b∉S) (j:g∉S):gZ w' b g n wd l:=
 ⟨h.hw,h.len,h.n1,h.n2,h.el,let ⟨m,cap,rest,o,q,r,t⟩:=h.mem;⟨m,cap,rest,o,q.keep k d,r.keep k j,t⟩⟩
theorem gZ.drew (h:gZ w b g n wd l):gZ w.drew b g n wd l:=h.keep (ae.drew [] w) (by simp) (by simp)
theorem tF (w:World):Cs Tryz.prog 353 [.pointer none] w fun v w'=>v=.bool false∧w'=w:=by
 refine en [] ?_;(repeat(first|with_reducible(first|refine nx ?_|refine bA rfl ?_)|simp only[go_sem]))
theorem pO (b:Nat) (n:Int) (c:List Value) (w:World) (h:At w b (.int .i64 n::c)):Cs Tryz.prog 353 [.pointer (some ⟨b,0,none⟩)] w fun v w'=>v=.bool (decide (0<n))∧w'=w:=by
 refine en [] ?_;(repeat(first|with_reducible(first|refine nx ?_|refine bA rfl ?_)|simp only[go_sem,h.cell]))
theorem pP (h:gZ w b g n wd l):Cs Tryz.prog 353 [.pointer (some ⟨b,0,none⟩)] w fun v w'=>v=.bool true∧w'=w:=by
 obtain⟨j,cap,rest,k,d,m,o⟩:=h.mem;refine(pO b n _ w d).mono ?_;rintro v w' ⟨rfl,rfl⟩;have:=h.n1;exact⟨by simp;omega,rfl⟩
theorem tG (h:gZ w b g n wd l):Cs Tryz.prog 417 [.pointer (some ⟨b,0,none⟩)] w fun v w'=>v=.int .i64 ((2^wd-1:Nat):Int)∧w'=w:=by
 obtain⟨m,cap,rest,o,d,q,r⟩:=h.mem;have j:=h.hw;have k:IntKind.i64.wrap (IntKind.i64.wrap (1*2^(min ((wd:Int).toNat) 64))-1)=((2^wd-1:Nat):Int):=by
  rcases j with rfl|rfl|rfl|rfl<;>decide
 refine en [] ?_;(repeat(first|with_reducible(first|refine nx ?_|refine bA rfl ?_)|simp only[go_sem,d.cell,k]))
theorem nE (b:List Nat) (rest:List Value) (i:Nat) (h:i<b.length):(tE b++rest)[i]? =some (.int .u64 ((b.getD i 0:Nat):Int)):=by
 rw[List.getElem?_append_left (by simpa[tE]using h)];simp[tE,h]
theorem iI (n:Nat) (h:n≤4611686018427387904):IntKind.i64.wrap ((n:Int).tdiv 64)=((n/64:Nat):Int):=by
 rw[Int.tdiv_eq_ediv_of_nonneg (by omega),show((n:Int)/64)=((n/64:Nat):Int) by omega,bU _ (by omega)]
theorem qF (n:Nat):((n:Int).tmod 64)=((n%64:Nat):Int):=by
 rw[Int.tmod_eq_emod_of_nonneg (by omega)];omega
theorem rq (b:Wd wd) (d:n≤4096) (j:i<n):
  IntKind.i64.wrap ((i:Int)*(wd:Int))=((i*wd:Nat):Int)∧IntKind.i64.wrap (((i*wd:Nat):Int).tdiv 64)=((i*wd/64:Nat):Int)∧(((i*wd:Nat):Int).tmod 64)=((i*wd%64:Nat):Int):=by
 have k:i*wd≤40000:=by rcases b with rfl|rfl|rfl|rfl<;>omega
 refine⟨?_,iI _ (by omega),qF _⟩;rw[←Int.natCast_mul,bU _ (by omega)]
theorem sE (h:gZ w b g n wd l) (o:i<n):Cs Tryz.prog 358 [.pointer (some ⟨b,0,none⟩),.int .i64 i] w fun v w'=>v=.int .i64 ((l.getD i 0:Nat):Int)∧ae [] w w':=by
 obtain⟨d,cap,rest,k,m,q,G⟩:=h.mem;have j:=h.hw;obtain⟨r,t,u⟩:=rq j h.n2 o;have y:i*wd/64<d.length:=by rw[k.len,h.len];rcases j with rfl|rfl|rfl|rfl<;>omega
 have z:=nE d rest _ y;have B:(0:Int)≤((i*wd/64:Nat):Int)∧((i*wd/64:Nat):Int)<(d.length:Int):=⟨by omega,by omega⟩;have C:(((i*wd/64:Nat):Int)).toNat*1=i*wd/64:=by simp only[c9,Nat.mul_one]
 have D:min ((((i*wd%64:Nat):Int)).toNat) 64=i*wd%64:=by simp only[c9];omega
 have E:=k.get (i:=i) j;have F:km .and .i64 (IntKind.i64.wrap (((d.getD (i*wd/64) 0:Nat):Int).fdiv (2^(i*wd%64)))) ((2^wd-1:Nat):Int)=((l.getD i 0:Nat):Int):=by
  rw[Ij,wX,E];rcases j with rfl|rfl|rfl|rfl<;>decide
 refine en [2,5,8,11,14,17,20,23,26,29,32,35,38,42,44,47,0] ?_;refine aZ m.cell r ?_;refine aW [b,g] ?_;refine xG m.cell q.cell t u z C (eq_true B) D ?_;refine ks (tG h.drew) (.inr (SB.refl _ _)) ?_;refine aQ F ?_;exact ae.drew _ _
theorem Bw {v:Nat} (h:gZ w b g n wd l) (u:i<n) (q:v<2^wd):
  Cs Tryz.prog 356 [.pointer (some ⟨b,0,none⟩),.int .i64 i,.int .i64 v] w fun r w'=>r=.tuple #[]∧gZ w' b g n wd (l.set i v)∧ae [g] w w':=by
 obtain⟨d,cap,rest,y,o,t,z⟩:=h.mem;have k:=h.hw;obtain⟨M,N,B⟩:=rq k h.n2 u;have C:i*wd/64<d.length:=by rw[y.len,h.len];rcases k with rfl|rfl|rfl|rfl<;>omega
 have D:=nE d rest _ C;have O:(0:Int)≤((i*wd/64:Nat):Int)∧((i*wd/64:Nat):Int)<(d.length:Int):=⟨by omega,by omega⟩;have P:(((i*wd/64:Nat):Int)).toNat*1=i*wd/64:=by simp only[c9,Nat.mul_one]
 have E:min ((((i*wd%64:Nat):Int)).toNat) 64=i*wd%64:=by simp only[c9];omega
 have X:i*wd%64+wd≤64:=(k.div (i:=i) (j:=0) (by have:=k.pos;omega)).2.2.2.2;have Q:(2^wd-1) <<< (i*wd%64)<2^64:=by
  rw[Nat.shiftLeft_eq];have:2^wd-1<2^wd:=by have:=Nat.two_pow_pos wd;omega
  calc (2^wd-1)*2^(i*wd%64)<2^wd*2^(i*wd%64):=Nat.mul_lt_mul_of_pos_right this (Nat.two_pow_pos _)
   _=2^(wd+i*wd%64):=by rw[Nat.pow_add]
   _≤2^64:=Nat.pow_le_pow_right (by omega) (by omega)
 have F:v <<< (i*wd%64)<2^64:=by
  rw[Nat.shiftLeft_eq]
  calc v*2^(i*wd%64)<2^wd*2^(i*wd%64):=Nat.mul_lt_mul_of_pos_right q (Nat.two_pow_pos _)
   _=2^(wd+i*wd%64):=by rw[Nat.pow_add]
   _≤2^64:=Nat.pow_le_pow_right (by omega) (by omega)
 have R:v<256:=Nat.lt_of_lt_of_le q (by rcases k with rfl|rfl|rfl|rfl<;>decide);have S:2^wd-1<256:=by rcases k with rfl|rfl|rfl|rfl<;>decide
 have G:IntKind.u64.wrap ((2^wd-1:Nat):Int)=((2^wd-1:Nat):Int):=jE _ (by omega);have H:IntKind.u64.wrap ((v:Nat):Int)=((v:Nat):Int):=jE _ (by omega);have T:=Bv _ _ Q;have I:=Bv _ _ F;have U:=rX (d.getD (i*wd/64) 0) ((2^wd-1) <<< (i*wd%64));have V:=yM (Au (d.getD (i*wd/64) 0) ((2^wd-1) <<< (i*wd%64))) F;refine en [2,5,8,11,14,23,26,35,38,41,44,47,18,20,29,32,50,53,58,0] ?_;refine lY o.cell M N (eq_true O) P ?_;refine aW [b,g] ?_;refine xG o.cell t.cell B D E G H I ?_;refine ks (tG h.drew) (.inr (SB.refl _ _)) ?_;refine uq o.cell t.cell B D E G H T I U V ?_;refine Ee t.drew (by simp[tE];omega) rfl fun w' W J K=>⟨.inl rfl,?_⟩;refine gO ?_;have m:(tE d++rest).set (i*wd/64) (.int .u64 ((zF (d.getD (i*wd/64) 0) ((2^wd-1) <<< (i*wd%64))|||v <<< (i*wd%64):Nat):Int))=tE (d.set (i*wd/64) (zF (d.getD (i*wd/64) 0) ((2^wd-1) <<< (i*wd%64))|||v <<< (i*wd%64)))++rest:=by
  rw[List.set_append_left _ _ (by simpa[tE]using C)];simp[tE,List.map_set]
 rw[m]at J;have L:=y.put (i:=i) (v:=v) k (by rw[h.len];exact u) q;refine⟨⟨k,by simp[h.len],h.n1,h.n2,L.el,_,cap,rest,L,?_,J,z⟩,K.eh⟩;rw[List.length_set];exact o.drew.keep K (by simp[z])
end
section
variable {i:Int} {n wd:Nat}
abbrev MT:=Option (Nat×List Nat)
def hasB (n:Nat) (i:Int):Bool:=decide (0≤i)&&decide (i<n)
def pQ (wd:Nat) (v:Int):Bool:=decide (0≤v)&&decide (v≤((2^wd-1:Nat):Int))
def MT.check (m:MT) (i:Int) (vs:List Int):Int:=match m with
 |none=>5
 |some (wd,l)=>if hasB l.length i&&vs.all (pQ wd)then 0 else 1
def MT.get (m:MT) (i:Int):Int:=match m with
 |none=> -1
 |some (_,l)=>if hasB l.length i then((l.getD i.toNat 0:Nat):Int)else-1
def MT.cS (m:MT) (i v:Int):MT:=match m with
 |none=>none
 |some (wd,l)=>if m.check i [v]=0 then some (wd,l.set i.toNat v.toNat)else some (wd,l)
theorem tH (h:hasB n i=true): ∃k:Nat,i=k∧k<n:=by
 simp only[hasB,Bool.and_eq_true,decide_eq_true_eq]at h;exact⟨i.toNat,by omega,by omega⟩
theorem nc {k:Nat} (h:k<n):hasB n (k:Int)=true:=by simp[hasB];omega
theorem yN {v:Int} (h:pQ wd v=true): ∃k:Nat,v=k∧k<2^wd:=by
 simp only[pQ,Bool.and_eq_true,decide_eq_true_eq]at h;have:=Nat.two_pow_pos wd;exact⟨v.toNat,by omega,by omega⟩
theorem MT.tI (i:Int) (vs:List Int):MT.check none i vs=5:=rfl
theorem MT.ru {l:List Nat} {vs:List Int}:(MT.check (some (wd,l)) i vs=0∧hasB l.length i=true∧vs.all (pQ wd)=true)∨(MT.check (some (wd,l)) i vs=1∧(hasB l.length i&&vs.all (pQ wd))=false):=by
 simp only[MT.check];cases h:(hasB l.length i&&vs.all (pQ wd))with
 |true=>exact .inl ⟨rfl,(Bool.and_eq_true _ _▸h)⟩
 |false=>exact .inr ⟨rfl,rfl⟩
def PV (l:List Nat) (k v:Nat):Nat→List Nat
 |0=>l
 |j+1=>(PV l k v j).set (k+j) v
def qG (p:Nat→Bool):Nat→Option Nat
 |0=>none
 |n+1=>match qG p n with
  |some i=>some i
  |none=>if p n then some n else none
def mE (p:Nat→Bool):Nat→Option Nat
 |0=>none
 |n+1=>if p n then some n else mE p n
theorem j9 {p:Nat→Bool}: ∀ {n:Nat},(∀j,j<n→p j=false)→qG p n=none
 |0,_=>rfl
 |n+1,h=>by simp only[qG,j9 fun j b=>h j (Nat.lt_succ_of_lt b)];rw[h n (Nat.lt_succ_self n)];rfl
theorem mF {p:Nat→Bool} {i:Nat} (b:p i=true): ∀ {n:Nat},i<n→(∀j,j<i→p j=false)→qG p n=some i
 |0,h,_=>absurd h (Nat.not_lt_zero _)
 |n+1,h,d=>by
  simp only[qG]
  rcases Nat.lt_or_ge i n with k|k
  ·rw[mF b k d]
  ·have:i=n:=by omega
   subst this
   rw[j9 d,b];rfl
theorem tJ {p:Nat→Bool}: ∀ {n:Nat},(∀j,j<n→p j=false)→mE p n=none
 |0,_=>rfl
 |n+1,h=>by simp only[mE];rw[h n (Nat.lt_succ_self n)];exact tJ fun j b=>h j (Nat.lt_succ_of_lt b)
theorem oy {p:Nat→Bool} {i:Nat} (d:p i=true): ∀ {n:Nat},i<n→(∀j,i<j→j<n→p j=false)→mE p n=some i
 |0,h,_=>absurd h (Nat.not_lt_zero _)
 |n+1,h,k=>by
  simp only[mE]
  rcases Nat.lt_or_ge i n with b|b
  ·rw[k n b (Nat.lt_succ_self n)];exact oy d b fun j l m=>k j l (Nat.lt_succ_of_lt m)
  ·have:i=n:=by omega
   subst this;rw[d];rfl
def MT.mG (m:MT) (i b v:Int):Bool:=match m with
 |none=>false
 |some (_,l)=>decide (m.check i [b,v]=0)&&decide (((l.getD i.toNat 0:Nat):Int)=b)
def MT.ve (m:MT) (i b v:Int):MT:=match m with
 |none=>none
 |some (wd,l)=>if m.mG i b v then some (wd,l.set i.toNat v.toNat)else some (wd,l)
def MT.aaS (m:MT) (i d:Int):Int:=match m with
 |none=>5
 |some _=>if m.check i []=0 then(if d< -255∨255<d then 1 else 0)else m.check i []
def Fu (o:Option Nat):Int:=match o with|some i=>i|none=>0
def U9 (o:Option Nat):Int:=match o with|some _=>0|none=>4
def MT.nF (m:MT) (i v:Int):Option Nat:=match m with
 |none=>none
 |some (_,l)=>qG (fun k=>decide (i≤(k:Int))&&decide (((l.getD k 0:Nat):Int)=v)) l.length
def MT.nG (m:MT) (i v:Int):Option Nat:=match m with
 |none=>none
 |some (_,l)=>mE (fun k=>decide ((k:Int)<i)&&decide (((l.getD k 0:Nat):Int)=v)) l.length
def MT.err (m:MT) (o:Option Nat):Int:=match m with|none=>5|some _=>U9 o
def MT.entries (m:MT):Nat:=match m with|none=>0|some (_,l)=>l.length
def MT.width (m:MT):Nat:=match m with|none=>0|some (wd,_)=>wd
def okW (wd:Int):Bool:=[1,2,4,8].any fun x=>wd==x
def tK (n wd:Int):MT:=if 1≤n∧n≤4096∧okW wd=true then some (wd.toNat,List.replicate n.toNat 0)else none
def JD (m:MT):Int:=if m.isSome then 0 else 1
end
section
variable {caps:Array Value} {p:Int→Bool} {xs:List Int} {l:List Nat} {F b cap g i n t wd:Nat} {a:Option Addr} {w:World}
def ints (xs:List Int):List Value:=xs.map fun(x:Int)=>.int .i64 x
theorem aG (rest:List Value) (h:i<xs.length):(ints xs++rest)[i]? =some (.int .i64 (xs.getD i 0)):=by
 rw[List.getElem?_append_left (by simpa[ints]using h)];simp[ints,h]
def bw (n:Nat) (t:Nat) (g:Env):Nat:=match g t with|.int _ i=>(n-i).toNat|_=>0
theorem dM {g:Env} {k:IntKind} (h:g t=.int k i):bw n t g=n-i:=by unfold bw;rw[h];show((n:Int)-i).toNat=_;omega
theorem aJ {g h:Env} {k:IntKind} (e:g t=.int k i) (b:h t=.int .i64 ((i+1:Nat):Int):=by simp only[go_sem]) (d:i<n:=by omega):bw n t h<bw n t g:=by rw[dM (i:=i) e,dM (i:=i+1) b];omega
theorem au (i:Nat) (h:i≤4611686018427387903):IntKind.i64.wrap ((i:Int)+1)=((i+1:Nat):Int):=bU (i+1) (by omega)
theorem kA (h:i<xs.length):(xs.take (i+1)).any p=((xs.take i).any p||p (xs.getD i 0)):=by
 rw[List.take_succ_eq_append_getElem h,List.any_append];simp[h]
theorem CV (C : xs ≠ [] → ∃ s rest, a = some ⟨s, 0, none⟩ ∧ At w s (ints xs ++ rest)) (t : okF Tryz.prog F = true)
    (B : xs.length ≤ 1000) (D : ∀ w' x, ae [] w w' → x ∈ xs → Cs Tryz.prog F ([.int .i64 x] ++ caps.toList) w' fun v j => v = .bool (p x) ∧ ae [] w' j) :
    Cs Tryz.prog 266 [.slice a xs.length cap, .func (.func F) #[] caps] w fun v w' => (∃ k : Int, v = .int .i64 k ∧ decide (0 ≤ k) = xs.any p) ∧ ae [] w w' := by
  refine en [] ?_;refine gO ?_;refine az [5, 8, 9, 10, 11, 12, 13, 14, 15, 16, 18] (fun g w' => ∃ i : Nat, g 8 = .int .i64 i ∧ i ≤ xs.length ∧ (xs.take i).any p = false ∧ ae [] w w') (fun g _ => bw xs.length 8 g) ⟨0, by simp only [go_sem]; rfl, by omega, by simp, ae.refl _ _⟩ fun g w' E l => ?_;obtain ⟨i, r, I, d, m⟩ := E;refine aQ r ?_;refine cu (fun b => ?_) (fun u => ?_)
  · have b : i < xs.length := by simpa using b
    obtain ⟨s, rest, rfl, o⟩ := C (by intro e; subst e; simp at b);have G : (0 : Int) ≤ (i : Int) ∧ (i : Int) < (xs.length : Int) := ⟨by omega, by omega⟩;(repeat (first | with_reducible (first | refine nx ?_ | refine bA rfl ?_) | simp only [go_sem, r, if_pos G, o.cell, (o.ab m).cell, aG rest b, c9, Nat.mul_one]));have y : Cs Tryz.prog F ((#[] : Array Value).toList ++ [.int .i64 (xs.getD i 0)] ++ caps.toList) w' fun v j => v = .bool (p (xs.getD i 0)) ∧ ae [] w' j := by
      have := D w' (xs.getD i 0) m (by simp [b]);simpa using this
    refine fI (cQ F #[] [.int .i64 (xs.getD i 0)] caps) t y ?_;rintro v H ⟨rfl, q⟩;refine gO ?_;refine cu (fun z => ?_) (fun z => ?_)
    · refine gO ?_;refine ⟨⟨i, rfl, ?_⟩, m.nil q⟩;have : xs.any p = true := List.any_eq_true.2 ⟨_, by simp [b], z⟩;simp [this]
    · refine aZ r (au i (by omega)) ?_;refine l _ H ⟨i + 1, ?_, by omega, by rw [kA b, d, z]; rfl, m.nil q⟩ ?_
      · simp only [go_sem]
      · exact aJ r
  · have : i = xs.length := by have : ¬ (i < xs.length) := by simpa using u
                               omega
    subst this;refine gO ?_;refine ⟨⟨-1, rfl, ?_⟩, m⟩;rw [List.take_length] at d;simp [d]
theorem lA (l:xs≠ []→ ∃s rest,a=some ⟨s,0,none⟩∧At w s (ints xs++rest)) (d:okF Tryz.prog F=true)
  (b:xs.length≤1000) (m: ∀w' x,ae [] w w'→x∈xs→Cs Tryz.prog F ([.int .i64 x]++caps.toList) w' fun v j=>v=.bool (p x)∧ae [] w' j):
  Cs Tryz.prog 268 [.slice a xs.length cap,.func (.func F) #[] caps] w fun v w'=>v=.bool (xs.any p)∧ae [] w w':=by
 refine en [] ?_;refine gO ?_;refine aw (CV l d b m) ?_;rintro v w' ⟨⟨k,rfl,o⟩,q⟩;refine aQ o ?_;exact q
theorem CW (h:gZ w b g n wd l) (v:Int):Cs Tryz.prog 420 [.pointer (some ⟨b,0,none⟩),.int .i64 v] w fun r w'=>r=.bool (pQ wd v)∧ae [] w w':=by
 refine en [] ?_;by_cases d:0≤v
 ·refine aQ (aU d) ?_;refine aH (tG h) ?_;refine gO ?_;exact⟨by simp[pQ,d],ae.refl _ _⟩
 ·refine aQ (aX d) ?_;exact⟨by simp[pQ,d],ae.refl _ _⟩
theorem Av {q:Nat} (h:gZ w b g n wd l) (d:At w q [.pointer (some ⟨b,0,none⟩)]) (v:Int):Cs Tryz.prog 419 [.int .i64 v,.pointer (some ⟨q,0,none⟩)] w fun r w'=>r=.bool (!pQ wd v)∧ae [] w w':=by
 refine en [] ?_;refine aQ d.cell ?_;refine aM (CW h v) fun w' j=>?_;refine gO ?_;exact j
theorem qH (h:gZ w b g n wd l) {i:Int} {t:Bool} (k:hasB n i=t):Cs Tryz.prog 357 [.pointer (some ⟨b,0,none⟩),.int .i64 i] w fun r w'=>r=.bool t∧ae [] w w':=by
 subst k;obtain⟨m,cap,rest,o,j,q,u⟩:=h.mem;refine en [] ?_;by_cases d:0≤i
 ·refine aZ (aU d) j.cell ?_;refine aH (pP h) ?_;refine aZ (aU d) j.cell ?_;exact⟨by simp[hasB,d],ae.refl _ _⟩
 ·refine aZ (aX d) j.cell ?_;refine aH (pP h) ?_;refine aZ (aX d) j.cell ?_;exact⟨by simp[hasB,d],ae.refl _ _⟩
end
set_option maxRecDepth 8000
theorem Ik {α:Type} (xs:List α) (p:α→Bool):xs.any (fun x=>!p x)=!xs.all p:=by
 induction xs with
 |nil=>rfl
 |cons x xs b=>simp[b]
theorem CX {w:World} {b g n wd:Nat} {l:List Nat} (h:gZ w b g n wd l) {i:Int} {a:Option Addr} {xs:List Int} {cap:Nat} {e:Int} (m:xs≠ []→ ∃s rest,a=some ⟨s,0,none⟩∧At w s (ints xs++rest))
  (o:xs.length≤1000) (E:MT.check (some (wd,l)) i xs=e):
  Cs Tryz.prog 355 [.pointer (some ⟨b,0,none⟩),.int .i64 i,.slice a xs.length cap] w fun v w'=>v=.int .i64 e∧ae [] w w':=by
 subst E;refine en [] ?_;refine gO ?_;refine bp fun q F H G j r=>?_;have h:=h.keep r (by simp) (by simp);have m:xs≠ []→ ∃s rest,a=some ⟨s,0,none⟩∧At F s (ints xs++rest):=fun z=>let ⟨s,rest,B,C⟩:=m z;⟨s,rest,B,C.ab r⟩
 refine aQ j.cell ?_;refine aH (pP h) ?_;refine aQ j.cell ?_;by_cases k:hasB n i=true
 ·refine aM (qH h k) fun D d=>?_;have h:=h.keep d (by simp) (by simp);have j:=j.ab d;have m:xs≠ []→ ∃s rest,a=some ⟨s,0,none⟩∧At D s (ints xs++rest):=fun z=>let ⟨s,rest,B,C⟩:=m z;⟨s,rest,B,C.ab d⟩
  refine gO ?_;refine aM (lA m rfl o (p:=fun x=>!pQ wd x) fun w' x t _=>Av (h.keep t (by simp) (by simp)) (j.ab t) x) fun I u=>?_;refine aQ @Ik ?_;by_cases y:xs.all (pQ wd)=true
  ·refine aQ y ?_;exact⟨by simp[MT.check,h.len,k,y],(r.same d).same u⟩
  ·rw[Bool.not_eq_true]at y;refine aQ y ?_;exact⟨by simp[MT.check,h.len,k,y],(r.same d).same u⟩
 ·rw[Bool.not_eq_true]at k;refine aM (qH h k) fun D d=>?_;refine gO ?_;exact⟨by simp[MT.check,h.len,k],r.same d⟩
section
variable {e x:Int} {S T:List Nat} {m:MT} {b q:Nat} {a:Option Addr} {w w':World}
def iF (w:World) (a:Option Addr) (S:List Nat) (m:MT):Prop:=match m with
 |some (wd,l)=> ∃b g,a=some ⟨b,0,none⟩∧S=[b,g]∧gZ w b g l.length wd l
 |none=>(a=none∧S=[])∨ ∃b,a=some ⟨b,0,none⟩∧S=[b]∧At w b [.int .i64 0,.int .i64 0,.slice none 0 0]
theorem iF.keep (h:iF w a S m) (k:ae T w w') (d: ∀x,x∈S→x∉T):iF w' a S m:=by
 match m,h with
 |some (wd,l),⟨b,g,j,o,q⟩=>subst o;exact⟨b,g,j,rfl,q.keep k (d b (by simp)) (d g (by simp))⟩
 |none,.inl h=>exact .inl h
 |none,.inr ⟨b,j,o,q⟩=>subst o;exact .inr ⟨b,j,rfl,q.keep k (d b (by simp))⟩
theorem iF.ab (h:iF w a S m) (k:ae [] w w'):iF w' a S m:=h.keep k fun _ _=>by simp
theorem iF.lt (h:iF w a S m): ∀x,x∈S→x<w.heap.size:=by
 match m,h with
 |some (wd,l),⟨b,g,o,j,k⟩=>
  subst j;obtain⟨t,cap,rest,_,q,r,_⟩:=k.mem;intro x d;rcases List.mem_cons.1 d with rfl|d
  ·exact q.lt
  ·rcases List.mem_cons.1 d with rfl|d
   ·exact r.lt
   ·cases d
 |none,.inl h=>rw[h.2];intro x d;cases d
 |none,.inr ⟨b,o,j,k⟩=>
  subst j;intro x d;rcases List.mem_cons.1 d with rfl|d
  ·exact k.lt
  ·cases d
theorem iF.mk {g n wd:Nat} {l:List Nat} (h:gZ w b g n wd l):iF w (some ⟨b,0,none⟩) [b,g] (some (wd,l)):=⟨b,g,rfl,rfl,by rw[h.len];exact h⟩
theorem ae.sub {a b:World} (h:ae S a b) (d: ∀x,x∈S→x∈T):ae T a b:=h.mono fun x j=>.inl (d x j)
theorem ae.g {g:Nat} (h:ae [g] w w'):ae [b,g] w w':=h.sub (by simp)
theorem qI (h:iF w a S none):Cs Tryz.prog 353 [.pointer a] w fun v w'=>v=.bool false∧w'=w:=by
 rcases h with⟨rfl,_⟩|⟨b,rfl,_,h⟩
 ·exact tF w
 ·exact(pO b 0 _ w h).mono fun v w' h=>⟨by rw[h.1];rfl,h.2⟩
theorem iJ (h:iF w a S m):Cs Tryz.prog 353 [.pointer a] w fun v w'=>v=.bool m.isSome∧w'=w:=by
 match m,h with
 |some (wd,l),⟨b,g,d,k,j⟩=>subst d;exact pP j
 |none,h=>exact qI h
theorem Il (h:iF w a S m) (i:Int):Cs Tryz.prog 357 [.pointer a,.int .i64 i] w fun v w'=>v=.bool (match m with|none=>false|some (_,l)=>hasB l.length i)∧ae [] w w':=by
 match m,h with
 |some (wd,l),⟨b,g,d,k,j⟩=>subst d;exact qH j rfl
 |none,h=>
  refine en [] ?_;refine gO ?_;refine aH (qI h) ?_;refine gO ?_;exact ae.refl _ _
theorem Bx (h:iF w a S m) {i:Int} {s:Option Addr} {xs:List Int} {cap:Nat} (r:xs≠ []→ ∃q rest,s=some ⟨q,0,none⟩∧At w q (ints xs++rest)) (d:xs.length≤1000) (k:m.check i xs=e):
  Cs Tryz.prog 355 [.pointer a,.int .i64 i,.slice s xs.length cap] w fun v w'=>v=.int .i64 e∧ae [] w w':=by
 match m,h with
 |some (wd,l),⟨b,g,t,z,u⟩=>subst t;exact CX u r d k
 |none,h=>
  subst k;refine en [] ?_;refine gO ?_;refine bp fun q B C y j o=>?_;refine aQ j.cell ?_;refine aH (qI (h.ab o)) ?_;refine aQ j.cell ?_;exact⟨rfl,o⟩
theorem Fv (h:iF w a S m) (i:Int) (b:At w q [.int .i64 x]) (d:m.check i [x]=e):
  Cs Tryz.prog 355 [.pointer a,.int .i64 i,.slice (some ⟨q,0,none⟩) 1 1] w fun v w'=>v=.int .i64 e∧ae [] w w':=Bx h (xs:=[x]) (fun _=>⟨q,[],rfl,b⟩) (by simp) d
theorem Fw (h:iF w a S m) (i:Int) {y:Int} (b:At w q [.int .i64 x,.int .i64 y]) (d:m.check i [x,y]=e):
  Cs Tryz.prog 355 [.pointer a,.int .i64 i,.slice (some ⟨q,0,none⟩) 2 2] w fun v w'=>v=.int .i64 e∧ae [] w w':=Bx h (xs:=[x,y]) (fun _=>⟨q,[],rfl,b⟩) (by simp) d
theorem uV (h:iF w a S m) (i:Int):Cs Tryz.prog 216 [.pointer a,.int .i64 i] w fun v w'=>v=.int .i64 (m.get i)∧ae [] w w':=by
 refine en [] ?_;refine gO ?_;refine aM (Il h i) fun u j=>?_
 match m,h with
 |none,h=>
  refine gO ?_;exact⟨rfl,j⟩
 |some (wd,l),⟨b,g,q,y,r⟩=>
  subst q;simp only[];by_cases d:hasB l.length i=true
  ·obtain⟨k,rfl,t⟩:=tH d;refine aQ d ?_;refine aM (sE (r.keep j (by simp) (by simp)) t) fun z o=>?_;refine gO ?_;exact⟨by simp[MT.get,d],j.same o⟩
  ·rw[Bool.not_eq_true]at d;refine aQ d ?_;exact⟨by simp[MT.get,d],j⟩
theorem yP (h:iF w a S m) (i v:Int):Cs Tryz.prog 220 [.pointer a,.int .i64 i,.int .i64 v] w fun r w'=>r=.int .i64 (m.check i [v])∧iF w' a S (m.cS i v)∧ae S w w':=by
 refine en [] ?_;refine gO ?_;rw[ag rfl rfl];refine gO ?_;refine eJ fun q H I z t j=>?_;refine gO ?_;refine aM (Fv (h.ab j) i t rfl) fun J d=>?_
 match m,h with
 |none,h=>
  refine aQ @MT.tI ?_;exact⟨h.ab (j.same d),(j.same d).of_nil⟩
 |some (wd,l),⟨b,g,B,C,o⟩=>
  subst B C;have o:=(o.keep j (by simp) (by simp)).keep d (by simp) (by simp);rcases MT.ru (wd:=wd) (l:=l) (i:=i) (vs:=[v])with⟨e,y,D⟩|⟨e,y⟩
  ·obtain⟨k,rfl,E⟩:=tH y;obtain⟨x,rfl,F⟩:=yN (v:=v) (by simpa using D);refine aQ e ?_;refine aw (Bw o E F) ?_;rintro r K ⟨rfl,G,u⟩;refine gO ?_;exact⟨by simp only[MT.cS,e,if_true,c9];exact .mk G,(j.same d).of_nil.same u.g⟩
  ·refine aQ e ?_;exact⟨by simp only[MT.cS,e];exact .mk o,(j.same d).of_nil⟩
end
section
set_option maxRecDepth 8000
variable {x:Int} {xs:List Int} {S l:List Nat} {rest:List Value} {m:MT} {b cap g n s wd:Nat} {a:Option Addr} {w:World}
theorem gZ.JE (h:gZ w b g n wd l): ∃k cap,At w b [.int .i64 n,.int .i64 wd,.slice (some ⟨g,0,none⟩) k cap]:=by
 obtain⟨j,cap,rest,m,d,o,q⟩:=h.mem;exact⟨_,_,d⟩
theorem Fx (h:iF w a S m) (i v:Int):Cs Tryz.prog 295 [.pointer a,.int .i64 i,.int .i64 v] w fun r w'=>r=.tuple #[.int .i64 (Fu (m.nF i v)),.int .i64 (m.err (m.nF i v))]∧ae [] w w':=by
 refine en [] ?_;refine gO ?_;refine aH (iJ h) ?_
 match m,h with
 |none,h=>
  (repeat(first|with_reducible(first|refine nx ?_|refine bA rfl ?_)|simp only[go_sem,Option.isSome_none]));exact⟨rfl,ae.refl _ _⟩
 |some (wd,l),⟨b,g,G,D,y⟩=>
  subst G D;have M:=y.n2;(repeat(first|with_reducible(first|refine nx ?_|refine bA rfl ?_)|simp only[go_sem,Option.isSome_some]));refine az [8,14,15,16,17,18,19,20,21,22,23,24,25,26] (fun E w'=> ∃j:Nat,E 8=.int .i64 j∧i≤j∧(∀q:Nat,q<j→q<l.length→i≤q→ ¬((l.getD q 0:Nat):Int)=v)∧ae [] w w') (fun E _=>bw l.length 8 E) ⟨(max i 0).toNat,by simp only[go_sem];congr;omega,by omega,fun q G D y=>absurd y (by omega),ae.refl _ _⟩ fun E w' N o=>?_;obtain⟨j,z,H,t,F⟩:=N;have L:=y.keep F (by simp) (by simp);obtain⟨Q,cap,O⟩:=L.JE;refine aZ z O.cell ?_;refine cu (fun k=>?_) (fun B=>?_)
  ·have k:j<l.length:=by simpa using k
   refine aQ z ?_;refine aM (sE L k) fun P C=>?_;refine gO ?_;refine cu (fun I=>?_) (fun u=>?_)
   ·have I:((l.getD j 0:Nat):Int)=v:=by simpa using I
    have J:MT.nF (some (wd,l)) i v=some j:=mF (by simp[H,←I]) k fun q K=>by
     by_cases d:i≤(q:Int)
     ·have:=t q K (by omega) d;simp only[aX this,Bool.and_false]
     ·simp[d]
    refine aQ z ?_;rw[J];exact⟨rfl,F.same C⟩
   ·have u: ¬((l.getD j 0:Nat):Int)=v:=by simpa using u
    refine aZ z (au j (by omega)) ?_;refine o _ P ⟨j+1,?_,by omega,fun q G D y=>?_,F.same C⟩ ?_
    ·simp only[go_sem]
    ·rcases Nat.lt_or_ge q j with h|h
     ·exact t q h D y
     ·have:q=j:=by omega
      subst this;exact u
    ·exact aJ z
  ·have B: ¬j<l.length:=by simpa using B
   have J:MT.nF (some (wd,l)) i v=none:=j9 fun q K=>by
    by_cases d:i≤(q:Int)
    ·have:=t q (by omega) K d;simp only[aX this,Bool.and_false]
    ·simp[d]
   refine gO ?_;rw[J];exact⟨rfl,F⟩
def wY (t:Nat) (g:Env):Nat:=match g t with|.int _ i=>(i+1).toNat|_=>0
theorem lB {t:Nat} {g:Env} {k:IntKind} {i:Int} (h:g t=.int k i):wY t g=(i+1).toNat:=by unfold wY;rw[h]
theorem L3 (h:iF w a S m) (i v:Int):Cs Tryz.prog 434 [.pointer a,.int .i64 i,.int .i64 v] w fun r w'=>r=.tuple #[.int .i64 (Fu (m.nG i v)),.int .i64 (m.err (m.nG i v))]∧ae [] w w':=by
 refine en [] ?_;refine gO ?_;refine aH (iJ h) ?_
 match m,h with
 |none,h=>
  (repeat(first|with_reducible(first|refine nx ?_|refine bA rfl ?_)|simp only[go_sem,Option.isSome_none]));exact⟨rfl,ae.refl _ _⟩
 |some (wd,l),⟨b,g,I,F,t⟩=>
  subst I F;have N:=t.n2;obtain⟨W,cap,O⟩:=t.JE;have d:IntKind.i64.wrap (min (max i 0) (l.length:Int)-1)=min (max i 0) (l.length:Int)-1:=IntWalk.i64_in _ (by omega);(repeat(first|with_reducible(first|refine nx ?_|refine bA rfl ?_)|simp only[go_sem,Option.isSome_some,O.cell,d]));refine az [8,20,21,22,23,24,25,26,27,28] (fun G w'=> ∃j:Int,G 8=.int .i64 j∧(j<i∨j<0)∧j<l.length∧ -1≤j∧(∀q:Nat,j<q→q<l.length→(q:Int)<i→ ¬((l.getD q 0:Nat):Int)=v)∧ae [] w w') (fun G _=>wY 8 G) ⟨_,by simp only[go_sem];rfl,by omega,by omega,by omega,fun q I F t=>absurd t (by omega),ae.refl _ _⟩ fun G w' P u=>?_;obtain⟨j,B,Q,R,T,y,H⟩:=P;have U:=t.keep H (by simp) (by simp);refine aQ B ?_;refine cu (fun C=>?_) (fun D=>?_)
  ·have C:0≤j:=by simpa using C
   obtain⟨k,rfl⟩: ∃k:Nat,j=k:=⟨j.toNat,by omega⟩;refine aQ B ?_;refine aM (sE U (by omega)) fun V E=>?_;refine gO ?_;refine cu (fun J=>?_) (fun z=>?_)
   ·have J:((l.getD k 0:Nat):Int)=v:=by simpa using J
    have K:MT.nG (some (wd,l)) i v=some k:=oy (by simp[←J];omega) (by omega) fun q M L=>by
     by_cases o:(q:Int)<i
     ·have:=y q (by omega) L o;simp only[aX this,Bool.and_false]
     ·simp[o]
    refine aQ B ?_;rw[K];exact⟨rfl,H.same E⟩
   ·have z: ¬((l.getD k 0:Nat):Int)=v:=by simpa using z
    have d:IntKind.i64.wrap ((k:Int)-1)=(k:Int)-1:=IntWalk.i64_in _ (by omega);refine aZ B d ?_;refine u _ V ⟨(k:Int)-1,?_,by omega,by omega,by omega,fun q I F t=>?_,H.same E⟩ ?_
    ·simp only[go_sem]
    ·rcases Nat.lt_or_ge k q with h|h
     ·exact y q (by omega) F t
     ·have:q=k:=by omega
      subst this;exact z
    ·rw[lB B,lB (k:=.i64) (i:=(k:Int)-1) (by simp only[go_sem])];omega
  ·have D: ¬0≤j:=by simpa using D
   have K:MT.nG (some (wd,l)) i v=none:=tJ fun q M=>by
    by_cases o:(q:Int)<i
    ·have:=y q (by omega) M o;simp only[aX this,Bool.and_false]
    ·simp[o]
   refine gO ?_;rw[K];exact⟨rfl,H⟩
theorem index (r : At w s (ints xs ++ rest)) (q : xs.length ≤ 1000) :
    Cs Tryz.prog 330 [.slice (some ⟨s, 0, none⟩) xs.length cap, .int .i64 x] w fun v w' => (∃ k : Int, v = .int .i64 k ∧ decide (0 ≤ k) = xs.any (x == ·)) ∧ w' = w := by
  refine en [] ?_;refine gO ?_;refine az (5 :: 8 :: 9 :: 10 :: 11 :: 12 :: 13 :: 14 :: 15 :: 16 :: 18 :: []) (fun g w' => ∃ i : Nat, g 8 = .int .i64 i ∧ i ≤ xs.length ∧ (xs.take i).any (x == ·) = false ∧ w' = w) (fun g _ => bw xs.length 8 g) ⟨0, by simp only [go_sem]; rfl, by omega, by simp, rfl⟩ fun g w' t j => ?_;obtain ⟨i, l, y, b, rfl⟩ := t;refine aQ l ?_;refine cu (fun d => ?_) (fun m => ?_)
  · have d : i < xs.length := by simpa using d
    have u : (0 : Int) ≤ (i : Int) ∧ (i : Int) < (xs.length : Int) := ⟨by omega, by omega⟩;refine k0 l (eq_true u) r.cell (aG rest d) @Int.toNat_natCast @Nat.mul_one ?_;refine cu (fun o => ?_) (fun o => ?_)
    · refine gO ?_;refine ⟨i, rfl, ?_⟩;have : xs.any (x == ·) = true := List.any_eq_true.2 ⟨_, by simp [d], o⟩;simp [this]
    · refine aZ l (au i (by omega)) ?_;refine j _ _ ⟨i + 1, ?_, by omega, by rw [kA d, b, o]; rfl, rfl⟩ ?_
      · simp only [go_sem]
      · exact aJ l
  · have : i = xs.length := by have : ¬ (i < xs.length) := by simpa using m
                               omega
    subst this;refine gO ?_;refine ⟨-1, rfl, ?_⟩;rw [List.take_length] at b;simp [b]
theorem contains (d:At w s (ints xs++rest)) (b:xs.length≤1000):
  Cs Tryz.prog 226 [.slice (some ⟨s,0,none⟩) xs.length cap,.int .i64 x] w fun v w'=>v=.bool (xs.any (x== ·))∧w'=w:=by
 refine en [] ?_;refine gO ?_;refine aw (index d b) ?_;rintro v w' ⟨⟨k,rfl,j⟩,rfl⟩;(repeat(first|with_reducible(first|refine nx ?_|refine bA rfl ?_)|simp only[go_sem,j]))
structure Aw (h0:Nat) (w:World) (a:Option Addr) (S:List Nat) (m:MT):Prop where
 Bo:iF w a S m
 some:a.isSome=m.isSome
 new: ∀x,x∈S→h0≤x
theorem Aw.none (b:Nat) (w:World):Aw b w none [] none:=⟨.inl ⟨rfl,rfl⟩,rfl,by simp⟩
theorem Aw.mk' {d:Nat} (h:gZ w b g n wd l) (j:d≤b) (k:d≤g):Aw d w (.some ⟨b,0,.none⟩) [b,g] (.some (wd,l)):=
 ⟨.mk h,rfl,by simp;omega⟩
theorem L6 {wd:Int} (h:okW wd=true): ∃k:Nat,wd=k∧Wd k:=by
 simp only[okW,List.any_cons,List.any_nil,Bool.or_eq_true,beq_iff_eq,Bool.false_eq_true,or_false]at h;refine⟨wd.toNat,by omega,?_⟩;unfold Wd;omega
theorem u' (w:World) (n wd:Int):Cs Tryz.prog 223 [.int .i64 n,.int .i64 wd] w fun r w'=> ∃a S,r=.tuple #[.pointer a,.int .i64 (JD (tK n wd))]∧Aw w.heap.size w' a S (tK n wd)∧ae [] w w':=by
 refine en [] ?_;have j: ∀w',ae [] w w'→ ¬(1≤n∧n≤4096∧okW wd=true)→ ∃a S,Value.tuple #[.pointer none,.int .i64 1]=.tuple #[.pointer a,.int .i64 (JD (tK n wd))]∧Aw w.heap.size w' a S (tK n wd)∧ae [] w w':=fun w' F D=>by
  have:tK n wd=none:=if_neg D;rw[this];exact⟨none,[],rfl,.none _ _,F⟩
 by_cases z:n<1
 ·refine aQ (aU z) ?_;exact j _ (ae.refl _ _) (by omega)
 by_cases E:4096<n
 ·refine aZ (aX z) (aU E) ?_;exact j _ (ae.refl _ _) (by omega)
 refine aZ (aX z) (aX E) ?_;rw[ag rfl rfl,ag rfl rfl,ag rfl rfl,ag rfl rfl];refine gO ?_;refine eJ fun q U V G B o=>?_;refine gO ?_;refine aH (contains (xs:=[1,2,4,8]) (rest:=[]) B (by simp)) ?_;by_cases m:okW wd=true
 ·have l: [1,2,4,8].any (wd== ·)=true:=m;obtain⟨k,rfl,y⟩:=L6 m;obtain⟨e,rfl⟩: ∃e:Nat,n=e:=⟨n.toNat,by omega⟩;have H:e≤4096:=by omega
  have D:e*k≤40000:=by rcases y with rfl|rfl|rfl|rfl<;>omega
  have I:IntKind.i64.wrap ((e:Int)*k)=((e*k:Nat):Int):=by rw[←Int.natCast_mul,bU _ (by omega)]
  have J:IntKind.i64.wrap (((e*k:Nat):Int)+64)=((e*k+64:Nat):Int):=bU (e*k+64) (by omega);have K:IntKind.i64.wrap (((e*k+64:Nat):Int)-1)=((e*k+63:Nat):Int):=by rw[IntWalk.i64_in _ (by omega)];omega
  have L:=iI (e*k+63) (by omega);refine lY l I J K L ?_;refine Hp (Nat.le_refl _) (by omega) ?_ fun g W X M d C=>?_
  ·have:(e*k+63)/64≤1000:=by omega
   omega
  refine gO ?_;rw[ag rfl rfl,ag rfl rfl,ag rfl rfl];refine gO ?_;refine bp fun b N O P t u=>?_;refine gO ?_;have Q:tK (e:Int) (k:Int)=some (k,List.replicate e 0):=by
   unfold tK;rw[if_pos ⟨by omega,by omega,m⟩];simp only[c9]
  rw[Q];have R:il [Value.int IntKind.u64 0] ((e*k+63)/64)=tE (List.replicate ((e*k+63)/64) 0)++[]:=by
   rw[gx];simp[tE]
  rw[R]at d;have T:gZ N b g e k (List.replicate e 0):=by
   refine⟨y,by simp,by omega,H,(Pk.zero k e y).el,List.replicate ((e*k+63)/64) 0,(e*k+63)/64,[],Pk.zero k e y,?_,d.ab u,by omega⟩;rw[List.length_replicate];exact t
  exact⟨_,_,rfl,.mk' T (by omega) (by omega),(o.same C).same u⟩
 ·rw[Bool.not_eq_true]at m;have l: [1,2,4,8].any (wd== ·)=false:=m;refine aQ l ?_;exact j _ o (by rw[m];simp)
end
section
open Go.MapKept Go.ChangeMaps
abbrev IM:=List (Int×Value)
def getM:IM→Int→Option Value
 | [],_=>none
 |p::m,k=>if p.1=k then some p.2 else getM m k
def dG:IM→Int→Value→IM
 | [],k,v=>[(k,v)]
 |p::m,k,v=>if p.1=k then(k,v)::m else p::dG m k v
def iv:IM→Int→IM
 | [],_=>[]
 |p::m,k=>if p.1=k then m else p::iv m k
theorem PW: ∀ {m:IM} {j:Nat} {k:Int} {x:Value} (v:Value),(m.map (·.1)).Nodup→m[j]? =some (k,x)→getM m k=some x∧dG m k v=m.set j (k,v)∧iv m k=m.eraseIdx j
 | [],j,k,x,v,_,h=>by simp at h
 |p::m,0,k,x,v,_,h=>by
  simp only[List.getElem?_cons_zero,Option.some.injEq]at h
  subst h
  simp[getM,dG,iv]
 |p::m,j+1,k,x,v,b,h=>by
  simp only[List.getElem?_cons_succ]at h
  simp only[List.map_cons,List.nodup_cons]at b
  have d:p.1≠k:=fun e=>b.1 (by rw[e];exact List.mem_map.2 ⟨_,List.mem_of_getElem? h,rfl⟩)
  obtain⟨l,o,q⟩:=PW (m:=m) (j:=j) (x:=x) v b.2 h
  simp[getM,dG,iv,d,l,o,q]
theorem L7: ∀ {m:IM} {k:Int} (v:Value),(∀p,p∈m→p.1≠k)→getM m k=none∧dG m k v=m++[(k,v)]∧iv m k=m
 | [],k,v,_=>⟨rfl,rfl,rfl⟩
 |p::m,k,v,h=>by
  have b:=h p (by simp)
  obtain⟨d,j,l⟩:=L7 (m:=m) v fun q o=>h q (by simp[o])
  simp[getM,dG,iv,b,d,j,l]
def qJ (b:List MapEntry) (m:IM):Prop:=b.map (fun e=>(e.key,e.val))=m.map fun p=>(Value.int .i64 p.1,p.2)
theorem qJ.keys {b:List MapEntry} {m:IM} (h:qJ b m):b.map (·.key)=(m.map (·.1)).map (Value.int .i64):=by
 have:=congrArg (List.map (·.1)) h;simpa[List.map_map,Function.comp_def]using this
theorem qJ.at {d:List MapEntry} {m:IM} (h:qJ d m) {j:Nat} {e:MapEntry} (o:d[j]? =some e): ∃p,m[j]? =some p∧e.key=.int .i64 p.1∧e.val=p.2:=by
 have b:=congrArg (fun l:List (Value×Value)=>l[j]?) h;simp only[List.getElem?_map,o,Option.map_some]at b;cases k:m[j]? with
 |none=>simp[k]at b
 |some p=>
  simp only[k,Option.map_some,Option.some.injEq,Prod.mk.injEq]at b;exact⟨p,rfl,b.1,b.2⟩
theorem qJ.isKey {b:List MapEntry} {m:IM} (h:qJ b m): ∀x∈b,IsKey (.int .i64) x.key:=by
 intro x d;obtain⟨j,k,rfl⟩:=List.mem_iff_getElem.1 d;obtain⟨p,_,l,_⟩:=h.at (List.getElem?_eq_getElem k);rw[l];rfl
def cz (w:World) (b:Nat) (m:IM):Prop:= ∃(j:Array MapEntry) (d:Nat),w.heap[b]? =some (.map j d)∧qJ j.toList m∧Stamped j d
theorem cz.keep {w w':World} {b:Nat} {m:IM} {S:List Nat} (h:cz w b m) (k:ae S w w') (l:b∉S):cz w' b m:=by
 obtain⟨o,d,j,q⟩:=h;refine⟨o,d,?_,q⟩;rw[k.block b ((Array.getElem?_eq_some_iff.1 j).1) l];exact j
theorem cz.ab {w w':World} {b:Nat} {m:IM} (h:cz w b m) (k:ae [] w w'):cz w' b m:=h.keep k (by simp)
theorem cz.lt {w:World} {b:Nat} {m:IM} (h:cz w b m):b<w.heap.size:=by
 obtain⟨k,d,j,_⟩:=h;exact(Array.getElem?_eq_some_iff.1 j).1
theorem cz.nodup {w:World} {b:Nat} {m:IM} (h:cz w b m):(m.map (·.1)).Nodup:=by
 obtain⟨l,d,_,j,k⟩:=h;have:=k.2.2;rw[j.keys]at this;exact(List.pairwise_map.1 this).imp fun h e=>h (by rw[e])
theorem dD {w:World} {b:Nat} {o:Obj}:ae [b] w (setBlock w b o):=by
 refine⟨rfl,rfl,rfl,by simp[setBlock],fun k j d=>?_⟩;simp only[aK]at d;simp[setBlock,Ne.symm d]
theorem eu {w:World} {b:Nat} {o:Obj}:(setBlock w b o).heap.size=w.heap.size:=by simp[setBlock]
section
variable {P:Program} {t kt et:TypeId} {w:World} {b:Nat} {m:IM} {k:Int}
theorem By {o:Array MapEntry} (h:qJ o.toList m) (z:(m.map (·.1)).Nodup) (k:Int) (v:Value):
  (Instr.findNow (.int .i64) (.int .i64 k) o.toList 0=some none∧(∀x∈o.toList,x.key≠.int .i64 k)∧getM m k=none∧dG m k v=m++[(k,v)]∧iv m k=m)∨
   ∃j e,Instr.findNow (.int .i64) (.int .i64 k) o.toList 0=some (some (j,e.val))∧o.toList[j]? =some e∧e.key=.int .i64 k∧getM m k=some e.val∧dG m k v=m.set j (k,v)∧iv m k=m.eraseIdx j:=by
 rcases findNow_spec (d:=.int .i64) (k:=.int .i64 k) rfl o.toList 0 h.isKey with⟨t,q⟩|⟨j,e,t,q,y⟩
 ·refine .inl ⟨t,q,L7 v fun p B C=>?_⟩;obtain⟨j,D,rfl⟩:=List.mem_iff_getElem.1 B;have E:o.toList.length=m.length:=by simpa[qJ]using congrArg List.length h
  have r:j<o.toList.length:=by omega
  obtain⟨p,b,l,_⟩:=h.at (List.getElem?_eq_getElem r);rw[List.getElem?_eq_getElem D]at b;cases b;exact q _ (List.getElem_mem r) (by rw[l,C])
 ·obtain⟨p,b,l,u⟩:=h.at q;rw[y]at l;have w:p.1=k:=by cases l;rfl
  refine .inr ⟨j,e,by simpa using t,q,y,?_⟩;rw[u];exact PW v z (by rw[b,←w])
theorem Bz (J:P.underlying t=some (.map kt et)) (B:P.underlying kt=some (.int .i64)) (h:cz w b m) (v:Value):
  ∃w',(Instr.mapUpdate t (.map (some b)) (.int .i64 k) v).run P w=.ok () w'∧w'.heap.size=w.heap.size∧cz w' b (dG m k v)∧ae [b] w w':=by
 have N:=h.nodup;obtain⟨C,q,u,D,K⟩:=h;have F:b<w.heap.size:=(Array.getElem?_eq_some_iff.1 u).1;have r: ∀o:Obj,(setBlock w b o).heap[b]? =some o:=fun o=>by simp[setBlock,F]
 rcases By D N k v with⟨G,E,_,O,_⟩|⟨j,e,G,E,L,_,Q,_⟩
 ·refine⟨setBlock w b (.map (C.push {key:=.int .i64 k,val:=v,born:=q}) (q+1)),?_,eu,⟨_,_,r _,?_,stamped_push K E⟩,dD⟩
  ·simp[Instr.mapUpdate,run_underlying J,MapKept.run_getObj_map u,run_checkKey B (k:=.int .i64 k) rfl,run_findKey B G,MapKept.run_setObj_map _ u,Result.andThen,setBlock]
  ·rw[O];simp only[qJ,Array.toList_push,List.map_append,List.map_cons,List.map_nil];rw[show C.toList.map (fun e=>(e.key,e.val))=_ from D]
 ·have H:C[j]? =some e:=by simpa using E
  refine⟨setBlock w b (.map (C.modify j fun e=> {e with key:=.int .i64 k,val:=v}) q),?_,eu,⟨_,_,r _,?_,stamped_modify K j _ (fun _ _=>rfl) (fun S _ y=>?_)⟩,dD⟩
  ·simp[Instr.mapUpdate,run_underlying J,MapKept.run_getObj_map u,run_checkKey B (k:=.int .i64 k) rfl,run_findKey B G,H,L,run_keyThatStays (d:=.int .i64) (k:=.int .i64 k) rfl,MapKept.run_setObj_map _ u,Result.andThen,setBlock]
  ·rw[Q];apply List.ext_getElem?;intro i;have M:=congrArg (fun l:List (Value×Value)=>l[i]?) D;simp only[List.getElem?_map,Array.getElem?_toList]at M;simp only[List.getElem?_map,Array.getElem?_toList,Array.getElem?_modify,List.getElem?_set];by_cases z:j=i
   ·subst z;have I:j<m.length:=by
     obtain⟨p,R,_⟩:=D.at E;exact(List.getElem?_eq_some_iff.1 R).1
    simp[H,I]
   ·simp[z,M]
  ·rw[H]at y;cases y;exact L.symm
theorem yQ (q:P.underlying t=some (.map kt et)) (d:P.underlying kt=some (.int .i64)) {z:Value} (y:(zeroValue et).run P w=.ok z w) (h:cz w b m) (k:Int) (r:Bool):
  (Instr.lookup t (.map (some b)) (.int .i64 k) r).run P w=.ok (if r then .tuple #[(getM m k).getD z,.bool (getM m k).isSome]else(getM m k).getD z) w:=by
 have B:=h.nodup;obtain⟨F,l,u,C,G⟩:=h;rcases By C B k undef with⟨o,_,D,_⟩|⟨j,e,o,_,_,E,_⟩
 ·simp[Instr.lookup,run_underlying q,MapKept.run_getObj_map u,run_checkKey d (k:=.int .i64 k) rfl,run_findKey d o,Result.andThen,y,D]
 ·simp[Instr.lookup,run_underlying q,MapKept.run_getObj_map u,run_checkKey d (k:=.int .i64 k) rfl,run_findKey d o,Result.andThen,E]
theorem Im {ty E:TypeId} (C:P.underlying t=some (.map kt et)) (u:P.underlying kt=some (.int .i64)) (h:cz w b m):
  ∃w',(Builtin.delete_ #[t,E] ty #[.map (some b),.int .i64 k]).run P w=.ok (.tuple #[]) w'∧w'.heap.size=w.heap.size∧cz w' b (iv m k)∧ae [b] w w':=by
 have F:=h.nodup;obtain⟨q,d,r,y,D⟩:=h;have z:b<w.heap.size:=(Array.getElem?_eq_some_iff.1 r).1;have l: ∀o:Obj,(setBlock w b o).heap[b]? =some o:=fun o=>by simp[setBlock,z]
 rcases By y F k undef with⟨B,_,_,_,G⟩|⟨j,e,B,H,_,_,_,I⟩
 ·refine⟨setBlock w b (.map q d),?_,eu,⟨_,_,l _,?_,D⟩,dD⟩
  ·simp[Builtin.delete_,run_underlying C,MapKept.run_getObj_map r,run_checkKey u (k:=.int .i64 k) rfl,run_findKey u B,MapKept.run_setObj_map _ r,Result.andThen,setBlock]
  ·rw[G];exact y
 ·refine⟨setBlock w b (.map (q.eraseIdxIfInBounds j) d),?_,eu,⟨_,_,l _,?_,stamped_erase D j⟩,dD⟩
  ·simp[Builtin.delete_,run_underlying C,MapKept.run_getObj_map r,run_checkKey u (k:=.int .i64 k) rfl,run_findKey u B,MapKept.run_setObj_map _ r,Result.andThen,setBlock]
  ·rw[I];have J:j<q.size:=by
    have:=(List.getElem?_eq_some_iff.1 H).1;simpa using this
   have K:(q.eraseIdxIfInBounds j).toList=q.toList.eraseIdx j:=by simp[Array.eraseIdxIfInBounds,J]
   unfold qJ;rw[K,map_eraseIdx,map_eraseIdx,show q.toList.map (fun e=>(e.key,e.val))=_ from y]
theorem yR {ty:TypeId} (j:P.underlying t=some (.map kt et)) (h:cz w b m):(Builtin.len_ #[t] ty #[.map (some b)]).run P w=.ok (.int .i64 m.length) w:=by
 obtain⟨k,d,l,o,r⟩:=h;have q:k.size=m.length:=by simpa[qJ]using congrArg List.length o
 simp[Builtin.len_,run_underlying j,MapKept.run_getObj_map l,Result.andThen,goInt,q]
theorem vf:(Instr.makeMap t none).run P w=.ok (.map (some w.heap.size)) (w.alloc (.map #[] 0)):=by
 simp[Instr.makeMap,Result.andThen]
theorem cz.alloc (w:World):cz (w.alloc (.map #[] 0)) w.heap.size []:=⟨#[],0,heap_alloc_new w _,rfl,stamped_empty 0⟩
def hH (w:World) (r b:Nat) (m left:IM):Prop:= ∃(j:Array MapEntry) (d since k:Nat) (seen:Array Nat),w.heap[b]? =some (.map j d)∧w.heap[r]? =some (.mapIter (some b) since seen k)∧
 (∀x∈j.toList,x.born<since)∧since≤k∧since≤d∧qJ j.toList m∧Stamped j d∧qJ (leftOf j seen).toList left
theorem hH.keep {w w':World} {r b:Nat} {m left:IM} {S:List Nat} (h:hH w r b m left) (k:ae S w w') (o:r∉S) (q:b∉S):hH w' r b m left:=by
 obtain⟨t,d,since,u,seen,j,l,y⟩:=h;refine⟨t,d,since,u,seen,?_,?_,y⟩
 ·rw[k.block b ((Array.getElem?_eq_some_iff.1 j).1) q];exact j
 ·rw[k.block r ((Array.getElem?_eq_some_iff.1 l).1) o];exact l
theorem hH.ab {w w':World} {r b:Nat} {m left:IM} (h:hH w r b m left) (k:ae [] w w'):hH w' r b m left:=h.keep k (by simp) (by simp)
theorem hH.map {w:World} {r b:Nat} {m left:IM} (h:hH w r b m left):cz w b m:=by
 obtain⟨j,d,since,q,seen,k,t,u,_,_,l,o,_⟩:=h;exact⟨j,d,k,l,o⟩
theorem Ax (r:P.underlying t=some (.map kt et)) (h:cz w b m): ∃w',(Instr.range t (.map (some b))).run P w=.ok (.pointer (some ⟨w.heap.size,0,none⟩)) w'∧w'.heap.size=w.heap.size+1∧hH w' w.heap.size b m m∧ae [] w w':=by
 obtain⟨j,d,k,o,q⟩:=h;have l:b<w.heap.size:=(Array.getElem?_eq_some_iff.1 k).1;refine⟨_,run_range_map w t kt et b j d r k,by simp,⟨j,d,d,d,#[],?_,heap_alloc_new w _,q.1,Nat.le_refl _,Nat.le_refl _,o,q,?_⟩,ae.alloc [] w _⟩
 ·rw[heap_alloc_old w _ l];exact k
 ·have:leftOf j #[]=j:=by unfold leftOf;simp
  rw[this];exact o
theorem qJ.filter {b:List MapEntry} {m:IM} {p:MapEntry→Bool} {q:Int×Value→Bool} (h:qJ b m) (d: ∀(j:Nat) (e:MapEntry) (x:Int×Value),b[j]? =some e→m[j]? =some x→p e=q x):qJ (b.filter p) (m.filter q):=by
 induction b generalizing m with
 |nil=>cases m with
  |nil=>rfl
  |cons _ _=>simp[qJ]at h
 |cons e b l=>cases m with
  |nil=>simp[qJ]at h
  |cons x m=>
   have o:=d 0 e x rfl rfl;have r:qJ b m:=by simp only[qJ,List.map_cons,List.cons.injEq]at h;exact h.2
   have t:(e.key,e.val)=(Value.int .i64 x.1,x.2):=by simp only[qJ,List.map_cons,List.cons.injEq]at h;exact h.1
   have k:=l r fun j e x u w=>d (j+1) e x u w;rw[List.filter_cons,List.filter_cons,o];cases q x with
   |true=>simp only[if_true,qJ,List.map_cons,List.cons.injEq];exact⟨t,k⟩
   |false=>exact k
def L9 (w:World) (r b:Nat) (p:Int×Value):Prop:= ∃(j:Array MapEntry) (d since:Nat) (seen:Array Nat) (e:MapEntry),w.heap[r]? =some (.mapIter (some b) since (seen.push e.born) d)∧w.heap[b]? =some (.map j d)∧e∈j.toList∧(j.toList.map (·.born)).Nodup∧e.key=.int .i64 p.1∧e.val=p.2
theorem CY {ty:TypeId} {r:Nat} {left:IM} (h:hH w r b m left):
  (left=[]∧(Instr.next (.pointer (some ⟨r,0,none⟩)) false ty).run P w=.ok (.tuple #[.bool false]) w)∨
  ∃p w',p∈left∧(Instr.next (.pointer (some ⟨r,0,none⟩)) false ty).run P w=.ok (.tuple #[.bool true,.int .i64 p.1,p.2]) w'∧w'.heap.size=w.heap.size∧ae [r] w w'∧hH w' r b m (left.filter fun q=>q.1 !=p.1)∧L9 w' r b p:=by
 obtain⟨o,d,since,c0,seen,I,J,Y,h4,y,h5,K,L⟩:=h;rcases run_next_at (P:=P) w ty r b since c0 seen o d J I Y h4 with⟨h0,M⟩|⟨e,N,Z,z,M⟩
 ·refine .inl ⟨?_,M⟩;have hl:(leftOf o seen).size=left.length:=by simpa[qJ]using congrArg List.length L
  exact List.eq_nil_of_length_eq_zero (by omega)
 ·obtain⟨j,hj,O⟩:=List.mem_iff_getElem.1 N;have B:(leftOf o seen).toList[j]? =some e:=by rw[List.getElem?_eq_getElem hj,O]
  obtain⟨p,Q,l,C⟩:=L.at B;have R:ae [] w Z:=by rcases z with rfl|rfl;exact ae.refl _ _;exact ae.drew [] _
  have k:Z.heap=w.heap:=by rcases z with rfl|rfl<;>rfl
  rw[l,C]at M;have t:r<w.heap.size:=(Array.getElem?_eq_some_iff.1 J).1;have D:b≠r:=by rintro rfl;rw[I]at J;cases J
  refine .inr ⟨p,_,List.mem_of_getElem? Q,M,by simp[setBlock,k],?_,⟨o,d,since,d,seen.push e.born,?_,?_,Y,y,y,h5,K,?_⟩,⟨o,d,since,seen,e,?_,?_,(mem_left N).1,K.2.1,l,C⟩⟩
  ·exact(R.of_nil (T:=[r])).same dD
  ·simp[setBlock,Ne.symm D,k,I]
  ·simp[setBlock,k,t]
  ·have e1:(leftOf o (seen.push e.born)).toList=(leftOf o seen).toList.filter fun x=>!(x.born==e.born):=by
    unfold leftOf;simp only[Array.toList_filter,List.filter_filter];apply List.filter_congr;intro x _;rw[contains_push];cases seen.contains x.born<;>cases (x.born==e.born)<;>rfl
   rw[e1];refine L.filter fun i x q hx hq=>?_;obtain⟨q',E,u,_⟩:=L.at hx;rw[hq]at E;cases E;have S:=(mem_left (List.mem_of_getElem? hx)).1;have F:=(mem_left N).1;have G:x∈o.toList:=S
   have H:x.born=e.born↔q.1=p.1:=by
    constructor
    ·intro hb;have:=born_inj K.2.1 G F hb;rw[this,l]at u;injection u with _ h;exact h.symm
    ·intro hk;have U:x.key=e.key:=by rw[u,l,hk]
     obtain⟨ix,V,rfl⟩:=List.mem_iff_getElem.1 G;obtain⟨ie,W,rfl⟩:=List.mem_iff_getElem.1 F;have X:=K.2.2;have hi:=(List.getElem_inj (h₀:=by simpa using V) (h₁:=by simpa using W) X).1 (by simpa using U);subst hi;rfl
   show(!(x.born==e.born))=!(q.1==p.1);congr 1;rw[Bool.eq_iff_iff,beq_iff_eq,beq_iff_eq];exact H
  ·simp[setBlock,k,t]
  ·simp[setBlock,Ne.symm D,k,I]
end
section
variable {P:Program} {t kt et:TypeId} {w:World} {b:Nat} {m:IM} {k:Int} {d:Option Nat} {rest:List XO} {ρ:Env} {C:Env→World→Prop}
theorem Ay (h: ∀b w',b=w.heap.size→w'.heap.size=w.heap.size+1→cz w' b []→ae [] w w'→VO P rest (bo ρ d (.map (some b))) w' C):kJ P (Instr.makeMap t none) d rest ρ w C:=
 runT vf (h _ _ rfl (by simp) (cz.alloc w) (ae.alloc [] w _))
theorem Fy (j:P.underlying t=some (.map kt et)) (l:P.underlying kt=some (.int .i64)) {v:Value} (h:cz w b m) (o: ∀w',w'.heap.size=w.heap.size→cz w' b (dG m k v)→ae [b] w w'→VO P rest (bo ρ d undef) w' C):
  Bh P (Instr.mapUpdate t (.map (some b)) (.int .i64 k) v) d rest ρ w C:=by
 obtain⟨w',q,r,u,y⟩:=Bz (k:=k) j l h v;exact Oc q (o w' r u y)
theorem pR (j:P.underlying t=some (.map kt et)) (l:P.underlying kt=some (.int .i64)) {z:Value} (o:(zeroValue et).run P w=.ok z w) (h:cz w b m) (q:VO P rest (bo ρ d ((getM m k).getD z)) w C):kJ P (Instr.lookup t (.map (some b)) (.int .i64 k) false) d rest ρ w C:=
 runT (yQ j l o h k false) q
theorem PX (j:P.underlying t=some (.map kt et)) (l:P.underlying kt=some (.int .i64)) {z:Value} (o:(zeroValue et).run P w=.ok z w) (h:cz w b m) (q:VO P rest (bo ρ d (.tuple #[(getM m k).getD z,.bool (getM m k).isSome])) w C):kJ P (Instr.lookup t (.map (some b)) (.int .i64 k) true) d rest ρ w C:=
 runT (yQ j l o h k true) q
theorem PY {j:TypeId} (l:P.underlying t=some (.map kt et)) (o:P.underlying kt=some (.int .i64)) (h:cz w b m) (q: ∀w',w'.heap.size=w.heap.size→cz w' b (iv m k)→ae [b] w w'→VO P rest (bo ρ d (.tuple #[])) w' C):
  kJ P (Builtin.delete_ #[t,j] 0 #[.map (some b),.int .i64 k]) d rest ρ w C:=by
 obtain⟨w',r,u,y,z⟩:=Im (k:=k) l o h;exact runT r (q w' u y z)
theorem JF (j:P.underlying t=some (.map kt et)) (h:cz w b m) (k:VO P rest (bo ρ d (.int .i64 m.length)) w C):kJ P (Builtin.len_ #[t] 0 #[.map (some b)]) d rest ρ w C:=runT (yR j h) k
theorem Az (j:P.underlying t=some (.map kt et)) (h:cz w b m) (k: ∀r w',r=w.heap.size→w'.heap.size=w.heap.size+1→hH w' r b m m→ae [] w w'→VO P rest (bo ρ d (.pointer (some ⟨r,0,none⟩))) w' C):kJ P (Instr.range t (.map (some b))) d rest ρ w C:=by
 obtain⟨w',l,o,q,u⟩:=Ax j h;exact runT l (k _ w' rfl o q u)
theorem Fz {r:Nat} {left:IM} (h:hH w r b m left) (l:left=[]→VO P rest (bo ρ d (.tuple #[.bool false])) w C)
  (o: ∀p w',p∈left→w'.heap.size=w.heap.size→ae [r] w w'→hH w' r b m (left.filter fun q=>q.1 !=p.1)→L9 w' r b p→VO P rest (bo ρ d (.tuple #[.bool true,.int .i64 p.1,p.2])) w' C):kJ P (Instr.next (.pointer (some ⟨r,0,none⟩)) false 0) d rest ρ w C:=by
 rcases CY (P:=P) (ty:=0) h with⟨j,k⟩|⟨p,w',j,k,t,u,y,z⟩
 ·exact runT k (l j)
 ·exact runT k (o p w' j t u y z)
theorem AA {r:Nat} {p:Int×Value} (h:L9 w r b p) (k:VO P rest (bo ρ d (.tuple #[.int .i64 p.1,p.2])) w C):kJ P (Instr.entry (.pointer (some ⟨r,0,none⟩))) d rest ρ w C:=by
 obtain⟨l,j,since,seen,e,m,o,q,t,u,y⟩:=h;have:=run_entry_at (P:=P) w r b since seen l j e m o q t;rw[u,y]at this;exact runT this k
def tL (w:World) (r b:Nat):Nat:=match w.heap[b]?,w.heap[r]? with
 |some (.map d _),some (.mapIter _ _ seen _)=>(leftOf d seen).size
 |_,_=>0
theorem hH.left {r:Nat} {left:IM} (h:hH w r b m left):tL w r b=left.length:=by
 obtain⟨o,d,since,q,seen,j,k,_,_,_,_,_,l⟩:=h;unfold tL;rw[j,k];simpa[qJ]using congrArg List.length l
end
end
structure HL where
 B:List (Int×Int)
 W:List Int
 st:List Nat
 pn:List Nat
 pl:IM
 fw:IM
 born:Nat
abbrev HO:=Option HL
abbrev Sh:=Int×Int×Int
def bS (s:Sh):List Value:=[.int .i64 s.1,.int .i64 s.2.1,.int .i64 s.2.2]
def aS (s:Sh):Bool:=decide (0≤s.1)&&decide (s.1≤15)&&decide (0≤s.2.1)&&decide (s.2.1≤200)&&decide (0≤s.2.2)&&decide (s.2.2≤3)&&(decide (s.2.2≠1)||decide (1≤s.1))&&(decide (s.2.2≠2)||decide (2≤s.1))
def aE (s:Sh):Int:=if aS s then(2+s.1+s.2.1+1)/2*2 else 0
def hU (s:Sh):Int:=s.1+16*s.2.1+4096*s.2.2
def du (n:Int):Sh:=(n.tmod 16,(n.tmod 4096).tdiv 16,n.tdiv 4096)
def da (n:Int):Bool:=decide (0≤n)&&decide (n<8)
def HL.b (s:HL) (i:Int):Int×Int:=s.B.getD i.toNat (0,0)
def iK (m:HO) (b:Int):Bool:=match m with|none=>false|some s=>decide (1≤b)&&decide (b<s.B.length)
def cJ (m:HO):Nat:=match m with|none=>0|some s=>s.B.length
def jB (m:HO) (b:Int):Int:=match m with|none=> -1|some s=>if 0≤b∧b<s.B.length then(s.b b).1 else-1
def pS (m:HO) (b:Int):Int:=match m with|none=> -1|some s=>if 0≤b∧b<s.B.length then(s.b b).2 else-1
def dZ (B:List (Int×Int)) (k:Nat) (x:Int×Int):Nat→List (Int×Int)
 |0=>B
 |j+1=>(dZ B k x j).set (k+j) x
theorem b5 (B:List (Int×Int)) (k:Nat) (x:Int×Int) (j:Nat):(dZ B k x j).length=B.length:=by
 induction j with
 |zero=>rfl
 |succ j b=>simp[dZ,b]
def bs (m:HO) (b many:Int) (first:Int×Int):Int:=match m with
 |none=>5
 |some s=>if iK m b=false∨many<1∨(s.B.length:Int)-b<many∨da first.2=false then 1
  else if((s.B.drop b.toNat).take many.toNat).any (fun x=>x !=(0,0))then 8 else 0
def bW (m:HO) (b many:Int) (first more:Int×Int):HO:=match m with
 |none=>none
 |some s=>if bs m b many first=0 then some {s with B:=(dZ s.B b.toNat more many.toNat).set b.toNat first}else some s
def tails (B:List (Int×Int)) (b:Nat):Nat→Nat→Nat
 |0,n=>n
 |f+1,n=>if b+n<B.length∧(B.getD (b+n) (0,0)).1=3 then tails B b f (n+1)else n
def HL.span (s:HL) (b:Nat):Nat:=if(s.B.getD b (0,0)).1=2 then tails s.B b s.B.length 1 else 1
def HL.size (s:HL) (a:Nat):Int:=aE (du (s.W.getD (a+1) 0))
def HL.jF (s:HL):MT:=some (1,s.st)
def HL.pins (s:HL):MT:=some (1,s.pn)
def gT (m:HO) (a:Int):Int×Int:=match m with
 |none=>(0,5)
 |some s=>if a<0∨(s.W.length:Int)≤a then(0,4)else match s.jF.nG (a/2+1) 1 with
  |none=>(0,4)
  |some i=>if 2*(i:Int)+s.size (2*i)≤a then(0,4)else(2*(i:Int),0)
def eT (s:HL) (a:Int) (but:Int) (j:Nat):Bool:=(gT (some s) (a+2*(j:Int))).2==0&&(gT (some s) (a+2*(j:Int))).1 !=but
def pT (s:HL) (a:Int):Bool:=decide (a<0)||decide ((s.W.length:Int)≤a)||decide (¬a%2=0)
def bX (s:HL) (a b:Int):Bool:=if b≤32 then decide ((s.b (a/64)).1≠1)||decide ((a+b-1)/64≠a/64)else decide ((s.b (a/64)).1≠2)||decide (a%64≠0)||decide ((s.span (a/64).toNat:Int)≠(b+63)/64)
def fc (s:HL) (a b but:Int):Int:=if pT s a=true then 1 else if bX s a b=true then 5 else if(List.range ((b+1)/2).toNat).any (eT s a but)=true then 8 else 0
def bC (m:HO) (a:Int) (b:Sh):Int×Int:=match m with
 |none=>(0,5)
 |some s=>if aS b=false then(0,2)else if fc s a (aE b) (-1)≠0 then(0,fc s a (aE b) (-1))else(((s.born+1:Nat):Int),0)
def bK (m:HO) (a:Int) (b:Sh):HO:=match m with
 |none=>none
 |some s=>if(bC m a b).2=0 then some {s with W:=(s.W.set a.toNat ((s.born+1:Nat):Int)).set (a.toNat+1) (hU b),st:=s.st.set (a.toNat/2) 1,pl:=dG s.pl ((s.born+1:Nat):Int) (.int .i64 a),born:=s.born+1}else some s
def bE (m:HO) (a:Int):Bool:=match m with
 |none=>false
 |some s=>decide (0≤a)&&decide (a%2=0)&&decide (s.jF.get (a/2)=1)
def cK (m:HO) (a:Int):Int:=match m with
 |none=>5
 |some _=>if bE m a then 0 else 4
def HL.dy (s:HL) (a:Int):Sh:=du (s.W.getD (a.toNat+1) 0)
def aV (m:HO) (a:Int):Sh×Int:=match m with
 |none=>((0,0,0),5)
 |some s=>if cK m a=0 then(s.dy a,0)else((0,0,0),cK m a)
def br (m:HO) (a i:Int) (data:Bool):Int×Int:=match m with
 |none=>(0,5)
 |some s=>if cK m a≠0 then(0,cK m a)else
  if i<0∨(bif data then(s.dy a).2.1 else(s.dy a).1)≤i then(0,1)else((bif data then a+2+(s.dy a).1 else a+2)+i,0)
def dE (m:HO) (a i:Int):Int×Int:=match m with
 |none=>(0,5)
 |some s=>if(br m a i false).2=0 then(s.W.getD (br m a i false).1.toNat 0,0)else(0,(br m a i false).2)
def cf (m:HO) (a i to:Int):Int:=match m with
 |none=>5
 |some _=>if(br m a i false).2≠0 then(br m a i false).2 else if to≠0∧bE m to=false then 1 else 0
def bj (m:HO) (a i to:Int):HO:=match m with
 |none=>none
 |some s=>if cf m a i to=0 then some {s with W:=s.W.set (br m a i false).1.toNat to}else some s
structure HL.Ok (s:HL):Prop where
 b2:2≤s.B.length
 jd:s.B.length≤64
 wl:s.W.length=64*s.B.length
 sl:s.st.length=32*s.B.length
 pl:s.pn.length=32*s.B.length
 fit: ∀i,s.st.getD i 0=1→ ∃r d k:Nat,aS (r,d,k)=true∧s.W.getD (2*i+1) 0=hU (r,d,k)∧((2*i:Nat):Int)+aE (r,d,k)≤s.W.length
 dj: ∀i j,s.st.getD i 0=1→s.st.getD j 0=1→i<j→((2*i:Nat):Int)+s.size (2*i)≤((2*j:Nat):Int)
def my (n:Int):HO:=if 2≤n∧n≤64 then some ⟨List.replicate n.toNat (0,0),List.replicate (64*n.toNat) 0,List.replicate (32*n.toNat) 0,List.replicate (32*n.toNat) 0,[],[],0⟩else none
theorem jg {r d k:Nat} (h:aS (r,d,k)=true):du (hU (r,d,k))=((r:Int),(d:Int),(k:Int)):=by
 simp only[aS,Bool.and_eq_true,decide_eq_true_eq]at h;have b:hU (r,d,k)=((r+16*d+4096*k:Nat):Int):=by simp[hU]
 rw[b];simp only[du];rw[Int.tmod_eq_emod_of_nonneg (by omega),Int.tmod_eq_emod_of_nonneg (by omega),Int.tdiv_eq_ediv_of_nonneg (by omega),Int.tdiv_eq_ediv_of_nonneg (by omega)];have:=h.1.1;refine Prod.ext ?_ (Prod.ext ?_ ?_)<;>simp only<;>omega
theorem dk {s:Sh} (h:aS s=true):2≤aE s∧aE s≤218∧aE s%2=0∧2+s.1+s.2.1≤aE s:=by
 unfold aE;rw[if_pos h];simp only[aS,Bool.and_eq_true,decide_eq_true_eq]at h;omega
theorem je (s:Sh):0≤aE s∧aE s≤218∧aE s%2=0:=by
 cases h:aS s with
 |true=>have:=dk h;omega
 |false=>unfold aE;rw[h];simp
section
attribute [go_sem] Option.isSome_some Option.isSome_none
variable {s:HL} {m:HO} {S fp:List Nat} {yB yW:List Value} {b bf bl gB gW pb pg sb sg:Nat} {a:Option Addr} {w w':World}
theorem dv2 (v:Value):ko 2 v=some v:=Eq.trans rfl rfl
theorem dv8 (v:Value):ko 8 v=some v:=Eq.trans rfl rfl
theorem U' (v:Value):ko 16 v=some v:=Eq.trans rfl rfl
theorem Ma (v:Value):ko 4096 v=some v:=Eq.trans rfl rfl
attribute [go_sem] dv2 dv8 U' Ma
def cG (B:List (Int×Int)):List Value:=B.flatMap fun x=>[.int .i64 x.1,.int .i64 x.2]
theorem bJ (B:List (Int×Int)):(cG B).length=2*B.length:=by
 induction B with
 |nil=>rfl
 |cons x B b=>simp only[cG,List.flatMap_cons,cH,List.length_cons,List.length_nil]at b⊢;omega
theorem jG {B:List (Int×Int)} {i:Nat} (h:i<B.length):(cG B)[2*i]? =some (.int .i64 (B.getD i (0,0)).1)∧(cG B)[2*i+1]? =some (.int .i64 (B.getD i (0,0)).2):=by
 induction B generalizing i with
 |nil=>simp at h
 |cons x B b=>
  cases i with
  |zero=>simp[cG]
  |succ i=>
   have d:i<B.length:=by simpa using h
   obtain⟨j,k⟩:=b d;have e:cG (x::B)=.int .i64 x.1::.int .i64 x.2::cG B:=rfl;rw[e,show 2*(i+1)=2*i+1+1 by omega,show 2*i+1+1+1=(2*i+1)+1+1 by omega];simpa using⟨j,k⟩
structure rv (w:World) (b:Nat) (s:HL) (gB gW cB cW:Nat) (yB yW:List Value) (sb sg pb pg bl bf:Nat):Prop where
 ok:s.Ok
 hb:At w b [.slice (some ⟨gB,0,none⟩) s.B.length cB,.slice (some ⟨gW,0,none⟩) s.W.length cW,.pointer (some ⟨sb,0,none⟩),.pointer (some ⟨pb,0,none⟩),.map (some bl),.map (some bf),.int .i64 s.born]
 hB:At w gB (cG s.B++yB)
 hW:At w gW (ints s.W++yW)
 cB:s.B.length≤cB
 cW:s.W.length≤cW
 hs:gZ w sb sg s.st.length 1 s.st
 hp:gZ w pb pg s.pn.length 1 s.pn
 hl:cz w bl s.pl
 hf:cz w bf s.fw
 nd: [b,gB,gW,sb,sg,pb,pg,bl,bf].Nodup
def HM (w:World) (b:Nat) (s:HL) (fp:List Nat):Prop:= ∃gB gW d cW yB yW sb sg pb pg bl bf,fp=[b,gB,gW,sb,sg,pb,pg,bl,bf]∧rv w b s gB gW d cW yB yW sb sg pb pg bl bf
def HR (w:World) (a:Option Addr) (fp:List Nat) (m:HO):Prop:=match m with
 |some s=> ∃b,a=some ⟨b,0,none⟩∧HM w b s fp
 |none=>(a=none∧fp=[])∨ ∃b,a=some ⟨b,0,none⟩∧fp=[b]∧At w b [.slice none 0 0,.slice none 0 0,.pointer none,.pointer none,.map none,.map none,.int .i64 0]
theorem rv.keep {cB cW:Nat} (h:rv w b s gB gW cB cW yB yW sb sg pb pg bl bf) (k:ae S w w') (d: ∀x,x∈[b,gB,gW,sb,sg,pb,pg,bl,bf]→x∉S):rv w' b s gB gW cB cW yB yW sb sg pb pg bl bf:=
 ⟨h.ok,h.hb.keep k (d _ (by simp)),h.hB.keep k (d _ (by simp)),h.hW.keep k (d _ (by simp)),h.cB,h.cW,h.hs.keep k (d _ (by simp)) (d _ (by simp)),h.hp.keep k (d _ (by simp)) (d _ (by simp)),h.hl.keep k (d _ (by simp)),h.hf.keep k (d _ (by simp)),h.nd⟩
theorem rv.ab {cB cW:Nat} (h:rv w b s gB gW cB cW yB yW sb sg pb pg bl bf) (k:ae [] w w'):rv w' b s gB gW cB cW yB yW sb sg pb pg bl bf:=h.keep k (by simp)
theorem HR.keep (h:HR w a fp m) (k:ae S w w') (o: ∀x,x∈fp→x∉S):HR w' a fp m:=by
 match m,h with
 |some s,⟨b,j,gB,gW,q,cW,yB,yW,sb,sg,pb,pg,bl,bf,d,l⟩=>exact⟨b,j,gB,gW,q,cW,yB,yW,sb,sg,pb,pg,bl,bf,d,l.keep k (by rw[←d];exact o)⟩
 |none,.inl h=>exact .inl h
 |none,.inr ⟨b,j,d,l⟩=>exact .inr ⟨b,j,d,l.keep k (o b (by simp[d]))⟩
theorem HR.ab (h:HR w a fp m) (k:ae [] w w'):HR w' a fp m:=h.keep k (by simp)
theorem rv.lt {cB cW:Nat} (h:rv w b s gB gW cB cW yB yW sb sg pb pg bl bf): ∀x,x∈[b,gB,gW,sb,sg,pb,pg,bl,bf]→x<w.heap.size:=by
 have d:=(iF.mk h.hs).lt;have j:=(iF.mk h.hp).lt;simp only[List.mem_cons,List.not_mem_nil,or_false]at d j⊢;intro x k;rcases k with rfl|rfl|rfl|rfl|rfl|rfl|rfl|rfl|rfl
 ·exact h.hb.lt
 ·exact h.hB.lt
 ·exact h.hW.lt
 ·exact d _ (.inl rfl)
 ·exact d _ (.inr rfl)
 ·exact j _ (.inl rfl)
 ·exact j _ (.inr rfl)
 ·exact h.hl.lt
 ·exact h.hf.lt
theorem HR.lt (h:HR w a fp m): ∀x,x∈fp→x<w.heap.size:=by
 match m,h with
 |some s,⟨b,l,gB,gW,o,cW,yB,yW,sb,sg,pb,pg,bl,bf,d,j⟩=>rw[d];exact j.lt
 |none,.inl h=>rw[h.2];simp
 |none,.inr ⟨b,l,d,j⟩=>rw[d];intro x k;simp only[aK]at k;rw[k];exact j.lt
theorem mH (h:HR w a fp m):Cs Tryz.prog 121 [.pointer a] w fun v w'=>v=.bool m.isSome∧w'=w:=by
 refine en [] ?_
 match m,h with
 |some s,⟨b,j,gB,gW,l,cW,yB,yW,sb,sg,pb,pg,bl,bf,k,d⟩=>
  subst j;have:=d.ok.b2;(repeat(first|with_reducible(first|refine nx ?_|refine bA rfl ?_)|simp only[go_sem,d.hb.cell,aU (show(0:Int)<(s.B.length:Int) by omega)]))
 |none,.inl h=>obtain⟨rfl,_⟩:=h;(repeat(first|with_reducible(first|refine nx ?_|refine bA rfl ?_)|simp only[go_sem]))
 |none,.inr ⟨b,j,k,d⟩=>subst j;(repeat(first|with_reducible(first|refine nx ?_|refine bA rfl ?_)|simp only[go_sem,d.cell]));rfl
theorem FA (h:HR w a fp m) (i:Int):Cs Tryz.prog 391 [.pointer a,.int .i64 i] w fun v w'=>v=.bool (iK m i)∧w'=w:=by
 refine en [] ?_;refine gO ?_;refine aH (mH h) ?_
 match m,h with
 |some s,⟨b,k,gB,gW,l,cW,yB,yW,sb,sg,pb,pg,bl,bf,o,j⟩=>
  subst k;by_cases d:(1:Int)≤i
  ·refine aZ j.hb.cell (aU d) ?_;simp[iK,d]
  ·refine aZ j.hb.cell (aX d) ?_;simp[iK,d]
 |none,_=>
  refine gO ?_;rfl
theorem gC (h:HR w a fp m):Cs Tryz.prog 101 [.pointer a] w fun v w'=>v=.int .i64 (cJ m:Nat)∧w'=w:=by
 refine en [] ?_;refine gO ?_;refine aH (mH h) ?_
 match m,h with
 |some s,⟨b,d,gB,gW,k,cW,yB,yW,sb,sg,pb,pg,bl,bf,l,j⟩=>subst d;(repeat(first|with_reducible(first|refine nx ?_|refine bA rfl ?_)|simp only[go_sem,j.hb.cell]));rfl
 |none,_=>(repeat(first|with_reducible(first|refine nx ?_|refine bA rfl ?_)|simp only[go_sem]));rfl
theorem qy (h:HR w a fp m) (i:Int):Cs Tryz.prog 106 [.pointer a,.int .i64 i] w fun v w'=>v=.int .i64 (jB m i)∧w'=w:=by
 refine en [] ?_;by_cases j:i<0
 ·refine aQ (aU j) ?_;cases m with
  |none=>rfl
  |some s=>simp[jB];omega
 refine aQ (aX j) ?_;refine aH (gC h) ?_;by_cases d:(cJ m:Int)≤i
 ·refine aQ (aU d) ?_;cases m with
  |none=>rfl
  |some s=>simp[jB,cJ]at d⊢;omega
 match m,h with
 |some s,⟨b,q,gB,gW,u,cW,yB,yW,sb,sg,pb,pg,bl,bf,y,l⟩=>
  subst q;simp only[cJ]at d;obtain⟨k,rfl⟩: ∃k:Nat,i=k:=⟨i.toNat,by omega⟩;have o:k<s.B.length:=by omega
  have r:(0:Int)≤(k:Int)∧(k:Int)<(s.B.length:Int):=⟨by omega,by omega⟩;have t:(cG s.B++yB)[k*2]? =some (.int .i64 (s.B.getD k (0,0)).1):=by
   rw[List.getElem?_append_left (by rw[bJ];omega),Nat.mul_comm];exact(jG o).1
  (repeat(first|with_reducible(first|refine nx ?_|refine bA rfl ?_)|simp only[go_sem,aX d,cJ,l.hb.cell,l.hB.cell,if_pos r,c9,t]));simp[jB,HL.b,o]
 |none,_=>exact absurd (show((0:Nat):Int)≤i by omega) d
theorem Mb (h:HR w a fp m) (i:Int):Cs Tryz.prog 107 [.pointer a,.int .i64 i] w fun v w'=>v=.int .i64 (pS m i)∧w'=w:=by
 refine en [] ?_;by_cases j:i<0
 ·refine aQ (aU j) ?_;cases m with
  |none=>rfl
  |some s=>simp[pS];omega
 refine aQ (aX j) ?_;refine aH (gC h) ?_;by_cases d:(cJ m:Int)≤i
 ·refine aQ (aU d) ?_;cases m with
  |none=>rfl
  |some s=>simp[pS,cJ]at d⊢;omega
 match m,h with
 |some s,⟨b,q,gB,gW,u,cW,yB,yW,sb,sg,pb,pg,bl,bf,y,l⟩=>
  subst q;simp only[cJ]at d;obtain⟨k,rfl⟩: ∃k:Nat,i=k:=⟨i.toNat,by omega⟩;have o:k<s.B.length:=by omega
  have r:(0:Int)≤(k:Int)∧(k:Int)<(s.B.length:Int):=⟨by omega,by omega⟩;have t:(cG s.B++yB)[k*2+1]? =some (.int .i64 (s.B.getD k (0,0)).2):=by
   rw[List.getElem?_append_left (by rw[bJ];omega),Nat.mul_comm];exact(jG o).2
  (repeat(first|with_reducible(first|refine nx ?_|refine bA rfl ?_)|simp only[go_sem,aX d,cJ,l.hb.cell,l.hB.cell,if_pos r,c9,t]));simp[pS,HL.b,o]
 |none,_=>exact absurd (show((0:Nat):Int)≤i by omega) d
theorem Io (w:World) (n:Int):Cs Tryz.prog 392 [.int .i64 n] w fun v w'=>v=.bool (da n)∧w'=w:=by
 refine en [] ?_;by_cases b:(0:Int)≤n
 ·refine aQ (aU b) ?_;simp[da,b]
 ·refine aQ (aX b) ?_;simp[da,b]
theorem FB (w:World) (s:Sh):Cs Tryz.prog 217 [.agg ⟨bS s⟩] w fun v w'=>v=.bool (aS s)∧ae [] w w':=by
 obtain⟨r,d,k⟩:=s;refine en [] ?_;refine gO ?_;refine bp fun q H I G F y=>?_;have m:=F.cell 0;have o:=F.cell 1;have t:=F.cell 2;simp only[bS,List.getElem?_cons_zero,List.getElem?_cons_succ]at m o t;by_cases b:0≤r;rotate_left
 ·refine eZ m o t (aX b) ?_;exact⟨by simp[aS,b],y⟩
 by_cases j:r≤15;rotate_left
 ·refine lY m o t (aU b) (aX j) ?_;exact⟨by simp[aS,j],y⟩
 by_cases l:0≤d;rotate_left
 ·refine k0 m o t (aU b) (aU j) (aX l) ?_;exact⟨by simp[aS,l],y⟩
 by_cases u:d≤200;rotate_left
 ·refine k7 m o t (aU b) (aU j) (aU l) (aX u) ?_;exact⟨by simp[aS,u],y⟩
 by_cases z:0≤k;rotate_left
 ·refine xG m o t (aU b) (aU j) (aU l) (aU u) (aX z) ?_;exact⟨by simp[aS,z],y⟩
 by_cases C:k≤3;rotate_left
 ·refine Dx m o t (aU b) (aU j) (aU l) (aU u) (aU z) (aX C) ?_;exact⟨by simp[aS,C],y⟩
 by_cases D:k=1
 ·have E: ¬k=2:=by omega
  by_cases B:1≤r
  ·refine HX m o t (aU b) (aU j) (aU l) (aU u) (aU z) (aU C) (dg D) (aU B) (eE E) ?_;exact⟨by simp[aS,b,j,l,u,D,B],y⟩
  ·refine uq m o t (aU b) (aU j) (aU l) (aU u) (aU z) (aU C) (dg D) (aX B) ?_;exact⟨by simp[aS,D,B],y⟩
 ·by_cases E:k=2
  ·by_cases B:2≤r
   ·refine HX m o t (aU b) (aU j) (aU l) (aU u) (aU z) (aU C) (eE D) (dg E) (aU B) ?_;exact⟨by simp[aS,b,j,l,u,E,B],y⟩
   ·refine HX m o t (aU b) (aU j) (aU l) (aU u) (aU z) (aU C) (eE D) (dg E) (aX B) ?_;exact⟨by simp[aS,E,B],y⟩
  ·refine uq m o t (aU b) (aU j) (aU l) (aU u) (aU z) (aU C) (eE D) (eE E) ?_;exact⟨by simp[aS,b,j,l,u,z,C,D,E],y⟩
theorem tr (w:World) (s:Sh):Cs Tryz.prog 287 [.agg ⟨bS s⟩] w fun v w'=>v=.int .i64 (aE s)∧ae [] w w':=by
 refine en [] ?_;refine gO ?_;refine bp fun q t I B l u=>?_;have C:aC t ⟨q,0,none⟩ 3=some (bS s):=ay l 0 3 (by simp[bS]);refine aQ C ?_;refine aM (FB t s) fun J j=>?_;have b:=l.ab j;have y:=b.cell 0;have z:=b.cell 1;simp only[bS,List.getElem?_cons_zero,List.getElem?_cons_succ]at y z;cases m:aS s with
 |false=>
  refine gO ?_;exact⟨by simp[aE,m],u.nil j⟩
 |true=>
  obtain⟨r,d,k⟩:=s;have o:=m;simp only[aS,Bool.and_eq_true,decide_eq_true_eq]at m;have D:IntKind.i64.wrap (2+r)=2+r:=IntWalk.i64_in _ (by omega);have E:IntKind.i64.wrap (2+r+d)=2+r+d:=IntWalk.i64_in _ (by omega);have F:IntKind.i64.wrap (2+r+d+1)=2+r+d+1:=IntWalk.i64_in _ (by omega);have G:IntKind.i64.wrap ((2+r+d+1).tdiv 2)=(2+r+d+1)/2:=by rw[Int.tdiv_eq_ediv_of_nonneg (by omega)];exact IntWalk.i64_in _ (by omega)
  have H:IntKind.i64.wrap ((2+r+d+1)/2*2)=(2+r+d+1)/2*2:=IntWalk.i64_in _ (by omega);refine k7 y z D E F G H ?_;exact⟨by simp[aE,o],u.nil j⟩
theorem Ip (w:World) (s:Sh) (o:aS s=true):Cs Tryz.prog 294 [.agg ⟨bS s⟩] w fun v w'=>v=.int .i64 (hU s)∧ae [] w w':=by
 obtain⟨r,d,k⟩:=s;refine en [] ?_;refine gO ?_;refine bp fun q D E t b u=>?_;have j:=b.cell 0;have l:=b.cell 1;have m:=b.cell 2;simp only[bS,List.getElem?_cons_zero,List.getElem?_cons_succ]at j l m;simp only[aS,Bool.and_eq_true,decide_eq_true_eq]at o;have y:IntKind.i64.wrap (16*d)=16*d:=IntWalk.i64_in _ (by omega);have z:IntKind.i64.wrap (r+16*d)=r+16*d:=IntWalk.i64_in _ (by omega);have B:IntKind.i64.wrap (4096*k)=4096*k:=IntWalk.i64_in _ (by omega);have C:IntKind.i64.wrap (r+16*d+4096*k)=r+16*d+4096*k:=IntWalk.i64_in _ (by omega);refine k7 j l m y z B C ?_;exact⟨rfl,u⟩
end
section
def PZ (o:Option Value) (v:Value):Option Value:=match o with|some x=>some (.tuple #[x,v])|none=>none
theorem CZ (x v:Value):PZ (some x) v=some (.tuple #[x,v]):=Eq.trans rfl rfl
theorem FC (a n t:Nat) (ρ:Env) (w:World) (R:Value→World→Prop):ku [.cN a n,.t t] ρ w R=wE (PZ (fG w n (ρ a)) (ρ t)) w R:=by
 unfold ku wE;simp only[uo,rO,wv];cases fG w n (ρ a)<;>rfl
attribute [go_sem] CZ FC
theorem dm (s:Sh): ∀u,u∈bS s→bh u=true:=by simp[bS,bh]
theorem dz (a b c:Value) (s:Sh):dU [a,b,c] 0 (bS s)=bS s:=rfl
theorem sF (w:World) (n:Int) (l:0≤n) (D:n≤100000):Cs Tryz.prog 288 [.int .i64 n] w fun v w'=>v=.agg ⟨bS (du n)⟩∧ae [] w w':=by
 refine en [] ?_;have o:=Int.tmod_eq_emod_of_nonneg (b:=4096) l;have r:IntKind.i64.wrap ((n.tmod 4096).tdiv 16)=(n.tmod 4096).tdiv 16:=by
  rw[o,Int.tdiv_eq_ediv_of_nonneg (by omega)];exact IntWalk.i64_in _ (by omega)
 have t:IntKind.i64.wrap (n.tdiv 4096)=n.tdiv 4096:=by rw[Int.tdiv_eq_ediv_of_nonneg l];exact IntWalk.i64_in _ (by omega)
 refine gO ?_;refine bp fun q E F u j y=>?_;refine aZ r t ?_;rw[ag rfl rfl,ag rfl rfl,ag rfl rfl];refine gO ?_;refine dF (cs:=bS (du n)) j rfl (by simp) (dm _) fun z B d k=>?_;rw[dz]at d;have C:aC z ⟨q,0,none⟩ 3=some (bS (du n)):=ay d 0 3 (by simp[bS]);refine aQ C ?_;exact y.trans k fun x m=>by simp only[aK]at m;subst m;exact .inr (by omega)
section
variable {w:World} {b:Nat} {s:HL} {gB gW cB cW:Nat} {yB yW:List Value} {sb sg pb pg bl bf:Nat}
theorem rv.tM (h:rv w b s gB gW cB cW yB yW sb sg pb pg bl bf) {i:Nat} (d:i<s.W.length):w.cell? ⟨gW,i,none⟩=some (.int .i64 (s.W.getD i 0)):=by
 rw[h.hW.cell,aG yW d]
theorem HL.Ok.start {s:HL} (h:s.Ok) {i:Nat} (j:s.st.getD i 0=1):i<s.st.length∧2*i+1<s.W.length∧ ∃r d k:Nat,aS (r,d,k)=true∧s.W.getD (2*i+1) 0=hU (r,d,k)∧((2*i:Nat):Int)+aE (r,d,k)≤s.W.length∧0≤hU (r,d,k)∧hU (r,d,k)≤100000∧du (s.W.getD (2*i+1) 0)=((r:Int),(d:Int),(k:Int)):=by
 have l:i<s.st.length:=by
  rcases Nat.lt_or_ge i s.st.length with m|m
  ·exact m
  ·rw[List.getD_eq_getElem?_getD,List.getElem?_eq_none m]at j;simp at j
 obtain⟨r,d,k,o,q,t⟩:=h.fit i j;have u:=o;simp only[aS,Bool.and_eq_true,decide_eq_true_eq]at u;have e:hU (r,d,k)=(r:Int)+16*d+4096*k:=rfl;refine⟨l,by have:=h.sl;have:=h.wl;omega,r,d,k,o,q,t,by rw[e];omega,by rw[e];omega,by rw[q];exact jg o⟩
theorem JG (h:rv w b s gB gW cB cW yB yW sb sg pb pg bl bf) {i:Nat} (o:s.st.getD i 0=1):Cs Tryz.prog 254 [.pointer (some ⟨b,0,none⟩),.int .i64 ((2*i:Nat):Int)] w fun v w'=>v=.int .i64 (s.size (2*i))∧ae [] w w':=by
 obtain⟨D,q,r,d,k,E,m,F,t,u,G⟩:=h.ok.start o;have H:=h.ok.wl;have I:=h.ok.jd;have y:IntKind.i64.wrap (((2*i:Nat):Int)+1)=((2*i+1:Nat):Int):=au _ (by omega);have z:(0:Int)≤((2*i+1:Nat):Int)∧((2*i+1:Nat):Int)<(s.W.length:Int):=⟨by omega,by omega⟩;have B:=h.tM q;refine en [] ?_;refine k0 h.hb.cell y (eq_true z) @Int.toNat_natCast @Nat.mul_one B ?_;refine aM (sF w _ (by rw[m];exact t) (by rw[m];exact u)) fun C j=>?_;refine gO ?_;refine aM (tr C _) fun J l=>?_;refine gO ?_;exact⟨rfl,j.nil l⟩
theorem ry (n:Nat) (h:n≤4611686018427387904):IntKind.i64.wrap ((n:Int).tdiv 2)=((n/2:Nat):Int):=by
 rw[Int.tdiv_eq_ediv_of_nonneg (by omega),show((n:Int)/2)=((n/2:Nat):Int) by omega,bU _ (by omega)]
theorem rz (n:Nat):((n:Int).tmod 2)=((n%2:Nat):Int):=by
 rw[Int.tmod_eq_emod_of_nonneg (by omega)];omega
theorem FD (h:rv w b s gB gW cB cW yB yW sb sg pb pg bl bf):Cs Tryz.prog 121 [.pointer (some ⟨b,0,none⟩)] w fun v w'=>v=.bool true∧w'=w:=
 mH (m:=some s) ⟨b,rfl,gB,gW,cB,cW,yB,yW,sb,sg,pb,pg,bl,bf,rfl,h⟩
end
theorem yS {w:World} {a:Option Addr} {fp:List Nat} {m:HO} (h:HR w a fp m) (x:Int) (t:x≤4611686018427387904):Cs Tryz.prog 179 [.pointer a,.int .i64 x] w fun v w'=>v=.bool (bE m x)∧ae [] w w':=by
 refine en [] ?_;refine gO ?_;refine aH (mH h) ?_
 match m,h with
 |none,_=>(repeat(first|with_reducible(first|refine nx ?_|refine bA rfl ?_)|simp only[go_sem]));exact⟨rfl,ae.refl _ _⟩
 |some s,⟨b,l,u,y,z,cW,yB,yW,B,C,D,E,F,G,H,j⟩=>
  subst l;by_cases d:0≤x;rotate_left
  ·refine aQ (aX d) ?_;exact⟨by simp[bE,d],ae.refl _ _⟩
  obtain⟨k,rfl⟩: ∃k:Nat,x=k:=⟨x.toNat,by omega⟩;by_cases I:k%2=0;rotate_left
  ·refine cT (aU d) (rz k) (cU (show¬((k%2:Nat):Int)=0 by omega)) ?_;refine⟨?_,ae.refl _ _⟩;have: ¬(k:Int)%2=0:=by omega
   simp[bE,this]
  refine lY (aU d) (rz k) (cZ (show((k%2:Nat):Int)=0 by omega)) j.hb.cell (ry k (by omega)) ?_;refine aM (uV (iF.mk j.hs) _) fun w' o=>?_;have q:(k:Int)/2=((k/2:Nat):Int):=by omega
  have r:(k:Int)%2=0:=by omega
  refine gO ?_;refine⟨?_,o⟩;simp only[bE,q,r,decide_true,aU d,Bool.true_and,HL.jF];rfl
theorem pU {w:World} {a:Option Addr} {fp:List Nat} {m:HO} (h:HR w a fp m) (x:Int) (j:x≤4611686018427387904):Cs Tryz.prog 252 [.pointer a,.int .i64 x] w fun v w'=>v=.int .i64 (cK m x)∧ae [] w w':=by
 refine en [] ?_;refine gO ?_;refine aH (mH h) ?_;cases m with
 |none=>(repeat(first|with_reducible(first|refine nx ?_|refine bA rfl ?_)|simp only[go_sem]));exact⟨rfl,ae.refl _ _⟩
 |some s=>
  refine gO ?_;refine aM (yS h x j) fun w' b=>?_;cases d:bE (some s) x with
  |true=>(repeat(first|with_reducible(first|refine nx ?_|refine bA rfl ?_)|simp only[go_sem]));exact⟨by simp[cK,d],b⟩
  |false=>(repeat(first|with_reducible(first|refine nx ?_|refine bA rfl ?_)|simp only[go_sem]));exact⟨by simp[cK,d],b⟩
theorem iw {s:HL} (h:s.Ok) {x:Int} (d:bE (some s) x=true): ∃i:Nat,x=((2*i:Nat):Int)∧s.st.getD i 0=1:=by
 simp only[bE,Bool.and_eq_true,decide_eq_true_eq]at d;obtain⟨⟨k,l⟩,b⟩:=d;refine⟨(x/2).toNat,by omega,?_⟩;change (if hasB s.st.length (x/2)=true then((s.st.getD (x/2).toNat 0:Nat):Int)else-1)=1 at b;by_cases j:hasB s.st.length (x/2)=true
 ·rw[if_pos j]at b;omega
 ·rw[if_neg j]at b;omega
theorem ju {w:World} {a:Option Addr} {fp:List Nat} {m:HO} (h:HR w a fp m) (x:Int) (M:x≤4611686018427387904):Cs Tryz.prog 109 [.pointer a,.int .i64 x] w fun v w'=>v=.tuple #[.agg ⟨bS (aV m x).1⟩,.int .i64 (aV m x).2]∧ae [] w w':=by
 refine en [] ?_;refine gO ?_;refine bp fun q X Y N H l=>?_;refine gO ?_;refine aM (pU (h.ab l) x M) fun O o=>?_;have t:=H.ab o;by_cases C:cK m x=0
 ·match m,h with
  |none,_=>simp[cK]at C
  |some s,⟨b,P,Z,gW,cB,cW,yB,yW,sb,sg,pb,pg,bl,bf,h2,D⟩=>
   subst P;have I:bE (some s) x=true:=by
    cases I:bE (some s) x with
    |true=>rfl
    |false=>simp[cK,I]at C
   obtain⟨i,rfl,Q⟩:=iw D.ok I;obtain⟨g1,R,r,d,k,g3,L,g5,S,T,g8⟩:=D.ok.start Q;have E:=D.ab (l.nil o);have hl:=D.ok.wl;have hB:=D.ok.jd;have U:IntKind.i64.wrap (((2*i:Nat):Int)+1)=((2*i+1:Nat):Int):=au _ (by omega);have V:(0:Int)≤((2*i+1:Nat):Int)∧((2*i+1:Nat):Int)<(s.W.length:Int):=⟨by omega,by omega⟩;have W:=E.tM R;refine k7 (dg C) E.hb.cell U (eq_true V) @Int.toNat_natCast @Nat.mul_one W ?_;refine aM (sF O _ (by rw[L];exact S) (by rw[L];exact T)) fun w3 F=>?_;refine gO ?_;refine dF (cs:=bS (du (s.W.getD (2*i+1) 0))) (t.ab F) rfl (by simp) (dm _) fun J K j u=>?_;rw[dz]at j;have z:aC J ⟨q,0,none⟩ 3=some (bS (du (s.W.getD (2*i+1) 0))):=ay j 0 3 (by simp[bS]);have B:aV (some s) ((2*i:Nat):Int)=(du (s.W.getD (2*i+1) 0),0):=by simp only[aV,C,if_true,HL.dy,c9]
   rw[B];refine aQ z ?_;exact((l.nil o).nil F).trans u fun y G=>by simp only[aK]at G;subst G;exact .inr (by omega)
 ·refine aQ (eE C) ?_;have B:aV m x=((0,0,0),cK m x):=by
   cases m with
   |none=>rfl
   |some s=>simp only[aV,C,if_false]
  rw[B];refine dF (cs:=bS (0,0,0)) t rfl (by simp) (dm _) fun J K j u=>?_;rw[dz]at j;have z:aC J ⟨q,0,none⟩ 3=some (bS (0,0,0)):=ay j 0 3 (by simp[bS]);refine aQ z ?_;exact(l.nil o).trans u fun y G=>by simp only[aK]at G;subst G;exact .inr (by omega)
end
section
variable {s:HL} {a x:Int} {i j k:Nat}
theorem HL.Ok.sz (h:s.Ok) (m:s.st.getD i 0=1):2≤s.size (2*i)∧((2*i:Nat):Int)+s.size (2*i)≤s.W.length∧s.size (2*i)%2=0∧ ∃r d k:Nat,aS (r,d,k)=true∧du (s.W.getD (2*i+1) 0)=((r:Int),(d:Int),(k:Int))∧s.size (2*i)=aE (r,d,k):=by
 obtain⟨r,d,k,j,l,o⟩:=h.fit i m;have e:s.size (2*i)=aE (r,d,k):=by unfold HL.size;rw[l,jg j]
 have:=dk j;exact⟨by rw[e];omega,by rw[e];exact o,by rw[e];omega,r,d,k,j,by rw[l];exact jg j,e⟩
theorem pV (h:s.Ok) (b:s.st.getD j 0=1) {a:Nat} (t:2*j≤a) (u:(a:Int)<((2*j:Nat):Int)+s.size (2*j)):gT (some s) a=(2*(j:Int),0):=by
 obtain⟨w,y,z,_⟩:=h.sz b;have o:s.jF.nG ((a:Int)/2+1) 1=some j:=by
  show mE (fun k=>decide ((k:Int)<(a:Int)/2+1)&&decide (((s.st.getD k 0:Nat):Int)=1)) s.st.length=some j;have d:j<s.st.length:=by
   rcases Nat.lt_or_ge j s.st.length with l|l
   ·exact l
   ·rw[List.getD_eq_getElem?_getD,List.getElem?_eq_none l]at b;simp at b
  refine oy ?_ d fun k m q=>?_
  ·simp only[Bool.and_eq_true,decide_eq_true_eq];omega
  ·simp only[Bool.and_eq_false_iff,decide_eq_false_iff_not];by_cases r:s.st.getD k 0=1
   ·have:=h.dj j k b r m;left;omega
   ·right;omega
 simp only[gT,o];rw[if_neg (by omega),if_neg (by omega)]
theorem HL.size_set (d:2*i+1≠k):HL.size {s with W:=s.W.set k x} (2*i)=s.size (2*i):=by
 unfold HL.size;simp only[List.getD_eq_getElem?_getD];rw[List.getElem?_set_ne (fun e=>d e.symm)]
theorem HL.Ok.Iq (h:s.Ok) (o: ∀j,s.st.getD j 0=1→2*j+1≠k):HL.Ok {s with W:=s.W.set k x}:=by
 refine⟨h.b2,h.jd,by simpa using h.wl,h.sl,h.pl,fun i l=>?_,fun i j l u m=>?_⟩
 ·obtain⟨r,d,q,w,t,y⟩:=h.fit i l;refine⟨r,d,q,w,?_,by simpa using y⟩;simp only[List.getD_eq_getElem?_getD]at t⊢;rw[List.getElem?_set_ne (fun e=>o i l e.symm)];exact t
 ·rw[HL.size_set (o i l)];exact h.dj i j l u m
theorem HL.Ok.inside (h:s.Ok) (o:s.st.getD i 0=1) (q:2*i+2≤k) (t:(k:Int)<((2*i:Nat):Int)+s.size (2*i)): ∀j,s.st.getD j 0=1→2*j+1≠k:=by
 intro j m e;rcases Nat.lt_trichotomy i j with l|l|l
 ·have:=h.dj i j o m l;omega
 ·subst l;omega
 ·have:=h.dj j i m o l;have:=(h.sz m).1;omega
theorem yT (B:List (Int×Int)) (b:Nat): ∀f n,b+n≤B.length→b+tails B b f n≤B.length∧n≤tails B b f n
 |0,n,h=>⟨h,Nat.le_refl _⟩
 |f+1,n,h=>by
  unfold tails
  split
  ·rename_i d
   have:=yT B b f (n+1) (by omega)
   omega
  ·exact⟨h,Nat.le_refl _⟩
theorem sG {b:Nat} (h:b<s.B.length):b+s.span b≤s.B.length∧1≤s.span b:=by
 unfold HL.span;split
 ·exact yT _ _ _ _ (by omega)
 ·omega
theorem vh (h:s.Ok) {d but:Int} (B:2≤d) (t:d%2=0) (u:d≤218) (l:fc s a d but=0): ∃k:Nat,a=((2*k:Nat):Int)∧k<s.st.length∧a+d≤s.W.length∧
  (∀j,j<(d/2).toNat→eT s a but j=false):=by
 unfold fc at l;have q:pT s a=false:=by
  cases c:pT s a with
  |false=>rfl
  |true=>rw[if_pos c]at l;cases l
 rw[q,if_neg (by simp)]at l;have m:bX s a d=false:=by
  cases c:bX s a d with
  |false=>rfl
  |true=>rw[if_pos c]at l;cases l
 rw[m,if_neg (by simp)]at l;have r:(List.range ((d+1)/2).toNat).any (eT s a but)=false:=by
  cases c:(List.range ((d+1)/2).toNat).any (eT s a but)with
  |false=>rfl
  |true=>rw[if_pos c]at l;cases l
 have w:=h.sl;have y:=h.wl;simp only[pT,Bool.or_eq_false_iff,decide_eq_false_iff_not,Decidable.not_not]at q;refine⟨(a/2).toNat,by omega,by omega,?_,fun j C=>?_⟩
 ·unfold bX at m;by_cases o:d≤32
  ·rw[if_pos o]at m;simp only[Bool.or_eq_false_iff,decide_eq_false_iff_not,Decidable.not_not]at m;omega
  ·rw[if_neg o]at m;simp only[Bool.or_eq_false_iff,decide_eq_false_iff_not,Decidable.not_not]at m;have:=sG (s:=s) (b:=(a/64).toNat) (by omega);omega
 ·cases z:eT s a but j with
  |false=>rfl
  |true=>
   have:=List.any_eq_true.2 ⟨j,List.mem_range.2 (show j<((d+1)/2).toNat by omega),z⟩;rw[this]at r;cases r
theorem lC (b:eT s a (-1) j=false):(gT (some s) (a+2*(j:Int))).2≠0:=by
 intro e;unfold eT at b;rw[e]at b;simp only[beq_self_eq_true,Bool.true_and,bne_eq_false_iff_eq]at b;unfold gT at b e;simp only at b e;split at b
 ·simp at b
 ·rename_i d;rw[if_neg d]at e;split at b
  ·simp at b
  ·split at b
   ·simp at b
   ·simp only at b;omega
theorem HL.Ok.place (h:s.Ok) {C:Sh} {id:Int} {pl:IM} {born:Nat} (I:aS C=true) (V:k<s.st.length) (J:((2*k:Nat):Int)+aE C≤s.W.length)
  (m: ∀j,j<(aE C/2).toNat→eT s ((2*k:Nat):Int) (-1) j=false):HL.Ok {s with W:=(s.W.set (2*k) id).set (2*k+1) (hU C),st:=s.st.set k 1,pl:=pl,born:=born}:=by
 obtain⟨r,d,q⟩:=C;have K:=I;simp only[aS,Bool.and_eq_true,decide_eq_true_eq]at K;obtain⟨r,rfl⟩: ∃n:Nat,r=n:=⟨r.toNat,by omega⟩;obtain⟨d,rfl⟩: ∃n:Nat,d=n:=⟨d.toNat,by omega⟩;obtain⟨q,rfl⟩: ∃n:Nat,q=n:=⟨q.toNat,by omega⟩;have X:=dk I
 have w: ∀i,s.st.getD i 0=1→((2*i:Nat):Int)+s.size (2*i)≤((2*k:Nat):Int)∨((2*k:Nat):Int)+aE ((r:Int),(d:Int),(q:Int))≤((2*i:Nat):Int):=by
  intro i l;obtain⟨Y,Z,g3,_⟩:=h.sz l;by_cases c1:k≤i
  ·right;refine Decidable.byContradiction fun O=>?_;have y:=lC (m (i-k) (by omega));have L:((2*k:Nat):Int)+2*((i-k:Nat):Int)=((2*i:Nat):Int):=by omega
   rw[L,pV h l (Nat.le_refl _) (by omega)]at y;exact y rfl
  ·left;refine Decidable.byContradiction fun O=>?_;have y:=lC (m 0 (by omega));have L:((2*k:Nat):Int)+2*((0:Nat):Int)=((2*k:Nat):Int):=by omega
   rw[L,pV h l (by omega) (by omega)]at y;exact y rfl
 have P:s.st.getD k 0≠1:=fun e=>by
  have:=w k e;have:=(h.sz e).1;omega
 have o: ∀i,(s.st.set k 1).getD i 0=1→i=k∨(i≠k∧s.st.getD i 0=1):=by
  intro i l;by_cases e:i=k
  ·exact .inl e
  ·refine .inr ⟨e,?_⟩;simp only[List.getD_eq_getElem?_getD]at l⊢;rw[List.getElem?_set_ne (fun h=>e h.symm)]at l;exact l
 have D:((s.W.set (2*k) id).set (2*k+1) (hU ((r:Int),(d:Int),(q:Int)))).getD (2*k+1) 0=hU ((r:Int),(d:Int),(q:Int)):=by
  simp only[List.getD_eq_getElem?_getD];rw[List.getElem?_set_self (by simp;omega)];rfl
 have E: ∀i,i≠k→((s.W.set (2*k) id).set (2*k+1) (hU ((r:Int),(d:Int),(q:Int)))).getD (2*i+1) 0=s.W.getD (2*i+1) 0:=by
  intro i l;simp only[List.getD_eq_getElem?_getD];rw[List.getElem?_set_ne (by omega),List.getElem?_set_ne (by omega)]
 have F:HL.size {s with W:=(s.W.set (2*k) id).set (2*k+1) (hU ((r:Int),(d:Int),(q:Int))),st:=s.st.set k 1,pl:=pl,born:=born} (2*k)=aE ((r:Int),(d:Int),(q:Int)):=by
  unfold HL.size;simp only;rw[D,jg I]
 have G: ∀i,i≠k→HL.size {s with W:=(s.W.set (2*k) id).set (2*k+1) (hU ((r:Int),(d:Int),(q:Int))),st:=s.st.set k 1,pl:=pl,born:=born} (2*i)=s.size (2*i):=by
  intro i l;unfold HL.size;simp only;rw[E i l]
 refine⟨h.b2,h.jd,by simpa using h.wl,by simpa using h.sl,h.pl,fun i l=>?_,fun i j l N M=>?_⟩
 ·rcases o i l with rfl|⟨z,t⟩
  ·exact⟨r,d,q,I,D,by simpa using J⟩
  ·obtain⟨Q,R,S,y,T,U⟩:=h.fit i t;exact⟨Q,R,S,y,by rw[E i z];exact T,by simpa using U⟩
 ·rcases o i l with rfl|⟨z,t⟩
  ·rcases o j N with rfl|⟨H,u⟩
   ·omega
   ·rw[F];have:=w j u;have:=(h.sz u).1;omega
  ·rw[G i z];rcases o j N with rfl|⟨H,u⟩
   ·have:=w i t;omega
   ·exact h.dj i j t u M
theorem fS (h:s.Ok) {i:Int} {data:Bool} (b:(br (some s) x i data).2=0): ∃o k:Nat,x=((2*o:Nat):Int)∧s.st.getD o 0=1∧(br (some s) x i data).1=(k:Int)∧2*o+2≤k∧(k:Int)<((2*o:Nat):Int)+s.size (2*o)∧k<s.W.length:=by
 unfold br at b⊢;simp only at b⊢;by_cases m:cK (some s) x≠0
 ·rw[if_pos m]at b;exact absurd b m
 ·rw[if_neg m]at b⊢;have q:bE (some s) x=true:=by
   cases q:bE (some s) x with
   |true=>rfl
   |false=>simp[cK,q]at m
  simp only[bE,Bool.and_eq_true,decide_eq_true_eq]at q;obtain⟨⟨E,F⟩,t⟩:=q;change (if hasB s.st.length (x/2)=true then((s.st.getD (x/2).toNat 0:Nat):Int)else-1)=1 at t;have j:s.st.getD (x/2).toNat 0=1:=by
   by_cases u:hasB s.st.length (x/2)=true
   ·rw[if_pos u]at t;omega
   ·rw[if_neg u]at t;omega
  obtain⟨G,H,I,r,d,k,w,y,J⟩:=h.sz j;have z:=dk w;have B:2*(x/2).toNat+1=x.toNat+1:=by omega
  rw[B]at y;have C:s.dy x=((r:Int),(d:Int),(k:Int)):=y;rw[C]at b⊢;simp only at b⊢z;have D:=w;simp only[aS,Bool.and_eq_true,decide_eq_true_eq]at D;cases data with
  |true=>
   simp only[cond_true]at b⊢;by_cases l:i<0∨(d:Int)≤i
   ·rw[if_pos l]at b;cases b
   ·rw[if_neg l];exact⟨(x/2).toNat,(x+2+r+i).toNat,by omega,j,by simp only;omega,by omega,by omega,by omega⟩
  |false=>
   simp only[cond_false]at b⊢;by_cases l:i<0∨(r:Int)≤i
   ·rw[if_pos l]at b;cases b
   ·rw[if_neg l];exact⟨(x/2).toNat,(x+2+i).toNat,by omega,j,by simp only;omega,by omega,by omega,by omega⟩
theorem BA {n:Int} (h:my n=some s):s.Ok:=by
 unfold my at h;split at h
 ·rename_i k;cases h;have d: ∀i,¬(List.replicate (32*n.toNat) 0).getD i 0=1:=by
   intro i;simp only[List.getD_eq_getElem?_getD,List.getElem?_replicate];split<;>simp
  refine⟨by simp;omega,by simp;omega,by simp,by simp,by simp,fun i b=>absurd b (d i),fun i j b=>absurd b (d i)⟩
 ·cases h
end
section
set_option maxRecDepth 8000
variable {m:HO} {fp:List Nat} {b bf bl gB gW pb pg sb sg:Nat} {a:Option Addr} {w:World}
theorem AB (h:HR w a fp m) (x i:Int) (data:Bool) (U:x≤4611686018427387904):Cs Tryz.prog 289 [.pointer a,.int .i64 x,.int .i64 i,.bool data] w fun v w'=>v=.tuple #[.int .i64 (br m x i data).1,.int .i64 (br m x i data).2]∧ae [] w w':=by
 refine en [0,0] ?_;refine gO ?_;refine aM (pU h x U) fun V l=>?_;by_cases C:cK m x=0;rotate_left
 ·refine aQ (eE C) ?_;have J:br m x i data=(0,cK m x):=by
   cases m with
   |none=>rfl
   |some s=>simp only[br,C,ne_eq,not_false_eq_true,if_true]
  rw[J];exact⟨rfl,l⟩
 match m,h with
 |none,_=>simp[cK]at C
 |some s,⟨b,W,gB,gW,cB,cW,yB,yW,sb,sg,pb,pg,bl,bf,h2,F⟩=>
  subst W;have K:bE (some s) x=true:=by
   cases K:bE (some s) x with
   |true=>rfl
   |false=>simp[cK,K]at C
  obtain⟨o,rfl,X⟩:=iw F.ok K;obtain⟨g1,Y,r,d,k,Z,R,g5,g6,g7,S⟩:=F.ok.start X;have G:=F.ab l;have hl:=F.ok.wl;have hB:=F.ok.jd;have hv:=Z;simp only[aS,Bool.and_eq_true,decide_eq_true_eq]at hv;have e1:IntKind.i64.wrap (((2*o:Nat):Int)+1)=((2*o+1:Nat):Int):=au _ (by omega);have e2:(0:Int)≤((2*o+1:Nat):Int)∧((2*o+1:Nat):Int)<(s.W.length:Int):=⟨by omega,by omega⟩;have hc:=G.tM Y;have L:s.dy ((2*o:Nat):Int)=((r:Int),(d:Int),(k:Int)):=by unfold HL.dy;rw[c9];exact S
  have D:IntKind.i64.wrap (((2*o:Nat):Int)+2)=((2*o:Nat):Int)+2:=IntWalk.i64_in _ (by omega);have M:IntKind.i64.wrap (((2*o:Nat):Int)+2+r)=((2*o:Nat):Int)+2+r:=IntWalk.i64_in _ (by omega);refine k7 (dg C) G.hb.cell e1 (eq_true e2) @Int.toNat_natCast @Nat.mul_one hc ?_;refine aM (sF V _ (by rw[R];exact g6) (by rw[R];exact g7)) fun w3 H=>?_;rw[S];refine gO ?_;refine bp fun q w4 hq pk I N=>?_;refine gO ?_;refine dF (cs:=bS ((r:Int),(d:Int),(k:Int))) I rfl (by simp) (dm _) fun w5 qm j O=>?_;rw[dz]at j;have E:ae [] w w5:=((l.nil H).nil N).trans O fun y T=>by have:=l.size;have:=H.size;simp only[aK]at T;subst T;exact .inr (by omega)
  have u:=j.cell 0;have z:=j.cell 1;simp only[bS,List.getElem?_cons_zero,List.getElem?_cons_succ]at u z;have P:br (some s) ((2*o:Nat):Int) i data=if i<0∨(bif data then(d:Int)else(r:Int))≤i then(0,1)else((bif data then((2*o:Nat):Int)+2+r else((2*o:Nat):Int)+2)+i,0):=by
   simp only[br,C,ne_eq,not_true_eq_false,if_false,L]
  rw[P];cases data with
  |false=>
   simp only[cond_false];by_cases t:i<0
   ·refine eZ u z D (aU t) ?_;rw[if_pos (.inl t)];exact⟨rfl,E.nil (ae.drew [] _)⟩
   ·by_cases B:(r:Int)≤i
    ·refine lY u z D (aX t) (aU B) ?_;rw[if_pos (.inr B)];exact⟨rfl,E.nil (ae.drew [] _)⟩
    ·have Q:IntKind.i64.wrap (((2*o:Nat):Int)+2+i)=((2*o:Nat):Int)+2+i:=IntWalk.i64_in _ (by omega);refine k0 u z D (aX t) (aX B) Q ?_;rw[if_neg (by omega)];exact⟨rfl,E.nil (ae.drew [] _)⟩
  |true=>
   simp only[cond_true];by_cases t:i<0
   ·refine lY u z D M (aU t) ?_;rw[if_pos (.inl t)];exact⟨rfl,(E.nil (ae.drew [] _)).nil (ae.drew [] _)⟩
   ·by_cases B:(d:Int)≤i
    ·refine k0 u z D M (aX t) (aU B) ?_;rw[if_pos (.inr B)];exact⟨rfl,(E.nil (ae.drew [] _)).nil (ae.drew [] _)⟩
    ·have Q:IntKind.i64.wrap (((2*o:Nat):Int)+2+r+i)=((2*o:Nat):Int)+2+r+i:=IntWalk.i64_in _ (by omega);refine k7 u z D M (aX t) (aX B) Q ?_;rw[if_neg (by omega)];exact⟨rfl,(E.nil (ae.drew [] _)).nil (ae.drew [] _)⟩
theorem rR (h:HR w a fp m) (x i:Int) (u:x≤4611686018427387904):Cs Tryz.prog 110 [.pointer a,.int .i64 x,.int .i64 i] w fun v w'=>v=.tuple #[.int .i64 (dE m x i).1,.int .i64 (dE m x i).2]∧ae [] w w':=by
 refine en [] ?_;refine gO ?_;refine aM (AB h x i false u) fun D d=>?_;by_cases l:(br m x i false).2=0;rotate_left
 ·refine aQ (eE l) ?_;have j:dE m x i=(0,(br m x i false).2):=by
   cases m with
   |none=>rfl
   |some s=>simp only[dE,l,if_false]
  rw[j];exact⟨rfl,d⟩
 match m,h with
 |none,_=>simp[br]at l
 |some s,⟨b,y,gB,gW,E,cW,yB,yW,sb,sg,pb,pg,bl,bf,F,r⟩=>
  subst y;obtain⟨o,k,rfl,G,t,H,I,z⟩:=fS r.ok l;have q:=r.ab d;have j:dE (some s) ((2*o:Nat):Int) i=(s.W.getD k 0,0):=by simp only[dE,l,if_true,t,c9]
  rw[j,t];have B:(0:Int)≤(k:Int)∧(k:Int)<(s.W.length:Int):=⟨by omega,by omega⟩;have C:=q.tM z;refine k0 (dg l) q.hb.cell (eq_true B) @Int.toNat_natCast @Nat.mul_one C ?_;exact d
theorem ints_set {xs:List Int} {k:Nat} {x:Int} (rest:List Value) (h:k<xs.length):(ints xs++rest).set k (.int .i64 x)=ints (xs.set k x)++rest:=by
 rw[List.set_append_left _ _ (by simpa[ints]using h)];simp[ints,List.map_set]
theorem NG (h: [b,gB,gW,sb,sg,pb,pg,bl,bf].Nodup):(b≠gB∧b≠gW∧b≠sb∧b≠sg∧b≠pb∧b≠pg∧b≠bl∧b≠bf)∧(gB≠gW∧gB≠sb∧gB≠sg∧gB≠pb∧gB≠pg∧gB≠bl∧gB≠bf)∧(gW≠sb∧gW≠sg∧gW≠pb∧gW≠pg∧gW≠bl∧gW≠bf)∧(sb≠sg∧sb≠pb∧sb≠pg∧sb≠bl∧sb≠bf)∧(sg≠pb∧sg≠pg∧sg≠bl∧sg≠bf)∧(pb≠pg∧pb≠bl∧pb≠bf)∧(pg≠bl∧pg≠bf)∧bl≠bf:=by
 simp only[List.nodup_cons,List.mem_cons,List.not_mem_nil,or_false,not_or,List.nodup_nil,not_false_eq_true,and_true]at h;exact h
theorem bg {x y:Nat} (h:x≠y):x∉ [y]:=by simpa using h
theorem rv.Iq {w':World} {s:HL} {cB cW:Nat} {yB yW:List Value} (h:rv w b s gB gW cB cW yB yW sb sg pb pg bl bf) {j:List Int} (hl:j.length=s.W.length) (k:HL.Ok {s with W:=j}) (l:At w' gW (ints j++yW)) (d:ae [gW] w w'):
  rv w' b {s with W:=j} gB gW cB cW yB yW sb sg pb pg bl bf:=by
 obtain⟨⟨B,m,C,D,E,F,G,H⟩,⟨o,I,J,K,L,M,N⟩,⟨q,r,t,u,y,z⟩,_⟩:=NG h.nd;refine⟨k,?_,h.hB.keep d (bg o),l,h.cB,by simpa only[hl]using h.cW,h.hs.keep d (bg q.symm) (bg r.symm),h.hp.keep d (bg t.symm) (bg u.symm),h.hl.keep d (bg y.symm),h.hf.keep d (bg z.symm),h.nd⟩;rw[show({s with W:=j}:HL).W.length=s.W.length from hl];exact h.hb.keep d (bg m)
theorem po (h:HR w a fp m) (x i to:Int) (X:x≤4611686018427387904) (L:to≤4611686018427387904):Cs Tryz.prog 120 [.pointer a,.int .i64 x,.int .i64 i,.int .i64 to] w fun v w'=>v=.int .i64 (cf m x i to)∧HR w' a fp (bj m x i to)∧ae fp w w':=by
 refine en [] ?_;refine gO ?_;refine aM (AB h x i false X) fun Q d=>?_;by_cases C:(br m x i false).2=0;rotate_left
 ·refine aQ (eE C) ?_;have t:cf m x i to=(br m x i false).2:=by
   cases m with
   |none=>rfl
   |some s=>simp only[cf,ne_eq,C,not_false_eq_true,if_true]
  have F:bj m x i to=m:=by
   cases m with
   |none=>rfl
   |some s=>simp only[bj,t,C,if_false]
  rw[t,F];exact⟨rfl,h.ab d,d.of_nil⟩
 match m,h with
 |none,_=>simp[br]at C
 |some s,R@⟨b,Y,gB,gW,Z,cW,yB,yW,sb,sg,pb,pg,bl,bf,S,H⟩=>
  subst Y;have u:(to≠0→bE (some s) to=true)→ ∀D,ae [] w D→cf (some s) x i to=0∧ ∃k:Nat,(br (some s) x i false).1=k∧k<s.W.length∧bj (some s) x i to=some {s with W:=s.W.set k to}∧HL.Ok {s with W:=s.W.set k to}:=by
   intro J D l;obtain⟨o,k,rfl,g1,I,g3,g4,G⟩:=fS H.ok C;have t:cf (some s) ((2*o:Nat):Int) i to=0:=by
    simp only[cf,C,ne_eq,not_true_eq_false,if_false];rw[if_neg];rintro⟨h4,U⟩;rw[J h4]at U;cases U
   refine⟨t,k,I,G,?_,H.ok.Iq (H.ok.inside g1 g3 g4)⟩;simp only[bj,t,if_true,I,c9]
  have q: ∀(D:World) (k:Nat),ae [] w D→k<s.W.length→HL.Ok {s with W:=s.W.set k to}→ ∀E,At E gW (ints (s.W.set k to)++yW)→ae [gW] D E→HR E (some ⟨b,0,none⟩) fp (some {s with W:=s.W.set k to})∧ae fp w E:=by
   intro D k l hk z E j r;refine⟨⟨b,rfl,gB,gW,Z,cW,yB,yW,sb,sg,pb,pg,bl,bf,S,(H.ab l).Iq (by simp) z j r⟩,?_⟩;exact(l.of_nil (T:=fp)).trans r fun y V=>by simp only[aK]at V;subst V;exact .inl (by rw[S];simp)
  by_cases K:to=0
  ·obtain⟨t,k,I,G,F,z⟩:=u (fun h=>absurd K h) Q d;have B:=H.ab d;have M:(0:Int)≤(k:Int)∧(k:Int)<(s.W.length:Int):=⟨by omega,by omega⟩;rw[t,F,I];refine k0 (dg C) (dg K) B.hb.cell (eq_true M) @Int.toNat_natCast @Nat.mul_one ?_;refine fJ B.hW (by simp[ints];omega) rfl fun E N j r=>?_;rw[ints_set yW G]at j;obtain⟨O,P⟩:=q Q k d G z E j r;refine gO ?_;exact⟨O,P⟩
  ·refine aZ (dg C) (eE K) ?_;refine aM (yS (R.ab d) to L) fun D l=>?_;cases J:bE (some s) to with
   |false=>
    refine gO ?_;have t:cf (some s) x i to=1:=by
     simp only[cf,C,ne_eq,not_true_eq_false,if_false,K,not_false_eq_true,J,and_self,if_true]
    have F:bj (some s) x i to=some s:=by
     simp only[bj,t];rfl
    rw[t,F];exact⟨rfl,R.ab (d.nil l),(d.nil l).of_nil⟩
   |true=>
    obtain⟨t,k,I,G,F,z⟩:=u (fun _=>J) D (d.nil l);have B:=H.ab (d.nil l);have M:(0:Int)≤(k:Int)∧(k:Int)<(s.W.length:Int):=⟨by omega,by omega⟩;rw[t,F,I];refine eZ B.hb.cell (eq_true M) @Int.toNat_natCast @Nat.mul_one ?_;refine fJ B.hW (by simp[ints];omega) rfl fun E N j r=>?_;rw[ints_set yW G]at j;obtain⟨O,P⟩:=q D k (d.nil l) G z E j r;refine gO ?_;exact⟨O,P⟩
end
set_option maxRecDepth 8000
theorem oz {p:Nat→Bool}: ∀ {n i:Nat},mE p n=some i→i<n∧p i=true
 |0,i,h=>by cases h
 |n+1,i,h=>by
  simp only[mE]at h
  by_cases b:p n=true
  ·rw[if_pos b]at h;cases h;exact⟨Nat.lt_succ_self _,b⟩
  ·rw[if_neg b]at h
   have:=oz h
   exact⟨by omega,this.2⟩
theorem P0 {w:World} {a:Option Addr} {fp:List Nat} {m:HO} (h:HR w a fp m) (x:Int) (P:x≤4611686018427387904):Cs Tryz.prog 395 [.pointer a,.int .i64 x] w fun v w'=>v=.tuple #[.int .i64 (gT m x).1,.int .i64 (gT m x).2]∧ae [] w w':=by
 refine en [] ?_;refine gO ?_;refine aH (mH h) ?_
 match m,h with
 |none,_=>(repeat(first|with_reducible(first|refine nx ?_|refine bA rfl ?_)|simp only[go_sem]));exact⟨rfl,ae.refl _ _⟩
 |some s,⟨b,H,Q,R,S,cW,yB,yW,T,U,V,W,X,Y,Z,l⟩=>
  subst H;by_cases q:x<0
  ·refine aQ (aU q) ?_;exact⟨by simp[gT,q],ae.refl _ _⟩
  by_cases u:(s.W.length:Int)≤x
  ·refine cT (aX q) l.hb.cell (aU u) ?_;exact⟨by simp[gT,u],ae.refl _ _⟩
  obtain⟨k,rfl⟩: ∃k:Nat,x=k:=⟨x.toNat,by omega⟩;refine lY (aX q) l.hb.cell (aX u) (ry k (by omega)) (au (k/2) (by omega)) ?_;refine aw (L3 (iF.mk l.hs) _ 1) ?_;rintro r w2 ⟨rfl,d⟩;have y:=l.ab d;have I:gT (some s) (k:Int)=match s.jF.nG ((k/2+1:Nat):Int) 1 with
    |none=>(0,4)
    |some i=>if 2*(i:Int)+s.size (2*i)≤(k:Int)then(0,4)else(2*(i:Int),0):=by
   simp only[gT];rw[if_neg (by omega),show(k:Int)/2+1=((k/2+1:Nat):Int) by omega]
   all_goals(cases s.jF.nG ((k/2+1:Nat):Int) 1<;>rfl)
  rw[I];have z:(some (1,s.st):MT)=s.jF:=rfl;rw[z];cases J:s.jF.nG ((k/2+1:Nat):Int) 1 with
  |none=>
   have B:MT.err s.jF none=4:=rfl;refine aZ B (eE (show¬(4:Int)=0 by omega)) ?_;exact d
  |some i=>
   have B:MT.err s.jF (some i)=0:=rfl;have K:Fu (some i)=(i:Int):=rfl;have D:i<s.st.length∧s.st.getD i 0=1:=by
    have C:mE (fun j=>decide ((j:Int)<((k/2+1:Nat):Int))&&decide (((s.st.getD j 0:Nat):Int)=1)) s.st.length=some i:=J;obtain⟨L,M⟩:=oz C;simp only[Bool.and_eq_true,decide_eq_true_eq]at M;exact⟨L,by omega⟩
   have N:=l.ok.sl;have hB:=l.ok.jd;obtain⟨z1,z2,z3,_⟩:=l.ok.sz D.2;have O:=l.ok.wl;have E:IntKind.i64.wrap (2*(i:Int))=((2*i:Nat):Int):=by rw[show 2*(i:Int)=((2*i:Nat):Int) by omega];exact bU _ (by omega)
   have F:IntKind.i64.wrap (((2*i:Nat):Int)+s.size (2*i))=((2*i:Nat):Int)+s.size (2*i):=IntWalk.i64_in _ (by omega);refine eZ B K (dg (rfl:(0:Int)=0)) E ?_;refine aM (JG y D.2) fun w3 o=>?_;have G:2*(i:Int)=((2*i:Nat):Int):=by omega
   by_cases t:((2*i:Nat):Int)+s.size (2*i)≤(k:Int)
   ·refine aZ F (aU t) ?_;simp only[G,if_pos t];exact⟨by first|rfl|trivial,d.nil o⟩
   ·refine cT F (aX t) E ?_;simp only[G,if_neg t];exact⟨by first|rfl|trivial,d.nil o⟩
section
set_option maxRecDepth 8000
variable {s:HL} {yB yW:List Value} {b bf bl cB cW gB gW pb pg sb sg:Nat} {w:World}
theorem JH (h:rv w b s gB gW cB cW yB yW sb sg pb pg bl bf) (k:Nat) (r:k<s.B.length):
  Cs Tryz.prog 384 [.pointer (some ⟨b,0,none⟩),.int .i64 (k:Int)] w fun v w'=>v=.int .i64 (s.span k:Nat)∧w'=w:=by
 have J:=h.ok.jd;have get: ∀j,j<s.B.length→(cG s.B++yB)[j*2]? =some (.int .i64 (s.B.getD j (0,0)).1):=fun j D=>by
  rw[List.getElem?_append_left (by rw[bJ];omega),Nat.mul_comm];exact(jG D).1
 have t:(0:Int)≤(k:Int)∧(k:Int)<(s.B.length:Int):=⟨by omega,by omega⟩;refine en [] ?_;refine gO ?_;refine az (5::6::7::8::9::10::11::12::13::14::15::16::17::18::19::20::21::22::23::24::25::26::27::28::29::30::31::32::33::34::35::36::37::38::39::40::[]) (fun g w'=> ∃n:Nat,g 5=.int .i64 (n:Int)∧1≤n∧k+n≤s.B.length∧((s.B.getD k (0,0)).1=2→tails s.B k (s.B.length+1-n) n=tails s.B k s.B.length 1)∧((s.B.getD k (0,0)).1≠2→n=1)∧w'=w) (fun g _=>bw (s.B.length+1) 5 g)
  ⟨1,by simp only[go_sem];rfl,by omega,by omega,fun _=>by rw[Nat.add_sub_cancel],fun _=>rfl,rfl⟩ fun g E F m=>?_
 obtain⟨n,o,G,H,d,B,rfl⟩:=F;have C:IntKind.i64.wrap ((k:Int)+(n:Int))=((k+n:Nat):Int):=by rw[IntWalk.i64_in _ (by omega)];omega
 by_cases l:(s.B.getD k (0,0)).1=2;rotate_left
 ·refine k7 h.hb.cell h.hB.cell (eq_true t) @Int.toNat_natCast (get k r) (cU l) o ?_;have:s.span k=1:=by unfold HL.span;rw[if_neg l]
  rw[this,B l]
 have d:=d l;have q:s.span k=tails s.B k s.B.length 1:=by unfold HL.span;rw[if_pos l]
 obtain⟨f,I⟩: ∃f,s.B.length+1-n=f+1:=⟨s.B.length-n,by omega⟩;rw[I,tails]at d;by_cases u:k+n<s.B.length;rotate_left
 ·rw[if_neg (fun h=>u h.1)]at d;refine Dx h.hb.cell h.hB.cell (eq_true t) @Int.toNat_natCast (get k r) (cZ l) o C (aX (show¬((k+n:Nat):Int)<(s.B.length:Int) by omega)) ?_;rw[q,d]
 have y:(0:Int)≤((k+n:Nat):Int)∧((k+n:Nat):Int)<(s.B.length:Int):=⟨by omega,by omega⟩;by_cases z:(s.B.getD (k+n) (0,0)).1=3;rotate_left
 ·rw[if_neg (fun h=>z h.2)]at d;refine HX h.hb.cell h.hB.cell (eq_true t) (eq_true y) @Int.toNat_natCast (get k r) (get (k+n) u) (cZ l) o C (aU y.2) (cU z) ?_;rw[q,d]
 rw[if_pos ⟨u,z⟩]at d;refine TH h.hb.cell h.hB.cell (eq_true t) (eq_true y) @Int.toNat_natCast (get k r) (get (k+n) u) (cZ l) o C (aU y.2) (cZ z) (au n (by omega)) ?_;refine m _ E ⟨n+1,?_,by omega,by omega,fun _=>?_,fun h=>absurd l h,rfl⟩ ?_
 ·simp only[go_sem]
 ·rw[show s.B.length+1-(n+1)=f by omega];exact d
 ·exact aJ o
theorem Mc (t:rv w b s gB gW cB cW yB yW sb sg pb pg bl bf) (x l but:Int) (hx:x≤4611686018427387904) (w2:2≤l) (Z:l≤218) (we:l%2=0):Cs Tryz.prog 293 [.pointer (some ⟨b,0,none⟩),.int .i64 x,.int .i64 l,.int .i64 but] w fun v w'=>v=.int .i64 (fc s x l but)∧ae [] w w':=by
 refine en [] ?_;by_cases H:x<0
 ·refine aQ (aU H) ?_;exact⟨by simp[fc,pT,H],ae.refl _ _⟩
 by_cases T:(s.W.length:Int)≤x
 ·refine cT (aX H) t.hb.cell (aU T) ?_;exact⟨by simp[fc,pT,T],ae.refl _ _⟩
 obtain⟨k,rfl⟩: ∃k:Nat,x=k:=⟨x.toNat,by omega⟩;by_cases c3:k%2=0;rotate_left
 ·refine lY (aX H) t.hb.cell (aX T) (rz k) (eE (show¬((k%2:Nat):Int)=0 by omega)) ?_;exact⟨by simp[fc,pT,show¬(k:Int)%2=0 by omega],ae.refl _ _⟩
 have hA:pT s (k:Int)=false:=by simp[pT];omega
 have OL:=t.ok.wl;have hB:=t.ok.jd;have y: ∀n:Nat,n≤4611686018427387904→IntKind.i64.wrap ((n:Int).tdiv 64)=((n/64:Nat):Int):=fun n hn=>iI n hn;have I:k/64<s.B.length:=by omega
 have F:(0:Int)≤((k/64:Nat):Int)∧((k/64:Nat):Int)<(s.B.length:Int):=⟨by omega,by omega⟩;have G:(cG s.B++yB)[k/64*2]? =some (.int .i64 (s.B.getD (k/64) (0,0)).1):=by
  rw[List.getElem?_append_left (by rw[bJ];omega),Nat.mul_comm];exact(jG I).1
 obtain⟨d,rfl⟩: ∃n:Nat,l=n:=⟨l.toNat,by omega⟩;have X:IntKind.i64.wrap ((k:Int)+(d:Int))=(k:Int)+(d:Int):=IntWalk.i64_in _ (by omega);have e4:IntKind.i64.wrap ((k:Int)+(d:Int)-1)=((k+d-1:Nat):Int):=by rw[IntWalk.i64_in _ (by omega)];omega
 have J:IntKind.i64.wrap (IntKind.i64.wrap ((d:Int)+64)-1)=((d+63:Nat):Int):=by rw[IntWalk.i64_in ((d:Int)+64) (by omega),IntWalk.i64_in _ (by omega)];omega
 have U:s.b ((k:Int)/64)=s.B.getD (k/64) (0,0):=by unfold HL.b;congr 1
 have K:((k:Int)/64).toNat=k/64:=by omega
 have z:bX s (k:Int) (d:Int)=true→fc s (k:Int) (d:Int) but=5:=fun h=>by unfold fc;rw[hA,if_neg (by simp),if_pos h]
 have Y:bX s (k:Int) (d:Int)=false→fc s (k:Int) (d:Int) but=if(List.range (d/2)).any (eT s (k:Int) but)=true then 8 else 0:=fun h=>by
  unfold fc;rw[hA,if_neg (by simp),h,if_neg (by simp),show(((d:Int)+1)/2).toNat=d/2 by omega]
 (repeat(first|with_reducible(first|refine Er ?_|refine Es ?_|refine SG ?_|refine Et ?_|refine Eu ?_|refine bA rfl ?_)|simp only[go_sem,aX H,t.hb.cell,aX T,rz k,dg (show((k%2:Nat):Int)=0 by omega)]));refine kM ?_;simp only[go_sem];refine mo (run_seq (wx ?_));simp only[go_sem,y k (by omega)];refine run_seq ?_;refine bH (31::32::33::34::35::36::37::38::39::40::41::42::43::44::45::46::47::48::49::50::51::52::53::54::55::56::57::58::59::60::61::62::63::64::65::66::67::68::69::70::71::72::73::74::75::[]) (fun _ w'=>w'=w∧bX s (k:Int) (d:Int)=false) (fun kk L=>?_) (fun g w' hJ=>?_)
 ·by_cases q:(d:Int)≤32
  ·by_cases B:(s.B.getD (k/64) (0,0)).1=1;rotate_left
   ·refine k7 (aU q) t.hb.cell t.hB.cell (eq_true F) @Int.toNat_natCast G (eE B) ?_;refine⟨?_,ae.refl _ _⟩;rw[z];unfold bX;rw[if_pos q,U,aU (show(s.B.getD (k/64) (0,0)).1≠1 from B)];rfl
   by_cases c5:(k+d-1)/64=k/64;rotate_left
   ·refine uq (aU q) t.hb.cell t.hB.cell (eq_true F) @Int.toNat_natCast G (dg B) X e4 (y (k+d-1) (by omega)) (eE (show¬(((k+d-1)/64:Nat):Int)=((k/64:Nat):Int) by omega)) ?_;refine⟨?_,ae.refl _ _⟩;rw[z];unfold bX;rw[if_pos q];have:((k:Int)+(d:Int)-1)/64≠(k:Int)/64:=by omega
    simp[this]
   refine uq (aU q) t.hb.cell t.hB.cell (eq_true F) @Int.toNat_natCast G (dg B) X e4 (y (k+d-1) (by omega)) (dg (show(((k+d-1)/64:Nat):Int)=((k/64:Nat):Int) by omega)) ?_;refine L _ _ ⟨rfl,?_⟩
   ·unfold bX;rw[if_pos q,U];rw[aX (show¬(s.B.getD (k/64) (0,0)).1≠1 from fun h=>h B),aX (show¬((k:Int)+(d:Int)-1)/64≠(k:Int)/64 by omega)];rfl
  ·by_cases B:(s.B.getD (k/64) (0,0)).1=2;rotate_left
   ·refine k7 (aX q) t.hb.cell t.hB.cell (eq_true F) @Int.toNat_natCast G (eE B) ?_;refine⟨?_,ae.refl _ _⟩;rw[z];unfold bX;rw[if_neg q,U,aU (show(s.B.getD (k/64) (0,0)).1≠2 from B)];rfl
   by_cases c5:k%64=0;rotate_left
   ·refine Dx (aX q) t.hb.cell t.hB.cell (eq_true F) @Int.toNat_natCast G (dg B) (qF k) (eE (show¬((k%64:Nat):Int)=0 by omega)) ?_;refine⟨?_,ae.refl _ _⟩;rw[z];unfold bX;rw[if_neg q];have:(k:Int)%64≠0:=by omega
    simp[this]
   refine Dx (aX q) t.hb.cell t.hB.cell (eq_true F) @Int.toNat_natCast G (dg B) (qF k) (dg (show((k%64:Nat):Int)=0 by omega)) ?_;refine aH (JH t (k/64) I) ?_;by_cases D:s.span (k/64)=(d+63)/64;rotate_left
   ·refine cT J (y (d+63) (by omega)) (eE (show¬((s.span (k/64):Nat):Int)=(((d+63)/64:Nat):Int) by omega)) ?_;refine⟨?_,ae.refl _ _⟩;rw[z];unfold bX;rw[if_neg q,K];have:((s.span (k/64):Nat):Int)≠((d:Int)+63)/64:=by omega
    simp[this]
   refine cT J (y (d+63) (by omega)) (dg (show((s.span (k/64):Nat):Int)=(((d+63)/64:Nat):Int) by omega)) ?_;refine L _ _ ⟨rfl,?_⟩
   ·unfold bX;rw[if_neg q,U,K];rw[aX (show¬(s.B.getD (k/64) (0,0)).1≠2 from fun h=>h B),aX (show¬(k:Int)%64≠0 by omega),aX (show¬((s.span (k/64):Nat):Int)≠((d:Int)+63)/64 by omega)];rfl
 obtain⟨e,hW⟩:=hJ;subst e;rw[Y hW];refine gO ?_;refine az (10::11::12::76::77::78::79::80::81::82::83::84::85::86::87::88::89::90::91::92::93::94::95::[]) (fun g w1=> ∃j:Nat,g 10=.int .i64 ((k+2*j:Nat):Int)∧j≤d/2∧(∀i,i<j→eT s (k:Int) but i=false)∧ae [] w' w1) (fun g _=>bw (k+d+1) 10 g)
  ⟨0,by simp only[go_sem];rfl,by omega,by omega,ae.refl _ _⟩ fun g w1 hI C=>?_
 obtain⟨j,u,hj,M,N⟩:=hI;refine aZ u X ?_;refine cu (fun O=>?_) (fun P=>?_)
 ·have O:k+2*j<k+d:=by
   have:((k+2*j:Nat):Int)<(k:Int)+(d:Int):=by simpa using O
   omega
  refine aQ u ?_;refine aw (P0 (m:=some s) ⟨b,rfl,gB,gW,cB,cW,yB,yW,sb,sg,pb,pg,bl,bf,rfl,t.ab N⟩ ((k+2*j:Nat):Int) (by omega)) ?_;rintro r w3 ⟨rfl,E⟩;have V:eT s (k:Int) but j=((gT (some s) ((k+2*j:Nat):Int)).2==0&&(gT (some s) ((k+2*j:Nat):Int)).1 !=but):=by
   unfold eT;rw[show(k:Int)+2*(j:Int)=((k+2*j:Nat):Int) by omega]
  have J:IntKind.i64.wrap (((k+2*j:Nat):Int)+2)=((k+2*(j+1):Nat):Int):=by rw[IntWalk.i64_in _ (by omega)];omega
  have Q:eT s (k:Int) but j=false→ ∀i,i<j+1→eT s (k:Int) but i=false:=fun h i hi=>by
   by_cases e:i=j
   ·subst e;exact h
   ·exact M i (by omega)
  generalize gT (some s) ((k+2*j:Nat):Int)=fo at*;obtain⟨o,e⟩:=fo;simp only at V;by_cases D:e=0
  ·by_cases W:o=but
   ·refine eZ u (cZ D) (dg W) J ?_;refine C _ w3 ⟨j+1,?_,by omega,Q (by rw[V,D,W];simp),N.nil E⟩ ?_
    ·simp only[go_sem]
    ·rw[dM u,dM (k:=.i64) (i:=k+2*(j+1)) (by simp only[go_sem])];omega
   ·refine cT u (cZ D) (eE W) ?_;refine⟨?_,N.nil E⟩;rw[if_pos];exact List.any_eq_true.2 ⟨j,List.mem_range.2 (by omega),by rw[V,D];simp[W]⟩
  ·refine cT u (cU D) J ?_;refine C _ w3 ⟨j+1,?_,by omega,Q (by rw[V];simp[D]),N.nil E⟩ ?_
   ·simp only[go_sem]
   ·rw[dM u,dM (k:=.i64) (i:=k+2*(j+1)) (by simp only[go_sem])];omega
 ·have P: ¬k+2*j<k+d:=by
   have: ¬((k+2*j:Nat):Int)<(k:Int)+(d:Int):=by simpa using P
   omega
  refine gO ?_;refine⟨?_,N⟩;rw[if_neg];intro R;obtain⟨i,hi,S⟩:=List.any_eq_true.1 R;rw[M i (by have:=List.mem_range.1 hi;omega)]at S;cases S
end
section
set_option maxRecDepth 8000
variable {m:HO} {fp:List Nat} {a:Option Addr} {w:World}
theorem BB (h:HR w a fp m) (x:Int) (d:Sh) (hx:x≤4611686018427387904) (I: ∀s,m=some s→s.born≤4611686018427387900):
  Cs Tryz.prog 119 [.pointer a,.int .i64 x,.agg ⟨bS d⟩] w fun v w'=>v=.tuple #[.int .i64 (bC m x d).1,.int .i64 (bC m x d).2]∧HR w' a fp (bK m x d)∧ae fp w w':=by
 refine en [2,5,8,11,14,17,20,23,26,29,32,35,38,41,44,47,51,53,58,59,64,0,0] ?_;refine gO ?_;refine bp fun q w1 hq pf u o=>?_;refine gO ?_;refine aH (mH (h.ab o)) ?_
 match m,h with
 |none,h=>(repeat(first|with_reducible(first|refine nx ?_|refine bA rfl ?_)|simp only[go_sem]));exact⟨rfl,h.ab o,o.of_nil⟩
 |some s,h0@⟨b,V,gB,X,cB,cW,yB,yW,O,P,pb,pg,Y,bf,h2,t⟩=>
  subst V;have P1:aC w1 ⟨q,0,none⟩ 3=some (bS d):=ay u 0 3 (by simp[bS]);refine aQ P1 ?_;refine aM (FB w1 d) fun w2 y=>?_;have hc2:aC w2 ⟨q,0,none⟩ 3=some (bS d):=ay (u.ab y) 0 3 (by simp[bS]);cases Q:aS d with
  |false=>
   refine gO ?_;have E:bC (some s) x d=(0,2):=by simp[bC,Q]
   have Z:bK (some s) x d=some s:=by unfold bK;simp only[E];rfl
   rw[E,Z];exact⟨rfl,HR.ab (m:=some s) h0 (o.nil y),(o.nil y).of_nil⟩
  |true=>
   refine aQ hc2 ?_;refine aM (tr w2 d) fun w3 gJ=>?_;have R:=dk Q;have o3:=(o.nil y).nil gJ;refine gO ?_;refine aM (Mc (t.ab o3) x (aE d) (-1) hx R.1 R.2.1 R.2.2.1) fun w4 iV=>?_;have o4:=o3.nil iV;by_cases S:fc s x (aE d) (-1)=0;rotate_left
   ·refine aQ (eE S) ?_;have E:bC (some s) x d=(0,fc s x (aE d) (-1)):=by simp[bC,Q,S]
    have Z:bK (some s) x d=some s:=by unfold bK;simp only[E,S,if_false]
    rw[E,Z];exact⟨rfl,HR.ab (m:=some s) h0 o4,o4.of_nil⟩
   obtain⟨k,rfl,hk,Ir,J⟩:=vh t.ok R.1 R.2.2.1 R.2.1 S;have E:bC (some s) ((2*k:Nat):Int) d=(((s.born+1:Nat):Int),0):=by
    unfold bC;simp only[Q,S,Bool.true_eq_false,if_false,ne_eq,not_true_eq_false]
   have Z:bK (some s) ((2*k:Nat):Int) d=some {s with W:=(s.W.set (2*k) ((s.born+1:Nat):Int)).set (2*k+1) (hU d),st:=s.st.set k 1,pl:=dG s.pl ((s.born+1:Nat):Int) (.int .i64 ((2*k:Nat):Int)),born:=s.born+1}:=by
    unfold bK;simp only[E,if_true,c9,Nat.mul_div_cancel_left k (show 0<2 by omega)]
   have xH:=t.ok.place (id:=((s.born+1:Nat):Int)) (pl:=dG s.pl ((s.born+1:Nat):Int) (.int .i64 ((2*k:Nat):Int))) (born:=s.born+1) Q hk Ir J;rw[E,Z];have hbn:=I s rfl;have F:=t.ab o4;have Jw:=o4.size;have wg:=t.lt;obtain⟨⟨n1,n2,n3,n4,n5,n6,n7,n8⟩,⟨m2,m3,m4,m5,m6,m7,m8⟩,⟨p3,p4,p5,p6,p7,p8⟩,⟨r4,r5,r6,r7,r8⟩,⟨t5,t6,t7,t8⟩,⟨u6,u7,u8⟩,⟨v7,v8⟩,y8⟩:=NG t.nd;have P2: ∀z,z∈[b,gB,X,O,P,pb,pg,Y,bf]→z≠q:=fun z B e=>by have:=wg z B;omega
   have e1:IntKind.i64.wrap ((s.born:Int)+1)=((s.born+1:Nat):Int):=au _ (by omega);refine cT (dg S) F.hb.cell e1 ?_;refine fJ F.hb (by simp) rfl fun U qm C j=>?_;simp only[List.set_cons_zero,List.set_cons_succ]at C;have G:At U q (bS d):=((u.ab ((y.nil gJ).nil iV))).keep j (bg (P2 b (by simp)).symm);have hW5:=F.hW.keep j (bg n2.symm);have Ly:aC U.drew ⟨q,0,none⟩ 3=some (bS d):=ay G.drew 0 3 (by simp[bS]);have EZ:=t.ok.sl;have OL:=t.ok.wl;have Fb:=t.ok.jd;have e2:IntKind.i64.wrap (((2*k:Nat):Int)+1)=((2*k+1:Nat):Int):=au _ (by omega);have c1:(0:Int)≤((2*k:Nat):Int)∧((2*k:Nat):Int)<(s.W.length:Int):=⟨by omega,by omega⟩;have c2:(0:Int)≤((2*k+1:Nat):Int)∧((2*k+1:Nat):Int)<(s.W.length:Int):=⟨by omega,by omega⟩;refine gO ?_;refine aW [b,q] ?_;refine eZ C.cell C.drew.cell Ly e2 ?_;have Va:=C.lt;have Vb:=G.lt;refine jr (Ip U.drew d Q) (.inr ⟨SB.refl _ _,fun z B=>⟨?_,by simp⟩⟩) fun w6 lZ=>?_
   ·simp only[List.mem_cons,List.not_mem_nil,or_false]at B;show z<U.heap.size;rcases B with rfl|rfl
    ·exact Va
    ·exact Vb
   have hW6:=hW5.drew.ab lZ;refine eZ (eq_true c1) (eq_true c2) @Int.toNat_natCast @Nat.mul_one ?_;refine Ee hW6 (by simp[ints];omega) rfl fun w7 uw Zx kB=>⟨.inl rfl,?_⟩;rw[ints_set yW (by omega)]at Zx;refine cT (eq_true c2) @Int.toNat_natCast @Nat.mul_one ?_;refine Ee Zx (by simp[ints];omega) rfl fun w8 Bu Zy k9=>⟨.inl rfl,?_⟩;rw[ints_set yW (by simp;omega)]at Zy;have K:ae [X] U w8:=(((ae.drew [] U).nil lZ).of_nil (T:=[X])).same (kB.same k9);have Vc:=C.keep K (bg n2);have Vd:=(F.hs.keep j (bg n3.symm) (bg n4.symm)).keep K (bg p3.symm) (bg p4.symm);have e3:IntKind.i64.wrap (((2*k:Nat):Int).tdiv 2)=(k:Int):=by rw[ry _ (by omega)];omega
   refine aZ Vc.cell e3 ?_;refine aw (yP (iF.mk Vd) (k:Int) 1) ?_;rintro r w9 ⟨rfl,D,kC⟩;have Ve:MT.check (some (1,s.st)) (k:Int) [1]=0:=by
    have V:hasB s.st.length (k:Int)=true:=nc hk;simp only[MT.check,V];rfl
   have L:MT.cS (some (1,s.st)) (k:Int) 1=some (1,s.st.set k 1):=by
    simp only[MT.cS,Ve,if_true,c9];rfl
   rw[L]at D;obtain⟨sb',sg',g1,g2,Dz⟩:=D;cases g2;have M:ae [O,P] w8 w9:=kC;have gD: ∀ {z:Nat},z≠O→z≠P→z∉ [O,P]:=fun V h2=>by simpa using⟨V,h2⟩
   have N:=Vc.keep M (gD n3 n4);have Nu:=((F.hl.keep j (bg n7.symm)).keep K (bg p7.symm)).keep M (gD r7.symm t7.symm);refine aZ N.cell N.drew.cell ?_;refine Fy Tryz.underlying121 Tryz.underlying3 (Nu.ab (ae.drew [] w9)) fun rS Ah Md H8=>?_;have l:ae [Y] w9 rS:=((ae.drew [] w9).of_nil (T:=[Y])).same H8;have H:=N.keep l (bg n7);refine aQ H.cell ?_;refine⟨⟨b,rfl,gB,X,cB,cW,yB,yW,O,P,pb,pg,Y,bf,h2,⟨xH,?_,?_,?_,t.cB,by simpa using t.cW,?_,?_,Md,?_,t.nd⟩⟩,?_⟩
   ·simpa using H
   ·exact(((F.hB.keep j (bg n1.symm)).keep K (bg m2)).keep M (gD m3 m4)).keep l (bg m7)
   ·exact(Zy.keep M (gD p3 p4)).keep l (bg p7)
   ·exact Dz.keep l (bg r7) (bg t7)
   ·exact(((F.hp.keep j (bg n5.symm) (bg n6.symm)).keep K (bg p5.symm) (bg p6.symm)).keep M (gD r5.symm t5.symm) (gD r6.symm t6.symm)).keep l (bg u7) (bg v7)
   ·exact(((F.hf.keep j (bg n8.symm)).keep K (bg p8.symm)).keep M (gD r8.symm t8.symm)).keep l (bg y8.symm)
   ·have f: ∀z,z∈[b,gB,X,O,P,pb,pg,Y,bf]→z∈fp:=fun z B=>by rw[h2];exact B
    refine((((o4.of_nil (T:=fp)).trans j fun z B=>.inl (f z ?_)).trans K fun z B=>.inl (f z ?_)).trans M fun z B=>.inl (f z ?_)).trans l fun z B=>.inl (f z ?_)
    all_goals(simp only[List.mem_cons,List.not_mem_nil,or_false]at B⊢;omega)
theorem E7 (h:HR w a fp m) (x:Int) (d:Sh) (j:x≤4611686018427387904) (k:aE d≤32) (b: ∀s,m=some s→s.born≤4611686018427387900):
  Cs Tryz.prog 119 [.pointer a,.int .i64 x,.agg ⟨bS d⟩] w fun v w'=>v=.tuple #[.int .i64 (bC m x d).1,.int .i64 (bC m x d).2]∧HR w' a fp (bK m x d)∧ae fp w w':=BB h x d j b
end
section
variable {s:HL} {m:HO} {B B' xs:List (Int×Int)} {fp:List Nat} {cs:List Value} {cap g i o:Nat} {a:Option Addr} {w:World}
def bV (x:Int×Int):List Value:=[.int .i64 x.1,.int .i64 x.2]
set_option maxHeartbeats 1000000 in
theorem P3 (w:World) (x:Int×Int):Cs Tryz.prog 394 [.agg ⟨bV x⟩] w fun v w'=>v=.bool (x !=(0,0))∧ae [] w w':=by
 obtain⟨a,b⟩:=x;refine kG rfl ?_;unfold iN;refine gO ?_;refine bp fun q k u l d j=>?_;have m:aC k ⟨q,0,none⟩ 2=some (bV (a,b)):=ay d 0 2 (by simp[bV]);have o:uk true 2 (.agg ⟨bV (a,b)⟩) (.agg ⟨[.int .i64 0,.int .i64 0]⟩)=some (.bool ((a,b) !=((0,0):Int×Int))):=by
  unfold bV;rw[wG true 2 _ _ rfl rfl];simp only[gw,j4];have e:((a,b) !=((0,0):Int×Int))=!(a==0&&b==0):=by
   rw[Bool.eq_iff_iff];simp only[bne_iff_ne,ne_eq,Prod.mk.injEq,Bool.not_eq_true',Bool.and_eq_false_iff,beq_eq_false_iff_ne];omega
  rw[e];by_cases r:a=0<;>by_cases t:b=0<;>simp[r,t,mX]
 refine aZ m o ?_;exact j
theorem P4 (t : At w g cs) (B : xs.length ≤ 1000) (u : ∀ i, i < xs.length → o + i * 2 + 2 ≤ cs.length ∧ (cs.drop (o + i * 2)).take 2 = bV (xs.getD i (0, 0))) :
    Cs Tryz.prog 433 [.slice (some ⟨g, o, none⟩) xs.length cap, .func (.func 394) #[] #[]] w fun v w' => (∃ k : Int, v = .int .i64 k ∧ decide (0 ≤ k) = xs.any (· != (0, 0))) ∧ ae [] w w' := by
  refine en [] ?_;refine gO ?_;refine az (5 :: 8 :: 9 :: 10 :: 11 :: 12 :: 13 :: 14 :: 15 :: 16 :: 17 :: 18 :: []) (fun g w' => ∃ i : Nat, g 8 = .int .i64 i ∧ i ≤ xs.length ∧ (xs.take i).any (· != (0, 0)) = false ∧ ae [] w w') (fun g _ => bw xs.length 8 g) ⟨0, by simp only [go_sem]; rfl, by omega, by simp, ae.refl _ _⟩ fun I w' C j => ?_;obtain ⟨i, q, J, d, r⟩ := C;refine aQ q ?_;refine cu (fun b => ?_) (fun y => ?_)
  · have b : i < xs.length := by simpa using b
    obtain ⟨D, E⟩ := u i b;have F : (0 : Int) ≤ (i : Int) ∧ (i : Int) < (xs.length : Int) := ⟨by omega, by omega⟩;have G : aC w' ⟨g, o + i * 2, none⟩ 2 = some (bV (xs.getD i (0, 0))) := by rw [ay (t.ab r) (o + i * 2) 2 D, E]
    have l : (xs.take (i + 1)).any (· != (0, 0)) = ((xs.take i).any (· != (0, 0)) || (xs.getD i (0, 0) != (0, 0))) := by
      rw [List.take_succ_eq_append_getElem b, List.any_append];simp [b]
    refine eZ q (eq_true F) @Int.toNat_natCast G ?_;refine fI (cQ _ #[] _ #[]) (by kernel_rfl) (P3 w' (xs.getD i (0, 0))) ?_;rintro v H ⟨rfl, m⟩;refine gO ?_;refine cu (fun z => ?_) (fun z => ?_)
    · refine gO ?_;refine ⟨⟨i, rfl, ?_⟩, r.nil m⟩;have : xs.any (· != (0, 0)) = true := List.any_eq_true.2 ⟨xs[i], List.getElem_mem b, by simpa [b] using z⟩;rw [this]; simp
    · refine aZ q (au i (by omega)) ?_;refine j _ H ⟨i + 1, ?_, by omega, by rw [l, d, z]; rfl, r.nil m⟩ ?_
      · simp only [go_sem]
      · exact aJ q
  · have : i = xs.length := by have : ¬ (i < xs.length) := by simpa using y
                               omega
    subst this;refine gO ?_;refine ⟨⟨-1, rfl, ?_⟩, r⟩;rw [List.take_length] at d;rw [d]; rfl
theorem Me (d:At w g cs) (b:xs.length≤1000) (j: ∀i,i<xs.length→o+i*2+2≤cs.length∧(cs.drop (o+i*2)).take 2=bV (xs.getD i (0,0))):
  Cs Tryz.prog 393 [.slice (some ⟨g,o,none⟩) xs.length cap,.func (.func 394) #[] #[]] w fun v w'=>v=.bool (xs.any (·!=(0,0)))∧ae [] w w':=by
 refine en [] ?_;refine gO ?_;refine aw (P4 d b j) ?_;rintro v w' ⟨⟨k,rfl,l⟩,m⟩;refine aQ l ?_;exact m
theorem qD (rest:List Value) (h:i<B.length):((cG B++rest).drop (i*2)).take 2=bV (B.getD i (0,0)):=by
 induction B generalizing i with
 |nil=>simp at h
 |cons x B b=>
  cases i with
  |zero=>rfl
  |succ i=>
   have d:i<B.length:=by simpa using h
   have e:cG (x::B)++rest=.int .i64 x.1::.int .i64 x.2::(cG B++rest):=rfl;rw[e,show(i+1)*2=i*2+1+1 by omega,List.drop_succ_cons,List.drop_succ_cons,b d];simp
theorem kV {x:Int×Int} (rest:List Value) (h:i<B.length):dU (cG B++rest) (i*2) (bV x)=cG (B.set i x)++rest:=by
 induction B generalizing i with
 |nil=>simp at h
 |cons y B d=>
  cases i with
  |zero=>rfl
  |succ i=>
   have j:i<B.length:=by simpa using h
   have b:=d j;have e:cG (y::B)++rest=.int .i64 y.1::.int .i64 y.2::(cG B++rest):=rfl;have k:cG ((y::B).set (i+1) x)++rest=.int .i64 y.1::.int .i64 y.2::(cG (B.set i x)++rest):=rfl;rw[e,k,←b,show(i+1)*2=i*2+1+1 by omega];rfl
theorem oB (x:Int×Int): ∀u,u∈bV x→bh u=true:=by simp[bV,bh]
theorem HL.Ok.rY (h:s.Ok) (j:B'.length=s.B.length):HL.Ok {s with B:=B'}:=
 ⟨by simpa only[j]using h.b2,by simpa only[j]using h.jd,by simpa only[j]using h.wl,by simpa only[j]using h.sl,by simpa only[j]using h.pl,h.fit,h.dj⟩
theorem rv.rY {w':World} {b:Nat} {j l cB cW:Nat} {yB yW:List Value} {m o q r t u:Nat} (h:rv w b s j l cB cW yB yW m o q r t u) (hl:B'.length=s.B.length) (k:At w' j (cG B'++yB)) (d:ae [j] w w'):
  rv w' b {s with B:=B'} j l cB cW yB yW m o q r t u:=by
 obtain⟨⟨y,I,J,K,L,M,N,O⟩,⟨z,C,D,E,F,G,H⟩,_⟩:=NG h.nd;refine⟨h.ok.rY hl,?_,k,h.hW.keep d (bg z.symm),by simpa only[hl]using h.cB,h.cW,h.hs.keep d (bg C.symm) (bg D.symm),h.hp.keep d (bg E.symm) (bg F.symm),h.hl.keep d (bg G.symm),h.hf.keep d (bg H.symm),h.nd⟩;rw[show({s with B:=B'}:HL).B.length=s.B.length from hl];exact h.hb.keep d (bg y)
theorem BC (h : HR w a fp m) (x many : Int) (first more : Int × Int) (hx : x ≤ 4611686018427387904) (hm : many ≤ 4611686018427387904) :
    Cs Tryz.prog 292 [.pointer a, .int .i64 x, .int .i64 many, .agg ⟨bV first⟩, .agg ⟨bV more⟩] w fun v w' => v = .int .i64 (bs m x many first) ∧ HR w' a fp (bW m x many first more) ∧ ae fp w w' := by
  refine en [0,0] ?_;refine gO ?_;refine bp fun q w1 hq pf O P => ?_;refine gO ?_;refine bp fun q2 w2 NH yJ Q R => ?_;have F := P.nil R;have S := O.ab R;refine gO ?_;refine aH (mH (h.ab F)) ?_
  match m, h with
  | none, h => (repeat (first | with_reducible (first | refine nx ?_ | refine bA rfl ?_) | simp only [go_sem])); exact ⟨rfl, h.ab F, F.of_nil⟩
  | some s, h0@⟨b, h1, r, gW, cB, cW, yB, yW, sb, sg, pb, pg, bl, bf, h2, U⟩ =>
    subst h1;have t := U.ab F;have Fb := U.ok.jd;have C : bs (some s) x many first = 1 → (Value.int .i64 1 = Value.int .i64 (bs (some s) x many first) ∧ HR w2 (some ⟨b, 0, none⟩) fp (bW (some s) x many first more) ∧ ae fp w w2) := fun e => by
      rw [e];have : bW (some s) x many first more = some s := by unfold bW; simp only [e]; rfl
      rw [this];exact ⟨rfl, HR.ab (m := some s) h0 F, F.of_nil⟩
    refine gO ?_;refine aH (FA (HR.ab (m := some s) h0 F) x) ?_;cases ht : iK (some s) x with
    | false =>
      refine gO ?_;exact C (by unfold bs; simp only [ht, true_or, if_true])
    | true =>
      have TB := ht;simp only [iK, Bool.and_eq_true, decide_eq_true_eq] at TB;obtain ⟨k, rfl⟩ : ∃ k : Nat, x = k := ⟨x.toNat, by omega⟩;by_cases V : many < 1
      · refine aQ (aU V) ?_;exact C (by unfold bs; simp only [V, true_or, or_true, if_true])
      have e1 : IntKind.i64.wrap ((s.B.length : Int) - (k : Int)) = (s.B.length : Int) - (k : Int) := IntWalk.i64_in _ (by omega);by_cases c2 : (s.B.length : Int) - (k : Int) < many
      · refine eZ (aX V) t.hb.cell e1 (aU c2) ?_;exact C (by unfold bs; simp only [c2, true_or, or_true, if_true])
      obtain ⟨n, rfl⟩ : ∃ n : Nat, many = n := ⟨many.toNat, by omega⟩;have W := S.cell 1;simp only [bV, List.getElem?_cons_zero, List.getElem?_cons_succ] at W;refine lY (aX V) t.hb.cell e1 (aX c2) W ?_;refine aH (Io w2 first.2) ?_;cases X : da first.2 with
      | false =>
        refine gO ?_;exact C (by unfold bs; simp only [X, or_true, if_true])
      | true =>
        have e2 : IntKind.i64.wrap ((k : Int) + (n : Int)) = ((k + n : Nat) : Int) := bU (k + n) (by omega);have hcB := U.cB;have e3 := sD (size := 2) (n := s.B.length) (cap := cB) (l := k) (h := k + n) (k := .i64) (k' := .i64) (p := ⟨r, 0, none⟩) (by omega) (by omega) (by omega);simp only [bQ, Nat.zero_add, Nat.add_sub_cancel_left] at e3;refine cT t.hb.cell e2 e3 ?_;have J : ((s.B.drop k).take n).length = n := by rw [List.length_take, List.length_drop]; omega
        have rU : ∀ i, i < ((s.B.drop k).take n).length → k * 2 + i * 2 + 2 ≤ (cG s.B ++ yB).length ∧ ((cG s.B ++ yB).drop (k * 2 + i * 2)).take 2 = bV (((s.B.drop k).take n).getD i (0, 0)) := by
          intro i hi;rw [J] at hi;refine ⟨by rw [cH, bJ]; omega, ?_⟩;rw [show k * 2 + i * 2 = (k + i) * 2 by omega, qD yB (by omega)];congr 1;simp only [List.getD_eq_getElem?_getD];rw [List.getElem?_take_of_lt hi, List.getElem?_drop]
        have u := Me (cap := cB - k) t.hB (by rw [J]; omega) rU;rw [J] at u;refine aM u fun w3 D => ?_;have o3 := F.nil D;have o : bs (some s) (k : Int) (n : Int) first = if ((s.B.drop k).take n).any (fun x => x != (0, 0)) = true then 8 else 0 := by
          unfold bs;simp only [ht, X, Bool.true_eq_false, V, c2, or_self, if_false, c9]
        cases G : ((s.B.drop k).take n).any (fun x => x != (0, 0)) with
        | true =>
          rw [G, if_pos rfl] at o;refine gO ?_;rw [o];have : bW (some s) (k : Int) (n : Int) first more = some s := by unfold bW; simp only [o]; rfl
          rw [this];exact ⟨rfl, HR.ab (m := some s) h0 o3, o3.of_nil⟩
        | false =>
          rw [G, if_neg (by simp)] at o;have hcm : bW (some s) (k : Int) (n : Int) first more = some { s with B := (dZ s.B k more n).set k first } := by unfold bW; simp only [o, if_true, c9]
          rw [o, hcm];have K := t.ab D;have Y := U.lt;have Z : q ≠ r := by have := Y r (by simp); omega
          have Ic := P.size;have Vf : q2 ≠ r := by have := Y r (by simp); omega
          have hF3 := S.ab D;have hM3 := Q.ab D;obtain ⟨⟨n1, _⟩, _⟩ := NG U.nd;refine gO ?_;refine az (11 :: 54 :: 55 :: 56 :: 57 :: 58 :: 59 :: 60 :: 61 :: 62 :: 63 :: 64 :: 65 :: 66 :: []) (fun g w' => ∃ j : Nat, g 54 = .int .i64 j ∧ j ≤ n ∧ At w' r (cG (dZ s.B k more j) ++ yB) ∧ ae [r] w3 w') (fun g _ => bw n 54 g)
            ⟨0, by simp only [go_sem]; rfl, by omega, K.hB, ae.refl _ _⟩ fun g w4 hI L => ?_
          obtain ⟨j, E, hj, H, y⟩ := hI;have GU := K.hb.keep y (bg n1);refine aQ E ?_;refine cu (fun I => ?_) (fun Ie => ?_)
          · have I : j < n := by simpa using I
            have Vg := hM3.keep y (bg Vf);have M : aC w4 ⟨q2, 0, none⟩ 2 = some (bV more) := ay Vg 0 2 (by simp [bV]);have e4 : IntKind.i64.wrap ((k : Int) + (j : Int)) = ((k + j : Nat) : Int) := bU (k + j) (by omega);have e5 : (0 : Int) ≤ ((k + j : Nat) : Int) ∧ ((k + j : Nat) : Int) < (s.B.length : Int) := ⟨by omega, by omega⟩;refine k0 E GU.cell e4 M (eq_true e5) @Int.toNat_natCast ?_;refine dF (cs := bV more) (n := 2) (i := (k + j) * 2) H.drew rfl (by rw [cH, bJ, b5]; omega) (oB _) fun w5 qm d N => ?_;rw [kV yB (by rw [b5]; omega)] at d;refine aZ E (au j (by omega)) ?_;refine L _ w5 ⟨j + 1, ?_, by omega, d, y.same (((ae.drew [] w4).of_nil (T := [r])).same N)⟩ ?_
            · simp only [go_sem]
            · exact aJ E
          · have : j = n := by have : ¬ j < n := by simpa using Ie
                               omega
            subst this;have hF4 := hF3.keep y (bg Z);have M : aC w4 ⟨q, 0, none⟩ 2 = some (bV first) := ay hF4 0 2 (by simp [bV]);have e5 : (0 : Int) ≤ (k : Int) ∧ (k : Int) < (s.B.length : Int) := ⟨by omega, by omega⟩;refine eZ GU.cell M (eq_true e5) @Int.toNat_natCast ?_;refine dF (cs := bV first) (n := 2) (i := k * 2) H.drew rfl (by rw [cH, bJ, b5]; omega) (oB _) fun w5 qm d N => ?_;rw [kV yB (by rw [b5]; omega)] at d;have o5 : ae [r] w3 w5 := y.same (((ae.drew [] w4).of_nil (T := [r])).same N);refine gO ?_;refine ⟨⟨b, rfl, r, gW, cB, cW, yB, yW, sb, sg, pb, pg, bl, bf, h2, K.rY (by simp [b5]) d o5⟩, ?_⟩;exact (o3.of_nil (T := fp)).trans o5 fun z hz => by simp only [aK] at hz; subst hz; exact .inl (by rw [h2]; simp)
theorem E6 (h:HR w a fp m) (x b:Int) (d:x≤4611686018427387904):Cs Tryz.prog 118 [.pointer a,.int .i64 x,.int .i64 b] w fun v w'=>v=.int .i64 (bs m x 1 (1,b))∧HR w' a fp (bW m x 1 (1,b) (0,0))∧ae fp w w':=by
 refine en [] ?_;refine gO ?_;rw[ag rfl rfl,ag rfl rfl];refine gO ?_;refine aw (BC h x 1 (1,b) (0,0) d (by omega)) ?_;rintro v w' ⟨rfl,j,k⟩;refine gO ?_;exact⟨j,k⟩
end
set_option maxRecDepth 8000
theorem FE {P:Program} {fl:Bool} {L:List Nat} {w0 w:World} {t:TypeId} {d:Option Nat} {rest:XT} {ρ:Env} {C:Env→World→Prop}
  (h: ∀b w',b=w.heap.size→w'.heap.size=w.heap.size+1→cz w' b []→ae [] w w'→(fl=true∨SB L w0 w')∧VT P L w0 rest (bo ρ d (.map (some b))) w' C):Cx P fl L w0 (Instr.makeMap t none) d rest ρ w C:=by
 obtain⟨j,k⟩:=h _ _ rfl (by simp) (cz.alloc w) (ae.alloc [] w _);exact Oo vf j k
attribute [go_sem] Option.map_none
theorem yU (n:Nat):il [Value.int .i64 0,Value.int .i64 0] n=cG (List.replicate n (0,0)):=by
 have m:(cG (List.replicate n (0,0))).length=2*n:=by rw[bJ,List.length_replicate]
 apply List.ext_getElem?;intro i;by_cases o:i<2*n
 ·have j:(il [Value.int .i64 0,Value.int .i64 0] n)[i]? =some (.int .i64 0):=by
   unfold il;rw[List.getElem?_map,List.getElem?_range (by simp;omega)];simp only[Option.map_some];have:i%2=0∨i%2=1:=by omega
   rcases this with h|h<;>simp[h]
  have k:(cG (List.replicate n (0,0)))[i]? =some (.int .i64 0):=by
   obtain⟨b,d⟩:=jG (B:=List.replicate n ((0:Int),(0:Int))) (i:=i/2) (by simp;omega);have l:(List.replicate n ((0:Int),(0:Int))).getD (i/2) (0,0)=(0,0):=by
    simp only[List.getD_eq_getElem?_getD,List.getElem?_replicate];split<;>rfl
   rw[l]at b d;rcases(show i=2*(i/2)∨i=2*(i/2)+1 by omega)with h|h
   ·rw[h];exact b
   ·rw[h];exact d
  rw[j,k]
 ·rw[List.getElem?_eq_none (by rw[xT];simp;omega),List.getElem?_eq_none (by omega)]
theorem yV (n:Nat):List.replicate n (Value.int .i64 0)=ints (List.replicate n 0):=by simp[ints]
theorem OR (w : World) (x : Int) : Cs Tryz.prog 58 [.int .i64 x] w fun v w' => ∃ a fp, v = .tuple #[.pointer a, .int .i64 (if (my x).isSome then 0 else 1)] ∧ HR w' a fp (my x) ∧ (my x = none → a = none) ∧ (∀ y, y ∈ fp → w.heap.size ≤ y) ∧ ae [] w w' := by
  refine en [2,8,11,1,1,1,7,1,1,16,1,19,22,23,28,29,0,22,19,23,28,29,0,19,1,16,22,23,28,29,0,22,16,23,28,29,0,22,1,16,19,23,28,29,0,19,16,23,28,29,0,16,1,1,7,1,19,22,23,28,29,0,22,19,23,28,29,0,19,1,7,22,23,28,29,0,22,7,23,28,29,0,22,1,7,19,23,28,29,0,19,7,23,28,29,0,19,1,1,7,1,16,22,23,28,29,0,22,16,23,28,29,0,16,1,7,22,23,28,29,0,22,7,23,28,29,0,22,1,7,16,23,28,29,0,16,7,23,28,29,0,22,1,1,7,1,16,19,23,28,29,0,19,16,23,28,29,0,16,1,7,19,23,28,29,0,19,7,23,28,29,0,19,1,7,16,23,28,29,0,16,7,23,28,29,0] ?_;have N : ¬ (2 ≤ x ∧ x ≤ 64) → ∃ a fp, Value.tuple #[.pointer none, .int .i64 1] = .tuple #[.pointer a, .int .i64 (if (my x).isSome then 0 else 1)] ∧ HR w a fp (my x) ∧ (my x = none → a = none) ∧ (∀ y, y ∈ fp → w.heap.size ≤ y) ∧ ae [] w w := fun h => by
    have : my x = none := if_neg h;rw [this];exact ⟨none, [], rfl, .inl ⟨rfl, rfl⟩, fun _ => rfl, by simp, ae.refl _ _⟩
  by_cases c1 : x < 2
  · refine aQ (aU c1) ?_;exact N (by omega)
  by_cases c2 : 64 < x
  · refine aZ (aX c1) (aU c2) ?_;exact N (by omega)
  obtain ⟨n, rfl⟩ : ∃ n : Nat, x = n := ⟨x.toNat, by omega⟩;have e1 : IntKind.i64.wrap ((n : Int) * 64) = ((64 * n : Nat) : Int) := by rw [show (n : Int) * 64 = ((64 * n : Nat) : Int) by omega]; exact bU _ (by omega)
  have H : my (n : Int) = some ⟨List.replicate n (0, 0), List.replicate (64 * n) 0, List.replicate (32 * n) 0, List.replicate (32 * n) 0, [], [], 0⟩ := by
    unfold my; rw [if_pos (by omega)]; simp only [c9]
  have xH := BA H;refine aZ (aX c1) (aX c2) ?_;refine bH (4 :: 11 :: 12 :: 13 :: 14 :: 15 :: 16 :: 17 :: 18 :: 19 :: []) (fun ρ w' => ∃ t u C D b, ρ 4 = .pointer (some ⟨b, 0, none⟩) ∧ At w' b [.slice (some ⟨t, 0, none⟩) n n, .slice (some ⟨u, 0, none⟩) (64 * n) (64 * n), .pointer none, .pointer none, .map (some C), .map (some D), .int .i64 0] ∧
      At w' t (il [Value.int .i64 0, Value.int .i64 0] n) ∧ At w' u (il [Value.int .i64 0] (64 * n)) ∧ cz w' C [] ∧ cz w' D [] ∧ (b ≠ t ∧ b ≠ u ∧ b ≠ C ∧ b ≠ D ∧ t ≠ u ∧ t ≠ C ∧ t ≠ D ∧ u ≠ C ∧ u ≠ D ∧ C ≠ D) ∧ (w.heap.size ≤ b ∧ w.heap.size ≤ t ∧ w.heap.size ≤ u ∧ w.heap.size ≤ C ∧ w.heap.size ≤ D) ∧ ae [] w w') (fun kk jS => ?_) (fun g w1 hJ => ?_)
  · refine aW [] ?_;have l : ae [] w w.drew := ae.drew [] w;have YZ : w.drew.heap.size = w.heap.size := rfl
    repeat' (first
      | refine And.intro ?_ ?_
      | (refine th (n := n) (m := n) (Nat.le_refl _) (by omega) (by omega) fun t w' hgB hs o j => ⟨.inl rfl, ?_⟩
         try (have q := q.ab j)
         try (have E := E.ab j)
         try (have F := F.ab j)
         have l := l.nil j;clear j)
      | (refine th (n := 64 * n) (m := 64 * n) (Nat.le_refl _) (by omega) (by omega) fun u w' hgW hs q j => ⟨.inl rfl, ?_⟩
         try (have o := o.ab j)
         try (have E := E.ab j)
         try (have F := F.ab j)
         have l := l.nil j;clear j)
      | (refine FE (d := some 16) fun b6 w' S3 hs E j => ⟨.inl rfl, ?_⟩
         try (have o := o.ab j)
         try (have q := q.ab j)
         try (have F := F.ab j)
         have l := l.nil j;clear j)
      | (refine FE (d := some 17) fun b7 w' Y2 hs F j => ⟨.inl rfl, ?_⟩
         try (have o := o.ab j)
         try (have q := q.ab j)
         try (have E := E.ab j)
         have l := l.nil j;clear j)
      | (refine nw fun b w' Ze hs O j => ⟨.inl rfl, ?_⟩
         have o := o.ab j;have q := q.ab j;have E := E.ab j;have F := F.ab j;have l := l.nil j;clear j;simp only [go_sem];refine jS _ _ ⟨t, u, b6, b7, b, ?_, O, o, q, E, F, ⟨?_, ?_, ?_, ?_, ?_, ?_, ?_, ?_, ?_, ?_⟩, ⟨?_, ?_, ?_, ?_, ?_⟩, l⟩
         · simp only [go_sem]
         all_goals omega)
      | rw [ag rfl rfl, ag rfl rfl, ag rfl rfl, ag rfl rfl]
      | simp only [go_sem, e1])
  obtain ⟨t, u, C, D, b, P, O, o, q, hl, hf, ⟨x1, x2, x3, x4, x5, x6, x7, x8, x9, x10⟩, ⟨y1, y2, y3, y4, y5⟩, l⟩ := hJ;rw [yU] at o;rw [gx, yV] at q;have Ic := l.size;have hm : tK ((32 * n : Nat) : Int) 1 = some (1, List.replicate (32 * n) 0) := by
    unfold tK;rw [if_pos ⟨by omega, by omega, rfl⟩]; simp only [c9]; rfl
  have e2 : IntKind.i64.wrap (((64 * n : Nat) : Int).tdiv 2) = ((32 * n : Nat) : Int) := by rw [ry _ (by omega)]; omega
  refine cT P O.cell e2 ?_;refine aw (u' w1 ((32 * n : Nat) : Int) 1) ?_;rintro r w2 ⟨a2, S2, rfl, Q, I⟩;rw [hm] at Q ⊢;obtain ⟨⟨L, M, rfl, rfl, R⟩, _, S⟩ := Q;have GJ := S L (by simp);have hsg := S M (by simp);have hlb := O.lt;have hlB := o.lt;have hlW := q.lt;have GO := hl.lt;have hlf := hf.lt;refine aQ P ?_;refine fJ (O.ab I) (by simp) rfl fun w3 P5 J U => ?_;simp only [List.set_cons_zero, List.set_cons_succ] at J;have V := R.keep U (bg (show L ≠ b by omega)) (bg (show M ≠ b by omega));have W := (iF.mk V).lt;have aaT := W L (by simp);have aaU := W M (by simp);refine cT P J.cell e2 ?_;refine aw (u' w3 ((32 * n : Nat) : Int) 1) ?_;rintro r w4 ⟨a4, S4, rfl, X, G⟩;rw [hm] at X ⊢;obtain ⟨⟨pb, pg, rfl, rfl, Y⟩, _, Z⟩ := X;have SS := Z pb (by simp);have hpg := Z pg (by simp);have JI := I.size;have Jw := G.size;have Vh : L ≠ M := by obtain ⟨_, _, _, _, _, _, h⟩ := R.mem; exact h
  have Vi : pb ≠ pg := by obtain ⟨_, _, _, _, _, _, h⟩ := Y.mem; exact h
  refine aQ P ?_;refine fJ (J.ab G) (by simp) rfl fun w5 S9 NI K => ?_;simp only [List.set_cons_zero, List.set_cons_succ] at NI;refine aQ P ?_;have B : ae [b] w1 w5 := ((I.of_nil (T := [b])).same U).same ((G.of_nil (T := [b])).same K);rw [H];have hlen : ∀ (k : Nat) (z : Int), (List.replicate k z).length = k := fun _ _ => List.length_replicate;refine ⟨some ⟨b, 0, none⟩, _, rfl, ⟨b, rfl, t, u, n, 64 * n, [], [], L, M, pb, pg, C, D, rfl, ⟨xH, ?_, ?_, ?_, by simp, by simp, ?_, ?_, (hl.keep B (bg (Ne.symm x3))), (hf.keep B (bg (Ne.symm x4))), ?_⟩⟩, by simp, ?_, l.trans B fun z hz => by simp only [aK] at hz; subst hz; exact .inr y1⟩
  · simpa using NI
  · simpa using o.keep B (bg (Ne.symm x1))
  · simpa using q.keep B (bg (Ne.symm x2))
  · have := (V.keep G (by simp) (by simp)).keep K (bg (show L ≠ b by omega)) (bg (show M ≠ b by omega));simpa using this
  · have := Y.keep K (bg (show pb ≠ b by omega)) (bg (show pg ≠ b by omega));simpa using this
  · simp only [List.nodup_cons, List.mem_cons, List.not_mem_nil, or_false, not_or, List.nodup_nil, not_false_eq_true, and_true];refine ⟨⟨x1, x2, ?_, ?_, ?_, ?_, x3, x4⟩, ⟨x5, ?_, ?_, ?_, ?_, x6, x7⟩, ⟨?_, ?_, ?_, ?_, x8, x9⟩, ⟨Vh, ?_, ?_, ?_, ?_⟩, ⟨?_, ?_, ?_, ?_⟩, ⟨Vi, ?_, ?_⟩, ⟨?_, ?_⟩, x10⟩
    all_goals omega
  · intro y hy;simp only [List.mem_cons, List.not_mem_nil, or_false] at hy;omega
section
set_option maxRecDepth 8000
variable {D fp:List Nat} {xs:List Value} {cap n sz:Nat} {v:Value} {w w':World}
theorem ax (xs:List Int):(ints xs).length=xs.length:=by simp[ints]
theorem ba (xs ys:List Int):ints (xs++ys)=ints xs++ints ys:=by simp[ints]
theorem bR {xs:List Int}: ∀u,u∈ints xs→bh u=true:=by
 intro u b;simp only[ints,List.mem_map]at b;obtain⟨x,_,rfl⟩:=b;rfl
theorem de (a:Addr) (i:Nat):(a.add i).block=a.block:=by unfold Addr.add;split<;>rfl
theorem Sl.iW (w:World):Sl w 1 (.slice none 0 0) 0 [] []:=⟨rfl,.inl ⟨rfl,rfl,rfl⟩⟩
theorem Sl.pos (h:Sl w 1 v n xs fp) (l:0<n): ∃g cap ys,v=.slice (some ⟨g,0,none⟩) n cap∧At w g (xs++ys)∧fp=[g]∧n≤cap:=by
 rcases h.2 with⟨_,m,_⟩|⟨g,cap,ys,T,b,d,j,o,k⟩
 ·omega
 ·exact⟨g,cap,ys,b,⟨T,j⟩,d,k⟩
theorem Sl.wH {g:Nat} {ys:List Value} (h:At w g (xs++ys)) (d:xs.length=n) (b:(xs++ys).length=cap):Sl w 1 (.slice (some ⟨g,0,none⟩) n cap) n xs [g]:=by
 obtain⟨T,h⟩:=h;refine⟨by simpa using d,.inr ⟨g,cap,ys,T,rfl,rfl,h,by simpa using b,?_⟩⟩;simp at b;omega
theorem Sl.keep {S:List Nat} (h:Sl w sz v n xs fp) (k:ae S w w') (j: ∀x,x∈fp→x∉S):Sl w' sz v n xs fp:=by
 refine⟨h.1,?_⟩;rcases h.2 with b|⟨g,cap,ys,T,b,l,d,m⟩
 ·exact .inl b
 ·subst l;exact .inr ⟨g,cap,ys,T,b,rfl,by rw[k.block g (Array.getElem?_eq_some_iff.1 d).1 (j g (by simp))];exact d,m⟩
theorem Sl.ab (h:Sl w sz v n xs fp) (k:ae [] w w'):Sl w' sz v n xs fp:=h.keep k (by simp)
theorem Sl.lt (h:Sl w sz v n xs fp): ∀x,x∈fp→x<w.heap.size:=by
 rcases h.2 with⟨_,_,d⟩|⟨g,cap,ys,T,d,j,k,l⟩
 ·subst d;intro x b;cases b
 ·subst j;intro x b;simp only[aK]at b;subst b;exact(Array.getElem?_eq_some_iff.1 k).1
theorem Sl.val (h:Sl w sz v n xs fp): ∃(a:Option Addr) (cap:Nat),v=.slice a n cap:=by
 rcases h.2 with⟨b,d,_⟩|⟨g,cap,ys,T,b,d,j,k⟩
 ·subst d;exact⟨none,0,b⟩
 ·exact⟨_,_,b⟩
theorem Sl.nodup (h:Sl w sz v n xs fp):fp.Nodup:=by
 rcases h.2 with⟨_,_,b⟩|⟨g,cap,ys,T,b,d,j,k⟩
 ·subst b;simp
 ·subst d;simp
theorem bn.at {q m c:Nat} {us:List Value} (h:At w q us) (b:us.length=m*sz):bn w sz (.slice (some ⟨q,0,none⟩) m c) m us:=
 ⟨b,.inr ⟨_,c,rfl,by rw[ay h 0 _ (by omega)];simp[←b]⟩⟩
theorem Sl.src (h:Sl w 1 v n xs fp):bn w 1 v n xs:=by
 refine⟨h.1,?_⟩;rcases h.2 with⟨b,d,_⟩|⟨g,cap,ys,T,b,d,j,l⟩
 ·exact .inl ⟨0,b,d⟩
 ·refine .inr ⟨_,cap,b,?_⟩;have k:=h.1;rw[ay (vs:=xs++ys) ⟨T,j⟩ 0 _ (by simp;omega)];simp[←k]
theorem wV {a:Addr} (h:w.cell? a=some v):a.block<w.heap.size:=World.block_lt_of_cell? w a h
def DA (w:World) (D:List Nat) (v:Value) (xs:List Int):Prop:= ∃(a:Option Addr) (cap:Nat),v=.slice a xs.length cap∧ ∀i,i<xs.length→ ∃p,a=some p∧p.block∈D∧w.cell? (p.add i)=some (.int .i64 (xs.getD i 0))
theorem Sl.rd {xs:List Int} (h:Sl w 1 v n (ints xs) fp):DA w fp v xs:=by
 have m:xs.length=n:=by have:=h.1;rw[ax]at this;omega
 subst m;rcases h.2 with⟨b,d,k⟩|⟨g,cap,ys,T,b,d,k,o⟩
 ·exact⟨none,0,by rw[b,d],fun i l=>by omega⟩
 ·refine⟨_,cap,b,fun i l=>⟨_,rfl,by rw[d];simp,?_⟩⟩;have j:At w g (ints xs++ys):=⟨T,k⟩;rw[bQ,Nat.zero_add,j.cell];exact aG ys l
theorem DA.get {a:Option Addr} {i:Nat} {xs:List Int} (h:DA w D (.slice a n cap) xs) (d:i<xs.length): ∃p,a=some p∧w.cell? (p.add i)=some (.int .i64 (xs.getD i 0)):=by
 obtain⟨o,b,j,k⟩:=h;cases j;obtain⟨p,l,_,m⟩:=k i d;exact⟨p,l,m⟩
theorem DA.val {xs:List Int} (h:DA w D v xs): ∃(a:Option Addr) (cap:Nat),v=.slice a xs.length cap:=by
 obtain⟨a,cap,b,_⟩:=h;exact⟨a,cap,b⟩
end
section
open Go.Shelf
end
set_option maxRecDepth 8000
theorem Sl.jH {w:World} {sz:Nat} {v:Value} {n:Nat} {xs:List Value} {fp:List Nat} (h:Sl w sz v n xs fp):bh v=true:=by
 obtain⟨a,c,rfl⟩:=h.val;rfl
section
set_option maxRecDepth 8000
variable {xs:List Int} {D fp:List Nat} {us:List Value} {m sz:Nat} {a:Option Addr} {v:Value} {w:World}
theorem bY {i:Nat} {y:Int} (h:i<xs.length):(xs.take (i+1)).contains y=((xs.take i).contains y||decide (y=xs.getD i 0)):=by
 have e:xs.take (i+1)=xs.take i++[xs.getD i 0]:=by rw[List.take_succ_eq_append_getElem h];simp[h]
 rw[e,Bool.eq_iff_iff];simp
theorem wZ (h : DA w D v xs) (B : xs.length ≤ 100000) (y : Int) : Cs Tryz.prog 330 [v, .int .i64 y] w fun r w' => (∃ k : Int, r = .int .i64 k ∧ decide (0 ≤ k) = xs.contains y) ∧ w' = w := by
  refine en [] ?_;obtain ⟨a, cap, rfl, o⟩ := h;refine gO ?_;refine az (4 :: 5 :: 6 :: 7 :: 8 :: 9 :: 10 :: 11 :: 12 :: 13 :: 14 :: 15 :: 16 :: 17 :: 18 :: []) (fun g w' => ∃ i : Nat, g 8 = .int .i64 i ∧ g 7 = .int .i64 xs.length ∧ i ≤ xs.length ∧ (xs.take i).contains y = false ∧ w' = w) (fun g _ => bw xs.length 8 g) ⟨0, by simp only [go_sem]; rfl, by simp only [go_sem], by omega, by simp, rfl⟩ fun g w' z d => ?_;obtain ⟨i, l, m, C, j, rfl⟩ := z;refine aZ l m ?_;refine cu (fun b => ?_) (fun q => ?_)
  · have b : i < xs.length := by simpa using b
    obtain ⟨p, rfl, _, t⟩ := o i b;have u : (0 : Int) ≤ (i : Int) ∧ (i : Int) < (xs.length : Int) := ⟨by omega, by omega⟩;by_cases e : y = xs.getD i 0
    · refine k7 l m (eq_true u) @Int.toNat_natCast @Nat.mul_one t (cZ e) ?_;refine ⟨i, rfl, ?_⟩;have : xs.contains y = true := by
        rw [List.contains_iff_mem, e, List.getD_eq_getElem?_getD, List.getElem?_eq_getElem b]; simp
      rw [this]; simp
    · refine xG l m (eq_true u) @Int.toNat_natCast @Nat.mul_one t (cU e) (au i (by omega)) ?_;refine d _ w' ⟨i + 1, ?_, ?_, by omega, by rw [bY b, j]; simpa using e, rfl⟩ ?_
      · simp only [go_sem]
      · simp only [go_sem, m]
      · exact aJ l
  · have : i = xs.length := by have : ¬ (i < xs.length) := by simpa using q
                               omega
    subst this;refine gO ?_;refine ⟨-1, rfl, ?_⟩;rw [List.take_length] at j;rw [j]; rfl
theorem oE (h:DA w D v xs) (b:xs.length≤100000) (y:Int):Cs Tryz.prog 226 [v,.int .i64 y] w fun r w'=>r=.bool (xs.contains y)∧w'=w:=by
 refine en [] ?_;refine gO ?_;refine aw (wZ h b y) ?_;rintro r w' ⟨⟨k,rfl,d⟩,rfl⟩;(repeat(first|with_reducible(first|refine nx ?_|refine bA rfl ?_)|simp only[go_sem,d]))
theorem bn.ab {w':World} (h:bn w sz v m us) (k:ae [] w w'):bn w' sz v m us:=by
 refine⟨h.1,?_⟩;rcases h.2 with j|⟨p,c,j,d⟩
 ·exact .inl j
 ·refine .inr ⟨p,c,j,?_⟩;rcases Nat.eq_zero_or_pos (m*sz)with l|l
  ·rw[l]at d⊢;exact d
  ·have:=(lb d).2 0 l;obtain⟨u,o⟩: ∃u,us[0]? =some u:=⟨us[0]'(by have:=h.1;omega),List.getElem?_eq_getElem _⟩;rw[o]at this;have b:=wV this;rw[de]at b;rw[oZ (k.block p.block b (by simp))];exact d
theorem bn.val (h:bn w sz v m us): ∃(a:Option Addr) (c:Nat),v=.slice a m c∧(a=none→m=0):=by
 rcases h.2 with⟨c,b,d⟩|⟨p,c,b,d⟩
 ·subst d;exact⟨none,c,b,fun _=>rfl⟩
 ·exact⟨some p,c,b,fun h=>by cases h⟩
theorem xa (h:bn w 1 v m us) (y: ∀u,u∈us→bh u=true) (C:m≤100000):Cs Tryz.prog 113 [v] w fun r w'=>ae [] w w'∧ ∃fp,Sl w' 1 r m us fp∧ ∀x,x∈fp→w.heap.size≤x:=by
 refine en [] ?_;obtain⟨a,c,rfl,z⟩:=h.val;cases a with
 |none=>
  have:m=0:=z rfl;subst this;have:us=[]:=List.eq_nil_of_length_eq_zero (by simpa using h.1);subst this;refine gO ?_;exact⟨ae.refl _ _,[],Sl.iW w,by simp⟩
 |some p=>
  refine gO ?_;refine eJ fun q D E B b d=>?_;refine gO ?_;refine eM (n:=0) (xs:=[]) (fp:=[q]) (m:=m) (us:=us) ?_ (h.ab d) y (by omega) (by omega) ?_
  ·have:([]:List Value)++[]=[]:=rfl;exact Sl.wH (ys:=[]) b rfl rfl
  intro F G k l o t _;refine gO ?_;refine⟨d.trans t fun x j=>.inr ?_,k,by simpa using l,?_⟩
  ·simp only[aK]at j;omega
  ·intro x j;rcases o with rfl|rfl
   ·simp only[aK]at j;omega
   ·simp only[aK]at j;omega
theorem P6 (h : DA w D v xs) (z : xs.length ≤ 100000) (y : Int) : Cs Tryz.prog 208 [v, .int .i64 y] w fun r w' => (∃ k : Int, r = .int .i64 k ∧ decide (0 ≤ k) = xs.contains y) ∧ w' = w := by
  refine en [] ?_;obtain ⟨a, cap, rfl, m⟩ := h;refine gO ?_;refine az (4 :: 5 :: 6 :: 7 :: 8 :: 9 :: 10 :: 11 :: 12 :: 13 :: 14 :: 15 :: 16 :: 17 :: 18 :: []) (fun g w' => ∃ i : Nat, g 5 = .int .i64 i ∧ i ≤ xs.length ∧ (xs.take i).contains y = false ∧ w' = w) (fun g _ => bw xs.length 5 g) ⟨0, by simp only [go_sem]; rfl, by omega, by simp, rfl⟩ fun g w' u d => ?_;obtain ⟨i, l, B, j, rfl⟩ := u;refine aQ l ?_;refine cu (fun b => ?_) (fun o => ?_)
  · have b : i < xs.length := by simpa using b
    obtain ⟨p, rfl, _, q⟩ := m i b;have t : (0 : Int) ≤ (i : Int) ∧ (i : Int) < (xs.length : Int) := ⟨by omega, by omega⟩;by_cases e : xs.getD i 0 = y
    · refine k0 l (eq_true t) @Int.toNat_natCast @Nat.mul_one q (cZ e) ?_;refine ⟨i, rfl, ?_⟩;have : xs.contains y = true := by
        rw [List.contains_iff_mem, ← e, List.getD_eq_getElem?_getD, List.getElem?_eq_getElem b]; simp
      rw [this]; simp
    · refine k7 l (eq_true t) @Int.toNat_natCast @Nat.mul_one q (cU e) (au i (by omega)) ?_;refine d _ w' ⟨i + 1, ?_, by omega, by rw [bY b, j]; simpa using fun h => e h.symm, rfl⟩ ?_
      · simp only [go_sem]
      · exact aJ l
  · have : i = xs.length := by have : ¬ (i < xs.length) := by simpa using o
                               omega
    subst this;refine gO ?_;refine ⟨-1, rfl, ?_⟩;rw [List.take_length] at j;rw [j]; rfl
theorem Mf (h:DA w D v xs) (b:xs.length≤100000) (y:Int):Cs Tryz.prog 51 [v,.int .i64 y] w fun r w'=>r=.bool (xs.contains y)∧w'=w:=by
 refine en [] ?_;refine gO ?_;refine aw (P6 h b y) ?_;rintro r w' ⟨⟨k,rfl,d⟩,rfl⟩;(repeat(first|with_reducible(first|refine nx ?_|refine bA rfl ?_)|simp only[go_sem,d]))
def dS (m:HO) (x:Int):List Int:=(List.range (aV m x).1.1.toNat).map fun(i:Nat)=>(dE m x (i:Int)).1
theorem AD {m:HO} (b: ∀s,m=some s→s.Ok) (x:Int):0≤(aV m x).1.1∧(aV m x).1.1≤15:=by
 match m,b with
 |none,_=>exact⟨by simp[aV],by simp[aV]⟩
 |some s,b=>
  unfold aV;by_cases j:cK (some s) x=0
  ·simp only[j,if_true];have l:bE (some s) x=true:=by
    cases l:bE (some s) x with
    |true=>rfl
    |false=>simp[cK,l]at j
   obtain⟨i,rfl,o⟩:=iw (b s rfl) l;obtain⟨_,_,r,d,k,q,_,_,_,_,t⟩:=(b s rfl).start o;have:s.dy ((2*i:Nat):Int)=((r:Int),(d:Int),(k:Int)):=by unfold HL.dy;rw[c9];exact t
   rw[this];simp only[aS,Bool.and_eq_true,decide_eq_true_eq]at q;simp only;omega
  ·simp only[j,if_false];omega
theorem HR.ok {m:HO} (h:HR w a fp m): ∀s,m=some s→s.Ok:=by
 rintro s rfl;obtain⟨b,_,j,k,l,cW,yB,yW,o,q,r,t,u,y,_,d⟩:=h;exact d.ok
theorem P7 {m : HO} (h : HR w a fp m) (x : Int) (R : x ≤ 4611686018427387904) : Cs Tryz.prog 297 [.pointer a, .int .i64 x] w fun v w' => ae [] w w' ∧ ∃ S, Sl w' 1 v (dS m x).length (ints (dS m x)) S ∧ ∀ y, y ∈ S → w.heap.size ≤ y := by
  refine en [] ?_;refine gO ?_;refine aM (ju h x R) fun w1 z => ?_;obtain ⟨W, T⟩ := AD h.ok x;have o : (dS m x).length = (aV m x).1.1.toNat := by simp [dS]
  generalize X : (aV m x).1 = H at *;refine gO ?_;refine bp fun q w2 hq Y B I => ?_;refine gO ?_;refine dF (cs := bS H) B rfl (by simp) (dm _) fun Z qt b J => ?_;rw [dz] at b;have Ic := z.size;have U : ae [] w Z := (z.nil I).trans J fun y d => by simp only [aK] at d; subst d; exact .inr (by omega)
  have K := b.cell 0;simp only [bS, List.getElem?_cons_zero] at K;obtain ⟨n, V⟩ : ∃ n : Nat, H.1 = n := ⟨H.1.toNat, by omega⟩;rw [V] at K o;simp only [c9] at o;refine aQ K ?_;refine Hp (n := 0) (m := n) (by omega) (by omega) (by omega) fun g w4 hg pk l C => ?_;rw [gx] at l;have c4 : w4.cell? ⟨q, 0, none⟩ = some (.int .i64 n) := by rw [(b.ab C).cell]; simp [bS, V]
  have o4 := U.nil C;refine aQ c4 ?_;refine az (7 :: 8 :: 9 :: 10 :: 22 :: 23 :: 24 :: 25 :: 26 :: 27 :: 28 :: 29 :: 30 :: 31 :: 32 :: 33 :: 34 :: 35 :: 36 :: []) (fun D w' => ∃ (i : Nat) (v : Value) (f : List Nat), D 22 = .int .i64 i ∧ D 7 = v ∧ i ≤ n ∧ Sl w' 1 v i (ints ((dS m x).take i)) f ∧ (∀ y, y ∈ f → w.heap.size ≤ y) ∧ ae [] w w') (fun D _ => bw n 22 D)
    ⟨0, .slice (some ⟨g, 0, none⟩) 0 n, [g], by simp only [go_sem]; rfl, by simp only [go_sem], by omega, Sl.wH (ys := List.replicate n (.int .i64 0)) l rfl (by simp [ints]), fun y d => by have := U.size; simp only [aK] at d; omega, o4⟩ fun D w5 hI r => ?_
  obtain ⟨i, v, f, j, L, hi, t, M, k⟩ := hI;refine aQ j ?_;refine cu (fun E => ?_) (fun N => ?_)
  · have E : i < n := by simpa using E
    refine aQ j ?_;refine aM (rR (h.ab k) x (i : Int) R) fun w6 u => ?_;refine aQ L ?_;rw [ag rfl rfl];refine gO ?_;refine eJ fun q7 w7 Uz uw F G => ?_;refine aQ L ?_;refine eM ((t.ab u).ab G) (bn.at F rfl) (by simp [bh]) (by omega) (by omega) ?_;intro v8 w8 f8 O P Q _;have S9 := k.size;have Vj := u.size;have e1 : (dS m x).take (i + 1) = (dS m x).take i ++ [(dE m x (i : Int)).1] := by
      rw [List.take_succ_eq_append_getElem (by omega)];simp [dS]
    refine aZ j (au i (by omega)) ?_;refine r _ w8 ⟨i + 1, v8, f8, ?_, ?_, by omega, by rw [e1, ba]; exact O, ?_, ((k.nil u).nil G).trans Q fun y d => .inr (M y d)⟩ ?_
    · simp only [go_sem]
    · simp only [go_sem]
    · intro y d;rcases P with rfl | rfl
      · exact M y d
      · simp only [aK] at d; omega
    · exact aJ j
  · have : i = n := by have : ¬ (i < n) := by simpa using N
                       omega
    subst this;refine aQ L ?_;refine ⟨k, f, ?_, M⟩;rw [o];rw [List.take_of_length_le (by omega)] at t;exact t
end
namespace Rt
set_option maxRecDepth 8000
theorem jI {xs:List Int} {i:Nat} (rest:List Value) (h:i<xs.length):(ints xs++rest)[i]? =some (.int .i64 (xs.getD i 0)):=aG rest h
theorem gG (n:Nat):ints (List.replicate n 0)=List.replicate n (.int .i64 0):=by simp[ints]
structure MS where
 M:Nat
 S:List Int
 G:List Int
 Q:List Int
structure MS.Ok (s:MS):Prop where
 m1:1≤s.M
 m4:s.M≤4
 ls:s.S.length=16*s.M
 lg:s.G.length=16
 lq:s.Q.length≤64
abbrev PT:=Int×Int×Int
def eD (p:PT):List Value:=[.int .i64 p.1,.int .i64 p.2.1,.int .i64 p.2.2]
theorem FF (p:PT):eD p=[.int .i64 p.1,.int .i64 p.2.1,.int .i64 p.2.2]:=Eq.trans rfl rfl
theorem sH {p:PT}: ∀u,u∈eD p→bh u=true:=by
 intro u b;simp only[eD,List.mem_cons,List.not_mem_nil,or_false]at b;rcases b with rfl|rfl|rfl<;>rfl
def iY (s:MS) (p:PT):Option (Nat×Nat):=
 if p.1=0∧0≤p.2.1∧p.2.1<s.M then(if 0≤p.2.2∧p.2.2<16 then some (0,(16*p.2.1+p.2.2).toNat)else none)
 else if p.1=1∧p.2.1=0 then(if 0≤p.2.2∧p.2.2<16 then some (1,p.2.2.toNat)else none)
 else if p.1=2∧p.2.1=0 then(if 0≤p.2.2∧p.2.2<s.Q.length then some (2,p.2.2.toNat)else none)
 else none
def MS.rd (s:MS):Nat×Nat→Int
 |(0,i)=>s.S.getD i 0
 |(1,i)=>s.G.getD i 0
 |(_,i)=>s.Q.getD i 0
def MS.wr (s:MS) (x:Nat×Nat) (a:Int):MS:=match x with
 |(0,i)=> {s with S:=s.S.set i a}
 |(1,i)=> {s with G:=s.G.set i a}
 |(_,i)=> {s with Q:=s.Q.set i a}
theorem MS.Ok.wr {s:MS} (h:s.Ok) (x:Nat×Nat) (a:Int):(s.wr x a).Ok:=by
 obtain⟨b,j,k,l,m⟩:=h;unfold MS.wr;split<;>exact⟨b,j,by simpa using k,by simpa using l,by simpa using m⟩
abbrev MO:=Option MS
def lV (m:MO) (p:PT):Int×Int:=match m with
 |none=>(0,5)
 |some s=>(match iY s p with|none=>(0,1)|some x=>(s.rd x,0))
def ny (p:PT) (a:Int):Bool:=decide (a<0)||(decide (a=0)&&decide (p.1=2))
def gm (m:MO) (p:PT) (a:Int):Int×MO:=match m with
 |none=>(5,none)
 |some s=>(match iY s p with|none=>(1,some s)|some x=>(if ny p a then(1,some s)else(0,some (s.wr x a))))
def dN (m:MO) (a:Int):Int×MO:=match m with
 |none=>(5,none)
 |some s=>(if a≤0 then(1,some s)else(if s.Q.length=64 then(6,some s)else(0,some {s with Q:=s.Q++[a]})))
def qC (m:MO):(Int×Int)×MO:=match m with
 |none=>((0,5),none)
 |some s=>(match s.Q with| []=>((0,4),some s)|a::q=>((a,0),some {s with Q:=q}))
def fm (n:Int):MO:=if 1≤n∧n≤4 then some ⟨n.toNat,List.replicate (16*n.toNat) 0,List.replicate 16 0,[]⟩else none
theorem wO {n:Int} {s:MS} (h:fm n=some s):s.Ok:=by
 unfold fm at h;split at h
 ·rename_i b;cases h;exact⟨by show 1≤n.toNat;omega,by show n.toNat≤4;omega,by simp,by simp,by simp⟩
 ·cases h
def MS.V (s:MS):List Int:=s.S++s.G++s.Q
def mJ (s:MS):List PT:=((List.range (16*s.M)).map fun j=>((0:Int),((j/16:Nat):Int),((j%16:Nat):Int)))++((List.range 16).map fun j=>((1:Int),(0:Int),((j:Nat):Int)))++((List.range s.Q.length).map fun j=>((2:Int),(0:Int),((j:Nat):Int)))
def mK:MO→List PT|none=>[]|some s=>mJ s
def uv:MO→Int|none=>0|some s=>(s.M:Int)
def lz:MO→List Int|none=>[]|some s=>s.Q
def filled (s:MS):List (PT×Int):=((mJ s).zip s.V).filter fun x=>x.2 !=0
def eB:MO→List PT|none=>[]|some s=>(filled s).map (·.1)
def dC (b:List Int) (x:Int):List Int:=if b.contains x then b else b++[x]
def bz:MO→List Int|none=>[]|some s=>((filled s).map (·.2)).foldl dC []
theorem vi {s:MS} {p:PT} {x:Nat×Nat} (h:s.Ok) (e:iY s p=some x):
  (p.1=0∧0≤p.2.1∧p.2.1<s.M∧0≤p.2.2∧p.2.2<16∧ ∃i,x=(0,i)∧(i:Int)=16*p.2.1+p.2.2∧i<s.S.length)∨
  (p.1=1∧p.2.1=0∧0≤p.2.2∧p.2.2<16∧ ∃i:Nat,x=(1,i)∧(i:Int)=p.2.2∧i<s.G.length)∨
  (p.1=2∧p.2.1=0∧0≤p.2.2∧p.2.2<s.Q.length∧ ∃i:Nat,x=(2,i)∧(i:Int)=p.2.2∧i<s.Q.length):=by
 unfold iY at e;have j:=h.ls;have k:=h.lg;split at e
 ·rename_i b;split at e
  ·rename_i d;cases e;exact .inl ⟨b.1,b.2.1,b.2.2,d.1,d.2,_,rfl,by omega,by omega⟩
  ·cases e
 ·split at e
  ·rename_i b;split at e
   ·rename_i d;cases e;exact .inr (.inl ⟨b.1,b.2,d.1,d.2,_,rfl,by omega,by omega⟩)
   ·cases e
  ·split at e
   ·rename_i b;split at e
    ·rename_i d;cases e;exact .inr (.inr ⟨b.1,b.2,d.1,d.2,_,rfl,by omega,by omega⟩)
    ·cases e
   ·cases e
end Rt
section
namespace Rt
variable {S fg fp fq fs:List Nat} {ys:List Value} {m:MO} {s:MS} {b c cap g i n q:Nat} {a:Option Addr} {p:PT} {vg vq vs:Value} {w w':World}
structure xI (w:World) (b:Nat) (s:MS) (vs vg vq:Value) (fs fg fq:List Nat):Prop where
 ok:s.Ok
 nd:(b::(fs++(fg++fq))).Nodup
 hb:At w b [.int .i64 s.M,vs,vg,vq]
 h0:Sl w 1 vs (16*s.M) (ints s.S) fs
 h1:Sl w 1 vg 16 (ints s.G) fg
 h2:Sl w 1 vq s.Q.length (ints s.Q) fq
def PM (w:World) (b:Nat) (s:MS) (fp:List Nat):Prop:= ∃vs vg vq fs fg fq,fp=b::(fs++(fg++fq))∧xI w b s vs vg vq fs fg fq
def PR (w:World) (a:Option Addr) (fp:List Nat) (m:MO):Prop:=match m with
 |some s=> ∃b,a=some ⟨b,0,none⟩∧PM w b s fp
 |none=>(a=none∧fp=[])∨ ∃b,a=some ⟨b,0,none⟩∧fp=[b]∧At w b [.int .i64 0,.slice none 0 0,.slice none 0 0,.slice none 0 0]
theorem xI.keep (h:xI w b s vs vg vq fs fg fq) (k:ae S w w') (j: ∀x,x∈b::(fs++(fg++fq))→x∉S):xI w' b s vs vg vq fs fg fq:=
 ⟨h.ok,h.nd,h.hb.keep k (j b (by simp)),h.h0.keep k fun x d=>j x (by simp[d]),h.h1.keep k fun x d=>j x (by simp[d]),h.h2.keep k fun x d=>j x (by simp[d])⟩
theorem xI.ab (h:xI w b s vs vg vq fs fg fq) (k:ae [] w w'):xI w' b s vs vg vq fs fg fq:=h.keep k fun _ _=>by simp
theorem PM.keep (h:PM w b s fp) (k:ae S w w') (d: ∀x,x∈fp→x∉S):PM w' b s fp:=by
 obtain⟨vs,vg,vq,fs,fg,fq,rfl,h⟩:=h;exact⟨vs,vg,vq,fs,fg,fq,rfl,h.keep k d⟩
theorem PM.lt (h:PM w b s fp): ∀x,x∈fp→x<w.heap.size:=by
 obtain⟨vs,vg,vq,fs,fg,fq,rfl,h⟩:=h;intro x d;simp only[List.mem_cons,List.mem_append]at d;rcases d with rfl|d|d|d
 ·exact h.hb.lt
 ·exact h.h0.lt x d
 ·exact h.h1.lt x d
 ·exact h.h2.lt x d
theorem PR.keep (h:PR w a fp m) (k:ae S w w') (l: ∀x,x∈fp→x∉S):PR w' a fp m:=by
 match m,h with
 |some s,⟨b,d,j⟩=>exact⟨b,d,j.keep k l⟩
 |none,.inl h=>exact .inl h
 |none,.inr ⟨b,d,j,o⟩=>subst j;exact .inr ⟨b,d,rfl,o.keep k (l b (by simp))⟩
theorem PR.ab (h:PR w a fp m) (k:ae [] w w'):PR w' a fp m:=h.keep k fun _ _=>by simp
theorem PR.lt (h:PR w a fp m): ∀x,x∈fp→x<w.heap.size:=by
 match m,h with
 |some s,⟨b,k,j⟩=>exact j.lt
 |none,.inl h=>rw[h.2];intro x d;cases d
 |none,.inr ⟨b,k,j,l⟩=>subst j;intro x d;simp only[aK]at d;subst d;exact l.lt
def j' (w:World) (b:Nat) (s:MS) (fp:List Nat) (x:Nat×Nat) (d:Addr):Prop:=
 ∃g i xs,d=⟨g,i,none⟩∧At w g xs∧xs[i]? =some (.int .i64 (s.rd x))∧g∈fp∧
  ∀a w',At w' g (xs.set i (.int .i64 a))→ae [g] w w'→PM w' b (s.wr x a) fp
theorem xI.Mg (h:xI w b s vs vg vq [g] fg fq) (q:vs=.slice (some ⟨g,0,none⟩) (16*s.M) cap) (k:At w g (ints s.S++ys)) (r:(ints s.S++ys).length=cap) (o:i<s.S.length):
  j' w b s (b::([g]++(fg++fq))) (0,i) ⟨g,i,none⟩:=by
 have j:=h.nd;simp only[List.cons_append,List.nil_append,List.nodup_cons,List.mem_cons,List.mem_append,not_or,List.nodup_append]at j;obtain⟨⟨t,z,B⟩,⟨u,y⟩,C⟩:=j;refine⟨g,i,_,rfl,k,jI ys o,by simp,fun a w' d l=>?_⟩;refine⟨vs,vg,vq,[g],fg,fq,rfl,h.ok.wr (0,i) a,h.nd,h.hb.keep l (by simpa using t),?_,h.h1.keep l ?_,h.h2.keep l ?_⟩
 ·rw[ints_set ys o]at d;rw[q];exact Sl.wH d (by rw[ax];have:=h.ok.ls;simp only[MS.wr,List.length_set];omega) (by rw[←r];simp[ax,MS.wr])
 ·intro x m;simp only[aK];rintro rfl;exact u m
 ·intro x m;simp only[aK];rintro rfl;exact y m
theorem xI.Mh (h:xI w b s vs vg vq fs [g] fq) (q:vg=.slice (some ⟨g,0,none⟩) 16 cap) (k:At w g (ints s.G++ys)) (r:(ints s.G++ys).length=cap) (o:i<s.G.length):
  j' w b s (b::(fs++([g]++fq))) (1,i) ⟨g,i,none⟩:=by
 have j:=h.nd;simp only[List.nodup_cons,List.mem_append,not_or,List.nodup_append,aK,List.cons_append,List.nil_append,List.mem_cons]at j;obtain⟨⟨B,t,C⟩,D,⟨u,y⟩,z⟩:=j;refine⟨g,i,_,rfl,k,jI ys o,by simp,fun a w' d l=>?_⟩;refine⟨vs,vg,vq,fs,[g],fq,rfl,h.ok.wr (1,i) a,h.nd,h.hb.keep l (by simpa using t),h.h0.keep l ?_,?_,h.h2.keep l ?_⟩
 ·intro x m;simp only[aK];rintro rfl;exact z x m x (.inl rfl) rfl
 ·rw[ints_set ys o]at d;rw[q];exact Sl.wH d (by rw[ax];have:=h.ok.lg;simp only[MS.wr,List.length_set];omega) (by rw[←r];simp[ax,MS.wr])
 ·intro x m;simp only[aK];rintro rfl;exact u m
theorem xI.Mi (h:xI w b s vs vg vq fs fg [g]) (q:vq=.slice (some ⟨g,0,none⟩) s.Q.length cap) (k:At w g (ints s.Q++ys)) (r:(ints s.Q++ys).length=cap) (o:i<s.Q.length):
  j' w b s (b::(fs++(fg++[g]))) (2,i) ⟨g,i,none⟩:=by
 have j:=h.nd;simp only[List.nodup_cons,List.mem_append,not_or,List.nodup_append,aK]at j;obtain⟨⟨B,C,t⟩,D,⟨E,u,y⟩,z⟩:=j;refine⟨g,i,_,rfl,k,jI ys o,by simp,fun a w' d l=>?_⟩;refine⟨vs,vg,vq,fs,fg,[g],rfl,h.ok.wr (2,i) a,h.nd,h.hb.keep l (by simpa using t),h.h0.keep l ?_,h.h1.keep l ?_,?_⟩
 ·intro x m;simp only[aK];rintro rfl;exact z x m x (.inr rfl) rfl
 ·intro x m;simp only[aK];rintro rfl;exact y x m x rfl rfl
 ·rw[ints_set ys o]at d;rw[q];show Sl w' 1 _ (s.Q.set i a).length (ints (s.Q.set i a)) [g];rw[List.length_set];exact Sl.wH d (by rw[ax];simp) (by rw[←r];simp[ax])
theorem tF (w:World):Cs Tryz.prog 112 [.pointer none] w fun v w'=>v=.bool false∧w'=w:=by
 refine en [] ?_;(repeat(first|with_reducible(first|refine nx ?_|refine bA rfl ?_)|simp only[go_sem]))
theorem pO (b:Nat) (n:Int) (c:List Value) (w:World) (h:At w b (.int .i64 n::c)):Cs Tryz.prog 112 [.pointer (some ⟨b,0,none⟩)] w fun v w'=>v=.bool (decide (0<n))∧w'=w:=by
 refine en [] ?_;(repeat(first|with_reducible(first|refine nx ?_|refine bA rfl ?_)|simp only[go_sem,h.cell]))
theorem iJ (h:PR w a fp m):Cs Tryz.prog 112 [.pointer a] w fun v w'=>v=.bool m.isSome∧w'=w:=by
 match m,h with
 |some s,⟨b,d,vs,vg,vq,fs,fg,fq,_,k⟩=>
  subst d;refine(pO b _ _ w k.hb).mono ?_;rintro v w' ⟨rfl,rfl⟩;have:=k.ok.m1;exact⟨by simp;omega,rfl⟩
 |none,.inl ⟨d,_⟩=>subst d;exact tF w
 |none,.inr ⟨b,d,_,j⟩=>subst d;exact pO b 0 _ w j
theorem AE {o:Nat} (b:At w q (eD p)) (d:p.2.2=(i:Int)) (m:i<n):Cs Tryz.prog 421 [.slice (some ⟨g,o,none⟩) n c,.pointer (some ⟨q,0,none⟩)] w fun v w'=>v=.pointer (some ⟨g,o+i,none⟩)∧w'=w:=by
 refine en [] ?_;rw[FF]at b;have j: ¬(i:Int)<0:=by omega
 have k: ¬(n:Int)≤(i:Int):=by omega
 have l:(0:Int)≤(i:Int)∧(i:Int)<(n:Int):=⟨by omega,by omega⟩;(repeat(first|with_reducible(first|refine nx ?_|refine bA rfl ?_)|simp only[go_sem,b.cell,d,aX j,aX k,if_pos l,c9,Nat.mul_one]))
theorem xb (b:At w q (eD p)) (k: ¬(0≤p.2.2∧p.2.2<n)):Cs Tryz.prog 421 [.slice a n c,.pointer (some ⟨q,0,none⟩)] w fun v w'=>v=.pointer none∧w'=w:=by
 refine en [] ?_;rw[FF]at b;by_cases d:p.2.2<0
 ·(repeat(first|with_reducible(first|refine nx ?_|refine bA rfl ?_)|simp only[go_sem,b.cell,aU d]))
 ·have j:(n:Int)≤p.2.2:=by omega
  (repeat(first|with_reducible(first|refine nx ?_|refine bA rfl ?_)|simp only[go_sem,b.cell,aX d,aU j]))
theorem Vk (h:PM w b s fp) (p:PT):Cs Tryz.prog 362 [.pointer (some ⟨b,0,none⟩),.agg ⟨eD p⟩] w fun v w'=>ae [] w w'∧
  ∃D,v=.pointer D∧D.isSome=(iY s p).isSome∧ ∀x,iY s p=some x→ ∃d,D=some d∧j' w' b s fp x d:=by
 refine en [0,2,5,8,11,14,17,20,23,26,29,32,35,38,43,44,0] ?_;refine gO ?_;refine bp fun q G hq pf r O=>?_;obtain⟨vs,vg,vq,fs,fg,fq,rfl,Z⟩:=h;have E:=Z.ab O;have I:=E.hb;have J:=Z.ok;have hM1:=J.m1;have Vg:=J.m4;have hls:=J.ls;have hlg:=J.lg;obtain⟨k,m,i⟩:=p;have r:At G q (eD (k,m,i)):=r;have K:At G q [.int .i64 k,.int .i64 m,.int .i64 i]:=r;have u: ∀w',ae [] G w'→iY s (k,m,i)=none→ae [] w w'∧ ∃D,(Value.pointer none)=.pointer D∧D.isSome=(iY s (k,m,i)).isSome∧ ∀x,iY s (k,m,i)=some x→ ∃d,D=some d∧j' w' b s (b::(fs++(fg++fq))) x d:=
  fun w' P e=>⟨O.nil P,none,rfl,by rw[e];rfl,fun x hx=>by rw[e]at hx;cases hx⟩
 have Q: ∀w',ae [] G w'→ ∀x d,iY s (k,m,i)=some x→j' w' b s (b::(fs++(fg++fq))) x d→ae [] w w'∧ ∃D,(Value.pointer (some d))=.pointer D∧D.isSome=(iY s (k,m,i)).isSome∧ ∀x,iY s (k,m,i)=some x→ ∃d,D=some d∧j' w' b s (b::(fs++(fg++fq))) x d:=
  fun w' P x d e hp=>⟨O.nil P,some d,rfl,by rw[e];rfl,fun y hy=>by rw[e]at hy;cases hy;exact⟨d,rfl,hp⟩⟩
 by_cases Y:k=0
 ·subst Y;by_cases H:0≤m
  ·by_cases C:m<(s.M:Int)
   ·obtain⟨l,rfl⟩: ∃l:Nat,m=l:=⟨m.toNat,by omega⟩;have e1:IntKind.i64.wrap ((l:Int)*16)=((l*16:Nat):Int):=by rw[show((l:Int)*16)=((l*16:Nat):Int) by omega,bU _ (by omega)]
    have e2:IntKind.i64.wrap ((l:Int)+1)=((l+1:Nat):Int):=au l (by omega);have e3:IntKind.i64.wrap (((l+1:Nat):Int)*16)=(((l+1)*16:Nat):Int):=by rw[show(((l+1:Nat):Int)*16)=(((l+1)*16:Nat):Int) by omega,bU _ (by omega)]
    refine lY K.cell I.cell (cZ (rfl:(0:Int)=0)) (aU H) (aU C) ?_;refine aW [q,b] ?_;obtain⟨g,cap,ys,L,B,F,M⟩:=E.h0.pos (by omega);subst F;have t:(ints s.S++ys).length=cap:=by
     rcases E.h0.2 with⟨_,h0,_⟩|⟨g',N,U,T,R,V,z,W,h5⟩
     ·omega
     ·rw[L]at R;cases R;cases V;obtain⟨T',B⟩:=B;rw[B]at z;simp at z;obtain⟨z,_⟩:=z;rw[z];simpa using W
    subst L;(repeat(first|with_reducible(first|refine nx ?_|refine bA rfl ?_)|simp only[go_sem,K.cell,I.cell,e1,e2,e3,Nat.mul_one,sD (show l*16≤(l+1)*16 by omega) (show(l+1)*16≤cap by omega) (show l*16<cap by omega)]));by_cases X:0≤i∧i<16
    ·obtain⟨j,rfl⟩: ∃j:Nat,i=j:=⟨i.toNat,by omega⟩;refine Ed (vs:=[.slice (some ⟨g,l*16,none⟩) ((l+1)*16-l*16) (cap-l*16),.pointer (some ⟨q,0,none⟩)]) ?_ (by kernel_rfl) (AE (w:=G.drew.drew) (n:=(l+1)*16-l*16) (i:=j) (p:=(0,(l:Int),(j:Int))) r rfl (by omega)) ?_
     ·rfl
     rintro v w' ⟨rfl,rfl⟩;refine⟨.inr (SB.refl _ _),?_⟩;refine gO ?_;refine Q _ (((ae.drew [] _).nil (ae.drew [] _))) (0,l*16+j) _ ?_ ?_
     ·simp only[iY,H,C,and_self,if_true,X];congr 2;omega
     ·exact(E.ab ((ae.drew [] _).nil (ae.drew [] _))).Mg rfl B t (by omega)
    ·refine Ed (vs:=[.slice (some ⟨g,l*16,none⟩) ((l+1)*16-l*16) (cap-l*16),.pointer (some ⟨q,0,none⟩)]) ?_ (by kernel_rfl) (xb (w:=G.drew.drew) (n:=(l+1)*16-l*16) (p:=(0,(l:Int),i)) r (by simp only;omega)) ?_
     ·rfl
     rintro v w' ⟨rfl,rfl⟩;refine⟨.inr (SB.refl _ _),?_⟩;refine gO ?_;exact u _ (((ae.drew [] _).nil (ae.drew [] _))) (by simp only[iY,H,C,and_self,if_true];rw[if_neg X])
   ·refine lY K.cell I.cell (cZ (rfl:(0:Int)=0)) (aU H) (aX C) ?_;exact u _ (ae.drew [] _) (by simp[iY,C])
  ·refine eZ K.cell I.cell (cZ (rfl:(0:Int)=0)) (aX H) ?_;exact u _ (ae.drew [] _) (by simp[iY,H])
 ·by_cases H:k=1
  ·subst H;by_cases C:m=0
   ·subst C;obtain⟨g,cap,ys,L,B,F,M⟩:=E.h1.pos (by omega);subst F;have t:(ints s.G++ys).length=cap:=by
     rcases E.h1.2 with⟨_,h0,_⟩|⟨g',N,U,T,R,V,z,W,h5⟩
     ·omega
     ·rw[L]at R;cases R;cases V;obtain⟨T',B⟩:=B;rw[B]at z;simp at z;obtain⟨z,_⟩:=z;rw[z];simpa using W
    subst L;refine lY K.cell I.cell (cZ (rfl:(1:Int)=1)) (cZ (rfl:(0:Int)=0)) (cU (show¬(1:Int)=0 by omega)) ?_;by_cases X:0≤i∧i<16
    ·obtain⟨j,rfl⟩: ∃j:Nat,i=j:=⟨i.toNat,by omega⟩;refine fI (vs:=[.slice (some ⟨g,0,none⟩) 16 cap,.pointer (some ⟨q,0,none⟩)]) rfl (by kernel_rfl) (AE (w:=G.drew) (o:=0) (n:=16) (i:=j) (p:=(1,0,(j:Int))) r rfl (by omega)) ?_;rintro v w' ⟨rfl,rfl⟩;refine gO ?_;refine Q _ (ae.drew [] _) (1,j) _ ?_ ?_
     ·simp[iY,X]
     ·exact(E.ab (ae.drew [] _)).Mh rfl B t (by omega)
    ·refine fI (vs:=[.slice (some ⟨g,0,none⟩) 16 cap,.pointer (some ⟨q,0,none⟩)]) rfl (by kernel_rfl) (xb (w:=G.drew) (n:=16) (p:=(1,0,i)) r (by simp only;omega)) ?_;rintro v w' ⟨rfl,rfl⟩;refine gO ?_;exact u _ (ae.drew [] _) (by simp[iY];omega)
   ·refine k0 K.cell I.cell (cZ (rfl:(1:Int)=1)) (cU C) (cU (show¬(1:Int)=0 by omega)) (cU (show¬(1:Int)=2 by omega)) ?_;exact u _ (ae.drew [] _) (by simp[iY,C])
  ·by_cases S:k=2
   ·subst S;by_cases C:m=0
    ·subst C;obtain⟨a',cap,L⟩:=E.h2.val;subst L;refine k0 K.cell I.cell (cZ (rfl:(2:Int)=2)) (cZ (rfl:(0:Int)=0)) (cU (show¬(2:Int)=0 by omega)) (cU (show¬(2:Int)=1 by omega)) ?_;by_cases X:0≤i∧i<s.Q.length
     ·obtain⟨j,rfl⟩: ∃j:Nat,i=j:=⟨i.toNat,by omega⟩;obtain⟨g,cap,ys,L,B,F,M⟩:=E.h2.pos (by omega);subst F;cases L;have t:(ints s.Q++ys).length=cap:=by
       rcases E.h2.2 with⟨_,h0,_⟩|⟨g',N,U,T,R,V,z,W,h5⟩
       ·omega
       ·cases R;cases V;obtain⟨T',B⟩:=B;rw[B]at z;simp at z;obtain⟨z,_⟩:=z;rw[z];simpa using W
      refine fI (vs:=[.slice (some ⟨g,0,none⟩) s.Q.length cap,.pointer (some ⟨q,0,none⟩)]) rfl (by kernel_rfl) (AE (w:=G.drew) (o:=0) (n:=s.Q.length) (i:=j) (p:=(2,0,(j:Int))) r rfl (by omega)) ?_;rintro v w' ⟨rfl,rfl⟩;refine gO ?_;refine Q _ (ae.drew [] _) (2,j) _ ?_ ?_
      ·simp[iY];omega
      ·exact(E.ab (ae.drew [] _)).Mi rfl B t (by omega)
     ·refine fI (vs:=[.slice a' s.Q.length cap,.pointer (some ⟨q,0,none⟩)]) rfl (by kernel_rfl) (xb (w:=G.drew) (n:=s.Q.length) (p:=(2,0,i)) r (by simp only;omega)) ?_;rintro v w' ⟨rfl,rfl⟩;refine gO ?_;exact u _ (ae.drew [] _) (by simp[iY];omega)
    ·refine k0 K.cell I.cell (cZ (rfl:(2:Int)=2)) (cU C) (cU (show¬(2:Int)=0 by omega)) (cU (show¬(2:Int)=1 by omega)) ?_;exact u _ (ae.drew [] _) (by simp[iY,C])
   ·refine lY K.cell I.cell (cU Y) (cU H) (cU S) ?_;exact u _ (ae.drew [] _) (by simp[iY,Y,H,S])
end Rt
end
section
namespace Rt
set_option maxRecDepth 8000
variable {fp:List Nat} {m:MO} {a:Option Addr} {w:World}
theorem qK {xs:List Value} {i:Nat} {v:Value} (h:xs[i]? =some v):i<xs.length:=(List.getElem?_eq_some_iff.1 h).1
theorem BD (h : PR w a fp m) (p : PT) : Cs Tryz.prog 221 [.pointer a, .agg ⟨eD p⟩] w fun v w' => ae [] w w' ∧
    ((m = none ∧ v = .tuple #[.pointer none, .int .i64 5]) ∨ ∃ s, m = some s ∧ ((iY s p = none ∧ v = .tuple #[.pointer none, .int .i64 1]) ∨
      ∃ x b d, iY s p = some x ∧ a = some ⟨b, 0, none⟩ ∧ v = .tuple #[.pointer (some d), .int .i64 0] ∧ j' w' b s fp x d)) := by
  refine en [] ?_;refine gO ?_;refine bp fun q t F y l k => ?_;have u := h.ab k;refine gO ?_;refine aH (iJ u) ?_
  match m, h, u with
  | none, _, _ =>
    (repeat (first | with_reducible (first | refine nx ?_ | refine bA rfl ?_) | simp only [go_sem, Option.isSome_none]));exact k
  | some s, _, ⟨b, z, B⟩ =>
    subst z;have G : At t q [.int .i64 p.1, .int .i64 p.2.1, .int .i64 p.2.2] := l;have r : aC t ⟨q, 0, none⟩ 3 = some (eD p) := ay l 0 3 (by simp [eD]);(repeat (first | with_reducible (first | refine nx ?_ | refine bA rfl ?_) | simp only [go_sem, Option.isSome_some, r]));refine aw (Vk B p) ?_;rintro v H ⟨o, C, rfl, j, D⟩;cases e : iY s p with
    | none =>
      rw [e] at j;cases C with
      | some d => cases j
      | none =>
        refine gO ?_;exact ⟨k.nil o, .inr ⟨s, rfl, .inl (by first | exact e | exact ⟨e, rfl⟩)⟩⟩
    | some x =>
      obtain ⟨d, rfl, E⟩ := D x e;refine gO ?_;exact ⟨k.nil o, .inr ⟨s, rfl, .inr ⟨x, b, d, e, rfl, rfl, E⟩⟩⟩
theorem uV (h:PR w a fp m) (p:PT):Cs Tryz.prog 195 [.pointer a,.agg ⟨eD p⟩] w fun v w'=>v=.tuple #[.int .i64 (lV m p).1,.int .i64 (lV m p).2]∧ae [] w w':=by
 refine en [] ?_;refine gO ?_;refine bp fun q y D z l j=>?_;have B:=h.ab j;have r:aC y ⟨q,0,none⟩ 3=some (eD p):=ay l 0 3 (by simp[eD]);refine aQ r ?_;refine aw (BD B p) ?_;rintro v E ⟨k,⟨rfl,rfl⟩|⟨s,rfl,⟨e,rfl⟩|⟨x,b,d,e,rfl,rfl,C⟩⟩⟩
 ·refine aQ (eE (show¬(5:Int)=0 by omega)) ?_;exact⟨rfl,j.nil k⟩
 ·refine aQ (eE (show¬(1:Int)=0 by omega)) ?_;exact⟨by simp only[lV,e],j.nil k⟩
 ·obtain⟨g,i,xs,rfl,t,o,F,u⟩:=C;refine cT (dg (rfl:(0:Int)=0)) t.cell o ?_;exact⟨by simp only[lV,e],j.nil k⟩
theorem yP (h:PR w a fp m) (p:PT) (y:Int):Cs Tryz.prog 56 [.pointer a,.agg ⟨eD p⟩,.int .i64 y] w fun v w'=>v=.int .i64 (gm m p y).1∧PR w' a fp (gm m p y).2∧ae fp w w'∧((gm m p y).1≠0→ae [] w w'):=by
 refine en [] ?_;refine gO ?_;refine bp fun q Q X S o k=>?_;have B:=h.ab k;have M:aC Q ⟨q,0,none⟩ 3=some (eD p):=ay o 0 3 (by simp[eD]);have T:At Q q [.int .i64 p.1,.int .i64 p.2.1,.int .i64 p.2.2]:=o;refine aQ M ?_;refine aw (BD B p) ?_;rintro v U ⟨j,⟨rfl,rfl⟩|⟨s,rfl,⟨e,rfl⟩|⟨x,b,d,e,rfl,rfl,V⟩⟩⟩
 ·refine aQ (eE (show¬(5:Int)=0 by omega)) ?_;exact⟨rfl,B.ab j,(k.nil j).of_nil,fun _=>k.nil j⟩
 ·refine aQ (eE (show¬(1:Int)=0 by omega)) ?_;exact⟨by simp only[gm,e],by simp only[gm,e];exact B.ab j,(k.nil j).of_nil,fun _=>k.nil j⟩
 ·obtain⟨g,i,xs,rfl,C,r,W,D⟩:=V;have t:=T.ab j;have E:ny p y=true→(gm (some s) p y)=(1,some s):=fun F=>by simp only[gm,e,F,if_true]
  have G:ny p y=false→(gm (some s) p y)=(0,some (s.wr x y)):=fun F=>by simp only[gm,e,F,Bool.false_eq_true,if_false]
  have H:ny p y=false→ ∀w',At w' g (xs.set i (.int .i64 y))→ae [g] U w'→(Value.int .i64 0)=.int .i64 (gm (some s) p y).1∧PR w' (some ⟨b,0,none⟩) fp (gm (some s) p y).2∧ae fp w w'∧((gm (some s) p y).1≠0→ae [] w w'):=by
   intro F w' I J;rw[G F];exact⟨rfl,⟨b,rfl,D y w' I J⟩,(k.nil j).of_nil.same (J.mono fun x R=>by simp only[aK]at R;subst R;exact .inl W),fun N=>absurd rfl N⟩
  by_cases u:y<0
  ·refine aZ (dg (rfl:(0:Int)=0)) (aU u) ?_;rw[E (by simp[ny,u])];exact⟨rfl,B.ab j,(k.nil j).of_nil,fun _=>k.nil j⟩
  ·by_cases K:y=0
   ·by_cases L:p.1=2
    ·refine lY (dg (rfl:(0:Int)=0)) (aX u) (cZ K) (cZ L) t.cell ?_;rw[E (by simp[ny,K,L])];exact⟨rfl,B.ab j,(k.nil j).of_nil,fun _=>k.nil j⟩
    ·refine lY (dg (rfl:(0:Int)=0)) (aX u) (cZ K) (cU L) t.cell ?_;refine fJ C (qK r) rfl fun O P l z=>?_;refine gO ?_;exact H (by simp[ny,u,L]) O l z
   ·refine eZ (dg (rfl:(0:Int)=0)) (aX u) (cU K) t.cell ?_;refine fJ C (qK r) rfl fun O P l z=>?_;refine gO ?_;exact H (by simp[ny,u,K]) O l z
theorem oG (h:PR w a fp m):Cs Tryz.prog 159 [.pointer a] w fun v w'=>v=.int .i64 (uv m)∧w'=w:=by
 refine en [] ?_;refine gO ?_;refine aH (iJ h) ?_
 match m,h with
 |none,_=>
  (repeat(first|with_reducible(first|refine nx ?_|refine bA rfl ?_)|simp only[go_sem,Option.isSome_none]));rfl
 |some s,⟨b,d,vs,k,l,o,q,r,_,j⟩=>
  subst d;(repeat(first|with_reducible(first|refine nx ?_|refine bA rfl ?_)|simp only[go_sem,Option.isSome_some,j.hb.cell]));rfl
theorem wT (h:PR w a fp m):Cs Tryz.prog 21 [.pointer a] w fun v w'=>ae [] w w'∧ ∃d,Sl w' 1 v (lz m).length (ints (lz m)) d∧ ∀x,x∈d→w.heap.size≤x:=by
 refine en [] ?_;refine gO ?_;refine aH (iJ h) ?_
 match m,h with
 |none,_=>
  (repeat(first|with_reducible(first|refine nx ?_|refine bA rfl ?_)|simp only[go_sem,Option.isSome_none]));exact⟨ae.refl _ _,[],Sl.iW w,by simp⟩
 |some s,⟨b,k,vs,r,t,u,y,z,_,j⟩=>
  subst k;(repeat(first|with_reducible(first|refine nx ?_|refine bA rfl ?_)|simp only[go_sem,Option.isSome_some,j.hb.cell]));refine aw (xa j.h2.src bR (by have:=j.ok.lq;omega)) ?_;rintro v w' ⟨l,d,o,q⟩;refine gO ?_;exact⟨l,d,o,q⟩
theorem xI.FG {w':World} {b:Nat} {s:MS} {vs o H vq':Value} {r t u l:List Nat} {q:List Int} (h:xI w b s vs o H r t u) (I:q.length≤64) (C:Sl w' 1 vq' q.length (ints q) l) (hb:At w' b [.int .i64 s.M,vs,o,vq'])
  (D:ae (b::u) w w') (z: ∀x,x∈l→x∈u∨w.heap.size≤x):PM w' b {s with Q:=q} (b::(r++(t++l))):=by
 have m:=h.nd;simp only[List.nodup_cons,List.mem_append,not_or,List.nodup_append]at m;obtain⟨⟨E,F,J⟩,K,⟨L,M,G⟩,B⟩:=m;have N:=h.hb.lt;refine⟨vs,o,vq',r,t,l,rfl,⟨⟨h.ok.m1,h.ok.m4,h.ok.ls,h.ok.lg,I⟩,?_,hb,h.h0.keep D ?_,h.h1.keep D ?_,C⟩⟩
 ·simp only[List.nodup_cons,List.mem_append,not_or,List.nodup_append];refine⟨⟨E,F,fun j=>?_⟩,K,⟨L,C.nodup,fun x j y k e=>?_⟩,fun x j y k e=>?_⟩
  ·rcases z b j with j|j
   ·exact J j
   ·omega
  ·subst e;rcases z x k with k|k
   ·exact G x j x k rfl
   ·have:=h.h1.lt x j;omega
  ·subst e;rcases k with k|k
   ·exact B x j x (.inl k) rfl
   ·rcases z x k with k|k
    ·exact B x j x (.inr k) rfl
    ·have:=h.h0.lt x j;omega
 ·intro x j d;simp only[List.mem_cons]at d;rcases d with rfl|d
  ·exact E j
  ·exact B x j x (.inr d) rfl
 ·intro x j d;simp only[List.mem_cons]at d;rcases d with rfl|d
  ·exact F j
  ·exact G x j x d rfl
theorem FH (h:PR w a fp m) (y:Int):Cs Tryz.prog 91 [.pointer a,.int .i64 y] w fun v w'=>v=.int .i64 (dN m y).1∧ae fp w w'∧((dN m y).1≠0→ae [] w w')∧ ∃j,PR w' a j (dN m y).2∧ ∀x,x∈j→x∈fp∨w.heap.size≤x:=by
 refine en [] ?_;refine gO ?_;refine aH (iJ h) ?_
 match m,h with
 |none,h=>
  (repeat(first|with_reducible(first|refine nx ?_|refine bA rfl ?_)|simp only[go_sem,Option.isSome_none]));exact⟨rfl,ae.refl _ _,fun _=>ae.refl _ _,fp,h,fun x d=>.inl d⟩
 |some s,⟨b,X,vs,Y,Z,P,R,u,o,k⟩=>
  subst X;subst o;have S:PR w (some ⟨b,0,none⟩) (b::(P++(R++u))) (some s):=⟨b,rfl,vs,Y,Z,P,R,u,rfl,k⟩;obtain⟨aq,cq,I⟩:=k.h2.val;subst I;by_cases t:y≤0
  ·(repeat(first|with_reducible(first|refine nx ?_|refine bA rfl ?_)|simp only[go_sem,Option.isSome_some,aU t]));rw[show dN (some s) y=(1,some s) by simp[dN,t]];exact⟨rfl,ae.refl _ _,fun _=>ae.refl _ _,_,S,fun x d=>.inl (by simpa using d)⟩
  ·by_cases T:s.Q.length=64
   ·(repeat(first|with_reducible(first|refine nx ?_|refine bA rfl ?_)|simp only[go_sem,Option.isSome_some,aX t,k.hb.cell,cZ (show(s.Q.length:Int)=64 by omega)]));rw[show dN (some s) y=(6,some s) by simp[dN,t,T]];exact⟨rfl,ae.refl _ _,fun _=>ae.refl _ _,_,S,fun x d=>.inl (by simpa using d)⟩
   ·(repeat(first|with_reducible(first|refine nx ?_|refine bA rfl ?_)|simp only[go_sem,Option.isSome_some,aX t,k.hb.cell,cU (show¬(s.Q.length:Int)=64 by omega)]));rw[ag rfl rfl];refine gO ?_;refine eJ fun q w1 hq pf z r=>?_;refine gO ?_;refine eM (k.h2.ab r) (bn.at z rfl) (by simp[bh]) (by have:=k.ok.lq;omega) (by have:=k.ok.lq;omega) ?_;intro U w2 j B o C _;have D:b∉u:=by have:=k.nd;simp only[List.nodup_cons,List.mem_append,not_or]at this;exact this.1.2.2
    have J:=(k.hb.ab r).keep C D;obtain⟨av,cv,K⟩:=B.val;have E:bh U=true:=by rw[K];rfl
    refine gO ?_;refine fJ J (by simp) E fun V qt F G=>?_;refine gO ?_;have wg:=k.hb.lt;have l: ∀x,x∈j→x∈u∨w.heap.size≤x:=by
     intro x d;rcases o with rfl|rfl
     ·exact .inl d
     ·simp only[aK]at d;right;omega
    have L:b∉j:=by
     intro d;rcases l b d with d|d
     ·exact D d
     ·omega
    have W:ae (b::u) w V:=(r.of_nil.same (C.mono fun x d=>.inl (by simp[d]))).same (G.mono fun x d=>.inl (by simp only[aK]at d;simp[d]));have M:Sl V 1 U (s.Q++[y]).length (ints (s.Q++[y])) j:=by
     rw[ba,cH];exact B.keep G fun x d H=>by simp only[aK]at H;subst H;exact L d
    have N:=k.FG (q:=s.Q++[y]) (by simp;have:=k.ok.lq;omega) M F W l;rw[show dN (some s) y=(0,some {s with Q:=s.Q++[y]}) by simp[dN,t,T]];refine⟨rfl,W.mono fun x d=>.inl ?_,fun O=>absurd rfl O,_,⟨b,rfl,N⟩,fun x d=>?_⟩
    ·simp only[List.mem_cons]at d;rcases d with rfl|d<;>simp_all
    ·simp only[List.mem_cons,List.mem_append]at d⊢;rcases d with rfl|d|d|d
     ·exact .inl (.inl rfl)
     ·exact .inl (.inr (.inl d))
     ·exact .inl (.inr (.inr (.inl d)))
     ·exact(l x d).imp (fun h=>.inr (.inr (.inr h))) id
end Rt
end
section
namespace Rt
set_option maxRecDepth 8000
variable {cap g n:Nat} {w:World}
theorem Mj (d:1≤n) (j:n≤cap):iD 1 (.slice (some ⟨g,0,none⟩) n cap) (some (.int .i64 1)) none=some (.slice (some (if cap=1 then⟨g,0,none⟩else⟨g,1,none⟩)) (n-1) (cap-1)):=by
 by_cases e:cap=1
 ·subst e;have b:(1:Int)≤(n:Int):=by omega
  simp[iD,gU,b]
 ·have b:(1:Int)≤(n:Int):=by omega
  simp[iD,gU,b,e,bQ]
theorem FI {x:Int} {q:List Int} {ys:List Value} (b:At w g (ints (x::q)++ys)) (d:n=q.length+1) (j:n≤cap):
  bn w 1 (.slice (some (if cap=1 then⟨g,0,none⟩else⟨g,1,none⟩)) (n-1) (cap-1)) q.length (ints q):=by
 refine⟨by simp[ax],.inr ⟨_,cap-1,by rw[d];rfl,?_⟩⟩;by_cases e:cap=1
 ·have:q.length=0:=by omega
  have:q=[]:=List.eq_nil_of_length_eq_zero this;subst this;rfl
 ·rw[if_neg e,ay b 1 _ (by simp[ints];omega)];simp[ints]
theorem P8 {a:Option Addr} {fp:List Nat} {m:MO} (h:PR w a fp m):Cs Tryz.prog 115 [.pointer a] w fun v w'=>v=.tuple #[.int .i64 (qC m).1.1,.int .i64 (qC m).1.2]∧ae fp w w'∧((qC m).1.2≠0→ae [] w w')∧ ∃j,PR w' a j (qC m).2∧ ∀x,x∈j→x∈fp∨w.heap.size≤x:=by
 refine en [] ?_;refine gO ?_;refine aH (iJ h) ?_
 match m,h with
 |none,h=>
  (repeat(first|with_reducible(first|refine nx ?_|refine bA rfl ?_)|simp only[go_sem,Option.isSome_none]));exact⟨rfl,ae.refl _ _,fun _=>ae.refl _ _,fp,h,fun x d=>.inl d⟩
 |some s,⟨b,hb,vs,vg,vq,U,V,W,H,r⟩=>
  subst hb;subst H;have h0:PR w (some ⟨b,0,none⟩) (b::(U++(V++W))) (some s):=⟨b,rfl,vs,vg,vq,U,V,W,rfl,r⟩;obtain⟨M,S,G,Q⟩:=s;cases Q with
  |nil=>
   obtain⟨aq,cq,I⟩:=r.h2.val;subst I;(repeat(first|with_reducible(first|refine nx ?_|refine bA rfl ?_)|simp only[go_sem,Option.isSome_some,r.hb.cell,cZ (show((0:Nat):Int)=0 by rfl)]));rw[show qC (some ⟨M,S,G,[]⟩)=((0,4),some ⟨M,S,G,[]⟩)from rfl];exact⟨rfl,ae.refl _ _,fun _=>ae.refl _ _,_,h0,fun x d=>.inl (by simpa using d)⟩
  |cons x q=>
   obtain⟨g,cap,ys,hv,X,J,k⟩:=r.h2.pos (by simp);subst hv;subst J;have l:(x::q).length=q.length+1:=rfl;have c1: ¬((((x::q).length:Nat):Int)=0):=by rw[l];omega
   have c2:(0:Int)≤0∧(0:Int)<(((x::q).length:Nat):Int):=by rw[l];omega
   have u:(ints (x::q)++ys)[0]? =some (.int .i64 x):=rfl;have y:=r.ok.lq;simp only at y k;have hz:(0:Int).toNat*1=0:=rfl;have o:=r.hb;simp only at o;generalize hL:(x::q).length=L at*;(repeat(first|with_reducible(first|refine nx ?_|refine bA rfl ?_)|simp only[go_sem,Option.isSome_some,o.cell,cU c1,if_pos c2.2,hz,X.cell,u,Mj (show 1≤L by omega) k]));refine aw (xa (FI X l k) bR (by omega)) ?_;rintro Y w2 ⟨z,j,B,t⟩;have K:=o.ab z;obtain⟨av,cv,N⟩:=B.val;have C:bh Y=true:=by rw[N];rfl
   refine aQ o.cell ?_;refine fJ K (by simp) C fun Z qt D E=>?_;refine gO ?_;have wg:=o.lt;have O:b∉j:=fun d=>by have:=t b d;omega
   have hO:ae (b::[g]) w Z:=z.of_nil.same (E.mono fun x d=>.inl (by simp only[aK]at d;simp[d]));have P:Sl Z 1 Y q.length (ints q) j:=B.keep E fun x d F=>by simp only[aK]at F;subst F;exact O d
   subst hL;have R:=r.FG (q:=q) (by simp at y;omega) P D hO (fun x d=>.inr (t x d));rw[show qC (some ⟨M,S,G,x::q⟩)=((x,0),some ⟨M,S,G,q⟩)from rfl];refine⟨rfl,hO.mono fun x d=>.inl ?_,fun T=>absurd rfl T,_,⟨b,rfl,R⟩,fun x d=>?_⟩
   ·simp only[List.mem_cons,List.not_mem_nil,or_false]at d;rcases d with rfl|rfl<;>simp
   ·simp only[List.mem_cons,List.mem_append]at d⊢;rcases d with rfl|d|d|d
    ·exact .inl (.inl rfl)
    ·exact .inl (.inr (.inl d))
    ·exact .inl (.inr (.inr (.inl d)))
    ·exact .inr (t x d)
theorem u' (w:World) (n:Int):Cs Tryz.prog 59 [.int .i64 n] w fun v w'=>ae [] w w'∧ ∃a fp,v=.tuple #[.pointer a,.int .i64 (if(fm n).isSome then 0 else 1)]∧PR w' a fp (fm n)∧(fm n=none→a=none)∧ ∀x,x∈fp→w.heap.size≤x:=by
 refine en [2,5,8,1,13,16,17,22,23,26,0,16,13,17,22,23,26,0] ?_;by_cases B:n<1
 ·refine aQ (aU B) ?_;have:fm n=none:=by unfold fm;rw[if_neg (by omega)]
  rw[this];exact⟨ae.refl _ _,none,[],rfl,.inl ⟨rfl,rfl⟩,fun _=>rfl,by simp⟩
 by_cases I:4<n
 ·refine aZ (aX B) (aU I) ?_;have:fm n=none:=by unfold fm;rw[if_neg (by omega)]
  rw[this];exact⟨ae.refl _ _,none,[],rfl,.inl ⟨rfl,rfl⟩,fun _=>rfl,by simp⟩
 ·refine aZ (aX B) (aX I) ?_;obtain⟨k,rfl⟩: ∃k:Nat,n=k:=⟨n.toNat,by omega⟩;have M:IntKind.i64.wrap ((k:Int)*16)=((16*k:Nat):Int):=by rw[show((k:Int)*16)=((16*k:Nat):Int) by omega,bU _ (by omega)]
  have u:fm (k:Int)=some ⟨k,List.replicate (16*k) 0,List.replicate 16 0,[]⟩:=by
   unfold fm;rw[if_pos (by omega)];simp
  have z: ∀q l o w',ae [] w w'→q<w'.heap.size→At w' q [.int .i64 (k:Int),.slice (some ⟨l,0,none⟩) (16*k) (16*k),.slice (some ⟨o,0,none⟩) 16 16,.slice none 0 0]→At w' l (List.replicate (16*k) (.int .i64 0))→At w' o (List.replicate 16 (.int .i64 0))→
    q≠l→q≠o→l≠o→w.heap.size≤q→w.heap.size≤l→w.heap.size≤o→
    ae [] w w'∧ ∃a fp,Value.tuple #[.pointer (some ⟨q,0,none⟩),.int .i64 0]=.tuple #[.pointer a,.int .i64 (if(fm (k:Int)).isSome then 0 else 1)]∧PR w' a fp (fm (k:Int))∧(fm (k:Int)=none→a=none)∧ ∀x,x∈fp→w.heap.size≤x:=by
   intro q l o w' N _ O J K P Q R X Y Z;rw[u];have S:List.replicate (16*k) (Value.int .i64 0)=ints (List.replicate (16*k) 0)++[]:=by rw[gG];simp
   have T:List.replicate 16 (Value.int .i64 0)=ints (List.replicate 16 0)++[]:=by rw[gG];simp
   rw[S]at J;rw[T]at K;refine⟨N,some ⟨q,0,none⟩,q::([l]++([o]++[])),rfl,⟨q,rfl,_,_,_,[l],[o],[],rfl,⟨wO u,by simp[P,Q,R],O,Sl.wH J (by simp[ax]) (by simp[ax]),Sl.wH K (by simp[ax]) (by simp[ax]),Sl.iW _⟩⟩,(fun h=>by cases h),fun x L=>?_⟩;simp only[List.cons_append,List.nil_append,List.mem_cons,List.not_mem_nil,or_false]at L;rcases L with rfl|rfl|rfl<;>assumption
  refine aW [] ?_;refine aQ M ?_;have hd:w.drew.heap.size=w.heap.size:=rfl;refine⟨?_,?_⟩
  ·refine th (Nat.le_refl _) (by omega) (by omega) fun l U C D b y=>⟨.inl rfl,?_⟩;refine gO ?_;refine th (n:=16) (m:=16) (Nat.le_refl _) (by omega) (by omega) fun o V E F d r=>⟨.inl rfl,?_⟩;refine gO ?_;rw[ag rfl rfl];refine gO ?_;rw[ag rfl rfl];refine gO ?_;rw[ag rfl rfl];refine gO ?_;rw[ag rfl rfl];refine gO ?_;refine nw fun q G W H t j=>⟨.inl rfl,?_⟩;refine gO ?_;rw[gx]at b d;exact z q l o G (ae.eh ((y.nil r).nil j)) (by omega) t ((b.ab r).ab j) (d.ab j) (by omega) (by omega) (by omega) (by omega) (by omega) (by omega)
  ·refine th (n:=16) (m:=16) (Nat.le_refl _) (by omega) (by omega) fun o U E D b y=>⟨.inl rfl,?_⟩;refine gO ?_;refine th (Nat.le_refl _) (by omega) (by omega) fun l V C F d r=>⟨.inl rfl,?_⟩;refine gO ?_;rw[ag rfl rfl];refine gO ?_;rw[ag rfl rfl];refine gO ?_;rw[ag rfl rfl];refine gO ?_;rw[ag rfl rfl];refine gO ?_;refine nw fun q G W H t j=>⟨.inl rfl,?_⟩;refine gO ?_;rw[gx]at b d;exact z q l o G (ae.eh ((y.nil r).nil j)) (by omega) t (d.ab j) ((b.ab r).ab j) (by omega) (by omega) (by omega) (by omega) (by omega) (by omega)
end Rt
end
section
namespace Rt
variable {f:Int→Int} {L:List Int} {fg fq fs:List Nat} {s:MS} {b i k t x:Nat} {vg vq vs:Value} {w w':World}
def uA (f:Int→Int) (L:List Int) (i:Nat):List Int:=(L.take i).map f++L.drop i
theorem lD (f:Int→Int) (L:List Int) (i:Nat):(uA f L i).length=L.length:=by simp only[uA,cH,List.length_map,List.length_take,List.length_drop];omega
theorem yX (f:Int→Int) (L:List Int):uA f L 0=L:=by simp[uA]
theorem Is (f:Int→Int) (L:List Int):uA f L L.length=L.map f:=by simp[uA]
theorem BE (f:Int→Int) (h:i<L.length):(uA f L i).getD i 0=L.getD i 0:=by
 simp only[uA,List.getD_eq_getElem?_getD];rw[List.getElem?_append_right (by simp;omega),List.length_map,List.length_take,Nat.min_eq_left (by omega),Nat.sub_self];simp
theorem BF (f:Int→Int) (h:i<L.length):(uA f L i).set i (f (L.getD i 0))=uA f L (i+1):=by
 have b:((L.take i).map f).length=i:=by simp;omega
 unfold uA;rw[List.set_append_right _ _ (by omega),b,Nat.sub_self,List.drop_eq_getElem_cons h,List.set_cons_zero,List.take_succ_eq_append_getElem h,List.map_append,List.append_assoc];simp[h]
theorem FJ (f:Int→Int) (d:f 0=0) (h:i<L.length) (b:L.getD i 0=0):uA f L i=uA f L (i+1):=by
 rw[←BF f h,b,d];apply List.ext_getElem (by simp);intro k j l;rw[List.getElem_set];split
 ·rename_i e;subst e;have:=BE f h;rw[b]at this;simp only[List.getD_eq_getElem?_getD,List.getElem?_eq_getElem j,Option.getD_some]at this;exact this
 ·rfl
def cM (s:MS):Nat→List Int
 |0=>s.S
 |1=>s.G
 |_=>s.Q
def ka {α:Type} (a b c:α):Nat→α
 |0=>a
 |1=>b
 |_=>c
def pl (k i:Nat):PT:=if k=0 then(0,((i/16:Nat):Int),((i%16:Nat):Int))else((k:Int),0,(i:Int))
def fl (k:Nat) (L:List Int):List (PT×Int):=(((List.range L.length).map (pl k)).zip L).filter fun x=>x.2 !=0
theorem Ml (k:Nat):fl k []=[]:=rfl
theorem BH (k:Nat) (h:i<L.length):fl k (L.take (i+1))=fl k (L.take i)++(if L.getD i 0=0 then []else [(pl k i,L.getD i 0)]):=by
 have e:L.take (i+1)=L.take i++[L.getD i 0]:=by rw[List.take_succ_eq_append_getElem h];simp[h]
 have d:(L.take i).length=i:=by simp;omega
 unfold fl;rw[e,cH,d];simp only[List.length_singleton];rw[List.range_succ,List.map_append,List.zip_append (by simp[d]),List.filter_append];congr 1;by_cases b:L.getD i 0=0
 ·rw[if_pos b];simp only[List.map_cons,List.map_nil,List.zip_cons_cons,List.zip_nil_right];rw[List.filter_cons];simp only[b];rfl
 ·rw[if_neg b];simp only[List.map_cons,List.map_nil,List.zip_cons_cons,List.zip_nil_right];rw[List.filter_cons,if_pos (by simpa using b)];rfl
theorem ni (k:Nat) (L:List Int):(fl k L).length≤L.length:=by
 unfold fl;refine Nat.le_trans (List.length_filter_le _ _) ?_;simp
theorem mr (h:s.Ok):filled s=fl 0 s.S++(fl 1 s.G++fl 2 s.Q):=by
 unfold filled mJ MS.V fl;rw[List.zip_append (by simp[h.ls,h.lg]),List.zip_append (by simp[h.ls]),List.filter_append,List.filter_append,List.append_assoc,h.ls,h.lg];congr 1
def FK (s:MS) (k:Nat):List (PT×Int):=(if 0<k then fl 0 s.S else [])++((if 1<k then fl 1 s.G else [])++(if 2<k then fl 2 s.Q else []))
theorem FL (s:MS) (h:k<3):FK s (k+1)=FK s k++fl k (cM s k):=by
 have:k=0∨k=1∨k=2:=by omega
 rcases this with rfl|rfl|rfl<;>simp[FK,cM]
theorem AF (s:MS) (k:Nat):(FK s k).length≤s.S.length+(s.G.length+s.Q.length):=by
 unfold FK;simp only[cH];refine Nat.add_le_add ?_ (Nat.add_le_add ?_ ?_)
 ·split
  ·exact ni _ _
  ·simp
 ·split
  ·exact ni _ _
  ·simp
 ·split
  ·exact ni _ _
  ·simp
def zH (f:Int→Int) (s:MS) (k i t:Nat):List Int:=if t<k then(cM s t).map f else if t=k then uA f (cM s t) i else cM s t
theorem C0 (f:Int→Int) (s:MS) (t:Nat):zH f s 0 0 t=cM s t:=by
 unfold zH;rw[if_neg (by omega)];split
 ·exact yX _ _
 ·rfl
theorem FN (f:Int→Int) (s:MS) (k t:Nat):zH f s k (cM s k).length t=zH f s (k+1) 0 t:=by
 unfold zH;by_cases b:t<k
 ·rw[if_pos b,if_pos (by omega)]
 ·rw[if_neg b];by_cases d:t=k
  ·subst d;rw[if_pos rfl,if_pos (by omega),Is]
  ·rw[if_neg d,if_neg (by omega)];split
   ·exact(yX _ _).symm
   ·rfl
def Rows (w:World) (s:MS) (f:Int→Int) (vs vg vq:Value) (fs fg fq:List Nat) (k i:Nat):Prop:=
 ∀t,t<3→Sl w 1 (ka vs vg vq t) (cM s t).length (ints (zH f s k i t)) (ka fs fg fq t)
theorem xI.rows (h:xI w b s vs vg vq fs fg fq) (f:Int→Int):Rows w s f vs vg vq fs fg fq 0 0:=by
 intro t d;rw[C0];have:t=0∨t=1∨t=2:=by omega
 rcases this with rfl|rfl|rfl
 ·have:=h.h0;rw[←h.ok.ls]at this;exact this
 ·have:=h.h1;rw[←h.ok.lg]at this;exact this
 ·exact h.h2
theorem Rows.ab (h:Rows w s f vs vg vq fs fg fq k i) (b:ae [] w w'):Rows w' s f vs vg vq fs fg fq k i:=fun t d=>(h t d).ab b
theorem qL (h:x∈ka fs fg fq t):x∈fs++(fg++fq):=by
 unfold ka at h;split at h<;>simp[h]
theorem It {u:Nat} (h:(b::(fs++(fg++fq))).Nodup) (r:t<3) (w:u<3) (d:t≠u) (j:x∈ka fs fg fq t) (k:x∈ka fs fg fq u):False:=by
 simp only[List.nodup_cons,List.mem_append,not_or,List.nodup_append]at h;obtain⟨_,_,⟨_,_,m⟩,l⟩:=h;have o:t=0∨t=1∨t=2:=by omega
 have q:u=0∨u=1∨u=2:=by omega
 rcases o with rfl|rfl|rfl<;>rcases q with rfl|rfl|rfl<;>simp only[ka]at j k
 ·exact d rfl
 ·exact l x j x (.inl k) rfl
 ·exact l x j x (.inr k) rfl
 ·exact l x k x (.inl j) rfl
 ·exact d rfl
 ·exact m x j x k rfl
 ·exact l x k x (.inr j) rfl
 ·exact m x k x j rfl
 ·exact d rfl
theorem Rows.at (h:Rows w s f vs vg vq fs fg fq k i) (l:k<3) (q:i<(cM s k).length):
  ∃g cap ys,ka vs vg vq k=.slice (some ⟨g,0,none⟩) (cM s k).length cap∧ka fs fg fq k=[g]∧At w g (ints (uA f (cM s k) i)++ys)∧(ints (uA f (cM s k) i)++ys).length=cap:=by
 have m:=h k l;rcases m.2 with⟨_,b,_⟩|⟨g,cap,ys,T,b,o,d,j,r⟩
 ·omega
 ·have e:zH f s k i k=uA f (cM s k) i:=by unfold zH;rw[if_neg (by omega),if_pos rfl]
  rw[e]at d j;exact⟨g,cap,ys,b,o,⟨T,d⟩,by simpa using j⟩
theorem Rows.step {g cap:Nat} {ys:List Value} (m:(b::(fs++(fg++fq))).Nodup) (h:Rows w s f vs vg vq fs fg fq k i) (D:k<3) (z:i<(cM s k).length)
  (E:ka vs vg vq k=.slice (some ⟨g,0,none⟩) (cM s k).length cap) (d:ka fs fg fq k=[g]) (F:(ints (uA f (cM s k) i)++ys).length=cap)
  (j:At w' g ((ints (uA f (cM s k) i)++ys).set i (.int .i64 (f ((cM s k).getD i 0))))) (G: ∀x,x∈fs++(fg++fq)→x≠g→w'.heap[x]? =w.heap[x]?):Rows w' s f vs vg vq fs fg fq k (i+1):=by
 intro t B;by_cases e:t=k
 ·subst e;rw[ints_set ys (by rw[lD];exact z),BF f z]at j;rw[E,d];have o:zH f s t (i+1) t=uA f (cM s t) (i+1):=by unfold zH;rw[if_neg (by omega),if_pos rfl]
  rw[o];refine Sl.wH j (by rw[ax,lD]) ?_;rw[←F];simp[ax,lD]
 ·have C:=h t B;have o:zH f s k (i+1) t=zH f s k i t:=by unfold zH;simp[e]
  rw[o];refine⟨C.1,?_⟩;rcases C.2 with q|⟨r,l,u,T,q,y,H,I⟩
  ·exact .inl q
  ·refine .inr ⟨r,l,u,T,q,y,?_,I⟩;rw[G r (qL (t:=t) (by rw[y];simp)) (fun J=>It m B D e (x:=r) (by rw[y];simp) (by rw[d,J];simp))];exact H
theorem Rows.skip (h:Rows w s f vs vg vq fs fg fq k i) (b:f 0=0) (d:i<(cM s k).length) (j:(cM s k).getD i 0=0):Rows w s f vs vg vq fs fg fq k (i+1):=by
 intro t l;have e:zH f s k (i+1) t=zH f s k i t:=by
  unfold zH;by_cases e:t=k
  ·subst e;rw[if_neg (by omega),if_pos rfl,if_neg (by omega),if_pos rfl,FJ f b d j]
  ·simp[e]
 rw[e];exact h t l
theorem Rows.next (h:Rows w s f vs vg vq fs fg fq k (cM s k).length):Rows w s f vs vg vq fs fg fq (k+1) 0:=by
 intro t b;rw[←FN];exact h t b
theorem Mm (n:Nat) (h:n≤4611686018427387904):IntKind.i64.wrap ((n:Int).tdiv 16)=((n/16:Nat):Int):=by
 rw[Int.tdiv_eq_ediv_of_nonneg (by omega),show((n:Int)/16)=((n/16:Nat):Int) by omega,bU _ (by omega)]
theorem Mn (n:Nat):((n:Int).tmod 16)=((n%16:Nat):Int):=by
 rw[Int.tmod_eq_emod_of_nonneg (by omega)];omega
theorem lE (x y z a b c:Value):dU [x,y,z] 0 [a,b,c]=[a,b,c]:=Eq.trans rfl rfl
theorem Iu (v:Value):ko 16 v=some v:=Eq.trans rfl rfl
theorem FO {l rb : Nat} (hp : xI w b s vs vg vq fs fg fq) (EY : At w rb [.pointer (some ⟨b, 0, none⟩)]) (f : Int → Int) (hf0 : f 0 = 0)
    (J : List (PT × Int) → List Nat → World → Prop) (B : List Nat) (hB : ∀ x, x ∈ B → x < w.heap.size) (hJ0 : J [] [] w) (Y : ∀ pre F G U, J pre F G → ae [] G U → J pre F U)
    (hY : ∀ pre F k i g xs G, k < 3 → i < (cM s k).length → J pre F G → (∀ x, x ∈ F → w.heap.size ≤ x) → pre.length ≤ 300 → w.heap.size ≤ G.heap.size → ae B w G → g ∈ ka fs fg fq k → At G g xs → xs[i]? = some (.int .i64 ((cM s k).getD i 0)) → (cM s k).getD i 0 ≠ 0 →
      Ys Tryz.prog l [.agg ⟨eD (pl k i)⟩, .pointer (some ⟨g, i, none⟩)] G fun r U => r = .bool true ∧ (∃ F', J (pre ++ [(pl k i, (cM s k).getD i 0)]) F' U ∧ ∀ x, x ∈ F' → x ∈ F ∨ G.heap.size ≤ x) ∧ ae (B ++ F) G U ∧ At U g (xs.set i (.int .i64 (f ((cM s k).getD i 0)))) ∧
        ∀ R, R ∈ fs ++ (fg ++ fq) → R ≠ g → U.heap[R]? = G.heap[R]?) :
    Cs Tryz.prog 418 [.func (.yield l) #[] #[], .pointer (some ⟨rb, 0, none⟩)] w fun _ w' => (∃ F, J (filled s) F w' ∧ ∀ x, x ∈ F → w.heap.size ≤ x) ∧ ae B w w' ∧ Rows w' s f vs vg vq fs fg fq 3 0 := by
  refine en [2,5,8,11,14,17,20,23,26,29,32,35,44,40,41,0,2,5,8,11,14,17,20,23,26,29,32,37,38,41,0] ?_;refine gO ?_;refine aW [rb, b] ?_;have H := hp.ok;have D : ∀ k, (cM s k).length ≤ 64 := by
    intro k;have h1 := H.ls; have h2 := H.lg; have h3 := H.lq; have h4 := H.m4;unfold cM; split <;> omega
  refine aZ EY.cell hp.hb.cell ?_;have I : ∀ t, t < 3 → bh (ka vs vg vq t) = true := by
    intro t ht;obtain ⟨a, c, e⟩ := (hp.rows f t ht).val;rw [e]; rfl
  have Vl : bh vs = true := I 0 (by omega);have LS : bh vg = true := I 1 (by omega);have Vm : bh vq = true := I 2 (by omega);rw [ag Vl rfl];refine gO ?_;rw [ag LS rfl];refine gO ?_;rw [ag Vm rfl];refine gO ?_;refine yh fun u G aaV pf gz ja => ?_;have hd : w.drew.heap.size = w.heap.size := rfl;have Z : ae [] w G := ae.eh ja;refine ⟨.inr ((SB.refl _ _).only ja (fun x o => by
    simp only [List.mem_cons, List.not_mem_nil, or_false] at o;rcases o with rfl | rfl
    · exact ⟨EY.lt, by simp⟩
    · exact ⟨hp.hb.lt, by simp⟩)), ?_⟩
  refine gO ?_;have ND : w.heap.size ≤ u := by omega
  have P9 : u ∉ B := fun o => by have := hB _ o; omega
  have K : ∀ {t : Nat} {g : Env} {i : Nat}, g t = .int .i64 i → bw 3 t g = 3 - i := fun h => dM h;refine az (3 :: 4 :: 5 :: 6 :: 21 :: 22 :: 23 :: 24 :: 25 :: 26 :: 27 :: 28 :: 29 :: 30 :: 31 :: 32 :: 33 :: 34 :: 35 :: 36 :: 37 :: 38 :: 39 :: 40 :: 41 :: 42 :: 43 :: 44 :: 45 :: 46 :: 47 :: 48 :: 49 :: 50 :: 51 :: 52 :: 53 :: 54 :: 55 :: 56 :: 57 :: []) (fun g w' => ∃ k : Nat, g 21 = .int .i64 k ∧ k ≤ 3 ∧ (∃ F, J (FK s k) F w' ∧ u ∉ F ∧ ∀ x, x ∈ F → w.heap.size ≤ x) ∧ ae B w w' ∧ Rows w' s f vs vg vq fs fg fq k 0 ∧ At w' u [vs, vg, vq]) (fun g _ => bw 3 21 g)
    ⟨0, by simp only [go_sem]; rfl, by omega, ⟨[], Y _ _ _ _ (by simpa [FK] using hJ0) Z, by simp, by simp⟩, Z.of_nil, (hp.rows f).ab Z, gz⟩ fun g U hI pD => ?_
  obtain ⟨k, j, hk, ⟨F0, hJ, hF0, V⟩, ho, hR, xc⟩ := hI;have e3 : ((3 : Nat) : Int) = 3 := rfl;refine aZ j e3 ?_;refine cu (fun y => ?_) (fun tA => ?_);rotate_left
  · have : k = 3 := by have : ¬ ((k : Int) < 3) := by simpa using tA
                       omega
    subst this;refine gO ?_;refine ⟨⟨F0, ?_, V⟩, ho, hR⟩;rw [mr H];simpa [FK] using hJ
  have y : k < 3 := by have : (k : Int) < 3 := by simpa using y
                       omega
  have W : [vs, vg, vq][k]? = some (ka vs vg vq k) := by
    have : k = 0 ∨ k = 1 ∨ k = 2 := by omega
    rcases this with rfl | rfl | rfl <;> rfl
  have c1 : (0 : Int) ≤ (k : Int) ∧ (k : Int) < 3 := ⟨by omega, by omega⟩;obtain ⟨a4, c4, S⟩ := (hR k y).val;have aaW := D k;(repeat (first | with_reducible (first | refine Er ?_ | refine Es ?_ | refine Et ?_ | refine Eu ?_ | refine bA rfl ?_ | refine Jf ?_ | refine Jg ?_ | refine Jh ?_ | refine Ji ?_) | simp only [go_sem, j, e3, if_pos c1, c9, Nat.mul_one, xc.cell, W, S]));refine jb ?_;(repeat (first | with_reducible (first | refine Er ?_ | refine Es ?_ | refine Et ?_ | refine Eu ?_ | refine bA rfl ?_ | refine Jf ?_ | refine Jg ?_ | refine Jh ?_ | refine Ji ?_) | simp only [go_sem, j, e3, if_pos c1, c9, Nat.mul_one, xc.cell, W, S]));refine jb ?_;refine az (5 :: 6 :: 28 :: 29 :: 30 :: 31 :: 32 :: 33 :: 34 :: 35 :: 36 :: 37 :: 38 :: 39 :: 40 :: 41 :: 42 :: 43 :: 44 :: 45 :: 46 :: 47 :: 48 :: 49 :: 50 :: 51 :: 52 :: 53 :: 54 :: 55 :: 56 :: []) (fun R w' => ∃ i : Nat, R 28 = .int .i64 i ∧ i ≤ (cM s k).length ∧ (∃ F, J (FK s k ++ fl k ((cM s k).take i)) F w' ∧ u ∉ F ∧ ∀ x, x ∈ F → w.heap.size ≤ x) ∧ ae B w w' ∧ Rows w' s f vs vg vq fs fg fq k i ∧ At w' u [vs, vg, vq]) (fun R _ => bw (cM s k).length 28 R)
    ⟨0, by simp only [go_sem]; rfl, by omega, ⟨F0, by simpa [Ml] using hJ, hF0, V⟩, ho, hR, xc⟩ fun R w3 hI E => ?_
  obtain ⟨i, m, hi, ⟨F, T, hF, L⟩, gJ, S', X⟩ := hI;refine aQ m ?_;refine cu (fun d => ?_) (fun Vn => ?_);rotate_left
  · have : i = (cM s k).length := by have : ¬ (i < (cM s k).length) := by simpa using Vn
                                     omega
    subst this;refine aZ j (au k (by omega)) ?_;refine pD _ w3 ⟨k + 1, ?_, by omega, ?_, gJ, S'.next, X⟩ ?_
    · simp only [go_sem]
    · rw [FL s y]; rw [List.take_length] at T; exact ⟨F, T, hF, L⟩
    · rw [K j, K (i := k + 1) (by simp only [go_sem])]; omega
  have d : i < (cM s k).length := by simpa using d
  (repeat (first | with_reducible (first | refine Er ?_ | refine Es ?_ | refine Et ?_ | refine Eu ?_ | refine bA rfl ?_ | refine Jf ?_ | refine Jg ?_ | refine Jh ?_ | refine Ji ?_) | simp only [go_sem, m, j]));refine jb ?_;(repeat (first | with_reducible (first | refine Er ?_ | refine Es ?_ | refine Et ?_ | refine Eu ?_ | refine bA rfl ?_ | refine Jf ?_ | refine Jg ?_ | refine Jh ?_ | refine Ji ?_) | simp only [go_sem, m, j]));rw [ag rfl rfl];refine gO ?_;rw [ag rfl rfl];refine gO ?_;refine bp fun q w4 hq pk iH iV => ?_;refine gO ?_;refine dF iH rfl (by simp) (by simp [bh]) fun w5 qm M jv => ?_;rw [lE] at M;have Zz : ae [] w3 w5 := iV.trans jv fun x o => .inr (by simp only [aK] at o; omega);simp only [go_sem];refine run_seq ?_;refine bH (34 :: 35 :: 36 :: 37 :: 38 :: 39 :: 40 :: 41 :: []) (fun _ w' => ae [] w3 w' ∧ At w' q (eD (pl k i))) (fun kk jS => ?_) (fun g6 w6 hJ6 => ?_)
  · by_cases P' : k = 0
    · subst P';have b0 : ((0 : Nat) : Int) = 0 := rfl;refine k0 j m (cZ b0) @Iu (Mm i (by omega)) (Mn i) ?_;refine fJ M (by simp) rfl fun w6 oO N z => ?_;refine gO ?_;refine fJ N (by simp) rfl fun w7 uw O kB => ?_;refine gO ?_;refine jS _ w7 ⟨(Zz.trans z fun x o => .inr ?_).trans kB fun x o => .inr ?_, O⟩
      · simp only [aK] at o; omega
      · simp only [aK] at o; omega
    · refine cT j m (cU (show ¬ (k : Int) = 0 by omega)) ?_;refine jS _ w5 ⟨Zz, ?_⟩;have : pl k i = ((k : Int), 0, (i : Int)) := by unfold pl; rw [if_neg P']
      rw [this]; exact M
  obtain ⟨P, N⟩ := hJ6;have H7 := S'.ab P;obtain ⟨g, cap, ys, hv, DW, Q, Qa⟩ := H7.at y d;rw [S] at hv;cases hv;have Vo : (ints (uA f (cM s k) i) ++ ys)[i]? = some (.int .i64 ((cM s k).getD i 0)) := by
    rw [jI ys (by rw [lD]; exact d), BE f d]
  have rU : aC w6 ⟨q, 0, none⟩ 3 = some (eD (pl k i)) := ay N 0 3 (by simp [eD]);have c2 : (0 : Int) ≤ (i : Int) ∧ (i : Int) < ((cM s k).length : Int) := ⟨by omega, by omega⟩;have z : ae B w w6 := gJ.nil P;have C := X.ab P;have H2 : (FK s k ++ fl k ((cM s k).take i)).length ≤ 300 := by
    rw [cH];have h1 := AF s k;have h2 := ni k ((cM s k).take i);have h3 : ((cM s k).take i).length ≤ 64 := by rw [List.length_take]; omega
    have h4 : s.S.length ≤ 64 := D 0;have h5 : s.G.length ≤ 64 := D 1;have h6 : s.Q.length ≤ 64 := D 2;omega
  refine run_seq ?_;refine aW [g, q] ?_;by_cases hz : (cM s k).getD i 0 = 0
  · refine EM j m (eq_true c2) @Int.toNat_natCast @Nat.mul_one Q.cell Vo (dg hz) rU (au i (by omega)) ?_;refine E _ w6.drew ⟨i + 1, ?_, by omega, ?_, z.nil (ae.drew [] _), (H7.ab (ae.drew [] _)).skip hf0 d hz, C⟩ ?_
    · simp only [go_sem]
    · rw [BH k d, if_pos hz, List.append_nil]; exact ⟨F, Y _ _ _ _ T (P.nil (ae.drew [] _)), hF, L⟩
    · exact aJ m
  · refine Dx j m (eq_true c2) @Int.toNat_natCast @Nat.mul_one Q.cell Vo (eE hz) rU ?_;refine K4 (hY (FK s k ++ fl k ((cM s k).take i)) F k i g _ w6.drew y d (Y _ _ _ _ T (P.nil (ae.drew [] _))) L H2 (by have := z.size; exact this) (z.nil (ae.drew [] _)) (by rw [DW]; simp) Q Vo hz) ?_;rintro v w7 ⟨rfl, ⟨F', hJ7, zI⟩, ZA, O, Vp⟩;have hd6 : w6.drew.heap.size = w6.heap.size := rfl;have ZB := C.lt;have Vj := z.size;have Vq : u ∉ F' := fun o => (zI _ o).elim hF (fun h => by omega);have Vr : ∀ x, x ∈ F' → w.heap.size ≤ x := fun x o => (zI x o).elim (L x) (fun h => by omega);refine ⟨.inl rfl, ?_⟩;refine aZ m (au i (by omega)) ?_;refine E _ w7 ⟨i + 1, ?_, by omega, ?_, (z.nil (ae.drew [] _)).trans ZA (fun x o => (List.mem_append.1 o).imp id (L x)), ?_, (C.drew).keep ZA (by simp only [List.mem_append, not_or]; exact ⟨P9, hF⟩)⟩ ?_
    · simp only [go_sem]
    · rw [BH k d, if_neg hz, ← List.append_assoc]; exact ⟨F', hJ7, Vq, Vr⟩
    · exact (H7.ab (ae.drew [] _)).step hp.nd y d S DW Qa O Vp
    · exact aJ m
end Rt
end
section
namespace Rt
variable {fp:List Nat} {xs:List Value} {n:Nat} {v:Value} {w:World}
def gM (l:List PT):List Value:=l.flatMap eD
theorem rB (l:List PT):(gM l).length=l.length*3:=by induction l with
 |nil=>rfl
 |cons a l b=>simp only[gM,List.flatMap_cons,cH,List.length_cons]at b⊢;rw[b];simp[eD];omega
theorem rC (l m:List PT):gM (l++m)=gM l++gM m:=by simp[gM]
theorem yY {i:Nat} (h:xs[i]? =some v):xs.set i v=xs:=by
 apply List.ext_getElem?;intro k;rw[List.getElem?_set];split
 ·rename_i e;subst e;have b:=qK h;rw[if_pos b,h]
 ·rfl
theorem _root_.Go.Proofs.YthamnonkfepafaaGreat.Sl.C1 (w:World):Sl w 3 (.slice none 0 0) 0 [] []:=⟨rfl,.inl ⟨rfl,rfl,rfl⟩⟩
theorem _root_.Go.Proofs.YthamnonkfepafaaGreat.Sl.bh {sz:Nat} (h:Sl w sz v n xs fp):Go.Proofs.YthamnonkfepafaaGreat.bh v=true:=by
 obtain⟨a,c,e⟩:=h.val;rw[e];rfl
theorem kW {cs vs:List Value} {off:Nat} {r:List (Nat×Nat×Value)} (b:vs.length=n) (d:Nat.ble (off+n) cs.length=true):dQ cs ((off,n,.agg ⟨vs⟩)::r)=dQ (dU cs off vs) r:=by
 have j:(Value.agg ⟨vs⟩).cells.size=n∧off+n≤cs.length:=⟨by show(⟨vs⟩:Array Value).size=n;simpa using b,Nat.le_of_ble_eq_true d⟩;rw[dQ];exact if_pos j
theorem xd (x y z:Value) (p:PT):dU [x,y,z] 0 (eD p)=eD p:=Eq.trans rfl rfl
theorem JJ (w:World) (a:Option Addr):Cs Tryz.prog 345 [.pointer a] w fun v w'=>ae [] w w'∧ ∃d,v=.func (.func 418) #[] #[.pointer (some ⟨d,0,none⟩)]∧At w' d [.pointer a]∧w.heap.size≤d:=by
 refine en [] ?_;refine gO ?_;refine bp fun q l m k b j=>?_;refine gO ?_;exact⟨j,q,rfl,b,by omega⟩
theorem yt {a:Option Addr} {m:MO} (h:PR w a fp m):Cs Tryz.prog 194 [.pointer a] w fun v w'=>ae [] w w'∧ ∃W,Sl w' 3 v (eB m).length (gM (eB m)) W∧ ∀x,x∈W→w.heap.size≤x:=by
 refine kj rfl ?_;unfold eI;refine gO ?_;refine aH (iJ h) ?_
 match m,h with
 |none,_=>
  (repeat(first|with_reducible(first|refine nx ?_|refine bA rfl ?_)|simp only[go_sem,Option.isSome_none]));exact⟨ae.refl _ _,[],Sl.C1 w,by simp⟩
 |some s,⟨b,hb,vs,vg,vq,X,Y,Z,DW,hp⟩=>
  subst hb;(repeat(first|with_reducible(first|refine nx ?_|refine bA rfl ?_)|simp only[go_sem,Option.isSome_some]));refine bp fun r w1 ZC pf gz ja=>?_;refine gO ?_;refine aw (JJ w1 _) ?_;rintro v w2 ⟨O,rb,rfl,EY,Nt⟩;refine gO ?_;refine Bn (it:=418) (caps:=[.pointer (some ⟨rb,0,none⟩)]) rfl rfl (by simp only[go_sem]) (by kernel_rfl) fun D l w3 hD hl qt P lS Q=>?_;have Qb:ae [] w w3:=(ja.nil O).nil P;have Qc:=hp.ab Qb;have Vs:=hp.hb.lt;have JI:=O.size;have y: ∀x,x∈b::(X++(Y++Z))→x<w.heap.size:=(show PM w b s (b::(X++(Y++Z)))from⟨vs,vg,vq,X,Y,Z,rfl,hp⟩).lt;have Jr: ∀x,x∈[r,l]→w.heap.size≤x:=by
   intro x d;simp only[List.mem_cons,List.not_mem_nil,or_false]at d;rcases d with rfl|rfl<;>omega
  refine(FO Qc (EY.ab P) id rfl
   (fun pre F w'=>ey Tryz.prog bB l w' _ _ _ _ .ready D∧w'.heap[D]? =some (.deferred (some []))∧ ∃v,At w' r [v]∧Sl w' 3 v pre.length (gM (pre.map (·.1))) F)
   [r,l] ?_ ⟨Q,lS,_,(gz.ab O).ab P,Sl.C1 _⟩ ?_ ?_).mono ?_
  ·intro x d;simp only[List.mem_cons,List.not_mem_nil,or_false]at d;rcases d with rfl|rfl<;>omega
  ·rintro pre F T w5 ⟨I,J,v,U,V⟩ ho;exact⟨I.keep ho (by simp),by rw[ho.block D (Array.getElem?_eq_some_iff.1 J).1 (by simp)];exact J,v,U.ab ho,V.ab ho⟩
  ·rintro pre F k i g xs T hk hi ⟨I,J,v,U,V⟩ z H2 ND Qd hg Vt C2 DB;refine Em gP I rfl ?_;refine gO ?_;refine bp fun q w5 hq qm ky t=>?_;refine gO ?_;refine dF ky rfl (by simp[eD]) sH fun w6 oO K E=>?_;rw[xd]at K;refine gO ?_;have l1:=I.lt;have l2:=(Array.getElem?_eq_some_iff.1 J).1;have l4:=U.lt;have l5:=V.lt;have u:ae [] T w6:=t.trans E fun x d=>.inr (by simp only[aK]at d;omega);refine Bm (l:=l) rfl (I.keep u (by simp)) fun w7 uw G Ta=>?_;have hql:q≠l:=by omega
   have o:r≠l:=by omega
   have j: ∀x,x∈F→x≠l∧x≠r∧x≠D:=fun x d=>by have:=z x d;exact⟨by omega,by omega,by omega⟩
   have a7:At w7 q (eD (pl k i)):=K.keep G (by simpa using hql);have ZD:At w7 r [v]:=(U.ab u).keep G (by simpa using o);have k57:=(V.ab u).keep G (fun x d=>by simpa using(j x d).1);have rU:aC w7 ⟨q,0,none⟩ 3=some (eD (pl k i)):=ay a7 0 3 (by simp[eD]);refine aZ ZD.cell rU ?_;rw[kW (by simp[eD]) rfl,xd];refine gO ?_;refine eJ fun q8 w8 Ia Bu nK H=>?_;refine gO ?_;refine eM (k57.ab H) (bn.at nK (by simp[eD])) sH (by omega) (by omega) ?_;intro v' w9 F' Dz zI R _;have Mo:r∉F:=fun d=>(j r d).2.1 rfl;have Vu:=(ZD.ab H).keep R Mo;refine gO ?_;refine fJ Vu (by simp) Dz.bh fun rS Ah S B=>?_;refine gO ?_;have Jw:T.heap.size≤w8.heap.size:=by omega
   have L: ∀x,x∈F'→x∈F∨T.heap.size≤x:=by
    intro x d;rcases zI with rfl|rfl
    ·exact .inl d
    ·simp only[aK]at d;right;omega
   have M: ∀x,x∈F'→x≠l∧x≠r:=fun x d=>(L x d).elim (fun h=>⟨(j x h).1,(j x h).2.1⟩) (fun h=>⟨by omega,by omega⟩);have Vv:l∉F:=fun d=>(j l d).1 rfl;have Md:=(((Ta.keep H (by simp)).keep R Vv).keep B (by simpa using fun e:l=r=>o e.symm));refine tk (l:=l) rfl Md fun qx uz C Iv=>?_;have hO:ae ([r,l]++F) T qx:=by
    refine((((u.of_nil.same (G.mono ?_)).same H.of_nil).same (R.mono ?_)).same (B.mono ?_)).same (C.mono ?_)
    ·intro x d;simp only[aK]at d;subst d;exact .inl (by simp)
    ·intro x d;exact .inl (by simp[d])
    ·intro x d;simp only[aK]at d;subst d;exact .inl (by simp)
    ·intro x d;simp only[aK]at d;subst d;exact .inl (by simp)
   have N: ∀x,x∈b::(X++(Y++Z))→x∉ [r,l]++F:=fun x d Tb=>by
    have:=y x d;rcases List.mem_append.1 Tb with h1|h1
    ·have:=Jr x h1;omega
    ·have:=z x h1;omega
   have Tc:g∈b::(X++(Y++Z)):=by have:=qL hg;simp only[List.mem_cons];exact .inr this
   refine⟨rfl,⟨F',⟨Iv,?_,v',S.keep C (by simpa using o),?_⟩,L⟩,hO,?_,fun g' Qe _=>?_⟩
   ·rw[hO.block D l2 (by simp only[List.mem_append,List.mem_cons,List.not_mem_nil,or_false,not_or];exact⟨⟨by omega,by omega⟩,fun d=>(j D d).2.2 rfl⟩)];exact J
   ·have:=(Dz.keep B (fun x d=>by simpa using(M x d).2)).keep C (fun x d=>by simpa using(M x d).1);rw[List.map_append,rC,cH];simpa[gM]using this
   ·rw[show(id ((cM s k).getD i 0))=(cM s k).getD i 0 from rfl,yY C2];exact Vt.keep hO (N g Tc)
   ·exact hO.block g' (by have:=y g' (by simp only[List.mem_cons];exact .inr Qe);omega) (N g' (by simp only[List.mem_cons];exact .inr Qe))
  ·rintro _ T ⟨⟨F,⟨I,J,v,U,V⟩,z⟩,Qd,GS⟩;refine⟨I,fun w5 qm t=>?_⟩;have l1:=I.lt;have o:r≠l:=by omega
   have j: ∀x,x∈F→x≠l∧x≠r∧x≠D:=fun x d=>by have:=z x d;exact⟨by omega,by omega,by omega⟩
   have Vw:=U.keep t (by simpa using o);have Vx:=V.keep t (fun x d=>by simpa using(j x d).1);have Qf:w5.heap[D]? =some (.deferred (some [])):=by rw[t.block D (Array.getElem?_eq_some_iff.1 J).1 (by simp;omega)];exact J
   refine aQ Vw.cell ?_;refine uR Qf fun w6 oO E=>?_;refine gO ?_;have u:ae [] w w6:=by
    refine((Qb.trans Qd fun x d=>.inr (Jr x d)).trans t fun x d=>.inr ?_).trans E fun x d=>.inr ?_
    ·simp only[aK]at d;omega
    ·simp only[aK]at d;omega
   refine⟨u,F,?_,fun x d=>by have:=z x d;omega⟩;have:=Vx.keep E (fun x d=>by simpa using(j x d).2.2);simpa[eB]using this
end Rt
end
end Go.Proofs.YthamnonkfepafaaGreat
