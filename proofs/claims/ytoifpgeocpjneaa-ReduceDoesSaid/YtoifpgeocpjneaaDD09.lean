/-
  Contracts: fractions: size, Make, made, FromInt, Sign, cross, Cmp, Neg, Add, Sub.
  Conditions: none.
-/
import Derived.Test.YtoifpgeocpjneaaDD06
import Derived.Test.YtoifpgeocpjneaaDD07
import Derived.Test.YtoifpgeocpjneaaDD08
import Derived.KernelRfl
import Derived.Test.YtoifpgeocpjneaaDD04
set_option maxRecDepth 100000
set_option maxHeartbeats 4000000
set_option linter.unusedSimpArgs false
set_option linter.unusedVariables false
namespace Go.Vi
open Go.Proofs.Ytoifpgeocpjneaa.Ir
open Go.Proofs
def frS (q:Rat):SV:=.agg (encS sF (frE q))
def isF (x:Fra):Prop:=∃q k,x=frE q∧Sz k q∧k≤100000000
def mkF (s:Bool) (n d:Int):Rat:=mkRat (if s then -n else n) d.toNat
def r127:SCtr:=⟨41,Int,.one (codI .i64),fun n=> -9223372036854775808≤(show Int from n)∧(show Int from n)≤9223372036854775807,fun n=> .row (.i .u32) (natL ((show Int from n).natAbs:Int))⟩
theorem h127:Holds Try.prog r127:=by
 refine con (L:=[r128]) r127 F127 (fun _ _=> .look) (OwnOK.none _) (by simpa using h128) (by kernel_rfl) (by kernel_rfl) (fun _=>rfl) ?_
 intro(n:Int) h
 obtain⟨h0,h1⟩: -9223372036854775808≤n∧n≤9223372036854775807:=h
 refine vcOf (let z0:=decide (n<(0:Int));let z1:=(-(n+(1:Int))+(1:Int)) % (18446744073709551616:Int);let z2:=SId.i .u32;let z3:=SV.row z2 (natL (↑n.natAbs:Int));(z0=true→inR .i64 (n+(1:Int))∧inR .i64 (-(n+(1:Int)))∧inR .u64 (-(n+(1:Int)))∧((0:Int)≤z1∧z1<(18446744073709551616:Int))∧(SV.row z2 (natL z1)).same z3)∧(z0=false→inR .u64 n∧((0:Int)≤n∧n<(18446744073709551616:Int))∧(SV.row z2 (natL n)).same z3)) (by kernel_rfl) ?_
 simp only[vcs]
 refine⟨fun hn=>?_,fun hn=>?_⟩
 ·have e:(-(n+1)+1) % 18446744073709551616=(n.natAbs:Int):=by omega
  rw[e]
  exact⟨by omega,by omega,u64_in (by omega) (by omega),by omega,rfl⟩
 ·have e:(n.natAbs:Int)=n:=by omega
  rw[e]
  exact⟨u64_in (by omega) (by omega),by omega,rfl⟩
def r151:SCtr:=⟨58,Bool×(List Int×List Int),.cons codB (.cons (codR (.i .u32)) (.one (codR (.i .u32)))),fun a=>(Dig a.2.1∧Dig a.2.2)∧(a.2.1.length≤1000000000∧a.2.2.length≤1000000000)∧0<valN a.2.2,
 fun a=> .tup [frS (mkF a.1 (valN a.2.1) (valN a.2.2)),.si .i64 0]⟩
theorem h151:Holds Try.prog r151:=by
 refine con (L:=[r165g,r166g]) r151 F151 (fun _ _=> .look) (OwnOK.none _) (by simpa using⟨h165g,h166g⟩) (by kernel_rfl) (by kernel_rfl) (fun _=>rfl) ?_
 rintro⟨s,n,d⟩ ⟨⟨hn,hd⟩,⟨hln,hld⟩,d0⟩
 simp only at hn hd hln hld d0
 refine vcOf (let z0:=decide ((↑d.length:Int)=(0:Int));let z1:=SV.row (SId.i .i64) [];let z2:=frE (mkF s (valN n) (valN d));let z3:=SId.i .u32;let z4:=SV.tup [SV.agg [SV.sb z2.fst,SV.row z3 z2.snd.fst,SV.row z3 z2.snd.snd],SV.si .i64 0];let z5:=natL (gcdN (valN n) (valN d));let z6:=natL (valN n / valN z5);let z7:=[SV.row z3 z6,SV.row z3 (natL (valN d / valN z5))];let z8:=[SV.il .i64 0];(z0=true→(SV.tup [SV.agg [SV.bl false,z1,z1],SV.il .i64 8]).same z4)∧(z0=false→((Dig n∧Dig d)∧n.length≤1000000000∧d.length≤1000000000)∧((Dig n∧Dig z5)∧(n.length≤10000000000∧z5.length≤10000000000)∧(0:Int)<valN z5)∧((Dig d∧Dig z5)∧(d.length≤10000000000∧z5.length≤10000000000)∧(0:Int)<valN z5)∧(false=true→(SV.tup [SV.agg [SV.bl false,z1,z1],SV.il .i64 8]).same z4)∧(false=false→(false=true→(SV.tup [SV.agg [SV.bl false,z1,z1],SV.il .i64 8]).same z4)∧(false=false→(s=true→(SV.tup (SV.agg (SV.sb (decide ((0:Int)<(↑z6.length:Int)))::z7)::z8)).same z4)∧(s=false→(SV.tup (SV.agg (SV.bl false::z7)::z8)).same z4))))) (by kernel_rfl) ?_
 simp only[vcs]
 have n0:=val_nonneg hn
 have g0:0<gcdN (valN n) (valN d):=by
  unfold gcdN
  have:=Nat.gcd_pos_of_pos_right (valN n).toNat (show 0<(valN d).toNat by omega)
  omega
 have gle:gcdN (valN n) (valN d)≤valN d:=by
  unfold gcdN
  have:=Nat.gcd_le_right (valN n).toNat (show 0<(valN d).toNat by omega)
  omega
 have gdv:gcdN (valN n) (valN d)∣valN n:=by
  unfold gcdN
  have:=Nat.gcd_dvd_left (valN n).toNat (valN d).toNat
  have h2:=Int.natCast_dvd_natCast.2 this
  rwa [Int.toNat_of_nonneg n0] at h2
 obtain⟨a1,a2,a3⟩:=natL_ok (Int.le_of_lt g0)
 have hgl:=len_of a2 (trim_dig hd) a3 (by rw[a1,trim_val.1];exact gle)
 have htl:=@trim_len d
 have hq0:0≤valN n / gcdN (valN n) (valN d):=Int.ediv_nonneg n0 (Int.le_of_lt g0)
 obtain⟨b1,b2,b3⟩:=natL_ok hq0
 have hpos:(0<((natL (valN n / gcdN (valN n) (valN d))).length:Int))↔0<valN n:=by
  obtain⟨m,hm⟩:=gdv
  have hmm:valN n / gcdN (valN n) (valN d)=m:=by
   conv=>lhs;arg 1;rw[hm]
   rw[Int.mul_ediv_cancel_left _ (by omega)]
  rw[hmm] at b1 b2 b3 ⊢
  have hm0:0<valN n↔0<m:=by
   generalize gcdN (valN n) (valN d)=g at*
   rw[hm]
   constructor
   ·intro h
    by_cases h2:0<m
    ·exact h2
    ·have:=Int.mul_nonpos_of_nonneg_of_nonpos (Int.le_of_lt g0) (show m≤0 by omega)
     omega
   ·intro h;exact Int.mul_pos g0 h
  rw[hm0]
  constructor
  ·intro h
   by_cases hm:m=0
   ·rw[hm] at h;exact absurd h (by decide)
   ·omega
  ·intro h
   by_cases hl:(natL m).length=0
   ·rw[List.eq_nil_of_length_eq_zero hl] at b1
    simp only[valN] at b1
    omega
   ·omega
 have hd0:d.length≠0:=by
  intro h
  rw[List.eq_nil_of_length_eq_zero h] at d0
  exact absurd d0 (by decide)
 unfold mkF
 rw[frE_mk n0 d0,a1]
 simp only
 refine⟨fun h=>absurd h (by omega),fun _=>⟨⟨⟨hn,hd⟩,by omega,by omega⟩,⟨⟨hn,a2⟩,by omega,g0⟩,⟨⟨hd,a2⟩,by omega,g0⟩,?_⟩⟩
 have hb:decide (0<((natL (valN n / gcdN (valN n) (valN d))).length:Int))=decide (0<valN n):=by
  rw[decide_eq_decide];exact hpos
 refine⟨fun h=>absurd h (by decide),fun _=>⟨fun h=>absurd h (by decide),fun _=>⟨fun hs=>?_,fun hs=>?_⟩⟩⟩
 ·rw[hs,hb]
  rfl
 ·rw[hs]
  rfl
def r126:SCtr:=⟨40,Bool×(List Int×List Int),.cons codB (.cons (codR (.i .u32)) (.one (codR (.i .u32)))),fun a=>(Dig a.2.1∧Dig a.2.2)∧(a.2.1.length≤1000000000∧a.2.2.length≤1000000000)∧0<valN a.2.2,
 fun a=>frS (mkF a.1 (valN a.2.1) (valN a.2.2))⟩
theorem h126:Holds Try.prog r126:=by
 refine con (L:=[r151]) r126 F126 (fun _ _=> .look) (OwnOK.none _) (by simpa using h151) (by kernel_rfl) (by kernel_rfl) (fun _=>rfl) ?_
 rintro⟨s,n,d⟩ ⟨⟨hn,hd⟩,⟨hln,hld⟩,d0⟩
 simp only at hn hd hln hld d0
 refine vcOf (let z0:=frE (mkF s (valN n) (valN d));let z1:=SV.agg [SV.sb z0.fst,SV.row (SId.i .u32) z0.snd.fst,SV.row (SId.i .u32) z0.snd.snd];((Dig n∧Dig d)∧(n.length≤1000000000∧d.length≤1000000000)∧(0:Int)<valN d)∧z1.same z1) (by kernel_rfl) ?_
 simp only[vcs]
 exact⟨⟨hn,hd⟩,⟨hln,hld⟩,d0⟩
def r94:SCtr:=⟨28,Int,.one (codI .i64),fun n=> -9223372036854775808≤(show Int from n)∧(show Int from n)≤9223372036854775807,fun n=>frS ((show Int from n):Rat)⟩
theorem h94:Holds Try.prog r94:=by
 refine con (L:=[r127,r128,r126]) r94 F94 (fun _ _=> .look) (OwnOK.none _) (by simpa using⟨h127,h128,h126⟩) (by kernel_rfl) (by kernel_rfl) (fun _=>rfl) ?_
 intro(n:Int) h
 obtain⟨h0,h1⟩: -9223372036854775808≤n∧n≤9223372036854775807:=h
 refine vcOf (let z0:=natL (↑n.natAbs:Int);let z1:=natL (1:Int);let z2:=frE (mkF (decide (n<(0:Int))) (valN z0) (valN z1));let z3:=SId.i .u32;let z4:=frE (IntCast.intCast n);((-9223372036854775808:Int)≤n∧n≤(9223372036854775807:Int))∧((0:Int)≤(1:Int)∧(1:Int)<(18446744073709551616:Int))∧((Dig z0∧Dig z1)∧(z0.length≤1000000000∧z1.length≤1000000000)∧(0:Int)<valN z1)∧(SV.agg [SV.sb z2.fst,SV.row z3 z2.snd.fst,SV.row z3 z2.snd.snd]).same (SV.agg [SV.sb z4.fst,SV.row z3 z4.snd.fst,SV.row z3 z4.snd.snd])) (by kernel_rfl) ?_
 conv=>zeta
 obtain⟨a1,a2,a3⟩:=natL_ok (show(0:Int)≤(n.natAbs:Int) by omega)
 obtain⟨b1,b2,b3⟩:=natL_ok (show(0:Int)≤1 by omega)
 have l1:=natL_len (k:=2) (show(0:Int)≤(n.natAbs:Int) by omega) (by rw[show(4294967296:Int)^2=18446744073709551616 from rfl];omega)
 have l2:=natL_len (k:=1) (show(0:Int)≤1 by omega) (by decide)
 refine⟨⟨h0,h1⟩,⟨by omega,by omega⟩,⟨⟨a2,b2⟩,⟨by omega,by omega⟩,by omega⟩,?_⟩
 have e:mkF (decide (n<0)) (valN (natL (n.natAbs:Int))) (valN (natL 1))=IntCast.intCast n:=by
  rw[a1,b1]
  unfold mkF
  have h2:(if decide (n<0)=true then -(n.natAbs:Int) else(n.natAbs:Int))=n:=by
   by_cases h:n<0
   ·rw[if_pos (by simpa using h)];omega
   ·rw[if_neg (by simpa using h)];omega
  rw[h2]
  show mkRat n 1=_
  rw[Rat.mkRat_one]
 rw[e]
 rfl
def sgnQ (q:Rat):Int:=if q<0 then -1 else if 0<q then 1 else 0
def r99:SCtr:=⟨80,Fra,.one (codE sF),isF,fun x=> .si .i64 (sgnQ (valF x))⟩
theorem h99:Holds Try.prog r99:=by
 refine con (L:=[]) r99 F99 (fun _ _=> .look) (OwnOK.none _) (by simp) (by kernel_rfl) (by kernel_rfl) (fun _=>rfl) ?_
 intro(x:Fra) h
 obtain⟨q,k,rfl,hz,hk⟩:isF x:=h
 refine vcOf (let z0:=decide ((↑(List.length (frE q).snd.fst):Int)=(0:Int));let z1:=SV.si .i64 (sgnQ (valF (frE q)));(z0=true→(SV.il .i64 0).same z1)∧(z0=false→((frE q).fst=true→(SV.il .i64 (-1:Int)).same z1)∧((frE q).fst=false→(SV.il .i64 1).same z1))) (by kernel_rfl) ?_
 simp only[vcs]
 rw[valF_frE]
 have hl:((frE q).2.1.length:Int)=0↔q.num=0:=by
  unfold frE
  simp only
  obtain⟨a1,a2,a3⟩:=natL_ok (show(0:Int)≤(q.num.natAbs:Int) by omega)
  constructor
  ·intro h
   rw[List.eq_nil_of_length_eq_zero (by omega:(natL (q.num.natAbs:Int)).length=0)] at a1
   simp only[valN] at a1
   omega
  ·intro h
   rw[h]
   rfl
 have hf:(frE q).1=decide (q<0):=rfl
 have h0:=@Rat.num_nonneg q
 have hn:q<0↔q.num<0:=by
  rw[←Rat.not_le,←h0]
  omega
 have hp:0<q↔0<q.num:=by
  constructor
  ·intro h
   have h1:=h0.2 (Rat.le_of_lt h)
   by_cases hz:q.num=0
   ·have:=Rat.num_eq_zero.1 hz
    subst this
    exact absurd h (by decide)
   ·omega
  ·intro h
   have h1:=h0.1 (by omega)
   exact Rat.lt_of_le_of_ne h1 (fun he=>by rw[←he] at h;exact absurd h (by decide))
 rw[hl,hf]
 simp only[decide_eq_true_eq,decide_eq_false_iff_not]
 unfold sgnQ
 simp only[hn,hp]
 refine⟨fun h=>?_,fun h=>⟨fun h2=>?_,fun h2=>?_⟩⟩
 ·rw[if_neg (by omega),if_neg (by omega)]
 ·rw[if_pos h2]
 ·rw[if_neg h2,if_pos (by omega)]
def digF (x:Fra):Prop:=(Dig x.2.1∧Dig x.2.2)∧x.2.1.length≤100000000∧x.2.2.length≤100000000
def r131:SCtr:=⟨48,Fra×Fra,.cons (codE sF) (.one (codE sF)),fun a=>digF a.1∧digF a.2,fun a=> .tup [.row (.i .u32) (natL (valN a.1.2.1*valN a.2.2.2)),.row (.i .u32) (natL (valN a.2.2.1*valN a.1.2.2))]⟩
theorem h131:Holds Try.prog r131:=by
 refine con (L:=[r153]) r131 F131 (fun _ _=> .look) (OwnOK.none _) (by simpa using h153) (by kernel_rfl) (by kernel_rfl) (fun _=>rfl) ?_
 rintro⟨⟨s,n,d⟩,⟨s',n',d'⟩⟩ ⟨⟨⟨h1,h2⟩,h3,h4⟩,⟨⟨h5,h6⟩,h7,h8⟩⟩
 simp only at h1 h2 h3 h4 h5 h6 h7 h8
 refine vcOf (let z0:=SV.tup [SV.row (SId.i .u32) (natL (valN n*valN d')),SV.row (SId.i .u32) (natL (valN n'*valN d))];((Dig n∧Dig d')∧n.length≤100000000000∧d'.length≤100000000000)∧((Dig n'∧Dig d)∧n'.length≤100000000000∧d.length≤100000000000)∧z0.same z0) (by kernel_rfl) ?_
 simp only[vcs]
 refine⟨⟨⟨h1,h6⟩,by omega,by omega⟩,⟨⟨h5,h2⟩,by omega,by omega⟩⟩
theorem frS_eq {p q:Rat} (h:p=q):(SV.agg [.sb (frE p).1,.row (.i .u32) (frE p).2.1,.row (.i .u32) (frE p).2.2]).same (.agg [.sb (frE q).1,.row (.i .u32) (frE q).2.1,.row (.i .u32) (frE q).2.2]):=by subst h;rfl
theorem num_sgn (q:Rat):q.num=if decide (q<0) then -(q.num.natAbs:Int) else(q.num.natAbs:Int):=by
 have h0:=@Rat.num_nonneg q
 by_cases h:q<0
 ·rw[if_pos (by simpa using h)]
  have:¬0≤q.num:=fun h2=>Rat.not_le.2 h (h0.1 h2)
  omega
 ·rw[if_neg (by simpa using h)]
  have:=h0.2 (Rat.not_lt.1 h)
  omega
theorem frE_ok (q:Rat):(frE q).1=decide (q<0)∧(Dig (frE q).2.1∧Nrm (frE q).2.1∧valN (frE q).2.1=(q.num.natAbs:Int))∧(Dig (frE q).2.2∧Nrm (frE q).2.2∧valN (frE q).2.2=(q.den:Int)):=by
 obtain⟨a1,a2,a3⟩:=natL_ok (show(0:Int)≤(q.num.natAbs:Int) by omega)
 obtain⟨b1,b2,b3⟩:=natL_ok (show(0:Int)≤(q.den:Int) by omega)
 exact⟨rfl,⟨a2,a3,a1⟩,⟨b2,b3,b1⟩⟩
theorem frE_len {q:Rat} {k:Nat} (h:Sz k q):(frE q).2.1.length≤k∧(frE q).2.2.length≤k:=
 ⟨natL_len (by omega) h.1,natL_len (by omega) h.2⟩
theorem mkF_neg (q:Rat):mkF (!decide (q<0)) (q.num.natAbs:Int) (q.den:Int)= -q:=by
 unfold mkF
 have h:=num_sgn q
 have e:(if(!decide (q<0))=true then -(q.num.natAbs:Int) else(q.num.natAbs:Int))= -q.num:=by
  by_cases hq:q<0
  ·rw[if_pos (by simpa using hq)] at h
   rw[if_neg (by simpa using hq)]
   omega
  ·rw[if_neg (by simpa using hq)] at h
   rw[if_pos (by simpa using hq)]
   omega
 rw[e,Int.toNat_natCast]
 conv=>rhs;rw[←Rat.mkRat_self q]
 rw[Rat.neg_mkRat]
def r130:SCtr:=⟨88,Fra,.one (codE sF),isF,fun x=>frS (-(valF x))⟩
theorem h130:Holds Try.prog r130:=by
 refine con (L:=[r126]) r130 F130 (fun _ _=> .look) (OwnOK.none _) (by simpa using h126) (by kernel_rfl) (by kernel_rfl) (fun _=>rfl) ?_
 intro(x:Fra) h
 obtain⟨q,k,rfl,hz,hk⟩:isF x:=h
 refine vcOf (let z0:=(frE q).snd.fst;let z1:=(frE q).snd.snd;let z2:=frE (mkF (!(frE q).fst) (valN z0) (valN z1));let z3:=SId.i .u32;let z4:=(frE (-valF (frE q))).snd;((Dig z0∧Dig z1)∧(List.length z0≤1000000000∧List.length z1≤1000000000)∧(0:Int)<valN z1)∧(SV.agg [SV.sb z2.fst,SV.row z3 z2.snd.fst,SV.row z3 z2.snd.snd]).same (SV.agg [SV.sb (frE (-valF (frE q))).fst,SV.row z3 z4.fst,SV.row z3 z4.snd])) (by kernel_rfl) ?_
 conv=>zeta
 obtain⟨e1,⟨a2,a3,a1⟩,⟨b2,b3,b1⟩⟩:=frE_ok q
 obtain⟨l1,l2⟩:=frE_len hz
 have hd:=q.den_pos
 refine⟨⟨⟨a2,b2⟩,⟨by omega,by omega⟩,by omega⟩,frS_eq ?_⟩
 rw[valF_frE,e1,a1,b1]
 exact mkF_neg q
theorem mul_lt_pow {a b:Int} {i j:Nat} (a0:0≤a) (h1:a<4294967296^i) (h2:b<4294967296^j):a*b<4294967296^(i+j):=by
 rw[Int.pow_add]
 exact Int.lt_of_le_of_lt (Int.mul_le_mul_of_nonneg_left (Int.le_of_lt h2) a0) (Int.mul_lt_mul_of_pos_right h1 (pow_pos _))
theorem cross_ok {p q:Rat} {i j:Nat} (hp:Sz i p) (hq:Sz j q):∃X Y D:Int,valN (frE p).2.1*valN (frE q).2.2=X∧valN (frE q).2.1*valN (frE p).2.2=Y∧valN (frE p).2.2*valN (frE q).2.2=D∧0≤X∧0≤Y∧0<D∧
  (natL X).length≤i+j∧(natL Y).length≤i+j∧(natL (X+Y)).length≤i+j+1∧(natL (X - Y)).length≤i+j∧(natL (Y - X)).length≤i+j∧(natL D).length≤i+j∧p.num*q.den=(if decide (p<0) then -X else X)∧q.num*p.den=(if decide (q<0) then -Y else Y)∧((p.den*q.den:Nat):Int)=D:=by
 obtain⟨_,⟨_,_,a1⟩,⟨_,_,b1⟩⟩:=frE_ok p
 obtain⟨_,⟨_,_,a2⟩,⟨_,_,b2⟩⟩:=frE_ok q
 rw[a1,b1,a2,b2]
 have d1:=p.den_pos
 have d2:=q.den_pos
 have x1:=mul_lt_pow (a:=(p.num.natAbs:Int)) (by omega) hp.1 hq.2
 have x2:=mul_lt_pow (a:=(q.num.natAbs:Int)) (by omega) hq.1 hp.2
 rw[Nat.add_comm j i] at x2
 have x3:=mul_lt_pow (a:=(p.den:Int)) (by omega) hp.2 hq.2
 have y1:0≤(p.num.natAbs:Int)*q.den:=Int.mul_nonneg (by omega) (by omega)
 have y2:0≤(q.num.natAbs:Int)*p.den:=Int.mul_nonneg (by omega) (by omega)
 have y3:0<(p.den:Int)*q.den:=Int.mul_pos (by omega) (by omega)
 have s1:=num_sgn p
 have s2:=num_sgn q
 refine⟨_,_,_,rfl,rfl,rfl,y1,y2,y3,natL_len y1 x1,natL_len y2 x2,natL_len (by omega) ?_,?_,?_,natL_len (by omega) x3,?_,?_,by push_cast;rfl⟩
 ·rw[Int.pow_succ]
  omega
 ·by_cases h:(p.num.natAbs:Int)*q.den - (q.num.natAbs:Int)*p.den≤0
  ·rw[natL_neg h];simp
  ·exact natL_len (by omega) (by omega)
 ·by_cases h:(q.num.natAbs:Int)*p.den - (p.num.natAbs:Int)*q.den≤0
  ·rw[natL_neg h];simp
  ·exact natL_len (by omega) (by omega)
 ·conv=>lhs;rw[s1]
  split
  ·rw[Int.neg_mul]
  ·rfl
 ·conv=>lhs;rw[s2]
  split
  ·rw[Int.neg_mul]
  ·rfl
theorem add_mkF {p q:Rat} {s:Bool} {n D:Int} (hD:((p.den*q.den:Nat):Int)=D) (h:p.num*q.den+q.num*p.den=if s then -n else n):mkF s n D=p+q:=by
 rw[add_mk]
 unfold mkF
 rw[←h,←hD,Int.toNat_natCast]
theorem digF_ok {p:Rat} {k:Nat} (h:Sz k p) (hk:k≤100000000):digF (frE p):=by
 obtain⟨_,⟨a,_,_⟩,⟨b,_,_⟩⟩:=frE_ok p
 have:=frE_len h
 exact⟨⟨a,b⟩,by omega,by omega⟩
def cmpQ (p q:Rat):Int:=if p<q then -1 else if q<p then 1 else 0
def r97:SCtr:=⟨31,Fra×Fra,.cons (codE sF) (.one (codE sF)),fun a=>isF a.1∧isF a.2,fun a=> .si .i64 (cmpQ (valF a.1) (valF a.2))⟩
theorem h97:Holds Try.prog r97:=by
 refine con (L:=[r131,r132]) r97 F97 (fun _ _=> .look) (OwnOK.none _) (by simpa using⟨h131,h132⟩) (by kernel_rfl) (by kernel_rfl) (fun _=>rfl) ?_
 rintro⟨x,y⟩ ⟨⟨p,i,hx,hz,hi⟩,⟨q,j,hy,hw,hj⟩⟩
 simp only at hx hy
 subst hx hy
 refine vcOf (let z0:=(frE p).fst;let z1:=SV.si .i64 (cmpQ (valF (frE p)) (valF (frE q)));let z2:=natL (valN (frE q).snd.fst*valN (frE p).snd.snd);let z3:=natL (valN (frE p).snd.fst*valN (frE q).snd.snd);((!z0==(frE q).fst)=true→(z0=true→(SV.il .i64 (-1:Int)).same z1)∧(z0=false→(SV.il .i64 1).same z1))∧((!z0==(frE q).fst)=false→(digF (z0,(frE p).snd.fst,(frE p).snd.snd)∧digF ((frE q).fst,(frE q).snd.fst,(frE q).snd.snd))∧(z0=true→((Dig z2∧Dig z3)∧z2.length≤1000000000000∧z3.length≤1000000000000)∧(SV.si .i64 (cmpN (valN z2) (valN z3))).same z1)∧(z0=false→((Dig z3∧Dig z2)∧z3.length≤1000000000000∧z2.length≤1000000000000)∧(SV.si .i64 (cmpN (valN z3) (valN z2))).same z1))) (by kernel_rfl) ?_
 conv=>zeta
 obtain⟨e1,_,_⟩:=frE_ok p
 obtain⟨e2,_,_⟩:=frE_ok q
 obtain⟨X,Y,D,hX,hY,hD,X0,Y0,D0,l1,l2,l3,l4,l5,l6,n1,n2,n3⟩:=cross_ok hz hw
 obtain⟨c1,c2,c3⟩:=natL_ok X0
 obtain⟨c4,c5,c6⟩:=natL_ok Y0
 simp only[valF_frE,hX,hY,c1,c4,e1,e2]
 simp only[vcs]
 have hl:p<q↔p.num*q.den<q.num*p.den:=Rat.lt_iff p q
 have hl2:q<p↔q.num*p.den<p.num*q.den:=Rat.lt_iff q p
 have hp0:=@Rat.num_nonneg p
 have hq0:=@Rat.num_nonneg q
 have hc:∀{z:Int},(z=if p.num*q.den<q.num*p.den then -1 else if q.num*p.den<p.num*q.den then 1 else 0)→z=cmpQ p q:=fun h=>by
  unfold cmpQ
  simp only[hl,hl2]
  exact h
 have hXp:p<0→0<X:=fun h=>by
  rw[if_pos (by simpa using h)] at n1
  have h1:p.num<0:=by rw[←Rat.not_le,←hp0] at h;omega
  have:=Int.mul_neg_of_neg_of_pos h1 (show(0:Int)<q.den by have:=q.den_pos;omega)
  omega
 have hYq:q<0→0<Y:=fun h=>by
  rw[if_pos (by simpa using h)] at n2
  have h1:q.num<0:=by rw[←Rat.not_le,←hq0] at h;omega
  have:=Int.mul_neg_of_neg_of_pos h1 (show(0:Int)<p.den by have:=p.den_pos;omega)
  omega
 rw[n1,n2] at hc
 refine⟨fun hne=>⟨fun hp=>?_,fun hp=>?_⟩,fun he=>⟨⟨digF_ok hz hi,digF_ok hw hj⟩,fun hp=>⟨⟨⟨c5,c2⟩,by omega,by omega⟩,?_⟩,fun hp=>⟨⟨⟨c2,c5⟩,by omega,by omega⟩,?_⟩⟩⟩
 ·apply hc
  have hq:¬q<0:=fun hq=>by simp[hp,hq] at hne
  simp only[decide_eq_true_eq,hp,hq,if_true,if_false]
  have:=hXp hp
  rw[if_pos (by omega)]
 ·apply hc
  have hq:q<0:=by
   by_cases hq:q<0
   ·exact hq
   ·simp[hp,hq] at hne
  simp only[decide_eq_true_eq,hp,hq,if_true,if_false]
  have:=hYq hq
  rw[if_neg (by omega),if_pos (by omega)]
 ·apply hc
  have hq:q<0:=by
   by_cases hq:q<0
   ·exact hq
   ·simp[hp,hq] at he
  simp only[decide_eq_true_eq,hp,hq,if_true,if_false]
  simp only[Int.neg_lt_neg_iff]
  rfl
 ·apply hc
  have hq:¬q<0:=fun hq=>by simp[hp,hq] at he
  simp only[decide_eq_true_eq,hp,hq,if_true,if_false]
  rfl
def r129:SCtr:=⟨46,Fra×Fra,.cons (codE sF) (.one (codE sF)),fun a=>isF a.1∧isF a.2,fun a=>frS (valF a.1+valF a.2)⟩
theorem h129:Holds Try.prog r129:=by
 refine con (L:=[r131,r153,r154,r155,r126]) r129 F129 (fun _ _=> .look) (OwnOK.none _) (by simpa using⟨h131,h153,h154,h155,h126⟩) (by kernel_rfl) (by kernel_rfl) (fun _=>rfl) ?_
 rintro⟨x,y⟩ ⟨⟨p,i,hx,hz,hi⟩,⟨q,j,hy,hw,hj⟩⟩
 simp only at hx hy
 subst hx hy
 refine vcOf (let z0:=(frE p).fst;let z1:=(frE p).snd.snd;let z2:=(frE q).snd.snd;let z3:=natL (valN (frE p).snd.fst*valN z2);let z4:=natL (valN (frE q).snd.fst*valN z1);let z5:=natL (valN z3+valN z4);let z6:=natL (valN z1*valN z2);let z7:=frE (mkF z0 (valN z5) (valN z6));let z8:=SId.i .u32;let z9:=frE (valF (frE p)+valF (frE q));let z10:=SV.agg [SV.sb z9.fst,SV.row z8 z9.snd.fst,SV.row z8 z9.snd.snd];let z11:=decide (valN z4≤valN z3);let z12:=natL (valN z3 - valN z4);let z13:=frE (mkF z0 (valN z12) (valN z6));let z14:=natL (valN z4 - valN z3);let z15:=frE (mkF (frE q).fst (valN z14) (valN z6));(digF (z0,(frE p).snd.fst,z1)∧digF ((frE q).fst,(frE q).snd.fst,z2))∧((Dig z1∧Dig z2)∧List.length z1≤100000000000∧List.length z2≤100000000000)∧((z0==(frE q).fst)=true→((Dig z3∧Dig z4)∧z3.length≤100000000000∧z4.length≤100000000000)∧((Dig z5∧Dig z6)∧(z5.length≤1000000000∧z6.length≤1000000000)∧(0:Int)<valN z6)∧(SV.agg [SV.sb z7.fst,SV.row z8 z7.snd.fst,SV.row z8 z7.snd.snd]).same z10)∧((z0==(frE q).fst)=false→((Dig z3∧Dig z4)∧z3.length≤100000000000∧z4.length≤100000000000)∧(z11=true→((Dig z12∧Dig z6)∧(z12.length≤1000000000∧z6.length≤1000000000)∧(0:Int)<valN z6)∧(SV.agg [SV.sb z13.fst,SV.row z8 z13.snd.fst,SV.row z8 z13.snd.snd]).same z10)∧(z11=false→((Dig z4∧Dig z3)∧z4.length≤100000000000∧z3.length≤100000000000)∧((Dig z14∧Dig z6)∧(z14.length≤1000000000∧z6.length≤1000000000)∧(0:Int)<valN z6)∧(SV.agg [SV.sb z15.fst,SV.row z8 z15.snd.fst,SV.row z8 z15.snd.snd]).same z10))) (by kernel_rfl) ?_
 conv=>zeta
 obtain⟨e1,⟨u1,_,_⟩,⟨u2,_,_⟩⟩:=frE_ok p
 obtain⟨e2,⟨u3,_,_⟩,⟨u4,_,_⟩⟩:=frE_ok q
 obtain⟨m1,m2⟩:=frE_len hz
 obtain⟨m3,m4⟩:=frE_len hw
 obtain⟨X,Y,D,hX,hY,hD,X0,Y0,D0,l1,l2,l3,l4,l5,l6,n1,n2,n3⟩:=cross_ok hz hw
 obtain⟨c1,c2,c3⟩:=natL_ok X0
 obtain⟨c4,c5,c6⟩:=natL_ok Y0
 obtain⟨c7,c8,c9⟩:=natL_ok (Int.le_of_lt D0)
 obtain⟨s1,s2,s3⟩:=natL_ok (show 0≤X+Y by omega)
 simp only[valF_frE,hX,hY,hD,c1,c4,c7,s1,e1,e2]
 simp only[vcs]
 have fin:∀{s:Bool} {n:Int},(p.num*q.den+q.num*p.den=if s then -n else n)→(SV.agg [.sb (frE (mkF s n D)).1,.row (.i .u32) (frE (mkF s n D)).2.1,.row (.i .u32) (frE (mkF s n D)).2.2]).same (.agg [.sb (frE (p+q)).1,.row (.i .u32) (frE (p+q)).2.1,.row (.i .u32) (frE (p+q)).2.2]):=
  fun h=>frS_eq (add_mkF n3 h)
 rw[n1,n2] at fin
 refine⟨⟨digF_ok hz hi,digF_ok hw hj⟩,⟨⟨u2,u4⟩,by omega,by omega⟩,fun he=>⟨⟨⟨c2,c5⟩,by omega,by omega⟩,⟨⟨s2,c8⟩,⟨by omega,by omega⟩,D0⟩,fin ?_⟩,fun he=>⟨⟨⟨c2,c5⟩,by omega,by omega⟩,fun hle=>?_,fun hle=>?_⟩⟩
 ·by_cases hp:p<0<;>by_cases hq:q<0<;>simp[hp,hq] at he ⊢<;>omega
 ·obtain⟨t1,t2,t3⟩:=natL_ok (show 0≤X - Y by omega)
  rw[t1]
  refine⟨⟨⟨t2,c8⟩,⟨by omega,by omega⟩,D0⟩,fin ?_⟩
  by_cases hp:p<0<;>by_cases hq:q<0<;>simp[hp,hq] at he ⊢<;>omega
 ·obtain⟨t1,t2,t3⟩:=natL_ok (show 0≤Y - X by omega)
  rw[t1]
  refine⟨⟨⟨c5,c2⟩,by omega,by omega⟩,⟨⟨t2,c8⟩,⟨by omega,by omega⟩,D0⟩,fin ?_⟩
  by_cases hp:p<0<;>by_cases hq:q<0<;>simp[hp,hq] at he ⊢<;>omega
def r95:SCtr:=⟨84,Fra×Fra,.cons (codE sF) (.one (codE sF)),fun a=>isF a.1∧isF a.2,fun a=>frS (valF a.1 - valF a.2)⟩
theorem h95:Holds Try.prog r95:=by
 refine con (L:=[r130,r129]) r95 F95 (fun _ _=> .look) (OwnOK.none _) (by simpa using⟨h130,h129⟩) (by kernel_rfl) (by kernel_rfl) (fun _=>rfl) ?_
 rintro⟨x,y⟩ ⟨⟨p,i,hx,hz,hi⟩,⟨q,j,hy,hw,hj⟩⟩
 simp only at hx hy
 subst hx hy
 refine vcOf (let z0:=((frE q).fst,(frE q).snd.fst,(frE q).snd.snd);let z1:=((frE p).fst,(frE p).snd.fst,(frE p).snd.snd);let z2:=(frE (-valF z0)).snd;let z3:=((frE (-valF z0)).fst,z2.fst,z2.snd);let z4:=frE (valF z1+valF z3);let z5:=SId.i .u32;let z6:=frE (valF (frE p) - valF (frE q));isF z0∧(isF z1∧isF z3)∧(SV.agg [SV.sb z4.fst,SV.row z5 z4.snd.fst,SV.row z5 z4.snd.snd]).same (SV.agg [SV.sb z6.fst,SV.row z5 z6.snd.fst,SV.row z5 z6.snd.snd])) (by kernel_rfl) ?_
 conv=>zeta
 have hn:isF (frE (-q)):=⟨-q,j,rfl,sz_neg hw,hj⟩
 refine⟨⟨q,j,rfl,hw,hj⟩,⟨⟨p,i,rfl,hz,hi⟩,?_⟩,frS_eq ?_⟩
 ·have e:valF (frE q)=q:=valF_frE q
  show isF (frE (-valF (frE q)))
  rw[e]
  exact hn
 ·show valF (frE p)+valF (frE (-valF (frE q)))=valF (frE p) - valF (frE q)
  rw[valF_frE,valF_frE,valF_frE,Rat.sub_eq_add_neg]
def isG (x:Fra):Prop:=∃q k,x=frE q∧Sz k q∧k≤10000000
theorem isG.isF {x:Fra} (h:isG x):isF x:=by
 obtain⟨q,k,h1,h2,h3⟩:=h
 exact⟨q,k,h1,h2,by omega⟩
theorem val_pos {a:List Int} (h:Dig a) (hn:Nrm a) (hne:a≠[]):0<valN a:=by
 have:=val_nonneg h
 by_cases hz:valN a=0
 ·exact absurd (val_zero h hn hz) hne
 ·omega
def okF (x:Fra):Bool:=decide (frE (valF x)=x)
theorem gcdN_pos {n d:Int} (h:0<d):0<gcdN n d:=by
 unfold gcdN
 have:0<Nat.gcd n.toNat d.toNat:=Nat.gcd_pos_of_pos_right _ (by omega)
 omega
theorem okF_nrm {s:Bool} {n d:List Int} (h:okF (s,(n,d))=true):Nrm n∧Nrm d∧d≠[]:=by
 have h:=of_decide_eq_true h
 have h1:=natL_ok (show(0:Int)≤((valF (s,(n,d))).num.natAbs:Int) by omega)
 have h2:=natL_ok (show(0:Int)≤((valF (s,(n,d))).den:Int) by omega)
 have e1:natL ((valF (s,(n,d))).num.natAbs:Int)=n:=congrArg (fun x=>x.2.1) h
 have e2:natL ((valF (s,(n,d))).den:Int)=d:=congrArg (fun x=>x.2.2) h
 rw[e1] at h1
 rw[e2] at h2
 refine⟨h1.2.2,h2.2.2,fun hd=>?_⟩
 have h3:=h2.1
 rw[hd] at h3
 have:=(valF (s,(n,d))).den_pos
 simp only[valN] at h3
 rw[hd] at this
 omega
theorem okF_eq {s:Bool} {n d:List Int} (hn:Dig n) (hd:Dig d) (nn:Nrm n) (nd:Nrm d) (hd0:d≠[]):
  okF (s,(n,d))=if n=[] then !s&&decide (d=[1]) else decide (gcdN (valN n) (valN d)=1):=by
 have dp:=val_pos hd nd hd0
 have n0:=val_nonneg hn
 have hv:valF (s,(n,d))=mkRat (if s then -valN n else valN n) (valN d).toNat:=rfl
 have hm:=@frE_mk s (valN n) (valN d) n0 dp
 have gp:=@gcdN_pos (valN n) (valN d) dp
 unfold okF
 rw[hv,hm]
 by_cases h0:n=[]
 ·rw[if_pos h0,h0]
  have hg:gcdN (valN []) (valN d)=valN d:=by unfold gcdN;simp[valN];omega
  have e1:natL (valN d / gcdN (valN []) (valN d))=[1]:=by rw[hg,Int.ediv_self (by omega)];rfl
  have e2:natL (valN [] / gcdN (valN []) (valN d))=[]:=by
   have:valN []=0:=rfl
   rw[this,Int.zero_ediv];rfl
  rw[e1,e2]
  have e3:decide (0<valN [])=false:=rfl
  rw[e3,Bool.and_false]
  rw[Bool.eq_iff_iff,Bool.and_eq_true,decide_eq_true_eq,decide_eq_true_eq,Bool.not_eq_true']
  constructor
  ·intro h
   injection h with h1 h2
   injection h2 with h2 h3
   exact⟨h1.symm,h3.symm⟩
  ·rintro⟨h1,h2⟩
   rw[h1,h2]
 ·rw[if_neg h0]
  have np:=val_pos hn nn h0
  rw[decide_eq_true (show 0<valN n from np),Bool.and_true]
  rw[Bool.eq_iff_iff,decide_eq_true_eq,decide_eq_true_eq]
  constructor
  ·intro h
   injection h with h1 h2
   injection h2 with h2 h3
   have h4:=(natL_ok (show 0≤valN d / gcdN (valN n) (valN d) from Int.ediv_nonneg (by omega) (by omega))).1
   rw[h3] at h4
   by_cases h5:gcdN (valN n) (valN d)=1
   ·exact h5
   ·have:=Int.ediv_lt_self_of_pos_of_ne_one dp (by omega:gcdN (valN n) (valN d)≠1)
    omega
  ·intro h
   rw[h,Int.ediv_one,Int.ediv_one,natL_val hn nn,natL_val hd nd]
theorem nrm_of {l:List Int} (h:l.length=0∨nthD l (l.length - 1) 0≠0):Nrm l:=by
 rcases h with h|h
 ·rw[List.eq_nil_of_length_eq_zero h];trivial
 ·by_cases hl:l.length=0
  ·rw[List.eq_nil_of_length_eq_zero hl];trivial
  ·have h1:=take_snoc (a:=l) (n:=l.length - 1) (by omega)
   rw[show l.length - 1+1=l.length by omega,List.take_length] at h1
   rw[h1]
   exact nrm_snoc h
def nrmB (a:List Int):Bool:=decide (a.length=0)||decide (nthD a (a.length - 1) 0≠0)
theorem nrmB_iff {a:List Int}:nrmB a=true↔Nrm a:=by
 unfold nrmB
 rw[Bool.or_eq_true,decide_eq_true_eq,decide_eq_true_eq]
 constructor
 ·exact nrm_of
 ·intro h
  by_cases h0:a.length=0
  ·exact .inl h0
  ·right
   have h1:=take_snoc (a:=a) (n:=a.length - 1) (by omega)
   rw[show a.length - 1+1=a.length by omega,List.take_length] at h1
   have:∀{l:List Int} {x:Int},Nrm (l++[x])→x≠0:=by
    intro l x
    induction l with
    |nil=>intro h;exact h.1 rfl
    |cons d l ih=>intro h;exact ih h.2
   rw[h1] at h
   exact this h
theorem sgn_mul (p q:Rat):(if(!(decide (p<0)==decide (q<0)))=true then -((p.num.natAbs:Int)*(q.num.natAbs:Int)) else(p.num.natAbs:Int)*(q.num.natAbs:Int))=p.num*q.num:=by
 have h1:=num_sgn p
 have h2:=num_sgn q
 by_cases hp:p<0<;>by_cases hq:q<0<;>simp only[hp,hq,decide_true,decide_false,if_true,Bool.false_eq_true,if_false] at h1 h2<;>rw[h1,h2]<;>simp[hp,hq,Int.neg_mul,Int.mul_neg]
theorem mul_mkF (p q:Rat):mkF (!(decide (p<0)==decide (q<0))) ((p.num.natAbs:Int)*(q.num.natAbs:Int)) ((p.den:Int)*(q.den:Int))=p*q:=by
 unfold mkF
 rw[sgn_mul,show((p.den:Int)*(q.den:Int)).toNat=p.den*q.den by rw[←Int.natCast_mul,Int.toNat_natCast],Rat.mkRat_eq_div]
 have h1:(p.num:Rat) / (p.den:Rat)=p:=by rw[←Rat.mkRat_eq_div,Rat.mkRat_self]
 have h2:(q.num:Rat) / (q.den:Rat)=q:=by rw[←Rat.mkRat_eq_div,Rat.mkRat_self]
 have h3:(p.den:Rat)≠0:=by have:=p.den_nz;exact_mod_cast this
 have h4:(q.den:Rat)≠0:=by have:=q.den_nz;exact_mod_cast this
 rw[Rat.intCast_mul,Rat.natCast_mul]
 conv=>rhs;rw[←h1,←h2]
 grind
theorem div_mkF {p q:Rat} (hq0:q≠0):mkF (!(decide (p<0)==decide (q<0))) ((p.num.natAbs:Int)*(q.den:Int)) ((p.den:Int)*(q.num.natAbs:Int))=p / q:=by
 unfold mkF
 rw[show((p.den:Int)*(q.num.natAbs:Int)).toNat=p.den*q.num.natAbs by rw[←Int.natCast_mul,Int.toNat_natCast],Rat.mkRat_eq_div]
 have h1:(p.num:Rat) / (p.den:Rat)=p:=by rw[←Rat.mkRat_eq_div,Rat.mkRat_self]
 have h2:(q.num:Rat) / (q.den:Rat)=q:=by rw[←Rat.mkRat_eq_div,Rat.mkRat_self]
 have h3:(p.den:Rat)≠0:=by have:=p.den_nz;exact_mod_cast this
 have h4:(q.den:Rat)≠0:=by have:=q.den_nz;exact_mod_cast this
 have h5:=num_sgn p
 have h6:=num_sgn q
 have h7:(q.num:Rat)≠0:=fun h=>hq0 (by rw[←h2,h];grind)
 rw[Rat.natCast_mul]
 conv=>rhs;rw[←h1,←h2]
 have h8:((p.num.natAbs:Int):Rat)=(p.num.natAbs:Rat):=Rat.intCast_natCast _
 have h9:((q.num.natAbs:Int):Rat)=(q.num.natAbs:Rat):=Rat.intCast_natCast _
 have h10:((q.den:Int):Rat)=(q.den:Rat):=Rat.intCast_natCast _
 have h5':(p.num:Rat)=if decide (p<0)=true then -(p.num.natAbs:Rat) else(p.num.natAbs:Rat):=by
  rw[←h8];conv=>lhs;rw[h5]
  split
  ·rw[Rat.intCast_neg]
  ·rfl
 have h6':(q.num:Rat)=if decide (q<0)=true then -(q.num.natAbs:Rat) else(q.num.natAbs:Rat):=by
  rw[←h9];conv=>lhs;rw[h6]
  split
  ·rw[Rat.intCast_neg]
  ·rfl
 have hc:((if(!(decide (p<0)==decide (q<0)))=true then -((p.num.natAbs:Int)*(q.den:Int)) else(p.num.natAbs:Int)*(q.den:Int):Int):Rat)=if(!(decide (p<0)==decide (q<0)))=true then -((p.num.natAbs:Rat)*(q.den:Rat)) else(p.num.natAbs:Rat)*(q.den:Rat):=by
  split
  ·rw[Rat.intCast_neg,Rat.intCast_mul,h8,h10]
  ·rw[Rat.intCast_mul,h8,h10]
 rw[hc]
 generalize (p.num:Rat)=pn at*
 generalize (q.num:Rat)=qn at*
 generalize (p.num.natAbs:Rat)=pa at*
 generalize (q.num.natAbs:Rat)=qa at*
 generalize (p.den:Rat)=pd at*
 generalize (q.den:Rat)=qd at*
 by_cases hp:p<0<;>by_cases hq:q<0<;>simp only[hp,hq,decide_true,decide_false,if_true,Bool.false_eq_true,if_false,BEq.rfl,Bool.not_true,beq_iff_eq,reduceCtorEq] at h5' h6' ⊢<;>(try simp)<;>subst h5' h6'<;>grind
def r410:SCtr:=⟨83,Fra×Fra,.cons (codE sF) (.one (codE sF)),fun a=>isF a.1∧isF a.2,fun a=>frS (valF a.1*valF a.2)⟩
theorem h410:Holds Try.prog r410:=by
 refine con (L:=[r153,r126]) r410 F410 (fun _ _=> .look) (OwnOK.none _) (by simpa using⟨h153,h126⟩) (by kernel_rfl) (by kernel_rfl) (fun _=>rfl) ?_
 rintro⟨x,y⟩ ⟨⟨p,i,hx,hz,hi⟩,⟨q,j,hy,hw,hj⟩⟩
 simp only at hx hy
 subst hx hy
 refine vcOf (let z0:=(frE p).snd.fst;let z1:=(frE q).snd.fst;let z2:=(frE p).snd.snd;let z3:=(frE q).snd.snd;let z4:=natL (valN z0*valN z1);let z5:=natL (valN z2*valN z3);let z6:=frE (mkF (!(frE p).fst==(frE q).fst) (valN z4) (valN z5));let z7:=SId.i .u32;let z8:=frE (valF (frE p)*valF (frE q));((Dig z0∧Dig z1)∧List.length z0≤100000000000∧List.length z1≤100000000000)∧((Dig z2∧Dig z3)∧List.length z2≤100000000000∧List.length z3≤100000000000)∧((Dig z4∧Dig z5)∧(z4.length≤1000000000∧z5.length≤1000000000)∧(0:Int)<valN z5)∧(SV.agg [SV.sb z6.fst,SV.row z7 z6.snd.fst,SV.row z7 z6.snd.snd]).same (SV.agg [SV.sb z8.fst,SV.row z7 z8.snd.fst,SV.row z7 z8.snd.snd])) (by kernel_rfl) ?_
 conv=>zeta
 obtain⟨e1,⟨u1,_,v1⟩,⟨u2,_,v2⟩⟩:=frE_ok p
 obtain⟨e2,⟨u3,_,v3⟩,⟨u4,_,v4⟩⟩:=frE_ok q
 obtain⟨m1,m2⟩:=frE_len hz
 obtain⟨m3,m4⟩:=frE_len hw
 have d1:=p.den_pos
 have d2:=q.den_pos
 rw[v1,v2,v3,v4,e1,e2,valF_frE,valF_frE]
 have X0:0≤(p.num.natAbs:Int)*(q.num.natAbs:Int):=Int.mul_nonneg (by omega) (by omega)
 have D0:0<(p.den:Int)*(q.den:Int):=Int.mul_pos (by omega) (by omega)
 have l1:=natL_len X0 (mul_lt_pow (by omega) hz.1 hw.1)
 have l2:=natL_len (Int.le_of_lt D0) (mul_lt_pow (by omega) hz.2 hw.2)
 obtain⟨c1,c2,c3⟩:=natL_ok X0
 obtain⟨c7,c8,c9⟩:=natL_ok (Int.le_of_lt D0)
 rw[c1,c7]
 exact⟨⟨⟨u1,u3⟩,by omega,by omega⟩,⟨⟨u2,u4⟩,by omega,by omega⟩,⟨⟨c2,c8⟩,⟨by omega,by omega⟩,D0⟩,frS_eq (mul_mkF p q)⟩
def r416:SCtr:=⟨94,Fra×Fra,.cons (codE sF) (.one (codE sF)),fun a=>(isF a.1∧isF a.2)∧valF a.2≠0,fun a=> .tup [frS (valF a.1 / valF a.2),.si .i64 0]⟩
theorem h416:Holds Try.prog r416:=by
 refine con (L:=[r153,r151]) r416 F416 (fun _ _=> .look) (OwnOK.none _) (by simpa using⟨h153,h151⟩) (by kernel_rfl) (by kernel_rfl) (fun _=>rfl) ?_
 rintro⟨x,y⟩ ⟨⟨⟨p,i,hx,hz,hi⟩,⟨q,j,hy,hw,hj⟩⟩,hq0⟩
 simp only at hx hy hq0
 subst hx hy
 refine vcOf (let z0:=(frE p).snd.fst;let z1:=(frE q).snd.snd;let z2:=(frE p).snd.snd;let z3:=(frE q).snd.fst;let z4:=natL (valN z0*valN z1);let z5:=natL (valN z2*valN z3);let z6:=frE (mkF (!(frE p).fst==(frE q).fst) (valN z4) (valN z5));let z7:=SId.i .u32;let z8:=[SV.si .i64 0];let z9:=frE (valF (frE p) / valF (frE q));((Dig z0∧Dig z1)∧List.length z0≤100000000000∧List.length z1≤100000000000)∧((Dig z2∧Dig z3)∧List.length z2≤100000000000∧List.length z3≤100000000000)∧((Dig z4∧Dig z5)∧(z4.length≤1000000000∧z5.length≤1000000000)∧(0:Int)<valN z5)∧(SV.tup (SV.agg [SV.sb z6.fst,SV.row z7 z6.snd.fst,SV.row z7 z6.snd.snd]::z8)).same (SV.tup (SV.agg [SV.sb z9.fst,SV.row z7 z9.snd.fst,SV.row z7 z9.snd.snd]::z8))) (by kernel_rfl) ?_
 conv=>zeta
 rw[valF_frE] at hq0
 obtain⟨e1,⟨u1,_,v1⟩,⟨u2,_,v2⟩⟩:=frE_ok p
 obtain⟨e2,⟨u3,_,v3⟩,⟨u4,_,v4⟩⟩:=frE_ok q
 obtain⟨m1,m2⟩:=frE_len hz
 obtain⟨m3,m4⟩:=frE_len hw
 have d1:=p.den_pos
 have d2:=q.den_pos
 have d3:q.num≠0:=fun h=>hq0 (Rat.num_eq_zero.1 h)
 rw[v1,v2,v3,v4,e1,e2,valF_frE,valF_frE]
 have X0:0≤(p.num.natAbs:Int)*(q.den:Int):=Int.mul_nonneg (by omega) (by omega)
 have D0:0<(p.den:Int)*(q.num.natAbs:Int):=Int.mul_pos (by omega) (by omega)
 have l1:=natL_len X0 (mul_lt_pow (by omega) hz.1 hw.2)
 have l2:=natL_len (Int.le_of_lt D0) (mul_lt_pow (by omega) hz.2 hw.1)
 obtain⟨c1,c2,c3⟩:=natL_ok X0
 obtain⟨c7,c8,c9⟩:=natL_ok (Int.le_of_lt D0)
 rw[c1,c7,div_mkF hq0]
 exact⟨⟨⟨u1,u4⟩,by omega,by omega⟩,⟨⟨u2,u3⟩,by omega,by omega⟩,⟨⟨c2,c8⟩,⟨by omega,by omega⟩,D0⟩,rfl⟩
def r414:SCtr:=⟨92,List Int,.one (codR (.i .u32)),fun a=>Dig (show List Int from a)∧(show List Int from a).length≤1000000000,fun a=> .sb (nrmB a)⟩
theorem h414:Holds Try.prog r414:=by
 refine con (L:=[r152]) r414 F414 (fun _ _=> .look) (OwnOK.none _) (by simpa using h152) (by kernel_rfl) (by kernel_rfl) (fun _=>rfl) ?_
 rintro(a:List Int) h
 refine vcOf (a.length≤1000000000000∧(SV.sb (decide ((↑(trimN a).length:Int)=(↑a.length:Int)))).same (SV.sb (nrmB a))) (by kernel_rfl) ?_
 simp only[vcs]
 obtain⟨hd,hl⟩:Dig a∧a.length≤1000000000:=h
 refine⟨by omega,?_⟩
 cases hb:nrmB a with
 |true=>
  rw[trim_eq hd,natL_val hd (nrmB_iff.1 hb)]
  exact decide_eq_true rfl
 |false=>
  refine decide_eq_false fun h2=>?_
  have h3:trimN a=a:=by
   unfold trimN at h2 ⊢
   rw[List.length_take] at h2
   exact List.take_of_length_le (by omega)
  have h4:=(@trim_val a).2
  rw[h3] at h4
  rw[nrmB_iff.2 h4] at hb
  cases hb
def r415:SCtr:=⟨93,Fra,.one (codE sF),fun x=>x.2.1.length≤1000000000,fun x=> .agg [.sb x.1,.sb (decide (x.2.1=[]))]⟩
theorem h415:Holds Try.prog r415:=by
 refine con (L:=[]) r415 F415 (fun _ _=> .look) (OwnOK.none _) (by simp) (by kernel_rfl) (by kernel_rfl) (fun _=>rfl) ?_
 rintro⟨s,n,d⟩ h
 refine vcOf ((SV.agg [SV.sb s,SV.sb (decide ((↑n.length:Int)=(0:Int)))]).same (SV.agg [SV.sb s,SV.sb (decide (n=[]))])) (by kernel_rfl) ?_
 have e:decide ((n.length:Int)=0)=decide (n=[]):=by
  rw[decide_eq_decide]
  exact⟨fun h=>List.eq_nil_of_length_eq_zero (by omega),fun h=>by rw[h];rfl⟩
 rw[e]
 rfl
def r407:SCtr:=⟨79,Fra,.one (codE sF),fun x=>(Dig x.2.1∧Dig x.2.2)∧x.2.1.length≤1000000∧x.2.2.length≤1000000,fun x=> .sb (okF x)⟩
theorem h407:Holds Try.prog r407:=by
 refine con (L:=[r414,r415,r165g,r128,r132]) r407 F407 (fun _ _=> .look) (OwnOK.none _) (by simpa using⟨h414,h415,h165g,h128,h132⟩) (by kernel_rfl) (by kernel_rfl) (fun _=>rfl) ?_
 rintro⟨s,n,d⟩ ⟨⟨hn,hd⟩,hl1,hl2⟩
 refine vcOf (let z0:=SV.sb (okF (s,n,d));let z1:=decide ((↑d.length:Int)=(0:Int));let z2:=s==true&&(decide (n=[])==true&&true);let z3:=natL (gcdN (valN n) (valN d));let z4:=natL (1:Int);(Dig n∧n.length≤1000000000)∧((!nrmB n)=true→(SV.bl false).same z0)∧((!nrmB n)=false→(Dig d∧d.length≤1000000000)∧((!nrmB d)=true→(SV.bl false).same z0)∧((!nrmB d)=false→(z1=true→(SV.bl false).same z0)∧(z1=false→n.length≤1000000000∧(z2=true→(SV.bl false).same z0)∧(z2=false→((Dig n∧Dig d)∧n.length≤1000000000∧d.length≤1000000000)∧((0:Int)≤(1:Int)∧(1:Int)<(18446744073709551616:Int))∧((Dig z3∧Dig z4)∧z3.length≤1000000000000∧z4.length≤1000000000000)∧(SV.sb (decide (cmpN (valN z3) (valN z4)=(0:Int)))).same z0))))) (by kernel_rfl) ?_
 simp only[vcs]
 have hn:Dig n:=hn
 have hd:Dig d:=hd
 have hl1:n.length≤1000000:=hl1
 have hl2:d.length≤1000000:=hl2
 have nope:¬(Nrm n∧Nrm d∧d≠[])→false=okF (s,n,d):=fun h=>by
  cases hb:okF (s,n,d) with
  |false=>rfl
  |true=>exact absurd (okF_nrm hb) h
 have nil_of:∀{a:List Int},((a.length:Nat):Int)=0→a=[]:=fun h=>List.eq_nil_of_length_eq_zero (by omega)
 have ne_of:∀{a:List Int},¬((a.length:Nat):Int)=0→a≠[]:=fun h h2=>h (by rw[h2];rfl)
 refine⟨⟨hn,by omega⟩,fun h1=>nope fun h=>?_,fun h1=>⟨⟨hd,by omega⟩,fun h2=>nope fun h=>?_,fun h2=>⟨fun h3=>nope fun h=>h.2.2 (nil_of h3),fun h3=>⟨by omega,fun h4=>?_,fun h4=>?_⟩⟩⟩⟩
 ·have:=nrmB_iff.2 h.1
  rw[h1] at this
  cases this
 ·have:=nrmB_iff.2 h.2.1
  rw[h2] at this
  cases this
 all_goals
  have he:=okF_eq (s:=s) hn hd (nrmB_iff.1 h1) (nrmB_iff.1 h2) (ne_of h3)
  have dp:=val_pos hd (nrmB_iff.1 h2) (ne_of h3)
  have hg:=@gcdN_pos (valN n) (valN d) dp
  obtain⟨g1,g2,g3⟩:=natL_ok (show 0≤gcdN (valN n) (valN d) by omega)
  obtain⟨o1,o2,o3⟩:=natL_ok (show(0:Int)≤1 by omega)
  have gle:gcdN (valN n) (valN d)≤valN d:=by
   unfold gcdN
   have:=Nat.gcd_le_right (valN n).toNat (show 0<(valN d).toNat by omega)
   omega
  rw[he]
 ·simp only[beq_iff_eq,Bool.and_true,Bool.and_eq_true,decide_eq_true_eq] at h4
  rw[if_pos h4.2,h4.1]
  rfl
 ·have hgl:=len_of g2 hd g3 (by rw[g1];exact gle)
  refine⟨⟨⟨hn,hd⟩,by omega,by omega⟩,by omega,⟨⟨g2,o2⟩,by omega,by decide⟩,?_⟩
  rw[g1,o1]
  have hcm:(cmpN (gcdN (valN n) (valN d)) 1=0)=(gcdN (valN n) (valN d)=1):=by
   unfold cmpN
   apply propext
   constructor
   ·intro h
    split at h
    ·omega
    ·split at h<;>omega
   ·intro h
    rw[h]
    rfl
  simp only[hcm]
  by_cases hn0:n=[]
  ·rw[if_pos hn0]
   have hs:s=false:=by
    cases s with
    |false=>rfl
    |true=>exact absurd h4 (by simp[hn0])
   have hgd:gcdN (valN n) (valN d)=valN d:=by
    rw[hn0];unfold gcdN;simp[valN];omega
   rw[hgd,hs,Bool.not_false,Bool.true_and,decide_eq_decide]
   constructor
   ·intro h
    rw[←natL_val hd (nrmB_iff.1 h2),h]
    rfl
   ·intro h
    rw[h]
    rfl
  ·rw[if_neg hn0]
theorem sz_mul {p q:Rat} {i j:Nat} (hp:Sz i p) (hq:Sz j q):Sz (i+j) (p*q):=by
 rw[←mul_mkF]
 unfold mkF
 rw[sgn_mul]
 have d1:=p.den_pos
 have d2:=q.den_pos
 have D0:0<(p.den:Int)*(q.den:Int):=Int.mul_pos (by omega) (by omega)
 refine sz_mk (by omega) ?_ ?_
 ·rw[Int.natAbs_mul,Int.natCast_mul]
  exact mul_lt_pow (by omega) hp.1 hq.1
 ·rw[Int.toNat_of_nonneg (by omega)]
  exact mul_lt_pow (by omega) hp.2 hq.2
theorem sz_div {p q:Rat} {i j:Nat} (hp:Sz i p) (hq:Sz j q) (h0:q≠0):Sz (i+j) (p / q):=by
 rw[←div_mkF h0]
 unfold mkF
 have d1:=p.den_pos
 have d2:=q.den_pos
 have d3:q.num≠0:=fun h=>h0 (Rat.num_eq_zero.1 h)
 have D0:0<(p.den:Int)*(q.num.natAbs:Int):=Int.mul_pos (by omega) (by omega)
 have hX:=mul_lt_pow (a:=(p.num.natAbs:Int)) (by omega) hp.1 hq.2
 refine sz_mk (by omega) ?_ ?_
 ·have e:(if(!(decide (p<0)==decide (q<0)))=true then -((p.num.natAbs:Int)*(q.den:Int)) else(p.num.natAbs:Int)*(q.den:Int)).natAbs=((p.num.natAbs:Int)*(q.den:Int)).natAbs:=by
   split
   ·rw[Int.natAbs_neg]
   ·rfl
  rw[e]
  have X0:0≤(p.num.natAbs:Int)*(q.den:Int):=Int.mul_nonneg (by omega) (by omega)
  omega
 ·rw[Int.toNat_of_nonneg (by omega)]
  exact mul_lt_pow (by omega) hp.2 hq.1
theorem cmpR_pos {p q:Rat}:0<cmpQ p q↔q<p:=by
 unfold cmpQ
 split
 ·rename_i h;constructor<;>intro h2<;>first|omega|grind
 ·split
  ·rename_i h;exact⟨fun _=>h,fun _=>by omega⟩
  ·rename_i h;exact⟨fun h2=>by omega,fun h2=>absurd h2 h⟩
theorem cmpR_zero {p q:Rat}:cmpQ p q=0↔p=q:=by
 unfold cmpQ
 split
 ·rename_i h;constructor<;>intro h2<;>first|omega|grind
 ·split
  ·rename_i h;constructor<;>intro h2<;>first|omega|grind
  ·constructor<;>intro h2<;>first|rfl|grind
theorem cmpR_neg {p q:Rat}:cmpQ p q<0↔p<q:=by
 unfold cmpQ
 split
 ·rename_i h;exact⟨fun _=>h,fun _=>by omega⟩
 ·rename_i h
  split
  ·exact⟨fun h2=>by omega,fun h2=>absurd h2 h⟩
  ·exact⟨fun h2=>by omega,fun h2=>absurd h2 h⟩
theorem keys_nodup {p:Prob}:∀{l:List Off} {seen:List BKey},checkL p seen l=0→(l.map Off.key).Nodup∧∀x∈l,x.key∉seen
 |[],_,_=>by simp
 |o::r,seen,h=>by
  simp only[checkL] at h
  split at h
  ·rename_i h1;exact absurd h h1
  ·split at h
   ·cases h
   ·rename_i h1 h2
    obtain⟨k1,k2⟩:=keys_nodup h
    refine⟨?_,fun x hx=>?_⟩
    ·rw[List.map_cons,List.nodup_cons]
     refine⟨fun hm=>?_,k1⟩
     obtain⟨y,hy,he⟩:=List.mem_map.1 hm
     exact k2 y hy (by simp[he])
    ·rcases List.mem_cons.1 hx with rfl|hx
     ·exact h2
     ·exact fun hm=>k2 x hx (by simp[hm])
theorem nodup_of_map {α β:Type} (f:α→β):∀{l:List α},(l.map f).Nodup→l.Nodup
 |[],_=>by simp
 |x::l,h=>by
  rw[List.map_cons,List.nodup_cons] at h
  exact List.nodup_cons.2 ⟨fun hm=>h.1 (List.mem_map_of_mem hm),nodup_of_map f h.2⟩
theorem offers_nodup {p:Prob} (h:checkE p=0):p.offers.Nodup:=by
 unfold checkE at h
 split at h
 ·rename_i h1;exact absurd h h1
 ·exact nodup_of_map _ (keys_nodup h).1
structure BSt where
 at_:Sit
 rest:Int
 out:List Int
def stepB (p:Prob) (s:BSt) (i:Nat):BSt:=
 let x:=nthD p.offers i SId.off.dflt
 if bitI s.at_.members x.bidder≠0∧fitsAt p s.at_ x=true∧x.value+bestS p (nextAt p s.at_ x)=s.rest then⟨nextAt p s.at_ x,s.rest - x.value,s.out++[(i:Int)]⟩ else s
def startB (p:Prob) (m:Int):BSt:=⟨⟨m,p.supply,p.opn⟩,bestS p ⟨m,p.supply,p.opn⟩,[]⟩
def runB (p:Prob) (m:Int) (n:Nat):BSt:=(List.range n).foldl (stepB p) (startB p m)
theorem runB_succ {p:Prob} {m:Int} {n:Nat}:runB p m (n+1)=stepB p (runB p m n) n:=by
 unfold runB
 rw[List.range_succ,List.foldl_append]
 rfl
theorem nextOk {p:Prob} (hg:Good p) {a:Sit} (ha:SitOk a) {x:Off} (hx:x∈p.offers) (hb:bitI a.members x.bidder≠0) (hf:fitsAt p a x=true):SitOk (nextAt p a x):=by
 have hv:=hg.2.2.2.2 x hx
 have h8:=hg.1
 have hd:=(bit_del ha.1 ha.2.1 hv.1 (by omega)).2 hb
 simp only[fitsAt,Bool.and_eq_true] at hf
 exact⟨hd.1,hd.2.1,sub_ok ha.2.2.1 hv.2.2.1 hf.1,sub_ok ha.2.2.2 (out_ok hv.2.2.1) hf.2⟩
theorem runB_ok {p:Prob} (hg:Good p) {m:Int} (h0:0≤m) (h1:m<256):∀n,n≤p.offers.length→SitOk (runB p m n).at_∧(runB p m n).rest=bestS p (runB p m n).at_∧(runB p m n).out.length≤n
 |0,_=>⟨⟨h0,h1,hg.2.2.1,hg.2.2.2.1⟩,rfl,Nat.le_refl _⟩
 |n+1,hn=>by
  obtain⟨k1,k2,k3⟩:=runB_ok hg h0 h1 n (by omega)
  rw[runB_succ]
  unfold stepB
  simp only
  have hx:=nthD_mem (d:=SId.off.dflt) (show n<p.offers.length by omega)
  split
  ·rename_i hc
   refine⟨nextOk hg k1 hx hc.1 hc.2.1,?_,by simp;omega⟩
   simp only
   omega
  ·exact⟨k1,k2,by omega⟩
def FitS (p:Prob) (a:Sit) (L:List Off):Prop:=FitL p (memL a.members) a.left a.opn L
theorem mem_bit {m b:Int}:b∈memL m↔(0≤b∧b<8)∧bitI m b≠0:=by
 unfold memL
 rw[List.mem_filter,decide_eq_true_eq]
 constructor
 ·rintro⟨h1,h2⟩
  simp only[List.mem_cons,List.not_mem_nil,or_false] at h1
  exact⟨by omega,h2⟩
 ·rintro⟨h1,h2⟩
  refine⟨?_,h2⟩
  have:b=0∨b=1∨b=2∨b=3∨b=4∨b=5∨b=6∨b=7:=by omega
  rcases this with rfl|rfl|rfl|rfl|rfl|rfl|rfl|rfl<;>simp
theorem fitS_cons {p:Prob} (hg:Good p) {a:Sit} (ha:SitOk a) {x:Off} (hx:x∈p.offers) (hb:bitI a.members x.bidder≠0) (hf:fitsAt p a x=true) {L:List Off} (h:FitS p (nextAt p a x) L):FitS p a (x::L):=by
 have hv:=hg.2.2.2.2 x hx
 have h8:=hg.1
 have hd:=(bit_del ha.1 ha.2.1 hv.1 (by omega)).2 hb
 have hm:memL (nextAt p a x).members=(memL a.members).filter fun g=>decide (g≠x.bidder):=hd.2.2
 obtain⟨n1,n2,n3,n4⟩:=h
 rw[hm] at n2
 simp only[fitsAt,Bool.and_eq_true] at hf
 have w1:=Bun.le_iff.1 hf.1
 have w2:=Bun.le_iff.1 hf.2
 refine⟨?_,fun y hy=>?_,?_,?_⟩
 ·rw[List.map_cons,List.nodup_cons]
  refine⟨fun hh=>?_,n1⟩
  obtain⟨y,hy,he⟩:=List.mem_map.1 hh
  have:=(List.mem_filter.1 (n2 y hy).2).2
  simp only[decide_eq_true_eq] at this
  exact this he
 ·rcases List.mem_cons.1 hy with rfl|hy
  ·exact⟨hx,mem_bit.2 ⟨⟨hv.1,by omega⟩,hb⟩⟩
  ·exact⟨(n2 y hy).1,(List.mem_filter.1 (n2 y hy).2).1⟩
 ·have:=Bun.le_iff.1 n3
  rw[List.map_cons,sumB_cons,Bun.le_iff]
  simp only[Bun.add,Bun.sub,nextAt] at this ⊢
  omega
 ·have:=Bun.le_iff.1 n4
  rw[List.map_cons,sumB_cons,Bun.le_iff]
  simp only[Bun.add,Bun.sub,nextAt] at this ⊢
  omega
theorem taken {p:Prob} (hg:Good p) {m:Int} (h0:0≤m) (h1:m<256):∀n,n≤p.offers.length→IncR 0 n (runB p m n).out∧sumV (offsI p (runB p m n).out)+(runB p m n).rest=(startB p m).rest∧
  ∀L,FitS p (runB p m n).at_ L→FitS p (startB p m).at_ (offsI p (runB p m n).out++L)
 |0,_=>⟨⟨by simp[runB,startB],by simp[runB,startB]⟩,by simp[runB,startB,offsI,sumV],fun L h=>by simpa[runB,startB,offsI] using h⟩
 |n+1,hn=>by
  obtain⟨k1,k2,k3⟩:=runB_ok hg h0 h1 n (by omega)
  obtain⟨i1,i2,i3⟩:=taken hg h0 h1 n (by omega)
  have hx:=nthD_mem (d:=SId.off.dflt) (show n<p.offers.length by omega)
  rw[runB_succ]
  unfold stepB
  simp only
  split
  ·rename_i hcond
   obtain⟨c1,c2,c3⟩:=hcond
   have ho:offsI p ((runB p m n).out++[(n:Int)])=offsI p (runB p m n).out++[nthD p.offers n SId.off.dflt]:=by
    rw[offsI_append]
    congr 1
   refine⟨⟨?_,fun j hj=>?_⟩,?_,fun L hL=>?_⟩
   ·rw[List.pairwise_append]
    refine⟨i1.1,by simp,fun a ha b hb=>?_⟩
    rw[List.mem_singleton] at hb
    have:=i1.2 a ha
    omega
   ·rcases List.mem_append.1 hj with hj|hj
    ·have:=i1.2 j hj;omega
    ·rw[List.mem_singleton] at hj;omega
   ·simp only
    rw[ho,sumV_append]
    simp only[sumV]
    omega
   ·have:=i3 _ (fitS_cons hg k1 hx c1 c2 hL)
    rw[ho]
    simpa using this
  ·exact⟨⟨i1.1,fun j hj=>by have:=i1.2 j hj;omega⟩,i2,i3⟩
def wed (c:Nat→Rat):(List Nat→Rat)→List Nat→Rat
 |_,[]=>0
 |f,i::R=>c i*f R - wed c (fun l=>f (i::l)) R
theorem wed_zero {c:Nat→Rat}:∀{R:List Nat},wed c (fun _=>0) R=0
 |[]=>rfl
 |i::R=>by simp only[wed,wed_zero];grind
theorem wed_lin {c:Nat→Rat} {p q:Rat}:∀{R:List Nat} {f g:List Nat→Rat},wed c (fun l=>p*f l+q*g l) R=p*wed c f R+q*wed c g R
 |[],_,_=>by simp only[wed];grind
 |i::R,f,g=>by
  simp only[wed,@wed_lin c p q R]
  grind
theorem wed_lin1 {c d:Nat→Rat} {p q:Rat}:∀{R:List Nat} {f:List Nat→Rat},wed (fun i=>p*c i+q*d i) f R=p*wed c f R+q*wed d f R
 |[],_=>by simp only[wed];grind
 |i::R,f=>by
  simp only[wed,@wed_lin1 c d p q R]
  grind
theorem wed_sub {c:Nat→Rat} {p:Rat} {R:List Nat} {f g:List Nat→Rat}:wed c (fun l=>p*f l - g l) R=p*wed c f R - wed c g R:=by
 have:=@wed_lin c p (-1) R f g
 rw[show p*wed c f R - wed c g R=p*wed c f R+ -1*wed c g R by grind,←this]
 congr 1
 funext l
 grind
theorem wed_anti {a b:Nat→Rat}:∀{R:List Nat} {f:List Nat→Rat},wed a (wed b f) R= - wed b (wed a f) R
 |[],_=>by simp only[wed];grind
 |i::R,f=>by
  have e1:wed a (fun l=>wed b f (i::l)) R=b i*wed a f R - wed a (wed b fun l=>f (i::l)) R:=wed_sub
  have e2:wed b (fun l=>wed a f (i::l)) R=a i*wed b f R - wed b (wed a fun l=>f (i::l)) R:=wed_sub
  have h:=@wed_anti a b R fun l=>f (i::l)
  show a i*wed b f R - wed a (fun l=>wed b f (i::l)) R= -(b i*wed a f R - wed b (fun l=>wed a f (i::l)) R)
  rw[e1,e2,h]
  grind
theorem wed_self {a:Nat→Rat} {f:List Nat→Rat}:wed a (wed a f)=fun _=>0:=by
 funext R
 have:=@wed_anti a a R f
 grind
def detB (R:List Nat):Rat:=if R=[] then 1 else 0
def det (cs:List (Nat→Rat)):List Nat→Rat:=cs.foldr wed detB
theorem det_cons {c:Nat→Rat} {cs:List (Nat→Rat)}:det (c::cs)=wed c (det cs):=rfl
theorem det_mid {a:Nat→Rat}:∀{cs:List (Nat→Rat)} {f:List Nat→Rat},wed a (cs.foldr wed (wed a f))=fun _=>0
 |[],f=>wed_self
 |c::cs,f=>by
  funext R
  simp only[List.foldr_cons]
  rw[wed_anti,@det_mid a cs f,wed_zero]
  rfl
theorem fold_zero:∀{cs:List (Nat→Rat)},cs.foldr wed (fun _=>0)=fun _=>0
 |[]=>rfl
 |c::cs=>by
  rw[List.foldr_cons,fold_zero]
  funext R
  exact wed_zero
theorem det_eq {a:Nat→Rat} {p m q:List (Nat→Rat)}:det (p++a::(m++a::q))=fun _=>0:=by
 unfold det
 rw[List.foldr_append,List.foldr_cons,List.foldr_append,List.foldr_cons,det_mid,fold_zero]
theorem fold_lin {p q:Rat}:∀{cs:List (Nat→Rat)} {f g:List Nat→Rat} {R:List Nat},cs.foldr wed (fun l=>p*f l+q*g l) R=p*cs.foldr wed f R+q*cs.foldr wed g R
 |[],_,_,_=>rfl
 |c::cs,f,g,R=>by
  simp only[List.foldr_cons]
  rw[←wed_lin]
  congr 1
  funext l
  exact fold_lin
theorem det_lin {c d:Nat→Rat} {p q:Rat} {a b:List (Nat→Rat)} {R:List Nat}:det (a++(fun i=>p*c i+q*d i)::b) R=p*det (a++c::b) R+q*det (a++d::b) R:=by
 unfold det
 simp only[List.foldr_append,List.foldr_cons]
 rw[←fold_lin]
 have e:wed (fun i=>p*c i+q*d i) (List.foldr wed detB b)=fun l=>p*wed c (List.foldr wed detB b) l+q*wed d (List.foldr wed detB b) l:=by
  funext l
  exact wed_lin1
 rw[e]
def isZ (M:Nat) (q:Rat):Prop:=∃z:Int,q=(z:Rat)∧z.natAbs≤M
theorem wed_bd {c:Nat→Rat} {M K:Nat}:∀{R:List Nat} {f:List Nat→Rat},(∀i∈R,isZ M (c i))→(∀l,l.length+1=R.length→(∀i∈l,i∈R)→isZ K (f l))→isZ (R.length*(M*K)) (wed c f R)
 |[],_,_,_=>⟨0,by simp[wed],by simp⟩
 |i::R,f,hc,hf=>by
  simp only[wed,List.length_cons]
  obtain⟨y,h1,h1'⟩:=@wed_bd c M K R (fun l=>f (i::l)) (fun j hj=>hc j (by simp[hj])) fun l hl hs=>hf _ (by simp only[List.length_cons];omega) fun j hj=>by
   rcases List.mem_cons.1 hj with rfl|hj
   ·simp
   ·simp[hs j hj]
  obtain⟨u,h2,h2'⟩:=hc i (by simp)
  obtain⟨v,h3,h3'⟩:=hf R (by simp) fun j hj=>by simp[hj]
  refine⟨u*v - y,?_,?_⟩
  ·rw[h1,h2,h3,Rat.intCast_sub,Rat.intCast_mul]
  ·have h4:(u*v).natAbs≤M*K:=by
    rw[Int.natAbs_mul]
    exact Nat.mul_le_mul h2' h3'
   rw[Nat.succ_mul]
   omega
def facP (M:Nat):Nat→Nat
 |0=>1
 |n+1=>(n+1)*(M*facP M n)
theorem det_bd {M:Nat}:∀{cs:List (Nat→Rat)} {R:List Nat},cs.length=R.length→(∀c∈cs,∀i∈R,isZ M (c i))→isZ (facP M R.length) (det cs R)
 |[],R,hl,_=>by
  have:R=[]:=List.eq_nil_of_length_eq_zero (by simpa using hl.symm)
  subst this
  exact⟨1,by simp[det,detB],by simp[facP]⟩
 |c::cs,R,hl,hc=>by
  rw[det_cons]
  cases R with
  |nil=>simp at hl
  |cons i R=>
   simp only[List.length_cons,facP]
   refine wed_bd (hc c (by simp)) fun l hl2 hs=>?_
   simp only[List.length_cons] at hl hl2
   rw[show R.length=l.length by omega]
   exact det_bd (by omega) fun d hd j hj=>hc d (by simp[hd]) j (hs j hj)
def unitC (k:Nat):Nat→Rat:=fun i=>if i=k then 1 else 0
theorem wed_off {c:Nat→Rat}:∀{R:List Nat} {f:List Nat→Rat},(∀i∈R,c i=0)→wed c f R=0
 |[],_,_=>rfl
 |i::R,f,h=>by
  simp only[wed]
  rw[h i (by simp),wed_off fun j hj=>h j (by simp[hj])]
  grind
theorem det_unit:∀{R:List Nat},R.Nodup→det (R.map unitC) R=1
 |[],_=>by simp[det,detB]
 |i::R,h=>by
  rw[List.nodup_cons] at h
  rw[List.map_cons,det_cons]
  simp only[wed]
  rw[wed_off (c:=unitC i) (R:=R) fun j hj=>by
   unfold unitC
   rw[if_neg]
   rintro rfl
   exact h.1 hj]
  rw[det_unit h.2]
  unfold unitC
  rw[if_pos rfl]
  grind
def sumQ (n:Nat) (f:Nat→Rat):Rat:=match n with
 |0=>0
 |n+1=>sumQ n f+f n
theorem sumQ_congr:∀{n:Nat} {f g:Nat→Rat},(∀i,i<n→f i=g i)→sumQ n f=sumQ n g
 |0,_,_,_=>rfl
 |n+1,f,g,h=>by simp only[sumQ];rw[sumQ_congr fun i hi=>h i (by omega),h n (by omega)]
theorem sumQ_add:∀{n:Nat} {f g:Nat→Rat},sumQ n (fun i=>f i+g i)=sumQ n f+sumQ n g
 |0,_,_=>by simp only[sumQ];grind
 |n+1,f,g=>by simp only[sumQ];rw[sumQ_add];grind
theorem sumQ_mul {c:Rat}:∀{n:Nat} {f:Nat→Rat},sumQ n (fun i=>c*f i)=c*sumQ n f
 |0,_=>by simp only[sumQ];grind
 |n+1,f=>by simp only[sumQ];rw[sumQ_mul];grind
theorem sumQ_zero:∀{n:Nat},sumQ n (fun _=>0)=0
 |0=>rfl
 |n+1=>by simp only[sumQ];rw[sumQ_zero];grind
theorem sumQ_one {k:Nat} {x:Rat}:∀{n:Nat},sumQ n (fun i=>if i=k then x else 0)=if k<n then x else 0
 |0=>by simp[sumQ]
 |n+1=>by
  simp only[sumQ]
  rw[sumQ_one]
  by_cases h:n=k
  ·subst h;rw[if_neg (by omega),if_pos rfl,if_pos (by omega)];grind
  ·rw[if_neg h]
   by_cases h2:k<n
   ·rw[if_pos h2,if_pos (by omega)];grind
   ·rw[if_neg h2,if_neg (by omega)];grind
theorem sumQ_pick {n k:Nat} {f:Nat→Rat} (h:k<n):sumQ n f=f k+sumQ n fun i=>if i=k then 0 else f i:=by
 have h1:=@sumQ_one k (f k) n
 rw[if_pos h] at h1
 rw[←h1,←sumQ_add]
 refine sumQ_congr fun i _=>?_
 split
 ·rename_i h;subst h;grind
 ·grind
theorem det_sum {a b:List (Nat→Rat)} {R:List Nat} {y:Nat→Rat} {T:Nat→Nat→Rat}:∀{n:Nat},det (a++(fun i=>sumQ n fun k=>y k*T k i)::b) R=sumQ n fun k=>y k*det (a++T k::b) R
 |0=>by
  have e:(fun i:Nat=>sumQ 0 fun k=>y k*T k i)=fun i=>(0:Rat)*(fun _=>0) i+0*(fun _=>0) i:=by funext i;simp only[sumQ];grind
  rw[e,det_lin]
  simp only[sumQ]
  grind
 |n+1=>by
  have e:(fun i:Nat=>sumQ (n+1) fun k=>y k*T k i)=fun i=>(1:Rat)*(fun i=>sumQ n fun k=>y k*T k i) i+y n*T n i:=by
   funext i
   simp only[sumQ]
   grind
  rw[e,det_lin,det_sum]
  simp only[sumQ]
  grind
theorem cramer {C:List (Nat→Rat)} {R:List Nat} {y:Nat→Rat} {r:Nat} (hr:r<C.length):det (C.set r (fun i=>sumQ C.length fun k=>y k*(C.getD k (fun _=>0)) i)) R=y r*det C R:=by
 have split:∀c:Nat→Rat,C.set r c=C.take r++c::C.drop (r+1):=fun c=>by rw[List.set_eq_take_append_cons_drop,if_pos hr]
 rw[split,det_sum,sumQ_pick hr]
 have h1:∀k,k<C.length→(if k=r then(0:Rat) else y k*det (C.take r++C.getD k (fun _=>0)::C.drop (r+1)) R)=0:=by
  intro k hk
  split
  ·rfl
  ·rename_i hkr
   have hz:det (C.take r++C.getD k (fun _=>0)::C.drop (r+1)) R=0:=by
    have hg:C.getD k (fun _=>0)=C[k]:=by simp[List.getD,hk]
    rw[hg]
    rcases Nat.lt_or_gt_of_ne hkr with h|h
    ·have e1:C.take r=C.take k++C[k]::(C.drop (k+1)).take (r - (k+1)):=by
      have h2:C[k]::C.drop (k+1)=C.drop k:=List.getElem_cons_drop hk
      obtain⟨d,rfl⟩:∃d,r=k+(d+1):=⟨r - (k+1),by omega⟩
      rw[List.take_add,←h2,List.take_succ_cons,show k+(d+1) - (k+1)=d by omega]
     rw[e1,List.append_assoc,List.cons_append,det_eq]
    ·have e1:C.drop (r+1)=(C.drop (r+1)).take (k - (r+1))++C[k]::C.drop (k+1):=by
      have h2:C[k]::C.drop (k+1)=C.drop k:=List.getElem_cons_drop hk
      rw[h2]
      have h3:=List.take_append_drop (k - (r+1)) (C.drop (r+1))
      rw[List.drop_drop,show r+1+(k - (r+1))=k by omega] at h3
      exact h3.symm
     rw[e1,det_eq]
   rw[hz]
   grind
 rw[sumQ_congr h1,sumQ_zero]
 have h2:C.take r++C.getD r (fun _=>0)::C.drop (r+1)=C:=by
  have hg:C.getD r (fun _=>0)=C[r]:=by simp[List.getD,hr]
  rw[hg,List.getElem_cons_drop hr,List.take_append_drop]
 rw[h2]
 grind
structure Tb where
 coef:List (List Rat)
 bound:List Rat
 cost:List Rat
 value:Rat
 basic:List Int
 free:List Int
namespace Tb
def cf (t:Tb) (i j:Nat):Rat:=nthD (nthD t.coef i []) j 0
def bd (t:Tb) (i:Nat):Rat:=nthD t.bound i 0
def cs (t:Tb) (j:Nat):Rat:=nthD t.cost j 0
def bv (t:Tb) (i:Nat):Int:=nthD t.basic i 0
def fv (t:Tb) (j:Nat):Int:=nthD t.free j 0
structure WF (n m:Nat) (t:Tb):Prop where
 coef:t.coef.length=m
 row:∀i,i<m→(nthD t.coef i []).length=n
 bound:t.bound.length=m
 cost:t.cost.length=n
 basic:t.basic.length=m
 free:t.free.length=n
def holds (n m:Nat) (t:Tb) (x:Int→Rat) (z:Rat):Prop:=
 (∀i,i<m→x (t.bv i)+sumQ n (fun j=>t.cf i j*x (t.fv j))=t.bd i)∧z=t.value+sumQ n fun j=>t.cs j*x (t.fv j)
end Tb
def elimR (l:List Rat) (c:Nat) (p:List Rat):List Rat:=(List.range l.length).map fun j=>if j=c then -(nthD l c 0*nthD p j 0) else nthD l j 0 - nthD l c 0*nthD p j 0
def prowR (l:List Rat) (c:Nat):List Rat:=(List.range l.length).map fun j=>if j=c then 1 / nthD l c 0 else nthD l j 0*(1 / nthD l c 0)
def pivT (t:Tb) (r c:Nat):Tb where
 coef:=(List.range t.coef.length).map fun i=>if i=r then prowR (nthD t.coef r []) c else elimR (nthD t.coef i []) c (prowR (nthD t.coef r []) c)
 bound:=(List.range t.bound.length).map fun i=>if i=r then t.bd r*(1 / t.cf r c) else t.bd i - t.cf i c*(t.bd r*(1 / t.cf r c))
 cost:=elimR t.cost c (prowR (nthD t.coef r []) c)
 value:=t.value+t.cs c*(t.bd r*(1 / t.cf r c))
 basic:=t.basic.set r (t.fv c)
 free:=t.free.set c (t.bv r)
theorem nth_map {α:Type} {f:Nat→α} {n i:Nat} {d:α} (h:i<n):nthD ((List.range n).map f) i d=f i:=by
 rw[nthD_eq (by simpa using h)]
 simp
theorem nthT_set {α:Type} {l:List α} {r i:Nat} {x d:α} (h:r<l.length):nthD (l.set r x) i d=if i=r then x else nthD l i d:=by
 unfold nthD
 rw[List.getElem?_set]
 by_cases hi:r=i
 ·subst hi;simp[h]
 ·rw[if_neg hi,if_neg (fun h=>hi h.symm)]
section
variable {n m:Nat} {t:Tb} {r c:Nat}
theorem prow_len {l:List Rat}:(prowR l c).length=l.length:=by simp[prowR]
theorem elim_len {l p:List Rat}:(elimR l c p).length=l.length:=by simp[elimR]
theorem prow_nth {l:List Rat} {j:Nat} (h:j<l.length):nthD (prowR l c) j 0=if j=c then 1 / nthD l c 0 else nthD l j 0*(1 / nthD l c 0):=nth_map h
theorem elim_nth {l p:List Rat} {j:Nat} (h:j<l.length):nthD (elimR l c p) j 0=if j=c then -(nthD l c 0*nthD p j 0) else nthD l j 0 - nthD l c 0*nthD p j 0:=nth_map h
theorem piv_wf (h:t.WF n m):(pivT t r c).WF n m where
 coef:=by simp[pivT,h.coef]
 row i hi:=by
  simp only[pivT]
  rw[nth_map (by rw[h.coef];exact hi)]
  split
  ·rename_i e;subst e;rw[prow_len,h.row _ hi]
  ·rw[elim_len,h.row _ hi]
 bound:=by simp[pivT,h.bound]
 cost:=by simp only[pivT];rw[elim_len,h.cost]
 basic:=by simp[pivT,h.basic]
 free:=by simp[pivT,h.free]
theorem piv_cf (h:t.WF n m) (hr:r<m) (hc:c<n) {i j:Nat} (hi:i<m) (hj:j<n):(pivT t r c).cf i j=
  if i=r then(if j=c then 1 / t.cf r c else t.cf r j*(1 / t.cf r c)) else if j=c then -(t.cf i c*(1 / t.cf r c)) else t.cf i j - t.cf i c*(t.cf r j*(1 / t.cf r c)):=by
 unfold Tb.cf
 simp only[pivT]
 rw[nth_map (by rw[h.coef];exact hi)]
 split
 ·rw[prow_nth (by rw[h.row _ hr];exact hj)]
 ·rw[elim_nth (by rw[h.row _ hi];exact hj)]
  rw[prow_nth (by rw[h.row _ hr];exact hj)]
  split
  ·rfl
  ·rfl
theorem piv_bd (h:t.WF n m) {i:Nat} (hi:i<m):(pivT t r c).bd i=if i=r then t.bd r*(1 / t.cf r c) else t.bd i - t.cf i c*(t.bd r*(1 / t.cf r c)):=by
 show nthD _ i 0=_
 simp only[pivT]
 rw[nth_map (by rw[h.bound];exact hi)]
theorem piv_cs (h:t.WF n m) (hr:r<m) {j:Nat} (hj:j<n):(pivT t r c).cs j=if j=c then -(t.cs c*(1 / t.cf r c)) else t.cs j - t.cs c*(t.cf r j*(1 / t.cf r c)):=by
 show nthD _ j 0=_
 simp only[pivT]
 rw[elim_nth (by rw[h.cost];exact hj),prow_nth (by rw[h.row _ hr];exact hj)]
 split
 ·rfl
 ·rfl
theorem piv_bv (h:t.WF n m) (hr:r<m) {i:Nat}:(pivT t r c).bv i=if i=r then t.fv c else t.bv i:=nthT_set (by rw[h.basic];exact hr)
theorem piv_fv (h:t.WF n m) (hc:c<n) {j:Nat}:(pivT t r c).fv j=if j=c then t.bv r else t.fv j:=nthT_set (by rw[h.free];exact hc)
theorem piv_holds (h:t.WF n m) (hr:r<m) (hc:c<n) (ha:t.cf r c≠0) {x:Int→Rat} {z:Rat}:(pivT t r c).holds n m x z↔t.holds n m x z:=by
 have old:∀f:Nat→Rat,sumQ n (fun j=>f j*x (t.fv j))=f c*x (t.fv c)+sumQ n (fun j=>if j=c then 0 else f j*x (t.fv j)):=fun f=>sumQ_pick hc
 have new:∀f:Nat→Rat,sumQ n (fun j=>f j*x ((pivT t r c).fv j))=f c*x (t.bv r)+sumQ n (fun j=>if j=c then 0 else f j*x (t.fv j)):=fun f=>by
  rw[sumQ_pick hc,piv_fv h hc,if_pos rfl]
  congr 1
  refine sumQ_congr fun j _=>?_
  split
  ·rfl
  ·rename_i hj;rw[piv_fv h hc,if_neg hj]
 have er:sumQ n (fun j=>if j=c then 0 else(pivT t r c).cf r j*x (t.fv j))=(1 / t.cf r c)*sumQ n (fun j=>if j=c then 0 else t.cf r j*x (t.fv j)):=by
  rw[←sumQ_mul]
  refine sumQ_congr fun j hj=>?_
  split
  ·grind
  ·rename_i hjc
   rw[piv_cf h hr hc hr hj,if_pos rfl,if_neg hjc]
   grind
 have ei:∀f g:Nat→Rat,∀q:Rat,(∀j,j<n→j≠c→g j=f j - q*(t.cf r j*(1 / t.cf r c)))→sumQ n (fun j=>if j=c then 0 else g j*x (t.fv j))=sumQ n (fun j=>if j=c then 0 else f j*x (t.fv j))+(-(q*(1 / t.cf r c)))*sumQ n (fun j=>if j=c then 0 else t.cf r j*x (t.fv j)):=fun f g q hg=>by
  rw[←sumQ_mul,←sumQ_add]
  refine sumQ_congr fun j hj=>?_
  split
  ·grind
  ·rename_i hjc
   rw[hg j hj hjc]
   grind
 have hz:∀j,j<n→j≠c→(pivT t r c).cs j=t.cs j - t.cs c*(t.cf r j*(1 / t.cf r c)):=fun j hj hjc=>by rw[piv_cs h hr hj,if_neg hjc]
 have hfi:∀i,i<m→i≠r→∀j,j<n→j≠c→(pivT t r c).cf i j=t.cf i j - t.cf i c*(t.cf r j*(1 / t.cf r c)):=fun i hi hir j hj hjc=>by rw[piv_cf h hr hc hi hj,if_neg hir,if_neg hjc]
 have kz:=ei t.cs _ _ hz
 have qcs:=piv_cs (c:=c) h hr hc
 rw[if_pos rfl] at qcs
 have qcr:=piv_cf h hr hc hr hc
 rw[if_pos rfl,if_pos rfl] at qcr
 have qbr:=piv_bd (r:=r) (c:=c) h hr
 rw[if_pos rfl] at qbr
 have qvr:=piv_bv (c:=c) (i:=r) h hr
 rw[if_pos rfl] at qvr
 have qv:(pivT t r c).value=t.value+t.cs c*(t.bd r*(1 / t.cf r c)):=rfl
 unfold Tb.holds
 constructor
 ·rintro⟨h1,h2⟩
  have h3:=h1 r hr
  rw[new,er,qcr,qvr,qbr] at h3
  refine⟨fun i hi=>?_,?_⟩
  ·by_cases hir:i=r
   ·subst hir
    rw[old]
    grind
   ·have h4:=h1 i hi
    have e1:=piv_cf h hr hc hi hc
    rw[if_neg hir,if_pos rfl] at e1
    rw[new,ei _ _ _ (hfi i hi hir),piv_bv h hr,if_neg hir,piv_bd h hi,if_neg hir,e1] at h4
    rw[old]
    grind
  ·rw[new,kz,qcs,qv] at h2
   rw[old]
   grind
 ·rintro⟨h1,h2⟩
  have h3:=h1 r hr
  rw[old] at h3
  refine⟨fun i hi=>?_,?_⟩
  ·by_cases hir:i=r
   ·subst hir
    rw[new,er,qcr,qvr,qbr]
    grind
   ·have h4:=h1 i hi
    have e1:=piv_cf h hr hc hi hc
    rw[if_neg hir,if_pos rfl] at e1
    rw[new,ei _ _ _ (hfi i hi hir),piv_bv h hr,if_neg hir,piv_bd h hi,if_neg hir,e1]
    rw[old] at h4
    grind
  ·rw[new,kz,qcs,qv]
   rw[old] at h2
   grind
end
def sumL (f:Int→Rat):List Int→Rat
 |[]=>0
 |x::l=>f x+sumL f l
theorem sumL_app {f:Int→Rat}:∀{l k:List Int},sumL f (l++k)=sumL f l+sumL f k
 |[],k=>by simp only[List.nil_append,sumL];grind
 |x::l,k=>by simp only[List.cons_append,sumL,@sumL_app f l k];grind
theorem sumL_perm {f:Int→Rat} {l k:List Int} (h:l.Perm k):sumL f l=sumL f k:=by
 induction h with
 |nil=>rfl
 |cons x _ ih=>simp only[sumL,ih]
 |swap x y l=>simp only[sumL];grind
 |trans _ _ a b=>exact a.trans b
theorem sumQ_front:∀{n:Nat} {f:Nat→Rat},sumQ (n+1) f=f 0+sumQ n fun i=>f (i+1)
 |0,f=>by simp only[sumQ];grind
 |n+1,f=>by
  rw[sumQ,sumQ_front]
  simp only[sumQ]
  grind
theorem sumL_eq {f:Int→Rat}:∀{l:List Int},sumL f l=sumQ l.length fun k=>f (nthD l k 0)
 |[]=>rfl
 |x::l=>by
  rw[List.length_cons,sumQ_front,sumL,sumL_eq]
  rfl
def asg (n:Nat) (t:Tb) (y:Nat→Rat) (v:Int):Rat:=if v∈t.free then y (t.free.idxOf v) else t.bd (t.basic.idxOf v) - sumQ n fun j=>t.cf (t.basic.idxOf v) j*y j
section
variable {n m:Nat} {t t0:Tb} {r c:Nat}
theorem idx_nth {l:List Int} {i:Nat} (h:l.Nodup) (hi:i<l.length):l.idxOf (nthD l i 0)=i:=by
 rw[nthD_eq hi]
 exact h.idxOf_getElem i hi
theorem asg_free (h:t.WF n m) (hn:(t.basic++t.free).Nodup) {y:Nat→Rat} {j:Nat} (hj:j<n):asg n t y (t.fv j)=y j:=by
 have hl:j<t.free.length:=by rw[h.free];exact hj
 unfold asg Tb.fv
 rw[if_pos (by rw[nthD_eq hl];exact List.getElem_mem hl),idx_nth (List.nodup_append.1 hn).2.1 hl]
theorem bv_not (h:t.WF n m) (hn:(t.basic++t.free).Nodup) {i:Nat} (hi:i<m):t.bv i∉t.free:=fun hf=>by
 have hl:i<t.basic.length:=by rw[h.basic];exact hi
 unfold Tb.bv at hf
 rw[nthD_eq hl] at hf
 exact(List.nodup_append.1 hn).2.2 _ (List.getElem_mem hl) _ hf rfl
theorem asg_basic (h:t.WF n m) (hn:(t.basic++t.free).Nodup) {y:Nat→Rat} {i:Nat} (hi:i<m):asg n t y (t.bv i)=t.bd i - sumQ n fun j=>t.cf i j*y j:=by
 have hl:i<t.basic.length:=by rw[h.basic];exact hi
 have e:t.basic.idxOf (t.bv i)=i:=idx_nth (List.nodup_append.1 hn).1 hl
 unfold asg
 rw[if_neg (bv_not h hn hi),e]
theorem asg_holds (h:t.WF n m) (hn:(t.basic++t.free).Nodup) {y:Nat→Rat}:t.holds n m (asg n t y) (t.value+sumQ n fun j=>t.cs j*y j):=by
 have e:∀f:Nat→Rat,sumQ n (fun j=>f j*asg n t y (t.fv j))=sumQ n fun j=>f j*y j:=fun f=>sumQ_congr fun j hj=>by rw[asg_free h hn hj]
 refine⟨fun i hi=>?_,?_⟩
 ·rw[asg_basic h hn hi,e]
  grind
 ·rw[e]
def tcol (m:Nat) (t0:Tb) (v:Int) (i:Nat):Rat:=if i<m then(if v∈t0.free then t0.cf i (t0.free.idxOf v) else if t0.basic.idxOf v=i then 1 else 0) else 0
def bcol (m:Nat) (t0:Tb) (i:Nat):Rat:=if i<m then t0.bd i else 0
def detT (m:Nat) (t0 t:Tb):Rat:=det (t.basic.map (tcol m t0)) (List.range m)
structure Run (n m:Nat) (t0 t:Tb):Prop where
 wf0:t0.WF n m
 wf:t.WF n m
 nd:(t0.basic++t0.free).Nodup
 perm:(t.basic++t.free).Perm (t0.basic++t0.free)
 sol:∀x z,t.holds n m x z↔t0.holds n m x z
 dt:detT m t0 t≠0
theorem Run.nd1 (h:Run n m t0 t):(t.basic++t.free).Nodup:=h.perm.symm.nodup h.nd
theorem Run.refl (h:t0.WF n m) (hn:(t0.basic++t0.free).Nodup):Run n m t0 t0:=by
 refine⟨h,h,hn,List.Perm.refl _,fun _ _=>Iff.rfl,?_⟩
 have e:t0.basic.map (tcol m t0)=(List.range m).map unitC:=by
  refine List.ext_getElem (by simp[h.basic]) fun i h1 h2=>?_
  simp only[List.getElem_map,List.getElem_range]
  have hi:i<m:=by simpa using h2
  have hb:t0.basic[i]'(by simpa using h1)=t0.bv i:=by unfold Tb.bv;rw[nthD_eq (by simpa using h1)]
  rw[hb]
  funext k
  have e2:t0.basic.idxOf (t0.bv i)=i:=idx_nth (List.nodup_append.1 hn).1 (by simpa using h1)
  unfold tcol unitC
  rw[if_neg (bv_not h hn hi),e2]
  by_cases hk:k<m
  ·rw[if_pos hk]
   by_cases hik:i=k
   ·rw[if_pos hik,if_pos hik.symm]
   ·rw[if_neg hik,if_neg (fun h=>hik h.symm)]
  ·rw[if_neg hk,if_neg (by omega)]
 unfold detT
 rw[e,det_unit List.nodup_range]
 grind
theorem Run.rows (h:Run n m t0 t) {x:Int→Rat} {z:Rat} (hx:t.holds n m x z) {i:Nat}:sumQ m (fun k=>tcol m t0 (t.bv k) i*x (t.bv k))+sumQ n (fun j=>tcol m t0 (t.fv j) i*x (t.fv j))=bcol m t0 i:=by
 have key:∀t:Tb,t.WF n m→sumL (fun v=>tcol m t0 v i*x v) (t.basic++t.free)=sumQ m (fun k=>tcol m t0 (t.bv k) i*x (t.bv k))+sumQ n (fun j=>tcol m t0 (t.fv j) i*x (t.fv j)):=fun t ht=>by
  rw[sumL_app,sumL_eq,sumL_eq,ht.basic,ht.free]
  rfl
 rw[←key t h.wf,sumL_perm h.perm,key t0 h.wf0]
 have h0:=(h.sol x z).1 hx
 unfold bcol
 by_cases hi:i<m
 ·rw[if_pos hi,←h0.1 i hi]
  congr 1
  ·have e:sumQ m (fun k=>tcol m t0 (t0.bv k) i*x (t0.bv k))=sumQ m fun k=>if k=i then x (t0.bv i) else 0:=sumQ_congr fun k hk=>by
    have e2:t0.basic.idxOf (t0.bv k)=k:=idx_nth (List.nodup_append.1 h.nd).1 (by rw[h.wf0.basic];exact hk)
    unfold tcol
    rw[if_pos hi,if_neg (bv_not h.wf0 h.nd hk),e2]
    split
    ·rename_i e;subst e;grind
    ·grind
   rw[e,sumQ_one,if_pos hi]
  ·refine sumQ_congr fun j hj=>?_
   have hl:j<t0.free.length:=by rw[h.wf0.free];exact hj
   unfold tcol
   rw[if_pos hi,if_pos (by unfold Tb.fv;rw[nthD_eq hl];exact List.getElem_mem hl)]
   have e2:t0.free.idxOf (t0.fv j)=j:=idx_nth (List.nodup_append.1 h.nd).2.1 hl
   rw[e2]
 ·rw[if_neg hi]
  have e:∀v,tcol m t0 v i=0:=fun v=>by unfold tcol;rw[if_neg hi]
  simp only[e]
  rw[sumQ_congr (g:=fun _=>0) fun k _=>by grind,sumQ_zero,sumQ_congr (g:=fun _=>0) fun k _=>by grind,sumQ_zero]
  grind
theorem Run.bsum (h:Run n m t0 t):bcol m t0=fun i=>sumQ m fun k=>t.bd k*tcol m t0 (t.bv k) i:=by
 funext i
 have h1:=h.rows (i:=i) (asg_holds h.wf h.nd1 (y:=fun _=>0))
 rw[←h1,sumQ_congr (n:=n) (g:=fun _=>0) fun j hj=>by rw[asg_free h.wf h.nd1 hj];grind,sumQ_zero,sumQ_congr (n:=m) (g:=fun k=>t.bd k*tcol m t0 (t.bv k) i) fun k hk=>by
  rw[asg_basic h.wf h.nd1 hk,sumQ_congr (g:=fun _=>0) fun j _=>by grind,sumQ_zero]
  grind]
 grind
theorem Run.csum (h:Run n m t0 t) {c:Nat} (hc:c<n):tcol m t0 (t.fv c)=fun i=>sumQ m fun k=>t.cf k c*tcol m t0 (t.bv k) i:=by
 funext i
 have h0:=congrFun h.bsum i
 have h1:=h.rows (i:=i) (asg_holds h.wf h.nd1 (y:=fun j=>if j=c then 1 else 0))
 rw[sumQ_congr (n:=n) (g:=fun j=>if j=c then tcol m t0 (t.fv c) i else 0) fun j hj=>by
  rw[asg_free h.wf h.nd1 hj]
  split
  ·rename_i e;subst e;grind
  ·grind,sumQ_one,if_pos hc,sumQ_congr (n:=m) (g:=fun k=>t.bd k*tcol m t0 (t.bv k) i+(-1)*(t.cf k c*tcol m t0 (t.bv k) i)) fun k hk=>by
   rw[asg_basic h.wf h.nd1 hk,sumQ_congr (g:=fun j=>if j=c then t.cf k c else 0) fun j _=>by
    split
    ·rename_i e;subst e;grind
    ·grind,sumQ_one,if_pos hc]
   grind,sumQ_add,sumQ_mul] at h1
 grind
theorem getD_map {l:List Int} {f:Int→Nat→Rat} {k:Nat} (h:k<l.length):(l.map f).getD k (fun _=>0)=f (nthD l k 0):=by
 rw[nthD_eq h]
 simp[List.getD,h]
theorem Run.cram (h:Run n m t0 t) {y:Nat→Rat} {r:Nat} (hr:r<m):det ((t.basic.map (tcol m t0)).set r fun i=>sumQ m fun k=>y k*tcol m t0 (t.bv k) i) (List.range m)=y r*detT m t0 t:=by
 have hl:(t.basic.map (tcol m t0)).length=m:=by rw[List.length_map,h.wf.basic]
 have h1:=@cramer (t.basic.map (tcol m t0)) (List.range m) y r (by rw[hl];exact hr)
 unfold detT
 rw[←h1,hl]
 congr 2
 funext i
 refine sumQ_congr fun k hk=>?_
 rw[getD_map (by rw[h.wf.basic];exact hk)]
 rfl
theorem Run.cramC (h:Run n m t0 t) {r c:Nat} (hr:r<m) (hc:c<n):det ((t.basic.map (tcol m t0)).set r (tcol m t0 (t.fv c))) (List.range m)=t.cf r c*detT m t0 t:=by
 rw[h.csum hc]
 exact h.cram (y:=fun k=>t.cf k c) hr
theorem Run.cramB (h:Run n m t0 t) {r:Nat} (hr:r<m):det ((t.basic.map (tcol m t0)).set r (bcol m t0)) (List.range m)=t.bd r*detT m t0 t:=by
 rw[h.bsum]
 exact h.cram (y:=t.bd) hr
theorem set_perm {l:List Int} {r:Nat} {x:Int} (hr:r<l.length):(l.set r x).Perm (x::(l.take r++l.drop (r+1))):=by
 rw[List.set_eq_take_append_cons_drop,if_pos hr]
 exact List.perm_middle
theorem get_perm {l:List Int} {r:Nat} (hr:r<l.length):(l[r]::(l.take r++l.drop (r+1))).Perm l:=by
 have h:=@set_perm l r l[r] hr
 rw[List.set_getElem_self] at h
 exact h.symm
theorem swap_perm {l k:List Int} {r c:Nat} (hr:r<l.length) (hc:c<k.length):(l.set r (nthD k c 0)++k.set c (nthD l r 0)).Perm (l++k):=by
 rw[nthD_eq hr,nthD_eq hc]
 refine((set_perm hr).append (set_perm hc)).trans ?_
 refine List.Perm.trans ?_ ((get_perm hr).append (get_perm hc))
 simp only[List.cons_append]
 refine(List.Perm.cons _ List.perm_middle).trans ?_
 refine(List.Perm.swap _ _ _).trans ?_
 exact(List.Perm.cons _ List.perm_middle.symm)
theorem Run.piv (h:Run n m t0 t) {r c:Nat} (hr:r<m) (hc:c<n) (ha:t.cf r c≠0):Run n m t0 (pivT t r c) where
 wf0:=h.wf0
 wf:=piv_wf h.wf
 nd:=h.nd
 perm:=(swap_perm (by rw[h.wf.basic];exact hr) (by rw[h.wf.free];exact hc)).trans h.perm
 sol x z:=(piv_holds h.wf hr hc ha).trans (h.sol x z)
 dt:=by
  have e:detT m t0 (pivT t r c)=t.cf r c*detT m t0 t:=by
   rw[←h.cramC hr hc]
   unfold detT
   congr 1
   show(t.basic.set r (t.fv c)).map (tcol m t0)=_
   rw[List.map_set]
  rw[e]
  have:=h.dt
  grind
theorem tcol_Z {M:Nat} (hM:1≤M) (h0:∀i j,i<m→j<n→isZ M (t0.cf i j)) (hw:t0.WF n m) {v:Int} {i:Nat}:isZ M (tcol m t0 v i):=by
 unfold tcol
 split
 ·split
  ·rename_i hi hv
   exact h0 _ _ hi (by rw[←hw.free];exact List.idxOf_lt_length_of_mem hv)
  ·split
   ·exact⟨1,by simp,by simpa using hM⟩
   ·exact⟨0,by simp,by simp⟩
 ·exact⟨0,by simp,by simp⟩
theorem mem_set {C:List (Nat→Rat)} {r:Nat} {c d:Nat→Rat} (h:d∈C.set r c):d∈C∨d=c:=List.mem_or_eq_of_mem_set h
theorem Run.detZ (h:Run n m t0 t) {M:Nat} (hM:1≤M) (h0:∀i j,i<m→j<n→isZ M (t0.cf i j)):isZ (facP M m) (detT m t0 t):=by
 have:=@det_bd M (t.basic.map (tcol m t0)) (List.range m) (by simp[h.wf.basic]) fun d hd i _=>by
  obtain⟨v,_,rfl⟩:=List.mem_map.1 hd
  exact tcol_Z hM h0 h.wf0
 rwa [List.length_range] at this
theorem Run.cfZ (h:Run n m t0 t) {M:Nat} (hM:1≤M) (h0:∀i j,i<m→j<n→isZ M (t0.cf i j)) {r c:Nat} (hr:r<m) (hc:c<n):isZ (facP M m) (t.cf r c*detT m t0 t):=by
 rw[←h.cramC hr hc]
 have:=@det_bd M ((t.basic.map (tcol m t0)).set r (tcol m t0 (t.fv c))) (List.range m) (by simp[h.wf.basic]) fun d hd i _=>by
  rcases mem_set hd with hd|rfl
  ·obtain⟨v,_,rfl⟩:=List.mem_map.1 hd
   exact tcol_Z hM h0 h.wf0
  ·exact tcol_Z hM h0 h.wf0
 rwa [List.length_range] at this
theorem Run.bdZ (h:Run n m t0 t) {M:Nat} (hM:1≤M) (h0:∀i j,i<m→j<n→isZ M (t0.cf i j)) (hb:∀i,i<m→isZ M (t0.bd i)) {r:Nat} (hr:r<m):isZ (facP M m) (t.bd r*detT m t0 t):=by
 rw[←h.cramB hr]
 have:=@det_bd M ((t.basic.map (tcol m t0)).set r (bcol m t0)) (List.range m) (by simp[h.wf.basic]) fun d hd i hi=>by
  rcases mem_set hd with hd|rfl
  ·obtain⟨v,_,rfl⟩:=List.mem_map.1 hd
   exact tcol_Z hM h0 h.wf0
  ·unfold bcol
   rw[if_pos (List.mem_range.1 hi)]
   exact hb i (List.mem_range.1 hi)
 rwa [List.length_range] at this
end
structure Piv (n m:Nat) (t:Tb) (r c:Nat):Prop where
 hr:r<m
 hc:c<n
 cost:0<t.cs c
 least:∀j,j<n→0<t.cs j→t.fv c≤t.fv j
 pos:0<t.cf r c
 ratio:∀i,i<m→0<t.cf i c→t.bd r / t.cf r c<t.bd i / t.cf i c∨(t.bd r / t.cf r c=t.bd i / t.cf i c∧t.bv r≤t.bv i)
def feasT (m:Nat) (t:Tb):Prop:=∀i,i<m→0≤t.bd i
section
variable {n m:Nat} {t t0:Tb} {r c:Nat}
theorem rat_le_lt (a b:Rat):a≤b∨b<a:=(Classical.em (a≤b)).imp id Rat.not_le.1
theorem div_mul {a b:Rat} (h:0<b):a / b*b=a:=by
 have:b≠0:=by grind
 grind
theorem inv_pos {b:Rat} (h:0<b):0<1 / b:=by
 have h1:(1 / b)*b=1:=div_mul h
 rcases rat_le_lt (1 / b) 0 with h2|h2
 ·exfalso
  have h3:0≤(-(1 / b))*b:=Rat.mul_nonneg (by grind) (by grind)
  grind
 ·exact h2
theorem div_nonneg {a b:Rat} (ha:0≤a) (h:0<b):0≤a / b:=by
 have h1:a / b=a*(1 / b):=by grind
 rw[h1]
 exact Rat.mul_nonneg ha (by have:=inv_pos h;grind)
theorem Piv.ge (h:Piv n m t r c) (hf:feasT m t):0≤t.bd r / t.cf r c:=div_nonneg (hf r h.hr) h.pos
theorem Piv.feas (h:Piv n m t r c) (hw:t.WF n m) (hf:feasT m t):feasT m (pivT t r c):=by
 intro i hi
 have hq:=h.ge hf
 have e:t.bd r*(1 / t.cf r c)=t.bd r / t.cf r c:=by grind
 rw[piv_bd hw hi,e]
 split
 ·exact hq
 ·rcases rat_le_lt (t.cf i c) 0 with h1|h1
  ·have h2:0≤(-(t.cf i c))*(t.bd r / t.cf r c):=Rat.mul_nonneg (by grind) hq
   have:=hf i hi
   grind
  ·have h2:t.bd r / t.cf r c≤t.bd i / t.cf i c:=by
    rcases h.ratio i hi h1 with h3|h3
    ·grind
    ·grind
   have h3:0≤t.cf i c*(t.bd i / t.cf i c - t.bd r / t.cf r c):=Rat.mul_nonneg (by grind) (by grind)
   have h4:=@div_mul (t.bd i) _ h1
   grind
theorem Piv.value:(pivT t r c).value=t.value+t.cs c*(t.bd r / t.cf r c):=by
 show t.value+t.cs c*(t.bd r*(1 / t.cf r c))=_
 grind
theorem pigeon {α:Type}:∀(L:List α) (f:Nat→α),(∀k,f k∈L)→∃i j,i<j∧f i=f j
 |[],f,h=>by have:=h 0;simp at this
 |a::L,f,h=>by
  by_cases h1:∃i,f i=a
  ·obtain⟨i,hi⟩:=h1
   by_cases h2:∃j,i<j∧f j=a
   ·obtain⟨j,hj,hja⟩:=h2
    exact⟨i,j,hj,by rw[hi,hja]⟩
   ·obtain⟨x,y,hxy,he⟩:=pigeon L (fun k=>f (k+i+1)) fun k=>by
     rcases List.mem_cons.1 (h (k+i+1)) with h3|h3
     ·exact absurd ⟨_,by omega,h3⟩ h2
     ·exact h3
    exact⟨x+i+1,y+i+1,by omega,he⟩
  ·exact pigeon L f fun k=>by
    rcases List.mem_cons.1 (h k) with h3|h3
    ·exact absurd ⟨k,h3⟩ h1
    ·exact h3
def allL (V:List Int):Nat→List (List Int)
 |0=>[[]]
 |k+1=>(allL V k).flatMap fun l=>V.map fun v=>v::l
theorem allL_mem {V:List Int}:∀{l:List Int},(∀v∈l,v∈V)→l∈allL V l.length
 |[],_=>by simp[allL]
 |x::l,h=>by
  simp only[List.length_cons,allL,List.mem_flatMap,List.mem_map]
  exact⟨l,allL_mem fun v hv=>h v (by simp[hv]),x,h x (by simp),rfl⟩
theorem set_mem {l:List Int} {r:Nat} {x v:Int} (hr:r<l.length) (hn:l.Nodup):v∈l.set r x↔v=x∨(v∈l∧v≠nthD l r 0):=by
 rw[(set_perm hr).mem_iff,List.mem_cons,nthD_eq hr]
 have h1:=(get_perm hr).symm.nodup hn
 rw[List.nodup_cons] at h1
 have h2:v∈l↔v=l[r]∨v∈l.take r++l.drop (r+1):=by rw[←(get_perm hr).mem_iff,List.mem_cons]
 rw[h2]
 constructor
 ·rintro(h|h)
  ·exact .inl h
  ·exact .inr ⟨.inr h,fun e=>h1.1 (e▸h)⟩
 ·rintro(h|⟨h|h,h3⟩)
  ·exact .inl h
  ·exact absurd h h3
  ·exact .inr h
theorem max_in {f:Nat→Int} {i:Nat}:∀{d:Nat},∃k,(i≤k∧k≤i+d)∧∀x,i≤x→x≤i+d→f x≤f k
 |0=>⟨i,by omega,fun x h1 h2=>by rw[show x=i by omega];exact Int.le_refl _⟩
 |d+1=>by
  obtain⟨k,h1,h2⟩:=@max_in f i d
  by_cases h:f k≤f (i+(d+1))
  ·refine⟨i+(d+1),by omega,fun x h3 h4=>?_⟩
   by_cases h5:x≤i+d
   ·have:=h2 x h3 h5;omega
   ·rw[show x=i+(d+1) by omega];exact Int.le_refl _
  ·refine⟨k,by omega,fun x h3 h4=>?_⟩
   by_cases h5:x≤i+d
   ·exact h2 x h3 h5
   ·rw[show x=i+(d+1) by omega];omega
theorem sumQ_pos:∀{n:Nat} {f:Nat→Rat},0<sumQ n f→∃j,j<n∧0<f j
 |0,f,h=>by simp only[sumQ] at h;grind
 |n+1,f,h=>by
  rcases rat_le_lt (f n) 0 with h1|h1
  ·obtain⟨j,hj,h2⟩:=@sumQ_pos n f (by simp only[sumQ] at h;grind)
   exact⟨j,by omega,h2⟩
  ·exact⟨n,by omega,h1⟩
theorem fv_mem (h:t.WF n m) {j:Nat} (hj:j<n):t.fv j∈t.free:=by
 have hl:j<t.free.length:=by rw[h.free];exact hj
 unfold Tb.fv;rw[nthD_eq hl];exact List.getElem_mem hl
theorem bv_mem (h:t.WF n m) {j:Nat} (hj:j<m):t.bv j∈t.basic:=by
 have hl:j<t.basic.length:=by rw[h.basic];exact hj
 unfold Tb.bv;rw[nthD_eq hl];exact List.getElem_mem hl
theorem fv_of (h:t.WF n m) {v:Int} (hv:v∈t.free):∃j,j<n∧t.fv j=v:=by
 obtain⟨j,hj,rfl⟩:=List.getElem_of_mem hv
 exact⟨j,by rw[←h.free];exact hj,by unfold Tb.fv;rw[nthD_eq hj]⟩
theorem bv_of (h:t.WF n m) {v:Int} (hv:v∈t.basic):∃j,j<m∧t.bv j=v:=by
 obtain⟨j,hj,rfl⟩:=List.getElem_of_mem hv
 exact⟨j,by rw[←h.basic];exact hj,by unfold Tb.bv;rw[nthD_eq hj]⟩
theorem not_both (hn:(t.basic++t.free).Nodup) {v:Int} (h1:v∈t.basic) (h2:v∈t.free):False:=(List.nodup_append.1 hn).2.2 _ h1 _ h2 rfl
theorem bv_inj (h:t.WF n m) (hn:(t.basic++t.free).Nodup) {i j:Nat} (hi:i<m) (hj:j<m) (e:t.bv i=t.bv j):i=j:=by
 have a:=idx_nth (List.nodup_append.1 hn).1 (show i<t.basic.length by rw[h.basic];exact hi)
 have b:=idx_nth (List.nodup_append.1 hn).1 (show j<t.basic.length by rw[h.basic];exact hj)
 unfold Tb.bv at e
 rw[e,b] at a
 exact a.symm
theorem fv_inj (h:t.WF n m) (hn:(t.basic++t.free).Nodup) {i j:Nat} (hi:i<n) (hj:j<n) (e:t.fv i=t.fv j):i=j:=by
 have a:=idx_nth (List.nodup_append.1 hn).2.1 (show i<t.free.length by rw[h.free];exact hi)
 have b:=idx_nth (List.nodup_append.1 hn).2.1 (show j<t.free.length by rw[h.free];exact hj)
 unfold Tb.fv at e
 rw[e,b] at a
 exact a.symm
theorem bland_cycle {T:Nat→Tb} {r c:Nat→Nat} (hR:∀k,Run n m t0 (T k)) (hF:∀k,feasT m (T k)) (hP:∀k,Piv n m (T k) (r k) (c k)) (hT:∀k,T (k+1)=pivT (T k) (r k) (c k)) {i j:Nat} (hij:i<j) (hb:(T i).basic=(T j).basic) (hf:(T i).free=(T j).free):False:=by
 have hv0:(T i).value=(T j).value:=by
  have h1:=((hR j).sol _ _).2 (((hR i).sol _ _).1 (asg_holds (hR i).wf (hR i).nd1 (y:=fun _=>0)))
  have e1:sumQ n (fun k=>(T i).cs k*(fun _=>(0:Rat)) k)=0:=by rw[sumQ_congr (g:=fun _=>0) fun k _=>by grind,sumQ_zero]
  have e2:sumQ n (fun k=>(T j).cs k*asg n (T i) (fun _=>0) ((T j).fv k))=0:=by
   rw[sumQ_congr (g:=fun _=>0) fun k hk=>by
    have:(T j).fv k=(T i).fv k:=by unfold Tb.fv;rw[hf]
    rw[this,asg_free (hR i).wf (hR i).nd1 hk]
    grind,sumQ_zero]
  have h2:=h1.2
  rw[e1,e2] at h2
  grind
 have hmono:∀k,(T k).value≤(T (k+1)).value:=fun k=>by
  rw[hT k,Piv.value]
  have:=Rat.mul_nonneg (a:=(T k).cs (c k)) (by have:=(hP k).cost;grind) ((hP k).ge (hF k))
  grind
 have hm2:∀d a,(T a).value≤(T (a+d)).value:=fun d=>by
  induction d with
  |zero=>intro a;simp
  |succ d ih=>intro a;have h1:=ih a;have h2:=hmono (a+d);rw[show a+(d+1)=a+d+1 by omega];grind
 have hdeg:∀k,i≤k→k<j→(T k).bd (r k)=0:=fun k h1 h2=>by
  have a1:=hm2 (k - i) i
  have a2:=hm2 (j - (k+1)) (k+1)
  rw[show i+(k - i)=k by omega] at a1
  rw[show k+1+(j - (k+1))=j by omega] at a2
  have a3:=hmono k
  rw[hT k] at a2 a3
  rw[Piv.value] at a2 a3
  have h3:=(hP k).ge (hF k)
  have hc:=(hP k).cost
  have h4:=@div_mul ((T k).bd (r k)) _ (hP k).pos
  have h5:(T k).cs (c k)*((T k).bd (r k) / (T k).cf (r k) (c k))=0:=by grind
  rcases Rat.mul_eq_zero.1 h5 with h6|h6
  ·grind
  ·rw[h6] at h4;grind
 have hA1:∀k,i≤k→k<j→∀v,v∈(T k).basic++(T k).free→asg n (T (k+1)) (fun _=>0) v=asg n (T k) (fun _=>0) v:=fun k h1 h2 v hv=>by
  have hw:=(hR k).wf
  have hw':=(hR (k+1)).wf
  have hx:=((hR (k+1)).sol _ _).2 (((hR k).sol _ _).1 (asg_holds hw (hR k).nd1 (y:=fun _=>0)))
  have hz:∀q,q<n→asg n (T k) (fun _=>0) ((T (k+1)).fv q)=0:=fun q hq=>by
   rw[hT k,piv_fv hw (hP k).hc]
   split
   ·rw[asg_basic hw (hR k).nd1 (hP k).hr,hdeg k h1 h2,sumQ_congr (g:=fun _=>0) fun j _=>by grind,sumQ_zero]
    grind
   ·rw[asg_free hw (hR k).nd1 hq]
  have hv':v∈(T (k+1)).basic++(T (k+1)).free:=((hR (k+1)).perm.trans (hR k).perm.symm).mem_iff.2 hv
  rcases List.mem_append.1 hv' with hv'|hv'
  ·obtain⟨q,hq,rfl⟩:=bv_of hw' hv'
   have:=hx.1 q hq
   rw[sumQ_congr (g:=fun _=>0) fun j hj=>by rw[hz j hj];grind,sumQ_zero] at this
   rw[asg_basic hw' (hR (k+1)).nd1 hq,sumQ_congr (g:=fun _=>0) fun j _=>by grind,sumQ_zero]
   grind
  ·obtain⟨q,hq,rfl⟩:=fv_of hw' hv'
   rw[hz q hq,asg_free hw' (hR (k+1)).nd1 hq]
 have hmem:∀a b v,v∈(T a).basic++(T a).free→v∈(T b).basic++(T b).free:=fun a b v hv=>((hR b).perm.trans (hR a).perm.symm).mem_iff.2 hv
 have hA2:∀d a,i≤a→a+d≤j→∀v,v∈(T a).basic++(T a).free→asg n (T (a+d)) (fun _=>0) v=asg n (T a) (fun _=>0) v:=fun d=>by
  induction d with
  |zero=>intro a _ _ v _;rfl
  |succ d ih=>
   intro a h1 h2 v hv
   rw[←ih a h1 (by omega) v hv]
   exact hA1 (a+d) (by omega) (by omega) v (hmem _ _ v hv)
 have hA:∀a b,i≤a→a≤j→i≤b→b≤j→∀v,v∈(T a).basic++(T a).free→asg n (T a) (fun _=>0) v=asg n (T b) (fun _=>0) v:=fun a b h1 h2 h3 h4 v hv=>by
  have e1:=hA2 (a - i) i (by omega) (by omega) v (hmem _ _ v hv)
  have e2:=hA2 (b - i) i (by omega) (by omega) v (hmem _ _ v hv)
  rw[show i+(a - i)=a by omega] at e1
  rw[show i+(b - i)=b by omega] at e2
  rw[e1,e2]
 have hst:∀k v,v∈(T (k+1)).basic↔v=(T k).fv (c k)∨(v∈(T k).basic∧v≠(T k).bv (r k)):=fun k v=>by
  rw[hT k]
  exact set_mem (by rw[(hR k).wf.basic];exact(hP k).hr) (List.nodup_append.1 (hR k).nd1).1
 have lemA:∀v a b,i≤a→a≤j→i≤b→b≤j→v∈(T a).basic→v∉(T b).basic→∃k,i≤k∧k<j∧(T k).fv (c k)=v:=fun v a b a1 a2 b1 b2 ha hbn=>by
  apply Classical.byContradiction
  intro hno
  have down:∀d x,i≤x→x+d≤j→v∈(T (x+d)).basic→v∈(T x).basic:=fun d=>by
   induction d with
   |zero=>intro x _ _ h;exact h
   |succ d ih=>
    intro x h1 h2 h
    refine ih x h1 (by omega) ?_
    rcases(hst (x+d) v).1 h with h3|h3
    ·exact absurd ⟨x+d,by omega,by omega,h3.symm⟩ hno
    ·exact h3.1
  have h1:=down (a - i) i (by omega) (by omega) (by rw[show i+(a - i)=a by omega];exact ha)
  rw[hb] at h1
  exact hbn (down (j - b) b (by omega) (by omega) (by rw[show b+(j - b)=j by omega];exact h1))
 obtain⟨k1,⟨k1a,k1b⟩,hmax⟩:=@max_in (fun k=>(T k).fv (c k)) i (j - 1 - i)
 have hmax':∀x,i≤x→x<j→(T x).fv (c x)≤(T k1).fv (c k1):=fun x h1 h2=>hmax x h1 (by omega)
 have hk1:k1<j:=by omega
 have htf:(T k1).fv (c k1)∈(T k1).free:=fv_mem (hR k1).wf (hP k1).hc
 have htb:(T k1).fv (c k1)∉(T k1).basic:=fun h=>not_both (hR k1).nd1 h htf
 obtain⟨k2,k2a,k2b,hl⟩:∃k2,i≤k2∧k2<j∧(T k2).bv (r k2)=(T k1).fv (c k1):=by
  apply Classical.byContradiction
  intro hno
  have up:∀d x,i≤x→x+d≤j→(T k1).fv (c k1)∈(T x).basic→(T k1).fv (c k1)∈(T (x+d)).basic:=fun d=>by
   induction d with
   |zero=>intro x _ _ h;exact h
   |succ d ih=>
    intro x h1 h2 h
    exact(hst (x+d) _).2 (.inr ⟨ih x h1 (by omega) h,fun e=>hno ⟨x+d,by omega,by omega,e.symm⟩⟩)
  have h1:=up (j - (k1+1)) (k1+1) (by omega) (by omega) ((hst k1 _).2 (.inl rfl))
  rw[show k1+1+(j - (k1+1))=j by omega,←hb] at h1
  have h2:=up (k1 - i) i (by omega) (by omega) h1
  rw[show i+(k1 - i)=k1 by omega] at h2
  exact htb h2
 have w1:=(hR k1).wf
 have w2:=(hR k2).wf
 have n1:=(hR k1).nd1
 have n2:=(hR k2).nd1
 have p1:=hP k1
 have p2:=hP k2
 have x1:=(((hR k1).sol _ _).2 (((hR k2).sol _ _).1 (asg_holds w2 n2 (y:=fun q=>if q=c k2 then 1 else 0)))).2
 have x0:=(((hR k1).sol _ _).2 (((hR k2).sol _ _).1 (asg_holds w2 n2 (y:=fun _=>0)))).2
 rw[sumQ_congr (f:=fun q=>(T k2).cs q*(fun q=>if q=c k2 then(1:Rat) else 0) q) (g:=fun q=>if q=c k2 then(T k2).cs (c k2) else 0) fun q _=>by
  by_cases hq:q=c k2
  ·simp only[hq,if_true];grind
  ·simp only[hq,if_false];grind,sumQ_one,if_pos p2.hc] at x1
 rw[sumQ_congr (f:=fun q=>(T k2).cs q*(fun _=>(0:Rat)) q) (g:=fun _=>0) fun q _=>by grind,sumQ_zero] at x0
 have hd:0<sumQ n fun q=>(T k1).cs q*(asg n (T k2) (fun q=>if q=c k2 then 1 else 0) ((T k1).fv q) - asg n (T k2) (fun _=>0) ((T k1).fv q)):=by
  rw[sumQ_congr (g:=fun q=>(T k1).cs q*asg n (T k2) (fun q=>if q=c k2 then 1 else 0) ((T k1).fv q)+(-1)*((T k1).cs q*asg n (T k2) (fun _=>0) ((T k1).fv q))) fun q _=>by grind,sumQ_add,sumQ_mul]
  have:=p2.cost
  grind
 obtain⟨q,hq,hpos⟩:=sumQ_pos hd
 have hvf:(T k1).fv q∈(T k1).free:=fv_mem w1 hq
 have hvm:=hmem k1 k2 _ (List.mem_append_right _ hvf)
 rcases List.mem_append.1 hvm with hvb|hvf2
 ·obtain⟨ρ,hρ,e⟩:=bv_of w2 hvb
  rw[←e,asg_basic w2 n2 hρ,asg_basic w2 n2 hρ,sumQ_congr (f:=fun j=>(T k2).cf ρ j*(fun q=>if q=c k2 then(1:Rat) else 0) j) (g:=fun j=>if j=c k2 then(T k2).cf ρ (c k2) else 0) (fun j _=>by
   by_cases hj:j=c k2
   ·simp only[hj,if_true];grind
   ·simp only[hj,if_false];grind),sumQ_one,if_pos p2.hc,sumQ_congr (f:=fun j=>(T k2).cf ρ j*(fun _=>(0:Rat)) j) (g:=fun _=>0) (fun j _=>by grind),sumQ_zero] at hpos
  have hpos2:0<(T k1).cs q*(-(T k2).cf ρ (c k2)):=by grind
  obtain⟨k3,k3a,k3b,h3⟩:=lemA _ k2 k1 k2a (by omega) k1a (by omega) hvb (fun h=>not_both n1 h hvf)
  have hle:(T k1).fv q≤(T k1).fv (c k1):=by rw[←h3];exact hmax' k3 k3a k3b
  rcases rat_le_lt ((T k1).cs q) 0 with hs|hs
  ·have hap:0<(T k2).cf ρ (c k2):=by
    rcases rat_le_lt ((T k2).cf ρ (c k2)) 0 with h4|h4
    ·exfalso
     have:=Rat.mul_nonneg (a:= -(T k1).cs q) (b:= -(T k2).cf ρ (c k2)) (by grind) (by grind)
     grind
    ·exact h4
   have hbz:(T k2).bd ρ=0:=by
    have h5:=hA k2 k1 k2a (by omega) k1a (by omega) ((T k1).fv q) hvm
    rw[asg_free w1 n1 hq,←e,asg_basic w2 n2 hρ,sumQ_congr (g:=fun _=>0) fun j _=>by grind,sumQ_zero] at h5
    grind
   have hrz:=hdeg k2 k2a k2b
   have hz:∀b:Rat,(0:Rat) / b=0:=fun b=>by grind
   rcases p2.ratio ρ hρ hap with h6|h6
   ·rw[hbz,hrz,hz,hz] at h6
    grind
   ·have h7:(T k1).fv (c k1)≤(T k1).fv q:=by rw[←hl,←e];exact h6.2
    have h8:=fv_inj w1 n1 hq p1.hc (by omega)
    rw[h8] at hs
    have:=p1.cost
    grind
  ·have h7:=p1.least q hq hs
   have h8:ρ=r k2:=bv_inj w2 n2 hρ p2.hr (by rw[e,hl];omega)
   rw[h8] at hpos2
   have:=Rat.mul_nonneg (a:=(T k1).cs q) (b:=(T k2).cf (r k2) (c k2)) (by grind) (by have:=p2.pos;grind)
   grind
 ·obtain⟨q2,hq2,e⟩:=fv_of w2 hvf2
  rw[←e,asg_free w2 n2 hq2,asg_free w2 n2 hq2] at hpos
  by_cases h5:q2=c k2
  ·rw[if_pos h5] at hpos
   have h6:=p1.least q hq (by grind)
   have h7:=hmax' k2 k2a k2b
   rw[h5] at e
   have h8:(T k1).fv (c k1)=(T k2).fv (c k2):=by omega
   exact not_both n2 (bv_mem w2 p2.hr) (by rw[hl,h8];exact fv_mem w2 p2.hc)
  ·rw[if_neg h5] at hpos
   grind
end
def entN (t:Tb):Nat→Int
 |0=> -1
 |k+1=>if 0<t.cs k∧(entN t k<0∨t.fv k<t.fv (entN t k).toNat) then(k:Int) else entN t k
def levN (t:Tb) (c:Nat):Nat→Int
 |0=> -1
 |k+1=>if t.cf k c≤0 then levN t c k
  else if 0≤levN t c k∧(t.bd (levN t c k).toNat / t.cf (levN t c k).toNat c<t.bd k / t.cf k c∨(t.bd k / t.cf k c=t.bd (levN t c k).toNat / t.cf (levN t c k).toNat c∧t.bv (levN t c k).toNat<t.bv k)) then levN t c k
  else(k:Int)
section
variable {n m:Nat} {t t0:Tb} {r c:Nat}
theorem ent_ok:∀{k:Nat},(entN t k= -1∧∀j,j<k→¬0<t.cs j)∨(∃b:Nat,entN t k=b∧b<k∧0<t.cs b∧∀j,j<k→0<t.cs j→t.fv b≤t.fv j)
 |0=> .inl ⟨rfl,fun j h=>by omega⟩
 |k+1=>by
  unfold entN
  rcases @ent_ok k with⟨h1,h2⟩|⟨b,h1,h2,h3,h4⟩
  ·by_cases hk:0<t.cs k
   ·rw[if_pos ⟨hk,.inl (by omega)⟩]
    refine .inr ⟨k,rfl,by omega,hk,fun j hj hc=>?_⟩
    by_cases hjk:j=k
    ·subst hjk;exact Int.le_refl _
    ·exact absurd hc (h2 j (by omega))
   ·rw[if_neg fun h=>hk h.1]
    refine .inl ⟨h1,fun j hj=>?_⟩
    by_cases hjk:j=k
    ·subst hjk;exact hk
    ·exact h2 j (by omega)
  ·have hb:(entN t k).toNat=b:=by omega
   by_cases hk:0<t.cs k∧(entN t k<0∨t.fv k<t.fv (entN t k).toNat)
   ·rw[if_pos hk]
    have h5:t.fv k<t.fv b:=by
     rcases hk.2 with h|h
     ·omega
     ·rwa [hb] at h
    refine .inr ⟨k,rfl,by omega,hk.1,fun j hj hc=>?_⟩
    by_cases hjk:j=k
    ·subst hjk;exact Int.le_refl _
    ·have:=h4 j (by omega) hc;omega
   ·rw[if_neg hk]
    refine .inr ⟨b,h1,by omega,h3,fun j hj hc=>?_⟩
    by_cases hjk:j=k
    ·subst hjk
     rw[hb] at hk
     have:¬t.fv j<t.fv b:=fun h=>hk ⟨hc,.inr h⟩
     omega
    ·exact h4 j (by omega) hc
theorem lev_ok {c:Nat}:∀{k:Nat},(levN t c k= -1∧∀j,j<k→t.cf j c≤0)∨(∃b:Nat,levN t c k=b∧b<k∧0<t.cf b c∧∀j,j<k→0<t.cf j c→t.bd b / t.cf b c<t.bd j / t.cf j c∨(t.bd b / t.cf b c=t.bd j / t.cf j c∧t.bv b≤t.bv j))
 |0=> .inl ⟨rfl,fun j h=>by omega⟩
 |k+1=>by
  unfold levN
  by_cases hk:t.cf k c≤0
  ·rw[if_pos hk]
   rcases @lev_ok c k with⟨h1,h2⟩|⟨b,h1,h2,h3,h4⟩
   ·refine .inl ⟨h1,fun j hj=>?_⟩
    by_cases hjk:j=k
    ·subst hjk;exact hk
    ·exact h2 j (by omega)
   ·refine .inr ⟨b,h1,by omega,h3,fun j hj hc=>?_⟩
    by_cases hjk:j=k
    ·subst hjk;grind
    ·exact h4 j (by omega) hc
  ·rw[if_neg hk]
   have hk0:0<t.cf k c:=Rat.not_le.1 hk
   rcases @lev_ok c k with⟨h1,h2⟩|⟨b,h1,h2,h3,h4⟩
   ·rw[if_neg fun h=>by omega]
    refine .inr ⟨k,rfl,by omega,hk0,fun j hj hc=>?_⟩
    by_cases hjk:j=k
    ·subst hjk;exact .inr ⟨rfl,Int.le_refl _⟩
    ·have:=h2 j (by omega);grind
   ·have hb:(levN t c k).toNat=b:=by omega
    rw[hb]
    by_cases hx:0≤levN t c k∧(t.bd b / t.cf b c<t.bd k / t.cf k c∨(t.bd k / t.cf k c=t.bd b / t.cf b c∧t.bv b<t.bv k))
    ·rw[if_pos hx]
     refine .inr ⟨b,h1,by omega,h3,fun j hj hc=>?_⟩
     by_cases hjk:j=k
     ·subst hjk
      rcases hx.2 with h|h
      ·exact .inl h
      ·exact .inr ⟨h.1.symm,by omega⟩
     ·exact h4 j (by omega) hc
    ·rw[if_neg hx]
     have hx1:¬t.bd b / t.cf b c<t.bd k / t.cf k c:=fun h=>hx ⟨by omega,.inl h⟩
     have hx2:t.bd k / t.cf k c=t.bd b / t.cf b c→¬t.bv b<t.bv k:=fun h h2=>hx ⟨by omega,.inr ⟨h,h2⟩⟩
     refine .inr ⟨k,rfl,by omega,hk0,fun j hj hc=>?_⟩
     by_cases hjk:j=k
     ·subst hjk;exact .inr ⟨rfl,Int.le_refl _⟩
     ·rcases h4 j (by omega) hc with h|h
      ·exact .inl (by grind)
      ·rcases Classical.em (t.bd k / t.cf k c=t.bd b / t.cf b c) with h5|h5
       ·exact .inr ⟨by rw[h5];exact h.1,by have:=hx2 h5;omega⟩
       ·exact .inl (by grind)
end
def stepT (n m:Nat) (t:Tb):Option Tb:=
 if entN t n<0 then none
 else if levN t (entN t n).toNat m<0 then none
 else some (pivT t (levN t (entN t n).toNat m).toNat (entN t n).toNat)
def endsT (n m:Nat):Nat→Tb→Bool
 |0,t=>(stepT n m t).isNone
 |k+1,t=>match stepT n m t with
  |none=>true
  |some t'=>endsT n m k t'
def runT (n m:Nat):Nat→Tb→Tb
 |0,t=>t
 |k+1,t=>match stepT n m t with
  |none=>t
  |some t'=>runT n m k t'
def leftT (n m N:Nat) (t:Tb):Nat:=((List.range N).filter fun k=>!endsT n m k t).length
section
variable {n m:Nat} {t t0 t':Tb}
theorem step_piv (h:stepT n m t=some t'):∃r c,Piv n m t r c∧t'=pivT t r c∧entN t n=(c:Int)∧levN t c m=(r:Int):=by
 unfold stepT at h
 split at h
 ·cases h
 ·rename_i h1
  split at h
  ·cases h
  ·rename_i h2
   injection h with h
   rcases @ent_ok t n with⟨e1,_⟩|⟨c,e1,e2,e3,e4⟩
   ·omega
   ·have hc:(entN t n).toNat=c:=by omega
    rw[hc] at h h2
    rcases @lev_ok t c m with⟨l1,_⟩|⟨r,l1,l2,l3,l4⟩
    ·omega
    ·have hr:(levN t c m).toNat=r:=by omega
     rw[hr] at h
     exact⟨r,c,⟨l2,e2,e3,e4,l3,l4⟩,h.symm,e1,l1⟩
theorem step_run (hR:Run n m t0 t) (hF:feasT m t) (h:stepT n m t=some t'):Run n m t0 t'∧feasT m t':=by
 obtain⟨r,c,hp,rfl,_⟩:=step_piv h
 exact⟨hR.piv hp.hr hp.hc (by have:=hp.pos;grind),hp.feas hR.wf hF⟩
theorem ends_mono:∀{k:Nat} {t:Tb},endsT n m k t=true→endsT n m (k+1) t=true
 |0,t,h=>by
  unfold endsT
  unfold endsT at h
  rw[Option.isNone_iff_eq_none.1 h]
 |k+1,t,h=>by
  unfold endsT at h ⊢
  split
  ·rfl
  ·rename_i t' ht
   rw[ht] at h
   exact ends_mono h
theorem left_step {N:Nat} (hN:endsT n m N t=true) (h:stepT n m t=some t'):leftT n m N t'<leftT n m N t:=by
 unfold leftT
 have e:∀k,endsT n m k t'=endsT n m (k+1) t:=fun k=>by simp only[endsT,h]
 have h0:endsT n m 0 t=false:=by simp[endsT,h]
 simp only[e]
 cases N with
 |zero=>rw[h0] at hN;cases hN
 |succ N=>
  have h1:∀f:Nat→Bool,((List.range (N+1)).filter f).length=(if f 0 then 1 else 0)+((List.range N).filter fun k=>f (k+1)).length:=fun f=>by
   rw[List.range_succ_eq_map,List.filter_cons,List.filter_map,]
   split
   ·rw[List.length_cons,List.length_map];simp only[Function.comp_def,Nat.succ_eq_add_one];omega
   ·rw[List.length_map];simp only[Function.comp_def,Nat.succ_eq_add_one];omega
  rw[h1 (fun k=>!endsT n m k t),h0]
  rw[List.range_succ,List.filter_append,List.length_append]
  simp[hN]
theorem ends_step {N:Nat} (hN:endsT n m N t=true) (h:stepT n m t=some t'):endsT n m N t'=true:=by
 cases N with
 |zero=>simp[endsT,h] at hN
 |succ N=>
  simp only[endsT,h] at hN
  exact ends_mono hN
theorem bland (hR:Run n m t0 t) (hF:feasT m t):∃N,endsT n m N t=true:=by
 apply Classical.byContradiction
 intro hno
 have hne:∀N,endsT n m N t=false:=fun N=>by
  cases h:endsT n m N t with
  |false=>rfl
  |true=>exact absurd ⟨N,h⟩ hno
 let T:Nat→Tb:=fun k=>Nat.rec t (fun _ s=>(stepT n m s).getD s) k
 have hT1:∀k,T (k+1)=(stepT n m (T k)).getD (T k):=fun k=>rfl
 have hE:∀k N,endsT n m N (T k)=false:=by
  intro k
  induction k with
  |zero=>exact hne
  |succ k ih=>
   intro N
   rw[hT1]
   cases hs:stepT n m (T k) with
   |none=>have:=ih 0;simp[endsT,hs] at this
   |some t'=>
    have:=ih (N+1)
    simp only[endsT,hs] at this
    exact this
 have hS:∀k,stepT n m (T k)=some (T (k+1)):=fun k=>by
  rw[hT1]
  cases hs:stepT n m (T k) with
  |none=>have:=hE k 0;simp[endsT,hs] at this
  |some t'=>rfl
 have hRF:∀k,Run n m t0 (T k)∧feasT m (T k):=by
  intro k
  induction k with
  |zero=>exact⟨hR,hF⟩
  |succ k ih=>exact step_run ih.1 ih.2 (hS k)
 have hPP:∀k,∃p:Nat×Nat,Piv n m (T k) p.1 p.2∧T (k+1)=pivT (T k) p.1 p.2:=fun k=>by
  obtain⟨r,c,h1,h2,_⟩:=step_piv (hS k)
  exact⟨(r,c),h1,h2⟩
 let p:Nat→Nat×Nat:=fun k=>Classical.choose (hPP k)
 have hp:∀k,Piv n m (T k) (p k).1 (p k).2∧T (k+1)=pivT (T k) (p k).1 (p k).2:=fun k=>Classical.choose_spec (hPP k)
 obtain⟨i,j,hij,he⟩:=pigeon (allL (t0.basic++t0.free) (m+n)) (fun k=>(T k).basic++(T k).free) fun k=>by
  have h1:=@allL_mem (t0.basic++t0.free) ((T k).basic++(T k).free) fun v hv=>(hRF k).1.perm.mem_iff.1 hv
  rwa [List.length_append,(hRF k).1.wf.basic,(hRF k).1.wf.free] at h1
 obtain⟨e1,e2⟩:=List.append_inj he (by rw[(hRF i).1.wf.basic,(hRF j).1.wf.basic])
 exact bland_cycle (fun k=>(hRF k).1) (fun k=>(hRF k).2) (fun k=>(hp k).1) (fun k=>(hp k).2) hij e1 e2
end
open Go.Proofs.Ytoifpgeocpjneaa.Ir
open Go.Proofs
def fL (l:List Rat):List Fra:=l.map frE
def fM (l:List (List Rat)):List (List Fra):=l.map fL
def vL (l:List Fra):List Rat:=l.map valF
theorem vL_fL (l:List Rat):vL (fL l)=l:=by
 unfold vL fL
 rw[List.map_map]
 conv=>rhs;rw[←List.map_id l]
 exact List.map_congr_left fun q _=>valF_frE q
theorem fra_eta (x:Fra):(x.1,x.2.1,x.2.2)=x:=rfl
theorem fL_len {l:List Rat}:(fL l).length=l.length:=List.length_map _
theorem fM_len {l:List (List Rat)}:(fM l).length=l.length:=List.length_map _
theorem fL_nth {l:List Rat} {i:Nat} (h:i<l.length) {d:Fra}:nthD (fL l) i d=frE (nthD l i 0):=by
 rw[nthD_eq (by rw[fL_len];exact h),nthD_eq h]
 simp[fL]
theorem fM_nth {l:List (List Rat)} {i:Nat} (h:i<l.length) {d:List Fra}:nthD (fM l) i d=fL (nthD l i []):=by
 rw[nthD_eq (by rw[fM_len];exact h),nthD_eq h]
 simp[fM]
structure TabF where
 n:Int
 m:Int
 k0:Nat
 k1:Nat
 k3:Nat
 k4:Nat
 coef:List (List Fra)
 bound:List Fra
 cost:List Fra
 v:Fra
 basic:List Int
 free:List Int
def TabF.sto (x:TabF):SStore:=
 [.cells [.si .i64 x.n,.si .i64 x.m,.ow 1 x.k0 1,.ow 2 x.k1 3,.row sF x.cost,.sb x.v.1,.row (.i .u32) x.v.2.1,.row (.i .u32) x.v.2.2,.ow 3 x.k3 1,.ow 4 x.k4 1] 127 10 false,
  .row (.lst sF) x.coef 60 false,.row sF x.bound 58 false,.row (.i .i64) x.basic 3 false,.row (.i .i64) x.free 3 false]
def decTab:SStore→Option TabF
 |[.cells [a,b,.ow 1 k0 1,.ow 2 k1 3,c,v0,v1,v2,.ow 3 k3 1,.ow 4 k4 1] 127 10 false,.row s1 l1 60 false,.row s2 l2 58 false,.row s3 l3 3 false,.row s4 l4 3 false]=>
  match a.int .i64,b.int .i64,decRow sF c,decS sF [v0,v1,v2] with
  |some a,some b,some c,some v=>match castL s1 (.lst sF) l1,castL s2 sF l2,castL s3 (.i .i64) l3,castL s4 (.i .i64) l4 with
   |some l1,some l2,some l3,some l4=>some ⟨a,b,k0,k1,k3,k4,l1,l2,c,v,l3,l4⟩
   |_,_,_,_=>none
  |_,_,_,_=>none
 |_=>none
theorem decTab_ok {o:SStore} {x:TabF} (h:decTab o=some x):gO o=gO x.sto:=by
 unfold decTab at h
 split at h
 ·split at h
  ·rename_i h1 h2 h3 h4
   split at h
   ·rename_i g1 g2 g3 g4
    simp only[Option.some.injEq] at h
    subst h
    obtain⟨rfl,e1⟩:=castL_eq g1
    obtain⟨rfl,e2⟩:=castL_eq g2
    obtain⟨rfl,e3⟩:=castL_eq g3
    obtain⟨rfl,e4⟩:=castL_eq g4
    cases e1;cases e2;cases e3;cases e4
    have hv:=decS_g h4
    simp only[List.map_cons,List.map_nil,encA,encV,List.cons.injEq,and_true,List.nil_append,List.cons_append] at hv
    simp only[TabF.sto,gO,List.map_cons,List.map_nil,SObj.g,gL,int_g h1,int_g h2,decRow_ok h3,SV.g]
    simp only[hv]
    rfl
   ·cases h
  ·cases h
 ·cases h
theorem row_inj {s:SId} {a b:List s.T} (h:flatA s a=flatA s b):a=b:=by
 by_cases hz:s.sz=0
 ·exact absurd hz (by
   have:∀s:SId,0<s.sz:=fun s=>by
    induction s<;>simp only[SId.sz]<;>omega
   have:=this s
   omega)
 ·have hl:=congrArg List.length h
  rw[flatA_len,flatA_len] at hl
  exact flatA_inj s (Nat.eq_of_mul_eq_mul_right (by omega) hl) h
theorem tab_inj {x y:TabF} (h:gO x.sto=gO y.sto):x=y:=by
 obtain⟨n,m,k0,k1,k3,k4,c,b,g,⟨v0,v1,v2⟩,bs,fr⟩:=x
 obtain⟨n',m',k0',k1',k3',k4',c',b',g',⟨v0',v1',v2'⟩,bs',fr'⟩:=y
 simp only[TabF.sto,gO,List.map_cons,List.map_nil,SObj.g,gL,SV.g,List.cons.injEq,AObj.cells.injEq,and_true,true_and,AV.sc.injEq,Value.int.injEq,Value.bool.injEq,AV.os.injEq,AV.sl.injEq] at h
 obtain⟨⟨rfl,rfl,⟨rfl,_⟩,⟨rfl,_⟩,⟨_,h1⟩,rfl,⟨_,h2⟩,⟨_,h3⟩,⟨rfl,_⟩,⟨rfl,_⟩⟩,h4,h5,h6,h7⟩:=h
 rw[row_inj (s:=sF) h1,row_inj (s:=.i .u32) h2,row_inj (s:=.i .u32) h3,row_inj (s:=.lst sF) h4,row_inj (s:=sF) h5,row_inj (s:=.i .i64) h6,row_inj (s:=.i .i64) h7]
abbrev encT (n m:Int) (t:Tb):TabF:=⟨n,m,t.coef.length,t.bound.length,t.basic.length,t.free.length,fM t.coef,fL t.bound,fL t.cost,frE t.value,t.basic,t.free⟩
def TabF.t (x:TabF):Tb:=⟨x.coef.map vL,vL x.bound,vL x.cost,valF x.v,x.basic,x.free⟩
theorem encT_t {n m:Int} {t:Tb}:(encT n m t).t=t:=by
 have e:(fM t.coef).map vL=t.coef:=by
  unfold fM
  rw[List.map_map]
  conv=>rhs;rw[←List.map_id t.coef]
  exact List.map_congr_left fun q _=>vL_fL q
 unfold TabF.t encT
 simp only[e,vL_fL,valF_frE]
theorem tab_eta (x:TabF):(⟨x.n,x.m,x.k0,x.k1,x.k3,x.k4,x.coef,x.bound,x.cost,(x.v.1,x.v.2.1,x.v.2.2),x.basic,x.free⟩:TabF)=x:=rfl
theorem encT_n {n m:Int} {t:Tb}:(encT n m t).n=n:=rfl
theorem encT_m {n m:Int} {t:Tb}:(encT n m t).m=m:=rfl
def szT (k:Nat) (t:Tb):Prop:=(∀l∈t.coef,∀q∈l,Sz k q)∧(∀q∈t.bound,Sz k q)∧(∀q∈t.cost,Sz k q)∧Sz k t.value
def okT (n m:Int) (t:Tb):Prop:=((0≤n∧n≤1000)∧(0≤m∧m≤1000))∧t.WF n.toNat m.toNat∧szT 1000000 t
def tabCtr (f:FuncId) (β:Type) (A:ACod β) (dom:Int→Int→Tb→β→Prop) (res:Int→Int→Tb→β→SV) (out:Int→Int→Tb→β→Tb):OCtr where
 f:=f
 α:=TabF×β
 put a:=.ptr 0 0 10::A.put a.2
 st a:=a.1.sto
 dec v o:=match v with
  | .ptr 0 0 10::r=>match decTab o,A.dec r with
   |some s,some b=>some (s,b)
   |_,_=>none
  |_=>none
 ok v o a h:=by
  split at h
  ·split at h
   ·rename_i h1 h2
    simp only[Option.some.injEq] at h;subst h
    exact⟨by simp only[gL,A.ok _ _ h2],decTab_ok h1⟩
   ·cases h
  ·cases h
 inj a b h1 h2:=by
  simp only[gL,List.cons.injEq,true_and] at h1
  exact Prod.ext (tab_inj h2) (A.inj _ _ h1)
 dom a:=∃n m t,a.1=encT n m t∧okT n m t∧dom n m t a.2
 res a:=res a.1.n a.1.m a.1.t a.2
 out a:=(encT a.1.n a.1.m (out a.1.n a.1.m a.1.t a.2)).sto
theorem isF_of {q:Rat} {k:Nat} (h:Sz k q) (hk:k≤100000000):isF (frE q):=⟨q,k,rfl,h,hk⟩
section
variable {n m:Int} {t:Tb}
theorem okT.cf (h:okT n m t) {i j:Nat} (hi:i<m.toNat) (hj:j<n.toNat):Sz 1000000 (t.cf i j):=by
 have h1:=nthD_mem (l:=t.coef) (d:=[]) (show i<t.coef.length by rw[h.2.1.coef];exact hi)
 exact h.2.2.1 _ h1 _ (nthD_mem (by rw[h.2.1.row i hi];exact hj))
theorem okT.bd (h:okT n m t) {i:Nat} (hi:i<m.toNat):Sz 1000000 (t.bd i):=h.2.2.2.1 _ (nthD_mem (by rw[h.2.1.bound];exact hi))
theorem okT.cs (h:okT n m t) {j:Nat} (hj:j<n.toNat):Sz 1000000 (t.cs j):=h.2.2.2.2.1 _ (nthD_mem (by rw[h.2.1.cost];exact hj))
end
theorem sgnQ_pos {q:Rat}:0<sgnQ q↔0<q:=by
 unfold sgnQ
 split
 ·rename_i h;constructor<;>intro h2<;>first|omega|grind
 ·split
  ·rename_i h;exact⟨fun _=>h,fun _=>by omega⟩
  ·rename_i h;exact⟨fun h2=>by omega,fun h2=>absurd h2 h⟩
theorem sgnQ_zero {q:Rat}:sgnQ q=0↔q=0:=by
 unfold sgnQ
 split
 ·rename_i h;constructor<;>intro h2<;>first|omega|grind
 ·split
  ·rename_i h;constructor<;>intro h2<;>first|omega|grind
  ·constructor<;>intro h2<;>first|rfl|grind
theorem sgnQ_neg {q:Rat}:sgnQ q<0↔q<0:=by
 unfold sgnQ
 split
 ·rename_i h;exact⟨fun _=>h,fun _=>by omega⟩
 ·rename_i h
  split
  ·exact⟨fun h2=>by omega,fun h2=>absurd h2 h⟩
  ·exact⟨fun h2=>by omega,fun h2=>absurd h2 h⟩
def r411:OCtr:=tabCtr 85 Unit .nil (fun _ _ _ _=>True) (fun n _ t _=> .si .i64 (entN t n.toNat)) (fun _ _ t _=>t)
def Λ411 (n m:Int) (t:Tb):Nat→LoopAnn
 |3=> .inv Int (fun j=>⟨[(0,.ptr 0 0 10),(3,.si .i64 (entN t j.toNat)),(9,.ow 4 t.free.length 1),(10,.si .i64 t.free.length),(11,.si .i64 j)],(encT n m t).sto⟩)
   (fun s=>iS s 11) (fun j=>0≤j∧j≤n) (fun j=>(n - j).toNat) fun _ _=> .look
 |_=> .look
theorem h411:HoldsO Try.prog r411:=by
 refine conO (L:=[r99]) (W:=[]) r411 F411 (fun a=>Λ411 a.1.n a.1.m a.1.t) (by simp) (by simpa using h99) (by kernel_rfl) (fun _=>rfl) (by kernel_rfl) ?_
 rintro⟨x,u⟩ ⟨n,m,t,hx,hok, -⟩
 simp only at hx
 subst hx
 refine vcOf (let z0:=SV.ptr 0 0 10;let z1:=(encT n m t).t;let z2:=SV.ow 4 (encT n m t).k4 1;let z3:=z1.free.length;let z4:=SV.ow 4 z3 1;let z5:=SV.si .i64 (↑z3:Int);let z6:=(encT n m t).n;let z7:=SId.i .u32;let z8:=encT z6 (encT n m t).m z1;let z9:=SObj.cells [SV.si .i64 z8.n,SV.si .i64 z8.m,SV.ow 1 z8.k0 1,SV.ow 2 z8.k1 3,SV.row sF z8.cost,SV.sb z8.v.fst,SV.row z7 z8.v.snd.fst,SV.row z7 z8.v.snd.snd,SV.ow 3 z8.k3 1,SV.ow 4 z8.k4 1] 127 10 false;let z10:=SObj.row sF.lst z8.coef 60 false;let z11:=SObj.row sF z8.bound 58 false;let z12:=SId.i .i64;let z13:=SObj.row z12 z8.basic 3 false;let z14:=SObj.row z12 z8.free 3 false;let z15:=z8.free.length;(((z0.same z0∧(SV.il .i64 (-1:Int)).same (SV.si .i64 (entN z1 0))∧z2.same z4∧(SV.si .i64 (↑(encT n m t).k4:Int)).same z5∧(SV.il .i64 0).same (SV.si .i64 0)∧True)∧(SObj.cells [SV.si .i64 z6,SV.si .i64 (encT n m t).m,SV.ow 1 (encT n m t).k0 1,SV.ow 2 (encT n m t).k1 3,SV.row sF (encT n m t).cost,SV.sb (encT n m t).v.fst,SV.row z7 (encT n m t).v.snd.fst,SV.row z7 (encT n m t).v.snd.snd,SV.ow 3 (encT n m t).k3 1,z2] 127 10 false).same z9∧(SObj.row sF.lst (encT n m t).coef 60 false).same z10∧(SObj.row sF (encT n m t).bound 58 false).same z11∧(SObj.row z12 (encT n m t).basic 3 false).same z13∧(SObj.row z12 (encT n m t).free 3 false).same z14∧True)∧(0:Int)≤(0:Int)∧(0:Int)≤z6)∧∀(x:Int),let z16:=decide (x<(↑z3:Int));let z17:=nthD z8.cost x.toNat sF.dflt;let z18:=(z17.fst,z17.snd.fst,z17.snd.snd);let z19:=decide ((0:Int)<sgnQ (valF z18));let z20:=entN z1 x.toNat;let z21:=decide (z20<(0:Int));let z22:=x+(1:Int);let z23:=SV.si .i64 (entN z1 z22.toNat);let z24:=SV.si .i64 z22;let z25:=decide (nthD z8.free x.toNat (0:Int)<nthD z8.free z20.toNat (0:Int));let z26:=SV.si .i64 z20;(0:Int)≤x∧x≤z6→(z16=true→z3=z15∧(0:Int)≤x∧x<(↑z15:Int)∧z3=z15∧x.toNat<z15∧(0:Int)≤x∧x<(↑z8.cost.length:Int)∧x.toNat<z8.cost.length∧isF z18∧(z19=true→(z21=true→inR .i64 z22∧((z0.same z0∧(SV.si .i64 x).same z23∧z4.same z4∧z5.same z5∧z24.same z24∧True)∧z9.same z9∧z10.same z10∧z11.same z11∧z13.same z13∧z14.same z14∧True)∧((0:Int)≤z22∧z22≤z6)∧(z6 - z22).toNat<(z6 - x).toNat)∧(z21=false→z8.k4=z15∧(0:Int)≤z20∧z20<(↑z15:Int)∧z8.k4=z15∧z20.toNat<z15∧(z25=true→inR .i64 z22∧((z0.same z0∧(SV.si .i64 x).same z23∧z4.same z4∧z5.same z5∧z24.same z24∧True)∧z9.same z9∧z10.same z10∧z11.same z11∧z13.same z13∧z14.same z14∧True)∧((0:Int)≤z22∧z22≤z6)∧(z6 - z22).toNat<(z6 - x).toNat)∧(z25=false→inR .i64 z22∧((z0.same z0∧z26.same z23∧z4.same z4∧z5.same z5∧z24.same z24∧True)∧z9.same z9∧z10.same z10∧z11.same z11∧z13.same z13∧z14.same z14∧True)∧((0:Int)≤z22∧z22≤z6)∧(z6 - z22).toNat<(z6 - x).toNat)))∧(z19=false→inR .i64 z22∧((z0.same z0∧z26.same z23∧z4.same z4∧z5.same z5∧z24.same z24∧True)∧z9.same z9∧z10.same z10∧z11.same z11∧z13.same z13∧z14.same z14∧True)∧((0:Int)≤z22∧z22≤z6)∧(z6 - z22).toNat<(z6 - x).toNat))∧(z16=false→z26.same (SV.si .i64 (entN z1 z6.toNat))∧z9.same z9∧z10.same z10∧z11.same z11∧z13.same z13∧z14.same z14∧True)) (by kernel_rfl) ?_
 simp only[encT_t]
 try simp only[encT]
 simp only[vcs]
 obtain⟨⟨⟨n0,n1⟩,m0,m1⟩,hw,hz⟩:=id hok
 have hfl:=hw.free
 have hcl:=hw.cost
 have hfc:=@fL_len t.cost
 refine⟨⟨rfl,by omega,by omega⟩,?_⟩
 rintro j ⟨j0,j1⟩
 have hs:entN t (j+1).toNat=if 0<t.cs j.toNat∧(entN t j.toNat<0∨t.fv j.toNat<t.fv (entN t j.toNat).toNat) then(j.toNat:Int) else entN t j.toNat:=by
  rw[show(j+1).toNat=j.toNat+1 by omega]
  rfl
 have hb:entN t j.toNat<j.toNat:=by
  rcases @ent_ok t j.toNat with⟨h,_⟩|⟨b,h,hlt,_⟩<;>omega
 refine⟨fun hj=>?_,fun hj=>by rw[show j.toNat=n.toNat by omega]⟩
 have hc:nthD (fL t.cost) j.toNat sF.dflt=frE (t.cs j.toNat):=fL_nth (by omega)
 simp only[hc,fra_eta,valF_frE,decide_eq_true_eq,decide_eq_false_iff_not,sgnQ_pos]
 have hfv:∀k:Nat,nthD t.free k 0=t.fv k:=fun k=>rfl
 rw[hfv,hfv,hs]
 refine⟨j0,hj,by omega,j0,by omega,by omega,isF_of (hok.cs (by omega)) (by omega),fun hp=>⟨fun hn=>?_,fun hn=>⟨by omega,by omega,by omega,fun hl=>?_,fun hl=>?_⟩⟩,fun hp=>?_⟩
 ·rw[if_pos ⟨hp,.inl hn⟩]
  omega
 ·rw[if_pos ⟨hp,.inr hl⟩]
  omega
 ·rw[if_neg fun h=>h.2.elim hn hl]
  omega
 ·rw[if_neg fun h=>hp h.1]
  omega
def leaF (t:Tb) (c k:Nat):Fra:=if levN t c k<0 then(false,([],[])) else frE (t.bd (levN t c k).toNat / t.cf (levN t c k).toNat c)
def r412:OCtr:=tabCtr 86 Int (.one (codI .i64)) (fun n _ _ c=>0≤c∧c<n) (fun _ m t c=> .si .i64 (levN t c.toNat m.toNat)) (fun _ _ t _=>t)
def Λ412 (n m:Int) (t:Tb) (c:Int):Nat→LoopAnn
 |4=> .inv Int (fun i=>⟨[(0,.ptr 0 0 10),(1,.si .i64 c),(5,.si .i64 (levN t c.toNat i.toNat)),(6,.ptr 5 0 3),(15,.ow 1 t.coef.length 1),(16,.si .i64 t.coef.length),(17,.si .i64 i)],(encT n m t).sto++[.cells [.sb (leaF t c.toNat i.toNat).1,.row (.i .u32) (leaF t c.toNat i.toNat).2.1,.row (.i .u32) (leaF t c.toNat i.toNat).2.2] 58 3 false,.dead,.dead]⟩)
   (fun s=>iS s 17) (fun i=>0≤i∧i≤m) (fun i=>(m - i).toNat) fun _ _=> .look
 |_=> .look
theorem h412:HoldsO Try.prog r412:=by
 refine conO (L:=[r99,r97,r416]) (W:=[]) r412 F412 (fun a=>Λ412 a.1.n a.1.m a.1.t a.2) (by simp) (by simpa using⟨h99,h97,h416⟩) (by kernel_rfl) (fun _=>rfl) (by kernel_rfl) ?_
 rintro⟨x,c⟩ ⟨n,m,t,hx,hok,hd⟩
 simp only at hx hd
 subst hx
 refine vcOf (let z0:=SV.ptr 0 0 10;let z1:=(encT n m t).t;let z2:=SV.ptr 5 0 3;let z3:=SV.ow 1 (encT n m t).k0 1;let z4:=z1.coef.length;let z5:=SV.ow 1 z4 1;let z6:=SV.si .i64 (↑z4:Int);let z7:=(encT n m t).m;let z8:=SId.i .u32;let z9:=encT (encT n m t).n z7 z1;let z10:=SObj.cells [SV.si .i64 z9.n,SV.si .i64 z9.m,SV.ow 1 z9.k0 1,SV.ow 2 z9.k1 3,SV.row sF z9.cost,SV.sb z9.v.fst,SV.row z8 z9.v.snd.fst,SV.row z8 z9.v.snd.snd,SV.ow 3 z9.k3 1,SV.ow 4 z9.k4 1] 127 10 false;let z11:=z9.coef;let z12:=SObj.row sF.lst z11 60 false;let z13:=z9.bound;let z14:=SObj.row sF z13 58 false;let z15:=SId.i .i64;let z16:=SObj.row z15 z9.basic 3 false;let z17:=SObj.row z15 z9.free 3 false;let z18:=leaF z1 c.toNat 0;let z19:=sF.lst.dflt;let z20:=z9.basic.length;0=0∧0=0∧(((z0.same z0∧(SV.si .i64 c).same (SV.si .i64 c)∧(SV.il .i64 (-1:Int)).same (SV.si .i64 (levN z1 c.toNat 0))∧z2.same z2∧z3.same z5∧(SV.si .i64 (↑(encT n m t).k0:Int)).same z6∧(SV.il .i64 0).same (SV.si .i64 0)∧True)∧(SObj.cells [SV.si .i64 (encT n m t).n,SV.si .i64 z7,z3,SV.ow 2 (encT n m t).k1 3,SV.row sF (encT n m t).cost,SV.sb (encT n m t).v.fst,SV.row z8 (encT n m t).v.snd.fst,SV.row z8 (encT n m t).v.snd.snd,SV.ow 3 (encT n m t).k3 1,SV.ow 4 (encT n m t).k4 1] 127 10 false).same z10∧(SObj.row sF.lst (encT n m t).coef 60 false).same z12∧(SObj.row sF (encT n m t).bound 58 false).same z14∧(SObj.row z15 (encT n m t).basic 3 false).same z16∧(SObj.row z15 (encT n m t).free 3 false).same z17∧(SObj.cells [SV.bl false,SV.row z8 [],SV.row z8 []] 58 3 false).same (SObj.cells [SV.sb z18.fst,SV.row z8 z18.snd.fst,SV.row z8 z18.snd.snd] 58 3 false)∧SObj.dead.same SObj.dead∧SObj.dead.same SObj.dead∧True)∧(0:Int)≤(0:Int)∧(0:Int)≤z7)∧∀(x:Int),let z21:=decide (x<(↑z4:Int));let z22:=nthD z11 x.toNat z19;let z23:=nthD z22 c.toNat sF.dflt;let z24:=(z23.fst,z23.snd.fst,z23.snd.snd);let z25:=decide (sgnQ (valF z24)≤(0:Int));let z26:=x+(1:Int);let z27:=levN z1 c.toNat x.toNat;let z28:=SV.si .i64 z27;let z29:=SV.si .i64 (levN z1 c.toNat z26.toNat);let z30:=SV.si .i64 z26;let z31:=leaF z1 c.toNat x.toNat;let z32:=leaF z1 c.toNat z26.toNat;let z33:=SObj.cells [SV.sb z32.fst,SV.row z8 z32.snd.fst,SV.row z8 z32.snd.snd] 58 3 false;let z34:=nthD z13 x.toNat sF.dflt;let z35:=(z34.fst,z34.snd.fst,z34.snd.snd);let z36:=decide ((0:Int)≤z27);let z37:=frE (valF z35 / valF z24);let z38:=(z37.fst,z37.snd.fst,z37.snd.snd);let z39:=(z31.fst,z31.snd.fst,z31.snd.snd);let z40:=cmpQ (valF z38) (valF z39);let z41:=decide ((0:Int)<z40);let z42:=decide (z40=(0:Int));let z43:=decide (nthD z9.basic z27.toNat (0:Int)<nthD z9.basic x.toNat (0:Int));(0:Int)≤x∧x≤z7→(z21=true→z4=z11.length∧(0:Int)≤x∧x<(↑z11.length:Int)∧z4=z11.length∧x.toNat<z11.length∧(0:Int)≤c∧c<(↑z22.length:Int)∧c.toNat<z22.length∧isF z24∧(z25=true→inR .i64 z26∧((z0.same z0∧(SV.si .i64 c).same (SV.si .i64 c)∧z28.same z29∧z2.same z2∧z5.same z5∧z6.same z6∧z30.same z30∧True)∧z10.same z10∧z12.same z12∧z14.same z14∧z16.same z16∧z17.same z17∧(SObj.cells [SV.sb z31.fst,SV.row z8 z31.snd.fst,SV.row z8 z31.snd.snd] 58 3 false).same z33∧SObj.dead.same SObj.dead∧SObj.dead.same SObj.dead∧True)∧((0:Int)≤z26∧z26≤z7)∧(z7 - z26).toNat<(z7 - x).toNat)∧(z25=false→z9.k1=z13.length∧(0:Int)≤x∧x<(↑z13.length:Int)∧z9.k1=z13.length∧x.toNat<z13.length∧(0:Int)≤c∧c<(↑z22.length:Int)∧c.toNat<z22.length∧((isF z35∧isF z24)∧valF z24≠(0:Rat))∧(z36=true→(isF z38∧isF z39)∧(z41=true→inR .i64 z26∧((z0.same z0∧(SV.si .i64 c).same (SV.si .i64 c)∧z28.same z29∧z2.same z2∧z5.same z5∧z6.same z6∧z30.same z30∧True)∧z10.same z10∧z12.same z12∧z14.same z14∧z16.same z16∧z17.same z17∧(SObj.cells [SV.sb z31.fst,SV.row z8 z31.snd.fst,SV.row z8 z31.snd.snd] 58 3 false).same z33∧SObj.dead.same SObj.dead∧SObj.dead.same SObj.dead∧True)∧((0:Int)≤z26∧z26≤z7)∧(z7 - z26).toNat<(z7 - x).toNat)∧(z41=false→(z42=true→z9.k3=z20∧(0:Int)≤x∧x<(↑z20:Int)∧z9.k3=z20∧x.toNat<z20∧z9.k3=z20∧(0:Int)≤z27∧z27<(↑z20:Int)∧z9.k3=z20∧z27.toNat<z20∧(z43=true→inR .i64 z26∧((z0.same z0∧(SV.si .i64 c).same (SV.si .i64 c)∧z28.same z29∧z2.same z2∧z5.same z5∧z6.same z6∧z30.same z30∧True)∧z10.same z10∧z12.same z12∧z14.same z14∧z16.same z16∧z17.same z17∧(SObj.cells [SV.sb z31.fst,SV.row z8 z31.snd.fst,SV.row z8 z31.snd.snd] 58 3 false).same z33∧SObj.dead.same SObj.dead∧SObj.dead.same SObj.dead∧True)∧((0:Int)≤z26∧z26≤z7)∧(z7 - z26).toNat<(z7 - x).toNat)∧(z43=false→inR .i64 z26∧((z0.same z0∧(SV.si .i64 c).same (SV.si .i64 c)∧(SV.si .i64 x).same z29∧z2.same z2∧z5.same z5∧z6.same z6∧z30.same z30∧True)∧z10.same z10∧z12.same z12∧z14.same z14∧z16.same z16∧z17.same z17∧(SObj.cells [SV.sb z37.fst,SV.row z8 z37.snd.fst,SV.row z8 z37.snd.snd] 58 3 false).same z33∧SObj.dead.same SObj.dead∧SObj.dead.same SObj.dead∧True)∧((0:Int)≤z26∧z26≤z7)∧(z7 - z26).toNat<(z7 - x).toNat))∧(z42=false→inR .i64 z26∧((z0.same z0∧(SV.si .i64 c).same (SV.si .i64 c)∧(SV.si .i64 x).same z29∧z2.same z2∧z5.same z5∧z6.same z6∧z30.same z30∧True)∧z10.same z10∧z12.same z12∧z14.same z14∧z16.same z16∧z17.same z17∧(SObj.cells [SV.sb z37.fst,SV.row z8 z37.snd.fst,SV.row z8 z37.snd.snd] 58 3 false).same z33∧SObj.dead.same SObj.dead∧SObj.dead.same SObj.dead∧True)∧((0:Int)≤z26∧z26≤z7)∧(z7 - z26).toNat<(z7 - x).toNat)))∧(z36=false→inR .i64 z26∧((z0.same z0∧(SV.si .i64 c).same (SV.si .i64 c)∧(SV.si .i64 x).same z29∧z2.same z2∧z5.same z5∧z6.same z6∧z30.same z30∧True)∧z10.same z10∧z12.same z12∧z14.same z14∧z16.same z16∧z17.same z17∧(SObj.cells [SV.sb z37.fst,SV.row z8 z37.snd.fst,SV.row z8 z37.snd.snd] 58 3 false).same z33∧SObj.dead.same SObj.dead∧SObj.dead.same SObj.dead∧True)∧((0:Int)≤z26∧z26≤z7)∧(z7 - z26).toNat<(z7 - x).toNat)))∧(z21=false→z28.same (SV.si .i64 (levN z1 c.toNat z7.toNat))∧z10.same z10∧z12.same z12∧z14.same z14∧z16.same z16∧z17.same z17∧True)) (by kernel_rfl) ?_
 simp only[encT_t]
 try simp only[encT]
 simp only[vcs]
 obtain⟨⟨⟨n0,n1⟩,m0,m1⟩,hw,hz⟩:=id hok
 have hkl:=hw.coef
 have hbl:=hw.bound
 have hbb:=hw.basic
 have hfm:=@fM_len t.coef
 have hfb:=@fL_len t.bound
 have hcell:∀{x y:Fra},x=y→(SObj.cells [SV.sb x.1,SV.row (SId.i IntKind.u32) x.2.1,SV.row (SId.i IntKind.u32) x.2.2] 58 3 false).same (SObj.cells [SV.sb y.1,SV.row (SId.i IntKind.u32) y.2.1,SV.row (SId.i IntKind.u32) y.2.2] 58 3 false):=by rintro _ _ rfl;rfl
 have hl0:leaF t c.toNat 0=(false,([],[])):=rfl
 refine⟨⟨⟨rfl,by rw[hl0];rfl⟩,by omega,by omega⟩,?_⟩
 rintro i ⟨i0,i1⟩
 refine⟨fun hi=>?_,fun hi=>by rw[show i.toNat=m.toNat by omega]⟩
 have him:i.toNat<m.toNat:=by omega
 have hrow:nthD (fM t.coef) i.toNat sF.lst.dflt=fL (nthD t.coef i.toNat []):=fM_nth (by omega)
 have hrl:=hw.row i.toNat him
 have hfr:=@fL_len (nthD t.coef i.toNat [])
 have hA:nthD (fL (nthD t.coef i.toNat [])) c.toNat sF.dflt=frE (t.cf i.toNat c.toNat):=fL_nth (by omega)
 have hB:nthD (fL t.bound) i.toNat sF.dflt=frE (t.bd i.toNat):=fL_nth (by omega)
 have hbv:∀k:Nat,nthD t.basic k 0=t.bv k:=fun k=>rfl
 have hsA:=hok.cf (i:=i.toNat) (j:=c.toNat) him (by omega)
 have hsB:=hok.bd (i:=i.toNat) him
 have hs:levN t c.toNat (i+1).toNat=if t.cf i.toNat c.toNat≤0 then levN t c.toNat i.toNat
  else if 0≤levN t c.toNat i.toNat∧(t.bd (levN t c.toNat i.toNat).toNat / t.cf (levN t c.toNat i.toNat).toNat c.toNat<t.bd i.toNat / t.cf i.toNat c.toNat∨(t.bd i.toNat / t.cf i.toNat c.toNat=t.bd (levN t c.toNat i.toNat).toNat / t.cf (levN t c.toNat i.toNat).toNat c.toNat∧t.bv (levN t c.toNat i.toNat).toNat<t.bv i.toNat)) then levN t c.toNat i.toNat
  else(i.toNat:Int):=by
  rw[show(i+1).toNat=i.toNat+1 by omega]
  rfl
 have hlb:levN t c.toNat i.toNat<i.toNat:=by
  rcases @lev_ok t c.toNat i.toNat with⟨h,_⟩|⟨b,h,hlt,_⟩<;>omega
 have hlp:0≤levN t c.toNat i.toNat→0<t.cf (levN t c.toNat i.toNat).toNat c.toNat:=fun h=>by
  rcases @lev_ok t c.toNat i.toNat with⟨h2,_⟩|⟨b,h2,hlt,hp,_⟩
  ·omega
  ·rw[h2,Int.toNat_natCast];exact hp
 have sgn_le:∀q:Rat,sgnQ q≤0↔q≤0:=fun q=>by
  have:=@sgnQ_pos q
  constructor
  ·intro h;exact Rat.not_lt.1 fun h2=>by have:=this.2 h2;omega
  ·intro h;exact Int.not_lt.1 fun h2=>Rat.not_lt.2 h (this.1 h2)
 simp only[hrow,hA,hB,fra_eta,valF_frE,hbv,sgn_le,cmpR_pos,cmpR_zero]
 have hlea:0≤levN t c.toNat i.toNat→leaF t c.toNat i.toNat=frE (t.bd (levN t c.toNat i.toNat).toNat / t.cf (levN t c.toNat i.toNat).toNat c.toNat):=fun h=>by
  unfold leaF
  rw[if_neg (by omega)]
 have tail:(0≤i+1∧i+1≤m)∧(m - (i+1)).toNat<(m - i).toNat:=by omega
 have keep:levN t c.toNat (i+1).toNat=levN t c.toNat i.toNat→leaF t c.toNat i.toNat=leaF t c.toNat (i+1).toNat:=fun h=>by
  unfold leaF
  rw[h]
 have new:levN t c.toNat (i+1).toNat=(i.toNat:Int)→frE (t.bd i.toNat / t.cf i.toNat c.toNat)=leaF t c.toNat (i+1).toNat:=fun h=>by
  unfold leaF
  rw[h,if_neg (by omega),Int.toNat_natCast]
 have hnz:0<t.cf i.toNat c.toNat→t.cf i.toNat c.toNat≠0:=fun h=>by grind
 refine⟨by omega,i0,by omega,by omega,by omega,hd.1,by omega,by omega,isF_of hsA (by omega),fun hle=>?_,fun hgt=>?_⟩
 ·have e:levN t c.toNat (i+1).toNat=levN t c.toNat i.toNat:=by rw[hs,if_pos hle]
  exact⟨by omega,⟨e.symm,hcell (keep e)⟩,tail⟩
 ·have hp:0<t.cf i.toNat c.toNat:=Rat.not_le.1 hgt
  rw[if_neg hgt] at hs
  have hratio:=sz_div hsB hsA (hnz hp)
  refine⟨by omega,i0,by omega,by omega,by omega,hd.1,by omega,by omega,⟨⟨isF_of hsB (by omega),isF_of hsA (by omega)⟩,hnz hp⟩,fun h0=>?_,fun h0=>?_⟩
  ·have hl:=hlea h0
   have hsl:=sz_div (hok.bd (i:=(levN t c.toNat i.toNat).toNat) (by omega)) (hok.cf (i:=(levN t c.toNat i.toNat).toNat) (j:=c.toNat) (by omega) (by omega)) (by have:=hlp h0;grind)
   have hvl:valF (leaF t c.toNat i.toNat)=t.bd (levN t c.toNat i.toNat).toNat / t.cf (levN t c.toNat i.toNat).toNat c.toNat:=by rw[hl,valF_frE]
   simp only[hvl]
   refine⟨⟨isF_of hratio (by omega),by rw[hl];exact isF_of hsl (by omega)⟩,fun hlt=>?_,fun hlt=>⟨fun heq=>⟨i0,by omega,by omega,h0,by omega,by omega,fun hbl=>?_,fun hbl=>?_⟩,fun heq=>?_⟩⟩
   ·rw[if_pos ⟨h0,.inl hlt⟩] at hs
    exact⟨by omega,⟨hs.symm,hcell (keep hs)⟩,tail⟩
   ·rw[if_pos ⟨h0,.inr ⟨heq,hbl⟩⟩] at hs
    exact⟨by omega,⟨hs.symm,hcell (keep hs)⟩,tail⟩
   ·rw[if_neg fun h=>h.2.elim hlt fun h2=>hbl h2.2] at hs
    exact⟨by omega,⟨by omega,hcell (new hs)⟩,tail⟩
   ·rw[if_neg fun h=>h.2.elim hlt fun h2=>heq h2.1] at hs
    exact⟨by omega,⟨by omega,hcell (new hs)⟩,tail⟩
  ·rw[if_neg fun h=>h0 h.1] at hs
   exact⟨by omega,⟨by omega,hcell (new hs)⟩,tail⟩
def goalV (t0:Tb) (v:Int):Rat:=if v∈t0.free then t0.cs (t0.free.idxOf v) else 0
section
variable {n m:Nat} {t t0:Tb}
theorem Run.goal (h:Run n m t0 t) {x:Int→Rat} {z:Rat} (hx:t.holds n m x z):z=t0.value+(sumQ m (fun k=>goalV t0 (t.bv k)*x (t.bv k))+sumQ n (fun j=>goalV t0 (t.fv j)*x (t.fv j))):=by
 have key:∀t:Tb,t.WF n m→sumL (fun v=>goalV t0 v*x v) (t.basic++t.free)=sumQ m (fun k=>goalV t0 (t.bv k)*x (t.bv k))+sumQ n (fun j=>goalV t0 (t.fv j)*x (t.fv j)):=fun t ht=>by
  rw[sumL_app,sumL_eq,sumL_eq,ht.basic,ht.free]
  rfl
 rw[←key t h.wf,sumL_perm h.perm,key t0 h.wf0]
 rw[sumQ_congr (n:=m) (g:=fun _=>0) fun k hk=>by
  unfold goalV
  rw[if_neg (bv_not h.wf0 h.nd hk)]
  grind,sumQ_zero]
 rw[sumQ_congr (n:=n) (g:=fun j=>t0.cs j*x (t0.fv j)) fun j hj=>by
  have hl:j<t0.free.length:=by rw[h.wf0.free];exact hj
  unfold goalV
  rw[if_pos (fv_mem h.wf0 hj),show t0.free.idxOf (t0.fv j)=j from idx_nth (List.nodup_append.1 h.nd).2.1 hl]]
 have h2:=(((h.sol _ _).1 hx).2)
 rw[h2]
 grind
theorem Run.val (h:Run n m t0 t):t.value=t0.value+sumQ m fun k=>goalV t0 (t.bv k)*t.bd k:=by
 have h1:=h.goal (asg_holds h.wf h.nd1 (y:=fun _=>0))
 rw[sumQ_congr (n:=n) (f:=fun j=>t.cs j*(fun _=>(0:Rat)) j) (g:=fun _=>0) fun j _=>by grind,sumQ_zero] at h1
 rw[sumQ_congr (n:=n) (f:=fun j=>goalV t0 (t.fv j)*asg n t (fun _=>0) (t.fv j)) (g:=fun _=>0) fun j hj=>by rw[asg_free h.wf h.nd1 hj];grind,sumQ_zero] at h1
 rw[sumQ_congr (n:=m) (g:=fun k=>goalV t0 (t.bv k)*t.bd k) fun k hk=>by
  rw[asg_basic h.wf h.nd1 hk,sumQ_congr (g:=fun _=>0) fun j _=>by grind,sumQ_zero]
  grind] at h1
 grind
theorem sumQ_at {n c:Nat} {q:Rat} (hc:c<n):sumQ n (fun j=>if j=c then q else 0)=q:=by
 induction n with
 |zero=>omega
 |succ n ih=>
  unfold sumQ
  by_cases h:c=n
  ·subst h
   rw[if_pos rfl,sumQ_congr (g:=fun _=>0) fun j hj=>by rw[if_neg (by omega)],sumQ_zero]
   grind
  ·rw[ih (by omega),if_neg (fun h2=>h h2.symm)]
   grind
theorem sumQ_sub {f g:Nat→Rat}:∀{n:Nat},sumQ n (fun j=>f j - g j)=sumQ n f - sumQ n g
 |0=>by simp only[sumQ];grind
 |n+1=>by simp only[sumQ,@sumQ_sub f g n];grind
theorem Run.csts (h:Run n m t0 t) {c:Nat} (hc:c<n):t.cs c=goalV t0 (t.fv c) - sumQ m fun k=>goalV t0 (t.bv k)*t.cf k c:=by
 have h1:=h.goal (asg_holds h.wf h.nd1 (y:=fun j=>if j=c then 1 else 0))
 rw[sumQ_congr (n:=n) (f:=fun j=>t.cs j*(if j=c then(1:Rat) else 0)) (g:=fun j=>if j=c then t.cs c else 0) fun j _=>by
  by_cases hj:j=c
  ·subst hj;rw[if_pos rfl,if_pos rfl];grind
  ·rw[if_neg hj,if_neg hj];grind,sumQ_at hc] at h1
 rw[sumQ_congr (n:=n) (f:=fun j=>goalV t0 (t.fv j)*asg n t (fun j=>if j=c then 1 else 0) (t.fv j)) (g:=fun j=>if j=c then goalV t0 (t.fv c) else 0) fun j hj=>by
  rw[asg_free h.wf h.nd1 hj]
  by_cases hj:j=c
  ·subst hj;rw[if_pos rfl,if_pos rfl];grind
  ·rw[if_neg hj,if_neg hj];grind,sumQ_at hc] at h1
 rw[sumQ_congr (n:=m) (g:=fun k=>goalV t0 (t.bv k)*t.bd k - goalV t0 (t.bv k)*t.cf k c) fun k hk=>by
  rw[asg_basic h.wf h.nd1 hk,sumQ_congr (g:=fun j=>if j=c then t.cf k c else 0) fun j _=>by
   by_cases hj:j=c
   ·subst hj;rw[if_pos rfl,if_pos rfl];grind
   ·rw[if_neg hj,if_neg hj];grind,sumQ_at hc]
  grind,sumQ_sub,h.val] at h1
 grind
end
theorem isZ_mul {M K:Nat} {p q:Rat} (hp:isZ M p) (hq:isZ K q):isZ (M*K) (p*q):=by
 obtain⟨a,rfl,ha⟩:=hp
 obtain⟨b,rfl,hb⟩:=hq
 exact⟨a*b,by rw[Rat.intCast_mul],by rw[Int.natAbs_mul];exact Nat.mul_le_mul ha hb⟩
theorem isZ_add {M K:Nat} {p q:Rat} (hp:isZ M p) (hq:isZ K q):isZ (M+K) (p+q):=by
 obtain⟨a,rfl,ha⟩:=hp
 obtain⟨b,rfl,hb⟩:=hq
 exact⟨a+b,by rw[Rat.intCast_add],by omega⟩
theorem isZ_neg {M:Nat} {p:Rat} (hp:isZ M p):isZ M (-p):=by
 obtain⟨a,rfl,ha⟩:=hp
 exact⟨-a,by rw[Rat.intCast_neg],by omega⟩
theorem isZ_zero {M:Nat}:isZ M 0:=⟨0,rfl,by simp⟩
theorem isZ.le {M K:Nat} {p:Rat} (hp:isZ M p) (h:M≤K):isZ K p:=by
 obtain⟨a,rfl,ha⟩:=hp
 exact⟨a,rfl,by omega⟩
theorem isZ_sum {M:Nat} {f:Nat→Rat}:∀{n:Nat},(∀k,k<n→isZ M (f k))→isZ (n*M) (sumQ n f)
 |0,_=>by simpa[sumQ] using isZ_zero
 |n+1,h=>by
  have h1:=isZ_add (@isZ_sum M f n fun k hk=>h k (by omega)) (h n (by omega))
  rw[sumQ,show(n+1)*M=n*M+M by rw[Nat.succ_mul]]
  exact h1
theorem sumQ_mulr {f:Nat→Rat} {d:Rat}:∀{n:Nat},sumQ n f*d=sumQ n fun k=>f k*d
 |0=>by simp only[sumQ];grind
 |n+1=>by
  have:=@sumQ_mulr f d n
  simp only[sumQ]
  rw[←this]
  grind
theorem sz_of {X k:Nat} {q D:Rat} (h1:isZ X (q*D)) (h2:isZ X D) (hD:D≠0) (hX:X<4294967296^k):Sz k q:=by
 obtain⟨a,e1,ha⟩:=h1
 obtain⟨d,rfl,hd⟩:=h2
 have hd0:d≠0:=fun h=>hD (by subst h;rfl)
 have hp:((4294967296^k:Nat):Int)=(4294967296:Int)^k:=by
  rw[Int.natCast_pow]
  rfl
 have hX':(X:Int)<4294967296^k:=by
  rw[←hp]
  exact Int.ofNat_lt.2 hX
 have e:q=mkRat (a*d.sign) d.natAbs:=by
  have h1:mkRat (a*d.sign) d.natAbs=((a*d.sign:Int):Rat) / ((d.natAbs:Int):Rat):=by
   rw[Rat.mkRat_eq_div]
   rfl
  have h2:((d.natAbs:Int):Rat)=(d:Rat)*(d.sign:Rat):=by
   rw[←Rat.intCast_mul]
   congr 1
   rw[Int.mul_sign_self]
  have hs:(d.sign:Rat)*(d.sign:Rat)=1:=by
   rw[←Rat.intCast_mul]
   rcases Int.lt_or_lt_of_ne hd0 with h|h
   ·rw[Int.sign_eq_neg_one_of_neg h];rfl
   ·rw[Int.sign_eq_one_of_pos h];rfl
  rw[h1,h2,Rat.intCast_mul,←e1]
  have hs0:(d.sign:Rat)≠0:=fun h=>by rw[h] at hs;grind
  grind
 rw[e]
 refine sz_mk (by omega) ?_ (by omega)
 rw[Int.natAbs_mul]
 have:d.sign.natAbs=1:=by
  rw[Int.natAbs_sign]
  exact if_neg hd0
 rw[this]
 omega
structure Small (n m M G:Nat) (t0:Tb):Prop where
 wf:t0.WF n m
 nd:(t0.basic++t0.free).Nodup
 cf:∀i j,i<m→j<n→isZ M (t0.cf i j)
 bd:∀i,i<m→isZ M (t0.bd i)
 cs:∀j,j<n→isZ G (t0.cs j)
 v:t0.value=0
 M1:1≤M
 G1:M≤G
 X:(m+2)*(G*facP M m)<4294967296^1000
theorem mul_le3 {a b c:Nat} (h:1≤a) (h2:1≤b):c≤a*(b*c):=by
 have h3:1*(1*c)≤a*(b*c):=Nat.mul_le_mul h (Nat.mul_le_mul h2 (Nat.le_refl _))
 omega
theorem Small.goal {n m M G:Nat} {t0:Tb} (h:Small n m M G t0) {v:Int}:isZ G (goalV t0 v):=by
 unfold goalV
 split
 ·rename_i hv
  exact h.cs _ (by rw[←h.wf.free];exact List.idxOf_lt_length_of_mem hv)
 ·exact isZ_zero
theorem Small.szT {n m M G:Nat} {t0 t:Tb} (h:Small n m M G t0) (hR:Run n m t0 t):szT 1000000 t:=by
 have hD:=hR.detZ h.M1 h.cf
 have hX:=h.X
 have g1:1≤G:=Nat.le_trans h.M1 h.G1
 have hF:facP M m≤(m+2)*(G*facP M m):=mul_le3 (by omega) g1
 have sz:∀{q:Rat},isZ ((m+2)*(G*facP M m)) (q*detT m t0 t)→Sz 1000000 q:=fun h1=>(sz_of h1 (hD.le hF) hR.dt hX).mono (by omega)
 have hc:∀r c,r<m→c<n→isZ (facP M m) (t.cf r c*detT m t0 t):=fun r c hr hc=>hR.cfZ h.M1 h.cf hr hc
 have hb:∀r,r<m→isZ (facP M m) (t.bd r*detT m t0 t):=fun r hr=>hR.bdZ h.M1 h.cf h.bd hr
 have mg:∀{α:Type} {l:List α} {P:α→Prop} {d:α},(∀i,i<l.length→P (nthD l i d))→∀q∈l,P q:=fun h q hq=>by
  obtain⟨i,hi,rfl⟩:=List.getElem_of_mem hq
  have:=h i hi
  rwa [nthD_eq hi] at this
 refine⟨mg (d:=[]) fun i hi=>?_,mg (d:=0) fun i hi=>?_,mg (d:=0) fun j hj=>?_,?_⟩
 ·rw[hR.wf.coef] at hi
  refine mg (d:=0) fun j hj=>?_
  rw[hR.wf.row i hi] at hj
  exact sz ((hc i j hi hj).le hF)
 ·rw[hR.wf.bound] at hi
  exact sz ((hb i hi).le hF)
 ·rw[hR.wf.cost] at hj
  refine sz ?_
  have e:=hR.csts hj
  have e2:nthD t.cost j 0*detT m t0 t=goalV t0 (t.fv j)*detT m t0 t+ -(sumQ m fun k=>goalV t0 (t.bv k)*(t.cf k j*detT m t0 t)):=by
   show t.cs j*_=_
   rw[e,sumQ_congr (f:=fun k=>goalV t0 (t.bv k)*(t.cf k j*detT m t0 t)) (g:=fun k=>(goalV t0 (t.bv k)*t.cf k j)*detT m t0 t) fun k _=>by grind,←sumQ_mulr]
   grind
  rw[e2]
  refine(isZ_add (isZ_mul h.goal hD) (isZ_neg (isZ_sum fun k hk=>isZ_mul h.goal (hc k j hk hj)))).le ?_
  rw[Nat.add_mul]
  omega
 ·refine sz ?_
  have e2:t.value*detT m t0 t=sumQ m fun k=>goalV t0 (t.bv k)*(t.bd k*detT m t0 t):=by
   rw[hR.val,h.v,sumQ_congr (f:=fun k=>goalV t0 (t.bv k)*(t.bd k*detT m t0 t)) (g:=fun k=>(goalV t0 (t.bv k)*t.bd k)*detT m t0 t) fun k _=>by grind,←sumQ_mulr]
   grind
  rw[e2]
  refine(isZ_sum fun k hk=>isZ_mul h.goal (hb k hk)).le ?_
  rw[Nat.add_mul]
  omega
theorem small_okT {n m:Int} {M G:Nat} {t0 t:Tb} (h:Small n.toNat m.toNat M G t0) (hR:Run n.toNat m.toNat t0 t) (hn:0≤n∧n≤1000) (hm:0≤m∧m≤1000):okT n m t:=⟨⟨hn,hm⟩,hR.wf,h.szT hR⟩
section
variable {n m:Nat} {t t0:Tb}
theorem run_run:∀{N:Nat} {t:Tb},Run n m t0 t→feasT m t→Run n m t0 (runT n m N t)∧feasT m (runT n m N t)
 |0,t,hR,hF=>⟨hR,hF⟩
 |N+1,t,hR,hF=>by
  unfold runT
  split
  ·exact⟨hR,hF⟩
  ·rename_i t' ht
   have:=step_run hR hF ht
   exact run_run this.1 this.2
theorem run_end:∀{N:Nat} {t:Tb},endsT n m N t=true→stepT n m (runT n m N t)=none
 |0,t,h=>Option.isNone_iff_eq_none.1 h
 |N+1,t,h=>by
  unfold endsT at h
  unfold runT
  split
  ·assumption
  ·rename_i t' ht
   rw[ht] at h
   exact run_end h
theorem run_same:∀{N K:Nat} {t:Tb},endsT n m N t=true→N≤K→runT n m K t=runT n m N t
 |0,K,t,h,hK=>by
  have h2:=Option.isNone_iff_eq_none.1 h
  cases K with
  |zero=>rfl
  |succ K=>simp only[runT,h2]
 |N+1,K,t,h,hK=>by
  obtain⟨K,rfl⟩:∃k,K=k+1:=⟨K - 1,by omega⟩
  unfold endsT at h
  unfold runT
  split
  ·rfl
  ·rename_i t' ht
   rw[ht] at h
   exact run_same h (by omega)
theorem mul_le0 {a b:Rat} (ha:a≤0) (hb:0≤b):a*b≤0:=by
 have:=Rat.mul_nonneg (a:= -a) (b:=b) (by grind) hb
 grind
theorem Run.bnd (h:Run n m t0 t) (hF:feasT m t) {B:Rat} (hB:∀x z,t0.holds n m x z→(∀v∈t0.basic++t0.free,0≤x v)→z≤B) {c:Nat} (he:entN t n=(c:Int)) (hl:levN t c m<0):False:=by
 rcases @ent_ok t n with⟨e1,e2⟩|⟨c',e1,e2,e3,e4⟩
 ·omega
 ·have hc:c'=c:=by omega
  subst hc
  rcases @lev_ok t c' m with⟨l1,l2⟩|⟨r,l1,_⟩
  ·
   have key:∀s:Rat,0≤s→t.value+s*t.cs c'≤B:=fun s hs=>by
    have hh:=asg_holds h.wf h.nd1 (y:=fun j=>if j=c' then s else 0)
    have e:sumQ n (fun j=>t.cs j*(fun j=>if j=c' then s else 0) j)=s*t.cs c':=by
     rw[sumQ_congr (g:=fun j=>if j=c' then s*t.cs c' else 0) fun j _=>by
      by_cases hj:j=c'
      ·subst hj;simp only[if_pos rfl];grind
      ·simp only[if_neg hj];grind,sumQ_at e2]
    rw[e] at hh
    refine hB _ _ ((h.sol _ _).1 hh) fun v hv=>?_
    rw[←h.perm.mem_iff,List.mem_append] at hv
    rcases hv with hv|hv
    ·obtain⟨i,hi,rfl⟩:=bv_of h.wf hv
     rw[asg_basic h.wf h.nd1 hi]
     have e3:sumQ n (fun j=>t.cf i j*(if j=c' then s else 0))=t.cf i c'*s:=by
      rw[sumQ_congr (g:=fun j=>if j=c' then t.cf i c'*s else 0) fun j _=>by
       by_cases hj:j=c'
       ·subst hj;simp
       ·simp only[if_neg hj];grind,sumQ_at e2]
     rw[e3]
     have:=mul_le0 (l2 i hi) hs
     have:=hF i hi
     grind
    ·obtain⟨j,hj,rfl⟩:=fv_of h.wf hv
     rw[asg_free h.wf h.nd1 hj]
     split
     ·exact hs
     ·grind
   have hv0:=key 0 (by grind)
   have hs:0≤(B - t.value+1) / t.cs c':=div_nonneg (by grind) e3
   have h1:=key _ hs
   rw[div_mul e3] at h1
   grind
  ·omega
end
open Classical in
noncomputable def lastN (n m:Nat) (t:Tb):Nat:=if h:∃N,endsT n m N t=true then Classical.choose h else 0
noncomputable def lastT (n m:Nat) (t:Tb):Tb:=runT n m (lastN n m t) t
section
variable {n m:Nat} {t t0 t':Tb}
theorem last_eq {N:Nat} (h:endsT n m N t=true):lastT n m t=runT n m N t:=by
 have hx:∃N,endsT n m N t=true:=⟨N,h⟩
 have h2:endsT n m (lastN n m t) t=true:=by
  unfold lastN
  rw[dif_pos hx]
  exact Classical.choose_spec hx
 unfold lastT
 rcases Nat.le_total N (lastN n m t) with hl|hl
 ·exact run_same h hl
 ·exact(run_same h2 hl).symm
theorem last_end (h:stepT n m t=none):lastT n m t=t:=by
 have h0:endsT n m 0 t=true:=by simp[endsT,h]
 rw[last_eq h0]
 rfl
theorem last_step (hN:∃N,endsT n m N t=true) (h:stepT n m t=some t'):lastT n m t'=lastT n m t:=by
 obtain⟨N,hN⟩:=hN
 have h1:=ends_step hN h
 rw[last_eq h1,last_eq (ends_mono hN)]
 show _=runT n m (N+1) t
 simp only[runT,h]
theorem last_run (hR:Run n m t0 t) (hF:feasT m t):Run n m t0 (lastT n m t)∧feasT m (lastT n m t)∧stepT n m (lastT n m t)=none:=by
 obtain⟨N,hN⟩:=bland hR hF
 rw[last_eq hN]
 have:=run_run (N:=N) hR hF
 exact⟨this.1,this.2,run_end hN⟩
theorem last_opt (hR:Run n m t0 t) (hF:feasT m t) {B:Rat} (hB:∀x z,t0.holds n m x z→(∀v∈t0.basic++t0.free,0≤x v)→z≤B):entN (lastT n m t) n<0:=by
 obtain⟨h1,h2,h3⟩:=last_run hR hF
 rcases @ent_ok (lastT n m t) n with⟨e1,e2⟩|⟨c,e1,e2,e3,e4⟩
 ·omega
 ·exfalso
  unfold stepT at h3
  rw[if_neg (by omega),show(entN (lastT n m t) n).toNat=c by omega] at h3
  split at h3
  ·rename_i hl
   exact h1.bnd h2 hB e1 hl
  ·cases h3
end
def dcI (f:List Int) (d:Int):List Int:=(uptoI f.length).filter fun i=>decide (nthD f i.toNat 0=d)
theorem dcI_mem {f:List Int} {d x:Int}:x∈dcI f d↔(0≤x∧x<f.length)∧nthD f x.toNat 0=d:=by
 unfold dcI
 rw[List.mem_filter,uptoI_mem,decide_eq_true_eq]
theorem dcI_lt {f:List Int} {d:Int}:(dcI f d).Pairwise (·<·):=uptoI_lt.sublist List.filter_sublist
theorem dcI_len {f:List Int} {d:Int}:(dcI f d).length≤f.length:=by
 have:=List.length_filter_le (fun i:Int=>decide (nthD f i.toNat 0=d)) (uptoI f.length)
 rw[uptoI_len] at this
 exact this
theorem nth_mapL {α β:Type} {g:α→β} {l:List α} {i:Nat} {d:β} {e:α} (h:i<l.length):nthD (l.map g) i d=g (nthD l i e):=by
 rw[nthD_eq (by rw[List.length_map];exact h),nthD_eq h,List.getElem_map]
theorem nth_upto {n j:Nat} {d:Int} (h:j<n):nthD (uptoI n) j d=j:=by
 unfold uptoI
 exact nth_map h
def relT (p:Prob) (f:List Int):Tb where
 coef:=(List.range (p.classes.length+12)).map fun r:Nat=>(dcI f 0).map fun i=>((coefS p r (oI p i):Int):Rat)
 bound:=(List.range (p.classes.length+12)).map fun r:Nat=>((boundS p r - sumS p ((dcI f 1).map (oI p)) r:Int):Rat)
 cost:=(dcI f 0).map fun i=>(((oI p i).value:Int):Rat)
 value:=0
 basic:=(List.range (p.classes.length+12)).map fun i:Nat=>(((dcI f 0).length+i:Nat):Int)
 free:=uptoI (dcI f 0).length
def fixOk (p:Prob) (f:List Int):Prop:=checkE p=0∧f.length=p.offers.length∧fitsB p ((dcI f 1).map (oI p))=true
abbrev nF (f:List Int):Nat:=(dcI f 0).length
abbrev mF (p:Prob):Nat:=p.classes.length+12
section
variable {p:Prob} {f:List Int}
theorem rel_wf:(relT p f).WF (nF f) (mF p) where
 coef:=by simp[relT]
 row i hi:=by
  simp only[relT]
  rw[nth_map hi,List.length_map]
 bound:=by simp[relT]
 cost:=by simp[relT]
 basic:=by simp[relT]
 free:=by simp[relT,uptoI_len]
theorem rel_cf {i j:Nat} (hi:i<mF p) (hj:j<nF f):(relT p f).cf i j=((coefS p i (oI p (nthD (dcI f 0) j 0)):Int):Rat):=by
 unfold Tb.cf
 simp only[relT]
 rw[nth_map hi,nth_mapL (e:=0) hj]
theorem rel_bd {i:Nat} (hi:i<mF p):(relT p f).bd i=((boundS p i - sumS p ((dcI f 1).map (oI p)) i:Int):Rat):=by
 unfold Tb.bd
 simp only[relT]
 rw[nth_map hi]
theorem rel_cs {j:Nat} (hj:j<nF f):(relT p f).cs j=(((oI p (nthD (dcI f 0) j 0)).value:Int):Rat):=by
 unfold Tb.cs
 simp only[relT]
 rw[nth_mapL (e:=0) hj]
theorem rel_nd:((relT p f).basic++(relT p f).free).Nodup:=by
 rw[List.nodup_append]
 refine⟨?_,uptoI_lt.imp fun h=>by omega,?_⟩
 ·simp only[relT]
  refine List.Pairwise.map _ (fun a b h=>?_) List.nodup_range
  intro h2
  exact h (by omega)
 ·intro a ha b hb
  simp only[relT,List.mem_map,List.mem_range] at ha
  simp only[relT,uptoI_mem] at hb
  obtain⟨i,hi,rfl⟩:=ha
  omega
theorem free_in (h:fixOk p f) {j:Nat} (hj:j<nF f):(0≤nthD (dcI f 0) j 0∧nthD (dcI f 0) j 0<p.offers.length)∧nthD f (nthD (dcI f 0) j 0).toNat 0=0:=by
 have:=dcI_mem.1 (nthD_mem (d:=0) hj)
 rw[h.2.1] at this
 exact this
theorem off_good (hc:checkE p=0) {i:Int} (h:0≤i∧i<p.offers.length):0≤(oI p i).bidder∧(oI p i).bidder<p.classes.length∧(oI p i).want.ok=true∧1≤(oI p i).value∧(oI p i).value≤1000000:=(good_of hc).2.2.2.2 _ (nthD_mem (show i.toNat<p.offers.length by omega))
theorem in_good (h:fixOk p f) {d:Int}:∀x∈(dcI f d).map (oI p),0≤x.bidder∧x.bidder<p.classes.length∧x.want.ok=true∧1≤x.value∧x.value≤1000000:=fun x hx=>by
 obtain⟨i,hi,rfl⟩:=List.mem_map.1 hx
 have:=(dcI_mem.1 hi).1
 rw[h.2.1] at this
 exact off_good h.1 this
theorem isZ_int {z:Int} {M:Nat} (h:z.natAbs≤M):isZ M (z:Rat):=⟨z,rfl,h⟩
theorem rel_left (h:fixOk p f) {i:Nat} (hi:i<mF p):0≤boundS p i - sumS p ((dcI f 1).map (oI p)) i∧boundS p i - sumS p ((dcI f 1).map (oI p)) i≤4:=by
 have hi2:i<p.classes.length+12:=hi
 have h1:=fits_iff.1 h.2.2 i (by unfold nrows;omega)
 have h2:=@bound_bd p h.1 i
 have h3:=@sum_bd p i ((dcI f 1).map (oI p)) fun x hx=>(in_good h x hx).2.2.1
 omega
theorem fac_bd:∀m:Nat,m≤20→(m+2)*(1000000*facP 4 m)<4294967296^1000:=by
 have h:((List.range 21).all fun m=>Nat.blt ((m+2)*(1000000*facP 4 m)) (4294967296^1000))=true:=by decide+kernel
 intro m hm
 have:=List.all_eq_true.1 h m (List.mem_range.2 (by omega))
 rw[Nat.blt_eq] at this
 exact this
theorem rel_small (h:fixOk p f):Small (nF f) (mF p) 4 1000000 (relT p f) where
 wf:=rel_wf
 nd:=rel_nd
 cf i j hi hj:=by
  rw[rel_cf hi hj]
  have:=(off_good h.1 (free_in h hj).1).2.2.1
  have:=@coef_bd p i _ this
  exact isZ_int (by omega)
 bd i hi:=by
  rw[rel_bd hi]
  have:=rel_left h hi
  exact isZ_int (by omega)
 cs j hj:=by
  rw[rel_cs hj]
  have:=off_good h.1 (free_in h hj).1
  exact isZ_int (by omega)
 v:=rfl
 M1:=by omega
 G1:=by omega
 X:=fac_bd _ (by have:=(good_of h.1).1;unfold mF;omega)
theorem cast_nonneg {z:Int} (h:0≤z):(0:Rat)≤(z:Rat):=by exact_mod_cast h
theorem rel_feas (h:fixOk p f):feasT (mF p) (relT p f):=fun i hi=>by
 rw[rel_bd hi]
 exact cast_nonneg (rel_left h hi).1
theorem sumQ_ge0 {g:Nat→Rat}:∀{n:Nat},(∀k,k<n→0≤g k)→0≤sumQ n g
 |0,_=>by simp only[sumQ];grind
 |n+1,h=>by
  have h1:=@sumQ_ge0 g n fun k hk=>h k (by omega)
  have h2:=h n (by omega)
  simp only[sumQ]
  grind
theorem sumQ_le {g k:Nat→Rat}:∀{n:Nat},(∀i,i<n→g i≤k i)→sumQ n g≤sumQ n k
 |0,_=>by simp only[sumQ];grind
 |n+1,h=>by
  have h1:=@sumQ_le g k n fun k hk=>h k (by omega)
  have h2:=h n (by omega)
  simp only[sumQ]
  grind
theorem sumQ_term {g:Nat→Rat} {n j:Nat} (h:∀k,k<n→0≤g k) (hj:j<n):g j≤sumQ n g:=by
 rw[sumQ_pick hj]
 have:=@sumQ_ge0 (fun i=>if i=j then 0 else g i) n fun k hk=>by
  split
  ·grind
  ·exact h k hk
 grind
theorem rel_one (h:fixOk p f) {x:Int→Rat} {z:Rat} (hx:(relT p f).holds (nF f) (mF p) x z) (h0:∀v∈(relT p f).basic++(relT p f).free,0≤x v) {j:Nat} (hj:j<nF f):x ((relT p f).fv j)≤1:=by
 obtain⟨hi,_⟩:=free_in h hj
 have hg:=off_good h.1 hi
 have hb:(oI p (nthD (dcI f 0) j 0)).bidder.toNat<mF p:=by unfold mF;omega
 have h1:=hx.1 _ hb
 have hs:=h0 _ (List.mem_append_left _ (bv_mem rel_wf hb))
 have hc:(relT p f).cf (oI p (nthD (dcI f 0) j 0)).bidder.toNat j=1:=by
  rw[rel_cf hb hj]
  unfold coefS
  rw[if_pos (by omega),if_pos (by omega)]
  rfl
 have ht:=@sumQ_term (fun k=>(relT p f).cf (oI p (nthD (dcI f 0) j 0)).bidder.toNat k*x ((relT p f).fv k)) (nF f) j (fun k hk=>by
  refine Rat.mul_nonneg ?_ (h0 _ (List.mem_append_right _ (fv_mem rel_wf hk)))
  rw[rel_cf hb hk]
  exact cast_nonneg (coef_bd (off_good h.1 (free_in h hk).1).2.2.1).1) hj
 simp only[hc] at ht
 have h2:(relT p f).bd (oI p (nthD (dcI f 0) j 0)).bidder.toNat≤1:=by
  rw[rel_bd hb]
  have h3:boundS p (oI p (nthD (dcI f 0) j 0)).bidder.toNat=1:=by
   unfold boundS
   rw[if_pos (by omega)]
  have h4:=@sum_bd p (oI p (nthD (dcI f 0) j 0)).bidder.toNat ((dcI f 1).map (oI p)) fun x hx=>(in_good h x hx).2.2.1
  have h5:boundS p (oI p (nthD (dcI f 0) j 0)).bidder.toNat - sumS p ((dcI f 1).map (oI p)) (oI p (nthD (dcI f 0) j 0)).bidder.toNat≤1:=by omega
  exact_mod_cast h5
 grind
theorem rel_bnd (h:fixOk p f) {x:Int→Rat} {z:Rat} (hx:(relT p f).holds (nF f) (mF p) x z) (h0:∀v∈(relT p f).basic++(relT p f).free,0≤x v):z≤sumQ (nF f) (relT p f).cs:=by
 have h1:=hx.2
 have hv:(relT p f).value=0:=rfl
 have:=@sumQ_le (fun j=>(relT p f).cs j*x ((relT p f).fv j)) (relT p f).cs (nF f) fun j hj=>by
  have h2:=rel_one h hx h0 hj
  have h3:0≤(relT p f).cs j:=by
   rw[rel_cs hj]
   exact cast_nonneg (by have:=off_good h.1 (free_in h hj).1;omega)
  have:=Rat.mul_nonneg h3 (b:=1 - x ((relT p f).fv j)) (by grind)
  grind
 grind
noncomputable def optT (p:Prob) (f:List Int):Tb:=lastT (nF f) (mF p) (relT p f)
theorem opt_run (h:fixOk p f):Run (nF f) (mF p) (relT p f) (optT p f)∧feasT (mF p) (optT p f)∧entN (optT p f) (nF f)<0:=by
 have hr:=Run.refl (n:=nF f) (m:=mF p) (t0:=relT p f) rel_wf rel_nd
 have:=last_run hr (rel_feas h)
 exact⟨this.1,this.2.1,last_opt hr (rel_feas h) fun x z hx h0=>rel_bnd h hx h0⟩
end
end Go.Vi
