/-
  Contracts: fractions: size, Make, made, FromInt, Sign, cross, Cmp, Neg, Add, Sub.
  Conditions: none.
-/
import Derived.Test.YtigbjjkijfkeeaaOW06
import Derived.Test.YtigbjjkijfkeeaaOW07
import Derived.Test.YtigbjjkijfkeeaaOW08
set_option maxRecDepth 100000
set_option maxHeartbeats 4000000
set_option linter.unusedSimpArgs false
set_option linter.unusedVariables false
namespace Go.Vi
open Go.Proofs.Ytigbjjkijfkeeaa.Ir
open Go.Proofs
def frS (q:Rat):SV:=.agg (encS sF (frE q))
def isF (x:Fra):Prop:=∃q k,x=frE q∧Sz k q∧k≤100000000
def mkF (s:Bool) (n d:Int):Rat:=mkRat (if s then -n else n) d.toNat
def r127:SCtr:=⟨127,Int,.one (codI .i64),fun n=> -9223372036854775808≤(show Int from n)∧(show Int from n)≤9223372036854775807,fun n=> .row (.i .u32) (natL ((show Int from n).natAbs:Int))⟩
theorem h127:Holds Try.prog r127:=by
 refine con (L:=[r128]) r127 F127 (fun _ _=> .look) (OwnOK.none _) (by simpa using h128) (by kernel_rfl) (by kernel_rfl) (fun _=>rfl) ?_
 intro(n:Int) h
 obtain⟨h0,h1⟩: -9223372036854775808≤n∧n≤9223372036854775807:=h
 refine vcOf (let z0:=decide (n<(0:Int));let z1:=(-(n+(1:Int))+(1:Int)) % (18446744073709551616:Int);let z2:=SId.i .u32;let z3:=SV.row z2 (natL (↑n.natAbs:Int));(z0=true→inR .i64 (n+(1:Int))∧inR .i64 (-(n+(1:Int)))∧inR .u64 (-(n+(1:Int)))∧((0:Int)≤z1∧z1<(18446744073709551616:Int))∧(SV.row z2 (natL z1)).same z3)∧(z0=false→inR .u64 n∧((0:Int)≤n∧n<(18446744073709551616:Int))∧(SV.row z2 (natL n)).same z3)) (by kernel_rfl) ?_
 simp only[vcs]
 refine⟨fun hn=>?_,fun hn=>?_⟩
 ·have e:(-(n+1)+1) % 18446744073709551616=(n.natAbs:Int):=by omega
  rw[e]
  exact⟨by omega,by omega,u64_in (by omega) (by omega),by omega,rfl⟩
 ·have e:(n.natAbs:Int)=n:=by omega
  rw[e]
  exact⟨u64_in (by omega) (by omega),by omega,rfl⟩
def r151:SCtr:=⟨151,Bool×(List Int×List Int),.cons codB (.cons (codR (.i .u32)) (.one (codR (.i .u32)))),fun a=>(Dig a.2.1∧Dig a.2.2)∧(a.2.1.length≤1000000000∧a.2.2.length≤1000000000)∧0<valN a.2.2,
 fun a=> .tup [frS (mkF a.1 (valN a.2.1) (valN a.2.2)),.si .i64 0]⟩
theorem h151:Holds Try.prog r151:=by
 refine con (L:=[r165g,r166g]) r151 F151 (fun _ _=> .look) (OwnOK.none _) (by simpa using⟨h165g,h166g⟩) (by kernel_rfl) (by kernel_rfl) (fun _=>rfl) ?_
 rintro⟨s,n,d⟩ ⟨⟨hn,hd⟩,⟨hln,hld⟩,d0⟩
 simp only at hn hd hln hld d0
 refine vcOf (let z0:=decide ((↑d.length:Int)=(0:Int));let z1:=SV.row (SId.i .i64) [];let z2:=frE (mkF s (valN n) (valN d));let z3:=SId.i .u32;let z4:=SV.tup [SV.agg [SV.sb z2.fst,SV.row z3 z2.snd.fst,SV.row z3 z2.snd.snd],SV.si .i64 0];let z5:=natL (gcdN (valN n) (valN d));let z6:=natL (valN n / valN z5);let z7:=[SV.row z3 z6,SV.row z3 (natL (valN d / valN z5))];let z8:=[SV.il .i64 0];(z0=true→(SV.tup [SV.agg [SV.bl false,z1,z1],SV.il .i64 8]).same z4)∧(z0=false→((Dig n∧Dig d)∧n.length≤1000000000∧d.length≤1000000000)∧((Dig n∧Dig z5)∧(n.length≤10000000000∧z5.length≤10000000000)∧(0:Int)<valN z5)∧((Dig d∧Dig z5)∧(d.length≤10000000000∧z5.length≤10000000000)∧(0:Int)<valN z5)∧(false=true→(SV.tup [SV.agg [SV.bl false,z1,z1],SV.il .i64 8]).same z4)∧(false=false→(false=true→(SV.tup [SV.agg [SV.bl false,z1,z1],SV.il .i64 8]).same z4)∧(false=false→(s=true→(SV.tup (SV.agg (SV.sb (decide ((0:Int)<(↑z6.length:Int)))::z7)::z8)).same z4)∧(s=false→(SV.tup (SV.agg (SV.bl false::z7)::z8)).same z4))))) (by kernel_rfl) ?_
 simp only[vcs]
 have n0:=val_nonneg hn
 have g0:0<gcdN (valN n) (valN d):=by
  unfold gcdN
  have:=Nat.gcd_pos_of_pos_right (valN n).toNat (show 0<(valN d).toNat by omega)
  omega
 have gle:gcdN (valN n) (valN d)≤valN d:=by
  unfold gcdN
  have:=Nat.gcd_le_right (valN n).toNat (show 0<(valN d).toNat by omega)
  omega
 have gdv:gcdN (valN n) (valN d)∣valN n:=by
  unfold gcdN
  have:=Nat.gcd_dvd_left (valN n).toNat (valN d).toNat
  have h2:=Int.natCast_dvd_natCast.2 this
  rwa [Int.toNat_of_nonneg n0] at h2
 obtain⟨a1,a2,a3⟩:=natL_ok (Int.le_of_lt g0)
 have hgl:=len_of a2 (trim_dig hd) a3 (by rw[a1,trim_val.1];exact gle)
 have htl:=@trim_len d
 have hq0:0≤valN n / gcdN (valN n) (valN d):=Int.ediv_nonneg n0 (Int.le_of_lt g0)
 obtain⟨b1,b2,b3⟩:=natL_ok hq0
 have hpos:(0<((natL (valN n / gcdN (valN n) (valN d))).length:Int))↔0<valN n:=by
  obtain⟨m,hm⟩:=gdv
  have hmm:valN n / gcdN (valN n) (valN d)=m:=by
   conv=>lhs;arg 1;rw[hm]
   rw[Int.mul_ediv_cancel_left _ (by omega)]
  rw[hmm] at b1 b2 b3 ⊢
  have hm0:0<valN n↔0<m:=by
   generalize gcdN (valN n) (valN d)=g at*
   rw[hm]
   constructor
   ·intro h
    by_cases h2:0<m
    ·exact h2
    ·have:=Int.mul_nonpos_of_nonneg_of_nonpos (Int.le_of_lt g0) (show m≤0 by omega)
     omega
   ·intro h;exact Int.mul_pos g0 h
  rw[hm0]
  constructor
  ·intro h
   by_cases hm:m=0
   ·rw[hm] at h;exact absurd h (by decide)
   ·omega
  ·intro h
   by_cases hl:(natL m).length=0
   ·rw[List.eq_nil_of_length_eq_zero hl] at b1
    simp only[valN] at b1
    omega
   ·omega
 have hd0:d.length≠0:=by
  intro h
  rw[List.eq_nil_of_length_eq_zero h] at d0
  exact absurd d0 (by decide)
 unfold mkF
 rw[frE_mk n0 d0,a1]
 simp only
 refine⟨fun h=>absurd h (by omega),fun _=>⟨⟨⟨hn,hd⟩,by omega,by omega⟩,⟨⟨hn,a2⟩,by omega,g0⟩,⟨⟨hd,a2⟩,by omega,g0⟩,?_⟩⟩
 have hb:decide (0<((natL (valN n / gcdN (valN n) (valN d))).length:Int))=decide (0<valN n):=by
  rw[decide_eq_decide];exact hpos
 refine⟨fun h=>absurd h (by decide),fun _=>⟨fun h=>absurd h (by decide),fun _=>⟨fun hs=>?_,fun hs=>?_⟩⟩⟩
 ·rw[hs,hb]
  rfl
 ·rw[hs]
  rfl
def r126:SCtr:=⟨126,Bool×(List Int×List Int),.cons codB (.cons (codR (.i .u32)) (.one (codR (.i .u32)))),fun a=>(Dig a.2.1∧Dig a.2.2)∧(a.2.1.length≤1000000000∧a.2.2.length≤1000000000)∧0<valN a.2.2,
 fun a=>frS (mkF a.1 (valN a.2.1) (valN a.2.2))⟩
theorem h126:Holds Try.prog r126:=by
 refine con (L:=[r151]) r126 F126 (fun _ _=> .look) (OwnOK.none _) (by simpa using h151) (by kernel_rfl) (by kernel_rfl) (fun _=>rfl) ?_
 rintro⟨s,n,d⟩ ⟨⟨hn,hd⟩,⟨hln,hld⟩,d0⟩
 simp only at hn hd hln hld d0
 refine vcOf (let z0:=frE (mkF s (valN n) (valN d));let z1:=SV.agg [SV.sb z0.fst,SV.row (SId.i .u32) z0.snd.fst,SV.row (SId.i .u32) z0.snd.snd];((Dig n∧Dig d)∧(n.length≤1000000000∧d.length≤1000000000)∧(0:Int)<valN d)∧z1.same z1) (by kernel_rfl) ?_
 simp only[vcs]
 exact⟨⟨hn,hd⟩,⟨hln,hld⟩,d0⟩
def r94:SCtr:=⟨94,Int,.one (codI .i64),fun n=> -9223372036854775808≤(show Int from n)∧(show Int from n)≤9223372036854775807,fun n=>frS ((show Int from n):Rat)⟩
theorem h94:Holds Try.prog r94:=by
 refine con (L:=[r127,r128,r126]) r94 F94 (fun _ _=> .look) (OwnOK.none _) (by simpa using⟨h127,h128,h126⟩) (by kernel_rfl) (by kernel_rfl) (fun _=>rfl) ?_
 intro(n:Int) h
 obtain⟨h0,h1⟩: -9223372036854775808≤n∧n≤9223372036854775807:=h
 refine vcOf (let z0:=natL (↑n.natAbs:Int);let z1:=natL (1:Int);let z2:=frE (mkF (decide (n<(0:Int))) (valN z0) (valN z1));let z3:=SId.i .u32;let z4:=frE (IntCast.intCast n);((-9223372036854775808:Int)≤n∧n≤(9223372036854775807:Int))∧((0:Int)≤(1:Int)∧(1:Int)<(18446744073709551616:Int))∧((Dig z0∧Dig z1)∧(z0.length≤1000000000∧z1.length≤1000000000)∧(0:Int)<valN z1)∧(SV.agg [SV.sb z2.fst,SV.row z3 z2.snd.fst,SV.row z3 z2.snd.snd]).same (SV.agg [SV.sb z4.fst,SV.row z3 z4.snd.fst,SV.row z3 z4.snd.snd])) (by kernel_rfl) ?_
 conv=>zeta
 obtain⟨a1,a2,a3⟩:=natL_ok (show(0:Int)≤(n.natAbs:Int) by omega)
 obtain⟨b1,b2,b3⟩:=natL_ok (show(0:Int)≤1 by omega)
 have l1:=natL_len (k:=2) (show(0:Int)≤(n.natAbs:Int) by omega) (by rw[show(4294967296:Int)^2=18446744073709551616 from rfl];omega)
 have l2:=natL_len (k:=1) (show(0:Int)≤1 by omega) (by decide)
 refine⟨⟨h0,h1⟩,⟨by omega,by omega⟩,⟨⟨a2,b2⟩,⟨by omega,by omega⟩,by omega⟩,?_⟩
 have e:mkF (decide (n<0)) (valN (natL (n.natAbs:Int))) (valN (natL 1))=IntCast.intCast n:=by
  rw[a1,b1]
  unfold mkF
  have h2:(if decide (n<0)=true then -(n.natAbs:Int) else(n.natAbs:Int))=n:=by
   by_cases h:n<0
   ·rw[if_pos (by simpa using h)];omega
   ·rw[if_neg (by simpa using h)];omega
  rw[h2]
  show mkRat n 1=_
  rw[Rat.mkRat_one]
 rw[e]
 rfl
def sgnQ (q:Rat):Int:=if q<0 then -1 else if 0<q then 1 else 0
def r99:SCtr:=⟨99,Fra,.one (codE sF),isF,fun x=> .si .i64 (sgnQ (valF x))⟩
theorem h99:Holds Try.prog r99:=by
 refine con (L:=[]) r99 F99 (fun _ _=> .look) (OwnOK.none _) (by simp) (by kernel_rfl) (by kernel_rfl) (fun _=>rfl) ?_
 intro(x:Fra) h
 obtain⟨q,k,rfl,hz,hk⟩:isF x:=h
 refine vcOf (let z0:=decide ((↑(List.length (frE q).snd.fst):Int)=(0:Int));let z1:=SV.si .i64 (sgnQ (valF (frE q)));(z0=true→(SV.il .i64 0).same z1)∧(z0=false→((frE q).fst=true→(SV.il .i64 (-1:Int)).same z1)∧((frE q).fst=false→(SV.il .i64 1).same z1))) (by kernel_rfl) ?_
 simp only[vcs]
 rw[valF_frE]
 have hl:((frE q).2.1.length:Int)=0↔q.num=0:=by
  unfold frE
  simp only
  obtain⟨a1,a2,a3⟩:=natL_ok (show(0:Int)≤(q.num.natAbs:Int) by omega)
  constructor
  ·intro h
   rw[List.eq_nil_of_length_eq_zero (by omega:(natL (q.num.natAbs:Int)).length=0)] at a1
   simp only[valN] at a1
   omega
  ·intro h
   rw[h]
   rfl
 have hf:(frE q).1=decide (q<0):=rfl
 have h0:=@Rat.num_nonneg q
 have hn:q<0↔q.num<0:=by
  rw[←Rat.not_le,←h0]
  omega
 have hp:0<q↔0<q.num:=by
  constructor
  ·intro h
   have h1:=h0.2 (Rat.le_of_lt h)
   by_cases hz:q.num=0
   ·have:=Rat.num_eq_zero.1 hz
    subst this
    exact absurd h (by decide)
   ·omega
  ·intro h
   have h1:=h0.1 (by omega)
   exact Rat.lt_of_le_of_ne h1 (fun he=>by rw[←he] at h;exact absurd h (by decide))
 rw[hl,hf]
 simp only[decide_eq_true_eq,decide_eq_false_iff_not]
 unfold sgnQ
 simp only[hn,hp]
 refine⟨fun h=>?_,fun h=>⟨fun h2=>?_,fun h2=>?_⟩⟩
 ·rw[if_neg (by omega),if_neg (by omega)]
 ·rw[if_pos h2]
 ·rw[if_neg h2,if_pos (by omega)]
def digF (x:Fra):Prop:=(Dig x.2.1∧Dig x.2.2)∧x.2.1.length≤100000000∧x.2.2.length≤100000000
def r131:SCtr:=⟨131,Fra×Fra,.cons (codE sF) (.one (codE sF)),fun a=>digF a.1∧digF a.2,fun a=> .tup [.row (.i .u32) (natL (valN a.1.2.1*valN a.2.2.2)),.row (.i .u32) (natL (valN a.2.2.1*valN a.1.2.2))]⟩
theorem h131:Holds Try.prog r131:=by
 refine con (L:=[r153]) r131 F131 (fun _ _=> .look) (OwnOK.none _) (by simpa using h153) (by kernel_rfl) (by kernel_rfl) (fun _=>rfl) ?_
 rintro⟨⟨s,n,d⟩,⟨s',n',d'⟩⟩ ⟨⟨⟨h1,h2⟩,h3,h4⟩,⟨⟨h5,h6⟩,h7,h8⟩⟩
 simp only at h1 h2 h3 h4 h5 h6 h7 h8
 refine vcOf (let z0:=SV.tup [SV.row (SId.i .u32) (natL (valN n*valN d')),SV.row (SId.i .u32) (natL (valN n'*valN d))];((Dig n∧Dig d')∧n.length≤100000000000∧d'.length≤100000000000)∧((Dig n'∧Dig d)∧n'.length≤100000000000∧d.length≤100000000000)∧z0.same z0) (by kernel_rfl) ?_
 simp only[vcs]
 refine⟨⟨⟨h1,h6⟩,by omega,by omega⟩,⟨⟨h5,h2⟩,by omega,by omega⟩⟩
theorem frS_eq {p q:Rat} (h:p=q):(SV.agg [.sb (frE p).1,.row (.i .u32) (frE p).2.1,.row (.i .u32) (frE p).2.2]).same (.agg [.sb (frE q).1,.row (.i .u32) (frE q).2.1,.row (.i .u32) (frE q).2.2]):=by subst h;rfl
theorem num_sgn (q:Rat):q.num=if decide (q<0) then -(q.num.natAbs:Int) else(q.num.natAbs:Int):=by
 have h0:=@Rat.num_nonneg q
 by_cases h:q<0
 ·rw[if_pos (by simpa using h)]
  have:¬0≤q.num:=fun h2=>Rat.not_le.2 h (h0.1 h2)
  omega
 ·rw[if_neg (by simpa using h)]
  have:=h0.2 (Rat.not_lt.1 h)
  omega
theorem frE_ok (q:Rat):(frE q).1=decide (q<0)∧(Dig (frE q).2.1∧Nrm (frE q).2.1∧valN (frE q).2.1=(q.num.natAbs:Int))∧(Dig (frE q).2.2∧Nrm (frE q).2.2∧valN (frE q).2.2=(q.den:Int)):=by
 obtain⟨a1,a2,a3⟩:=natL_ok (show(0:Int)≤(q.num.natAbs:Int) by omega)
 obtain⟨b1,b2,b3⟩:=natL_ok (show(0:Int)≤(q.den:Int) by omega)
 exact⟨rfl,⟨a2,a3,a1⟩,⟨b2,b3,b1⟩⟩
theorem frE_len {q:Rat} {k:Nat} (h:Sz k q):(frE q).2.1.length≤k∧(frE q).2.2.length≤k:=
 ⟨natL_len (by omega) h.1,natL_len (by omega) h.2⟩
theorem mkF_neg (q:Rat):mkF (!decide (q<0)) (q.num.natAbs:Int) (q.den:Int)= -q:=by
 unfold mkF
 have h:=num_sgn q
 have e:(if(!decide (q<0))=true then -(q.num.natAbs:Int) else(q.num.natAbs:Int))= -q.num:=by
  by_cases hq:q<0
  ·rw[if_pos (by simpa using hq)] at h
   rw[if_neg (by simpa using hq)]
   omega
  ·rw[if_neg (by simpa using hq)] at h
   rw[if_pos (by simpa using hq)]
   omega
 rw[e,Int.toNat_natCast]
 conv=>rhs;rw[←Rat.mkRat_self q]
 rw[Rat.neg_mkRat]
def r130:SCtr:=⟨130,Fra,.one (codE sF),isF,fun x=>frS (-(valF x))⟩
theorem h130:Holds Try.prog r130:=by
 refine con (L:=[r126]) r130 F130 (fun _ _=> .look) (OwnOK.none _) (by simpa using h126) (by kernel_rfl) (by kernel_rfl) (fun _=>rfl) ?_
 intro(x:Fra) h
 obtain⟨q,k,rfl,hz,hk⟩:isF x:=h
 refine vcOf (let z0:=(frE q).snd.fst;let z1:=(frE q).snd.snd;let z2:=frE (mkF (!(frE q).fst) (valN z0) (valN z1));let z3:=SId.i .u32;let z4:=(frE (-valF (frE q))).snd;((Dig z0∧Dig z1)∧(List.length z0≤1000000000∧List.length z1≤1000000000)∧(0:Int)<valN z1)∧(SV.agg [SV.sb z2.fst,SV.row z3 z2.snd.fst,SV.row z3 z2.snd.snd]).same (SV.agg [SV.sb (frE (-valF (frE q))).fst,SV.row z3 z4.fst,SV.row z3 z4.snd])) (by kernel_rfl) ?_
 conv=>zeta
 obtain⟨e1,⟨a2,a3,a1⟩,⟨b2,b3,b1⟩⟩:=frE_ok q
 obtain⟨l1,l2⟩:=frE_len hz
 have hd:=q.den_pos
 refine⟨⟨⟨a2,b2⟩,⟨by omega,by omega⟩,by omega⟩,frS_eq ?_⟩
 rw[valF_frE,e1,a1,b1]
 exact mkF_neg q
theorem mul_lt_pow {a b:Int} {i j:Nat} (a0:0≤a) (h1:a<4294967296^i) (h2:b<4294967296^j):a*b<4294967296^(i+j):=by
 rw[Int.pow_add]
 exact Int.lt_of_le_of_lt (Int.mul_le_mul_of_nonneg_left (Int.le_of_lt h2) a0) (Int.mul_lt_mul_of_pos_right h1 (pow_pos _))
theorem cross_ok {p q:Rat} {i j:Nat} (hp:Sz i p) (hq:Sz j q):∃X Y D:Int,valN (frE p).2.1*valN (frE q).2.2=X∧valN (frE q).2.1*valN (frE p).2.2=Y∧valN (frE p).2.2*valN (frE q).2.2=D∧0≤X∧0≤Y∧0<D∧
  (natL X).length≤i+j∧(natL Y).length≤i+j∧(natL (X+Y)).length≤i+j+1∧(natL (X - Y)).length≤i+j∧(natL (Y - X)).length≤i+j∧(natL D).length≤i+j∧p.num*q.den=(if decide (p<0) then -X else X)∧q.num*p.den=(if decide (q<0) then -Y else Y)∧((p.den*q.den:Nat):Int)=D:=by
 obtain⟨_,⟨_,_,a1⟩,⟨_,_,b1⟩⟩:=frE_ok p
 obtain⟨_,⟨_,_,a2⟩,⟨_,_,b2⟩⟩:=frE_ok q
 rw[a1,b1,a2,b2]
 have d1:=p.den_pos
 have d2:=q.den_pos
 have x1:=mul_lt_pow (a:=(p.num.natAbs:Int)) (by omega) hp.1 hq.2
 have x2:=mul_lt_pow (a:=(q.num.natAbs:Int)) (by omega) hq.1 hp.2
 rw[Nat.add_comm j i] at x2
 have x3:=mul_lt_pow (a:=(p.den:Int)) (by omega) hp.2 hq.2
 have y1:0≤(p.num.natAbs:Int)*q.den:=Int.mul_nonneg (by omega) (by omega)
 have y2:0≤(q.num.natAbs:Int)*p.den:=Int.mul_nonneg (by omega) (by omega)
 have y3:0<(p.den:Int)*q.den:=Int.mul_pos (by omega) (by omega)
 have s1:=num_sgn p
 have s2:=num_sgn q
 refine⟨_,_,_,rfl,rfl,rfl,y1,y2,y3,natL_len y1 x1,natL_len y2 x2,natL_len (by omega) ?_,?_,?_,natL_len (by omega) x3,?_,?_,by push_cast;rfl⟩
 ·rw[Int.pow_succ]
  omega
 ·by_cases h:(p.num.natAbs:Int)*q.den - (q.num.natAbs:Int)*p.den≤0
  ·rw[natL_neg h];simp
  ·exact natL_len (by omega) (by omega)
 ·by_cases h:(q.num.natAbs:Int)*p.den - (p.num.natAbs:Int)*q.den≤0
  ·rw[natL_neg h];simp
  ·exact natL_len (by omega) (by omega)
 ·conv=>lhs;rw[s1]
  split
  ·rw[Int.neg_mul]
  ·rfl
 ·conv=>lhs;rw[s2]
  split
  ·rw[Int.neg_mul]
  ·rfl
theorem add_mkF {p q:Rat} {s:Bool} {n D:Int} (hD:((p.den*q.den:Nat):Int)=D) (h:p.num*q.den+q.num*p.den=if s then -n else n):mkF s n D=p+q:=by
 rw[add_mk]
 unfold mkF
 rw[←h,←hD,Int.toNat_natCast]
theorem digF_ok {p:Rat} {k:Nat} (h:Sz k p) (hk:k≤100000000):digF (frE p):=by
 obtain⟨_,⟨a,_,_⟩,⟨b,_,_⟩⟩:=frE_ok p
 have:=frE_len h
 exact⟨⟨a,b⟩,by omega,by omega⟩
def cmpQ (p q:Rat):Int:=if p<q then -1 else if q<p then 1 else 0
def r97:SCtr:=⟨97,Fra×Fra,.cons (codE sF) (.one (codE sF)),fun a=>isF a.1∧isF a.2,fun a=> .si .i64 (cmpQ (valF a.1) (valF a.2))⟩
theorem h97:Holds Try.prog r97:=by
 refine con (L:=[r131,r132]) r97 F97 (fun _ _=> .look) (OwnOK.none _) (by simpa using⟨h131,h132⟩) (by kernel_rfl) (by kernel_rfl) (fun _=>rfl) ?_
 rintro⟨x,y⟩ ⟨⟨p,i,hx,hz,hi⟩,⟨q,j,hy,hw,hj⟩⟩
 simp only at hx hy
 subst hx hy
 refine vcOf (let z0:=(frE p).fst;let z1:=SV.si .i64 (cmpQ (valF (frE p)) (valF (frE q)));let z2:=natL (valN (frE q).snd.fst*valN (frE p).snd.snd);let z3:=natL (valN (frE p).snd.fst*valN (frE q).snd.snd);((!z0==(frE q).fst)=true→(z0=true→(SV.il .i64 (-1:Int)).same z1)∧(z0=false→(SV.il .i64 1).same z1))∧((!z0==(frE q).fst)=false→(digF (z0,(frE p).snd.fst,(frE p).snd.snd)∧digF ((frE q).fst,(frE q).snd.fst,(frE q).snd.snd))∧(z0=true→((Dig z2∧Dig z3)∧z2.length≤1000000000000∧z3.length≤1000000000000)∧(SV.si .i64 (cmpN (valN z2) (valN z3))).same z1)∧(z0=false→((Dig z3∧Dig z2)∧z3.length≤1000000000000∧z2.length≤1000000000000)∧(SV.si .i64 (cmpN (valN z3) (valN z2))).same z1))) (by kernel_rfl) ?_
 conv=>zeta
 obtain⟨e1,_,_⟩:=frE_ok p
 obtain⟨e2,_,_⟩:=frE_ok q
 obtain⟨X,Y,D,hX,hY,hD,X0,Y0,D0,l1,l2,l3,l4,l5,l6,n1,n2,n3⟩:=cross_ok hz hw
 obtain⟨c1,c2,c3⟩:=natL_ok X0
 obtain⟨c4,c5,c6⟩:=natL_ok Y0
 simp only[valF_frE,hX,hY,c1,c4,e1,e2]
 simp only[vcs]
 have hl:p<q↔p.num*q.den<q.num*p.den:=Rat.lt_iff p q
 have hl2:q<p↔q.num*p.den<p.num*q.den:=Rat.lt_iff q p
 have hp0:=@Rat.num_nonneg p
 have hq0:=@Rat.num_nonneg q
 have hc:∀{z:Int},(z=if p.num*q.den<q.num*p.den then -1 else if q.num*p.den<p.num*q.den then 1 else 0)→z=cmpQ p q:=fun h=>by
  unfold cmpQ
  simp only[hl,hl2]
  exact h
 have hXp:p<0→0<X:=fun h=>by
  rw[if_pos (by simpa using h)] at n1
  have h1:p.num<0:=by rw[←Rat.not_le,←hp0] at h;omega
  have:=Int.mul_neg_of_neg_of_pos h1 (show(0:Int)<q.den by have:=q.den_pos;omega)
  omega
 have hYq:q<0→0<Y:=fun h=>by
  rw[if_pos (by simpa using h)] at n2
  have h1:q.num<0:=by rw[←Rat.not_le,←hq0] at h;omega
  have:=Int.mul_neg_of_neg_of_pos h1 (show(0:Int)<p.den by have:=p.den_pos;omega)
  omega
 rw[n1,n2] at hc
 refine⟨fun hne=>⟨fun hp=>?_,fun hp=>?_⟩,fun he=>⟨⟨digF_ok hz hi,digF_ok hw hj⟩,fun hp=>⟨⟨⟨c5,c2⟩,by omega,by omega⟩,?_⟩,fun hp=>⟨⟨⟨c2,c5⟩,by omega,by omega⟩,?_⟩⟩⟩
 ·apply hc
  have hq:¬q<0:=fun hq=>by simp[hp,hq] at hne
  simp only[decide_eq_true_eq,hp,hq,if_true,if_false]
  have:=hXp hp
  rw[if_pos (by omega)]
 ·apply hc
  have hq:q<0:=by
   by_cases hq:q<0
   ·exact hq
   ·simp[hp,hq] at hne
  simp only[decide_eq_true_eq,hp,hq,if_true,if_false]
  have:=hYq hq
  rw[if_neg (by omega),if_pos (by omega)]
 ·apply hc
  have hq:q<0:=by
   by_cases hq:q<0
   ·exact hq
   ·simp[hp,hq] at he
  simp only[decide_eq_true_eq,hp,hq,if_true,if_false]
  simp only[Int.neg_lt_neg_iff]
  rfl
 ·apply hc
  have hq:¬q<0:=fun hq=>by simp[hp,hq] at he
  simp only[decide_eq_true_eq,hp,hq,if_true,if_false]
  rfl
def r129:SCtr:=⟨129,Fra×Fra,.cons (codE sF) (.one (codE sF)),fun a=>isF a.1∧isF a.2,fun a=>frS (valF a.1+valF a.2)⟩
theorem h129:Holds Try.prog r129:=by
 refine con (L:=[r131,r153,r154,r155,r126]) r129 F129 (fun _ _=> .look) (OwnOK.none _) (by simpa using⟨h131,h153,h154,h155,h126⟩) (by kernel_rfl) (by kernel_rfl) (fun _=>rfl) ?_
 rintro⟨x,y⟩ ⟨⟨p,i,hx,hz,hi⟩,⟨q,j,hy,hw,hj⟩⟩
 simp only at hx hy
 subst hx hy
 refine vcOf (let z0:=(frE p).fst;let z1:=(frE p).snd.snd;let z2:=(frE q).snd.snd;let z3:=natL (valN (frE p).snd.fst*valN z2);let z4:=natL (valN (frE q).snd.fst*valN z1);let z5:=natL (valN z3+valN z4);let z6:=natL (valN z1*valN z2);let z7:=frE (mkF z0 (valN z5) (valN z6));let z8:=SId.i .u32;let z9:=frE (valF (frE p)+valF (frE q));let z10:=SV.agg [SV.sb z9.fst,SV.row z8 z9.snd.fst,SV.row z8 z9.snd.snd];let z11:=decide (valN z4≤valN z3);let z12:=natL (valN z3 - valN z4);let z13:=frE (mkF z0 (valN z12) (valN z6));let z14:=natL (valN z4 - valN z3);let z15:=frE (mkF (frE q).fst (valN z14) (valN z6));(digF (z0,(frE p).snd.fst,z1)∧digF ((frE q).fst,(frE q).snd.fst,z2))∧((Dig z1∧Dig z2)∧List.length z1≤100000000000∧List.length z2≤100000000000)∧((z0==(frE q).fst)=true→((Dig z3∧Dig z4)∧z3.length≤100000000000∧z4.length≤100000000000)∧((Dig z5∧Dig z6)∧(z5.length≤1000000000∧z6.length≤1000000000)∧(0:Int)<valN z6)∧(SV.agg [SV.sb z7.fst,SV.row z8 z7.snd.fst,SV.row z8 z7.snd.snd]).same z10)∧((z0==(frE q).fst)=false→((Dig z3∧Dig z4)∧z3.length≤100000000000∧z4.length≤100000000000)∧(z11=true→((Dig z12∧Dig z6)∧(z12.length≤1000000000∧z6.length≤1000000000)∧(0:Int)<valN z6)∧(SV.agg [SV.sb z13.fst,SV.row z8 z13.snd.fst,SV.row z8 z13.snd.snd]).same z10)∧(z11=false→((Dig z4∧Dig z3)∧z4.length≤100000000000∧z3.length≤100000000000)∧((Dig z14∧Dig z6)∧(z14.length≤1000000000∧z6.length≤1000000000)∧(0:Int)<valN z6)∧(SV.agg [SV.sb z15.fst,SV.row z8 z15.snd.fst,SV.row z8 z15.snd.snd]).same z10))) (by kernel_rfl) ?_
 conv=>zeta
 obtain⟨e1,⟨u1,_,_⟩,⟨u2,_,_⟩⟩:=frE_ok p
 obtain⟨e2,⟨u3,_,_⟩,⟨u4,_,_⟩⟩:=frE_ok q
 obtain⟨m1,m2⟩:=frE_len hz
 obtain⟨m3,m4⟩:=frE_len hw
 obtain⟨X,Y,D,hX,hY,hD,X0,Y0,D0,l1,l2,l3,l4,l5,l6,n1,n2,n3⟩:=cross_ok hz hw
 obtain⟨c1,c2,c3⟩:=natL_ok X0
 obtain⟨c4,c5,c6⟩:=natL_ok Y0
 obtain⟨c7,c8,c9⟩:=natL_ok (Int.le_of_lt D0)
 obtain⟨s1,s2,s3⟩:=natL_ok (show 0≤X+Y by omega)
 simp only[valF_frE,hX,hY,hD,c1,c4,c7,s1,e1,e2]
 simp only[vcs]
 have fin:∀{s:Bool} {n:Int},(p.num*q.den+q.num*p.den=if s then -n else n)→(SV.agg [.sb (frE (mkF s n D)).1,.row (.i .u32) (frE (mkF s n D)).2.1,.row (.i .u32) (frE (mkF s n D)).2.2]).same (.agg [.sb (frE (p+q)).1,.row (.i .u32) (frE (p+q)).2.1,.row (.i .u32) (frE (p+q)).2.2]):=
  fun h=>frS_eq (add_mkF n3 h)
 rw[n1,n2] at fin
 refine⟨⟨digF_ok hz hi,digF_ok hw hj⟩,⟨⟨u2,u4⟩,by omega,by omega⟩,fun he=>⟨⟨⟨c2,c5⟩,by omega,by omega⟩,⟨⟨s2,c8⟩,⟨by omega,by omega⟩,D0⟩,fin ?_⟩,fun he=>⟨⟨⟨c2,c5⟩,by omega,by omega⟩,fun hle=>?_,fun hle=>?_⟩⟩
 ·by_cases hp:p<0<;>by_cases hq:q<0<;>simp[hp,hq] at he ⊢<;>omega
 ·obtain⟨t1,t2,t3⟩:=natL_ok (show 0≤X - Y by omega)
  rw[t1]
  refine⟨⟨⟨t2,c8⟩,⟨by omega,by omega⟩,D0⟩,fin ?_⟩
  by_cases hp:p<0<;>by_cases hq:q<0<;>simp[hp,hq] at he ⊢<;>omega
 ·obtain⟨t1,t2,t3⟩:=natL_ok (show 0≤Y - X by omega)
  rw[t1]
  refine⟨⟨⟨c5,c2⟩,by omega,by omega⟩,⟨⟨t2,c8⟩,⟨by omega,by omega⟩,D0⟩,fin ?_⟩
  by_cases hp:p<0<;>by_cases hq:q<0<;>simp[hp,hq] at he ⊢<;>omega
def r95:SCtr:=⟨95,Fra×Fra,.cons (codE sF) (.one (codE sF)),fun a=>isF a.1∧isF a.2,fun a=>frS (valF a.1 - valF a.2)⟩
theorem h95:Holds Try.prog r95:=by
 refine con (L:=[r130,r129]) r95 F95 (fun _ _=> .look) (OwnOK.none _) (by simpa using⟨h130,h129⟩) (by kernel_rfl) (by kernel_rfl) (fun _=>rfl) ?_
 rintro⟨x,y⟩ ⟨⟨p,i,hx,hz,hi⟩,⟨q,j,hy,hw,hj⟩⟩
 simp only at hx hy
 subst hx hy
 refine vcOf (let z0:=((frE q).fst,(frE q).snd.fst,(frE q).snd.snd);let z1:=((frE p).fst,(frE p).snd.fst,(frE p).snd.snd);let z2:=(frE (-valF z0)).snd;let z3:=((frE (-valF z0)).fst,z2.fst,z2.snd);let z4:=frE (valF z1+valF z3);let z5:=SId.i .u32;let z6:=frE (valF (frE p) - valF (frE q));isF z0∧(isF z1∧isF z3)∧(SV.agg [SV.sb z4.fst,SV.row z5 z4.snd.fst,SV.row z5 z4.snd.snd]).same (SV.agg [SV.sb z6.fst,SV.row z5 z6.snd.fst,SV.row z5 z6.snd.snd])) (by kernel_rfl) ?_
 conv=>zeta
 have hn:isF (frE (-q)):=⟨-q,j,rfl,sz_neg hw,hj⟩
 refine⟨⟨q,j,rfl,hw,hj⟩,⟨⟨p,i,rfl,hz,hi⟩,?_⟩,frS_eq ?_⟩
 ·have e:valF (frE q)=q:=valF_frE q
  show isF (frE (-valF (frE q)))
  rw[e]
  exact hn
 ·show valF (frE p)+valF (frE (-valF (frE q)))=valF (frE p) - valF (frE q)
  rw[valF_frE,valF_frE,valF_frE,Rat.sub_eq_add_neg]
theorem val_tl (a:List Int):valN a=nthD a 0 0+4294967296*valN a.tail:=by
 cases a with
 |nil=>simp[valN,nthD]
 |cons d l=>simp[valN,nthD]
theorem nth_tl (a:List Int) (j:Nat):nthD a (j+1) 0=nthD a.tail j 0:=by
 cases a with
 |nil=>simp[nthD]
 |cons d l=>simp[nthD]
theorem dig_tl {a:List Int} (h:Dig a):Dig a.tail:=fun d hd=>h d (List.mem_of_mem_tail hd)
theorem val_ext:∀(n:Nat) {a b:List Int},a.length≤n→b.length≤n→(∀j,nthD a j 0=nthD b j 0)→valN a=valN b
 |0,a,b,h1,h2,_=>by rw[List.eq_nil_of_length_eq_zero (by omega:a.length=0),List.eq_nil_of_length_eq_zero (by omega:b.length=0)]
 |n+1,a,b,h1,h2,h=>by
  rw[val_tl a,val_tl b,h 0]
  have:=val_ext n (a:=a.tail) (b:=b.tail) (by rw[List.length_tail];omega) (by rw[List.length_tail];omega) (fun j=>by rw[←nth_tl,←nth_tl];exact h (j+1))
  rw[this]
theorem cmp_dig:∀{k:Nat} {a b:List Int},Dig a→Dig b→(∀j,k<j→nthD a j 0=nthD b j 0)→nthD a k 0<nthD b k 0→valN a<valN b
 |0,a,b,ha,hb,h,hk=>by
  have:=val_ext (max a.length b.length) (a:=a.tail) (b:=b.tail) (by rw[List.length_tail];omega) (by rw[List.length_tail];omega) (fun j=>by rw[←nth_tl,←nth_tl];exact h (j+1) (by omega))
  rw[val_tl a,val_tl b,this]
  omega
 |k+1,a,b,ha,hb,h,hk=>by
  rw[nth_tl,nth_tl] at hk
  have:=cmp_dig (k:=k) (dig_tl ha) (dig_tl hb) (fun j hj=>by rw[←nth_tl,←nth_tl];exact h (j+1) (by omega)) hk
  have h1:=dig_nth ha 0
  have h2:=dig_nth hb 0
  rw[val_tl a,val_tl b]
  omega
def trL (a:List Int):SV:=.row (.i .u32) (natL (valN a))
def r140:SCtr:=⟨140,List Int,.one (codR (.i .u32)),fun a=>Dig a∧a.length≤100000000000,fun a=>trL a⟩
def Λ140 (a:List Int):Nat→LoopAnn
 |1=> .inv (List Int) (fun l=>⟨[(0,.row (.i .u32) l)],[]⟩) (fun s=>rS (.i .u32) s 0) (fun l=>Dig l∧valN l=valN a∧l.length≤a.length) (fun l=>l.length) fun _ _=> .look
 |_=> .look
theorem tr_last {l:List Int} (h:l.length≠0) (hz:nthD l (l.length - 1) 0=0):valN (l.take (l.length - 1))=valN l:=by
 have:=@take_snoc0 l (l.length - 1)
 rw[show l.length - 1+1=l.length by omega,List.take_length,hz,Int.mul_zero,Int.add_zero] at this
 exact this.symm
theorem nrm_of {l:List Int} (h:l.length=0∨nthD l (l.length - 1) 0≠0):Nrm l:=by
 rcases h with h|h
 ·rw[List.eq_nil_of_length_eq_zero h];trivial
 ·by_cases hl:l.length=0
  ·rw[List.eq_nil_of_length_eq_zero hl];trivial
  ·have h1:=take_snoc (a:=l) (n:=l.length - 1) (by omega)
   rw[show l.length - 1+1=l.length by omega,List.take_length] at h1
   rw[h1]
   exact nrm_snoc h
theorem h140:Holds Try.prog r140:=by
 refine con (L:=[]) r140 F140 Λ140 (OwnOK.none _) (by simp) (by kernel_rfl) (by kernel_rfl) (fun _=>rfl) ?_
 intro(a:List Int) h
 obtain⟨ha,hl⟩:Dig a∧a.length≤100000000000:=h
 refine vcOf (let z0:=SId.i .u32;let z1:=SV.row z0 (natL (valN a));((((SV.row z0 a).same (SV.row z0 a)∧True)∧True)∧Dig a∧valN a=valN a∧a.length≤a.length)∧∀(x:List Int),let z2:=(↑x.length:Int);let z3:=decide ((0:Int)<z2);let z4:=z2 - (1:Int);let z5:=z4.toNat;let z6:=decide (nthD x z5 (0:Int)=(0:Int));let z7:=List.take (z5 - 0) x;let z8:=0+x.length;Dig x∧valN x=valN a∧x.length≤a.length→(z3=true→inR .i64 z4∧(0:Int)≤z4∧z4<z2∧z5<x.length∧(z6=true→inR .i64 z4∧(0:Int)≤z4∧0≤z5∧z5≤x.length∧(((SV.row z0 z7).same (SV.row z0 z7)∧True)∧True)∧(Dig z7∧valN z7=valN a∧z7.length≤a.length)∧z7.length<x.length)∧(z6=false→0=0∧z8*4≤140737488355328∧z8≤1000000000000∧x.length=x.length∧(SV.row z0 x).same z1))∧(z3=false→0=0∧z8*4≤140737488355328∧z8≤1000000000000∧x.length=x.length∧(SV.row z0 x).same z1)) (by kernel_rfl) ?_
 simp only[vcs]
 refine⟨⟨ha,by omega⟩,?_⟩
 rintro l ⟨dl,hv,hll⟩
 have t1:((l.length:Int) - 1).toNat - 0=l.length - 1:=by omega
 have t2:((l.length:Int) - 1).toNat=l.length - 1:=by omega
 rw[t1,t2]
 have fin:(l.length=0∨nthD l (l.length - 1) 0≠0)→(SV.row (.i .u32) l).same (SV.row (.i .u32) (natL (valN a))):=fun h=>rowN (by rw[←hv,natL_val dl (nrm_of h)])
 refine⟨fun hl0=>⟨by omega,by omega,by omega,by omega,fun hz=>?_,fun hz=>?_⟩,fun hl0=>?_⟩
 ·have:=tr_last (by omega) hz
  repeat' refine And.intro ?_ ?_
  all_goals first|omega|exact dig_take dl _|(rw[this];exact hv)|(simp;omega)
 ·repeat' refine And.intro ?_ ?_
  all_goals first|omega|exact natL_val dl (nrm_of (.inr hz))▸hv▸rfl|exact fin (.inr hz)|(rw[←hv,natL_val dl (nrm_of (.inr hz))])
 ·have h0:l.length=0:=by omega
  repeat' refine And.intro ?_ ?_
  all_goals first|omega|exact fin (.inl h0)|(rw[←hv,natL_val dl (nrm_of (.inl h0))])
def r139:SCtr:=⟨139,List Int×Int,.cons (codR (.i .u32)) (.one (codI .i64)),fun a=>Dig a.1∧0≤a.2,fun a=> .si .u64 (nthD a.1 a.2.toNat 0)⟩
theorem h139:Holds Try.prog r139:=by
 refine con (L:=[]) r139 F139 (fun _ _=> .look) (OwnOK.none _) (by simp) (by kernel_rfl) (by kernel_rfl) (fun _=>rfl) ?_
 rintro⟨a,i⟩ ⟨ha,hi⟩
 simp only at ha hi
 refine vcOf (let z0:=decide (i<(↑a.length:Int));let z1:=nthD a i.toNat (0:Int);let z2:=SV.si .u64 z1;(z0=true→(0:Int)≤i∧i<(↑a.length:Int)∧i.toNat<a.length∧(SV.si .u64 (z1 % (18446744073709551616:Int))).same z2)∧(z0=false→(SV.il .u64 0).same z2)) (by kernel_rfl) ?_
 simp only[vcs]
 have hd:=dig_nth ha i.toNat
 refine⟨fun h=>⟨hi,by omega,by omega,by omega⟩,fun h=>?_⟩
 exact(nth_out (by omega)).symm
def r141:SCtr:=⟨141,List Int×List Int,.cons (codR (.i .u32)) (.one (codR (.i .u32))),fun a=>(Dig a.1∧Dig a.2)∧a.1.length≤1000000000000∧a.2.length≤1000000000000,fun a=> .si .i64 (cmpN (valN a.1) (valN a.2))⟩
def Λ141 (a:List Int×List Int):Nat→LoopAnn
 |2=> .inv Int (fun i=>⟨[(0,.row (.i .u32) a.1),(1,.row (.i .u32) a.2),(5,.si .i64 i)],[]⟩) (fun s=>iS s 5)
  (fun i=> -1≤i∧i<max (a.1.length:Int) a.2.length∧∀j:Nat,i<j→nthD a.1 j 0=nthD a.2 j 0) (fun i=>(i+1).toNat) fun _ _=> .look
 |_=> .look
theorem h141:Holds Try.prog r141:=by
 refine con (L:=[r139]) r141 F141 Λ141 (OwnOK.none _) (by simpa using h139) (by kernel_rfl) (by kernel_rfl) (fun _=>rfl) ?_
 rintro⟨a,b⟩ ⟨⟨ha,hb⟩,hla,hlb⟩
 simp only at ha hb hla hlb
 refine vcOf (let z0:=max (↑a.length:Int) (↑b.length:Int) - (1:Int);let z1:=SV.row (SId.i .u32) a;let z2:=SV.row (SId.i .u32) b;let z3:=SV.si .i64 z0;let z4:=max (↑a.length:Int) (↑b.length:Int);let z5:=SV.si .i64 (cmpN (valN a) (valN b));inR .i64 z0∧(((z1.same z1∧z2.same z2∧z3.same z3∧True)∧True)∧(-1:Int)≤z0∧z0<z4∧∀(j:Nat),z0<(↑j:Int)→nthD a j (0:Int)=nthD b j (0:Int))∧∀(x:Int),let z6:=decide ((0:Int)≤x);let z7:=nthD a x.toNat (0:Int);let z8:=nthD b x.toNat (0:Int);let z9:=x - (1:Int);let z10:=SV.si .i64 z9;((-1:Int)≤x∧x<z4∧∀(j:Nat),x<(↑j:Int)→nthD a j (0:Int)=nthD b j (0:Int))→(z6=true→(Dig a∧(0:Int)≤x)∧(Dig b∧(0:Int)≤x)∧(decide (z7<z8)=true→(SV.il .i64 (-1:Int)).same z5)∧(decide (z7<z8)=false→(Dig a∧(0:Int)≤x)∧(Dig b∧(0:Int)≤x)∧(decide (z8<z7)=true→(SV.il .i64 1).same z5)∧(decide (z8<z7)=false→inR .i64 z9∧((z1.same z1∧z2.same z2∧z10.same z10∧True)∧True)∧((-1:Int)≤z9∧z9<z4∧∀(j:Nat),z9<(↑j:Int)→nthD a j (0:Int)=nthD b j (0:Int))∧(z9+(1:Int)).toNat<(x+(1:Int)).toNat)))∧(z6=false→(SV.il .i64 0).same z5)) (by kernel_rfl) ?_
 simp only[vcs]
 refine⟨by omega,⟨by omega,by omega,fun j hj=>by rw[nth_out (a:=a) (by omega),nth_out (a:=b) (by omega)]⟩,?_⟩
 rintro i ⟨i0,i1,hd⟩
 refine⟨fun hi=>⟨⟨ha,hi⟩,⟨hb,hi⟩,fun h=>?_,fun h=>⟨⟨ha,hi⟩,⟨hb,hi⟩,fun h2=>?_,fun h2=>⟨by omega,⟨by omega,by omega,fun j hj=>?_⟩,by omega⟩⟩⟩,fun hi=>?_⟩
 ·have:=cmp_dig ha hb (fun j hj=>hd j (by omega)) h
  unfold cmpN
  rw[if_pos this]
 ·have:=cmp_dig hb ha (fun j hj=>(hd j (by omega)).symm) h2
  unfold cmpN
  rw[if_neg (by omega),if_pos this]
 ·by_cases hji:(j:Int)=i
  ·rw[show i.toNat=j by omega] at h h2
   omega
  ·exact hd j (by omega)
 ·have:=val_ext (max a.length b.length) (a:=a) (b:=b) (by omega) (by omega) (fun j=>hd j (by omega))
  unfold cmpN
  rw[if_neg (by omega),if_neg (by omega)]
def r106:SCtr:=⟨106,List Int×List Int,.cons (codR (.i .u32)) (.one (codR (.i .u32))),fun a=>(Dig a.1∧Dig a.2)∧a.1.length≤10000000000∧a.2.length≤10000000000,fun a=> .row (.i .u32) (natL (valN a.1+valN a.2))⟩
def Λ106 (a:List Int×List Int):Nat→LoopAnn
 |4=> .inv (Int×Int×List Int) (fun x=>⟨[(0,.row (.i .u32) a.1),(1,.row (.i .u32) a.2),(5,.ow 0 x.2.2.length 1),(6,.si .u64 x.2.1),(7,.si .i64 x.1)],[.row (.i .u32) x.2.2 126 true]⟩)
  (fun s=>(iS s 7,iS s 6,oS (.i .u32) s 0))
  (fun x=>(0≤x.1∧x.1≤max (a.1.length:Int) a.2.length+1)∧(0≤x.2.1∧x.2.1≤1)∧(Dig x.2.2∧(x.2.2.length:Int)=x.1)∧valN x.2.2+4294967296^x.1.toNat*x.2.1=valN (a.1.take x.1.toNat)+valN (a.2.take x.1.toNat))
  (fun x=>(max (a.1.length:Int) a.2.length+1 - x.1).toNat) fun _ _=> .look
 |_=> .look
theorem h106:Holds Try.prog r106:=by
 refine con (L:=[r139,r140]) r106 F106 Λ106 (OwnOK.none _) (by simpa using⟨h139,h140⟩) (by kernel_rfl) (by kernel_rfl) (fun _=>rfl) ?_
 rintro⟨a,b⟩ ⟨⟨ha,hb⟩,hla,hlb⟩
 simp only at ha hb hla hlb
 refine vcOf (let z0:=SId.i .u32;let z1:=SV.ow 0 0 1;let z2:=SObj.row z0 [] 126 true;let z3:=max (↑a.length:Int) (↑b.length:Int)+(1:Int);((((SV.row z0 a).same (SV.row z0 a)∧(SV.row z0 b).same (SV.row z0 b)∧z1.same z1∧(SV.il .u64 0).same (SV.si .u64 0)∧(SV.il .i64 0).same (SV.si .i64 0)∧True)∧z2.same z2∧True)∧((0:Int)≤(0:Int)∧(0:Int)≤z3)∧((0:Int)≤(0:Int)∧(0:Int)≤(1:Int))∧(Dig []∧(0:Int)=(0:Int))∧(0:Int)=(0:Int))∧∀(x:Int×Int×List Int),let z4:=x.snd.snd.length;let z5:=x.fst.toNat;let z6:=decide (x.fst≤max (↑a.length:Int) (↑b.length:Int));let z7:=x.snd.snd.length+1;let z8:=((nthD a z5 (0:Int)+nthD b z5 (0:Int)) % (18446744073709551616:Int)+x.snd.fst) % (18446744073709551616:Int);let z9:=z8.tdiv (4294967296:Int);let z10:=x.fst+(1:Int);let z11:=x.snd.snd++[z8.tmod (4294967296:Int) % (4294967296:Int)];let z12:=SV.si .u64 z9;let z13:=SV.si .i64 z10;let z14:=SObj.row z0 z11 126 true;((0:Int)≤x.fst∧x.fst≤z3)∧((0:Int)≤x.snd.fst∧x.snd.fst≤(1:Int))∧(Dig x.snd.snd∧(↑z4:Int)=x.fst)∧valN x.snd.snd+(4294967296:Int)^z5*x.snd.fst=valN (List.take z5 a)+valN (List.take z5 b)→(z6=true→(Dig a∧(0:Int)≤x.fst)∧(Dig b∧(0:Int)≤x.fst)∧(4294967296:Int)≠(0:Int)∧z4=x.snd.snd.length∧z7*4≤140737488355328∧z7≤1000000000000∧(4294967296:Int)≠(0:Int)∧inR .u64 z9∧inR .i64 z10∧(((SV.row z0 a).same (SV.row z0 a)∧(SV.row z0 b).same (SV.row z0 b)∧(SV.ow 0 z11.length 1).same (SV.ow 0 z11.length 1)∧z12.same z12∧z13.same z13∧True)∧z14.same z14∧True)∧(((0:Int)≤z10∧z10≤z3)∧((0:Int)≤z9∧z9≤(1:Int))∧(Dig z11∧(↑z11.length:Int)=z10)∧valN z11+(4294967296:Int)^z10.toNat*z9=valN (List.take z10.toNat a)+valN (List.take z10.toNat b))∧(z3 - z10).toNat<(z3 - x.fst).toNat)∧(z6=false→z4=x.snd.snd.length∧(Dig x.snd.snd∧z4≤100000000000)∧(SV.row z0 (natL (valN x.snd.snd))).same (SV.row z0 (natL (valN a+valN b))))) (by kernel_rfl) ?_
 simp only[vcs]
 refine⟨⟨by omega,by omega,by simp[Dig]⟩,?_⟩
 rintro⟨i,c,out⟩ ⟨⟨i0,i1⟩,⟨c0,c1⟩,⟨ho,hlo⟩,hv⟩
 simp only at i0 i1 c0 c1 ho hlo hv ⊢
 refine⟨fun hi=>?_,fun hi=>?_⟩
 ·have x:=dig_nth ha i.toNat
  have y:=dig_nth hb i.toNat
  have e1:((nthD a i.toNat 0+nthD b i.toNat 0) % 18446744073709551616+c) % 18446744073709551616=nthD a i.toNat 0+nthD b i.toNat 0+c:=by omega
  have e2:(i+1).toNat=i.toNat+1:=by omega
  rw[e1,e2,Int.tdiv_eq_ediv_of_nonneg (by omega),Int.tmod_eq_emod_of_nonneg (by omega)]
  have hval:valN (out++[(nthD a i.toNat 0+nthD b i.toNat 0+c) % 4294967296 % 4294967296])+4294967296^(i.toNat+1)*((nthD a i.toNat 0+nthD b i.toNat 0+c) / 4294967296)=valN (a.take (i.toNat+1))+valN (b.take (i.toNat+1)):=by
   rw[val_snoc,take_snoc0,take_snoc0,show out.length=i.toNat by omega,Int.pow_succ]
   generalize (4294967296:Int)^i.toNat=B at*
   generalize hs:nthD a i.toNat 0+nthD b i.toNat 0+c=s at*
   have e:B*4294967296*(s / 4294967296)=B*(nthD a i.toNat 0+nthD b i.toNat 0+c - s % 4294967296 % 4294967296):=by rw[Int.mul_assoc];congr 1;omega
   rw[e]
   simp only[Int.mul_add,Int.mul_sub]
   omega
  have hdg:Dig (out++[(nthD a i.toNat 0+nthD b i.toNat 0+c) % 4294967296 % 4294967296]):=dig_app ho (dig_one (by omega) (by omega))
  repeat' refine And.intro ?_ ?_
  all_goals first|omega|exact ha|exact hb|exact u64_in (by omega) (by omega)|exact hval|exact hdg|(simp;omega)
 ·have hi2:i.toNat=max a.length b.length+1:=by omega
  rw[List.take_of_length_le (by omega),List.take_of_length_le (by omega)] at hv
  have b1:=val_bdN ha
  have b2:=val_bdN hb
  have b3:=pow_mono (show a.length≤max a.length b.length by omega)
  have b4:=pow_mono (show b.length≤max a.length b.length by omega)
  have hn:=val_nonneg ho
  rw[hi2,Int.pow_succ] at hv
  have hP:=pow_pos (max a.length b.length)
  have hc:c=0:=by
   by_cases h:c=0
   ·exact h
   ·have:c=1:=by omega
    subst this
    omega
  rw[hc,Int.mul_zero,Int.add_zero] at hv
  rw[hv]
  repeat' refine And.intro ?_ ?_
  all_goals first|omega|exact ho|rfl
def r107:SCtr:=⟨107,List Int×List Int,.cons (codR (.i .u32)) (.one (codR (.i .u32))),fun a=>(Dig a.1∧Dig a.2)∧a.1.length≤10000000000∧a.2.length≤10000000000,fun a=>sbO (valN a.1) (valN a.2)⟩
def Λ107 (a:List Int×List Int):Nat→LoopAnn
 |6=> .inv (Int×Int×List Int) (fun x=>⟨[(0,.row (.i .u32) a.1),(1,.row (.i .u32) a.2),(6,.ow 0 x.2.2.length 1),(7,.si .u64 x.2.1),(8,.si .i64 x.1)],[.row (.i .u32) x.2.2 126 true]⟩)
  (fun s=>(iS s 8,iS s 7,oS (.i .u32) s 0))
  (fun x=>(0≤x.1∧x.1≤a.1.length)∧(0≤x.2.1∧x.2.1≤1)∧(Dig x.2.2∧(x.2.2.length:Int)=x.1)∧valN x.2.2 - 4294967296^x.1.toNat*x.2.1=valN (a.1.take x.1.toNat) - valN (a.2.take x.1.toNat))
  (fun x=>(a.1.length - x.1).toNat) fun _ _=> .look
 |_=> .look
theorem h107:Holds Try.prog r107:=by
 refine con (L:=[r139,r140,r141]) r107 F107 Λ107 (OwnOK.none _) (by simpa using⟨h139,h140,h141⟩) (by kernel_rfl) (by kernel_rfl) (fun _=>rfl) ?_
 rintro⟨a,b⟩ ⟨⟨ha,hb⟩,hla,hlb⟩
 simp only at ha hb hla hlb
 refine vcOf (let z0:=decide (cmpN (valN a) (valN b)<(0:Int));let z1:=SId.i .u32;let z2:=SV.tup [SV.row z1 (natL (valN a - valN b)),SV.sb (decide (valN b≤valN a))];let z3:=SV.ow 0 0 1;let z4:=SObj.row z1 [] 126 true;let z5:=(↑a.length:Int);((Dig a∧Dig b)∧a.length≤1000000000000∧b.length≤1000000000000)∧(z0=true→(SV.tup [SV.row (SId.i .i64) [],SV.bl false]).same z2)∧(z0=false→((((SV.row z1 a).same (SV.row z1 a)∧(SV.row z1 b).same (SV.row z1 b)∧z3.same z3∧(SV.il .u64 0).same (SV.si .u64 0)∧(SV.il .i64 0).same (SV.si .i64 0)∧True)∧z4.same z4∧True)∧((0:Int)≤(0:Int)∧(0:Int)≤z5)∧((0:Int)≤(0:Int)∧(0:Int)≤(1:Int))∧(Dig []∧(0:Int)=(0:Int))∧(0:Int)=(0:Int))∧∀(x:Int×Int×List Int),let z6:=x.snd.snd.length;let z7:=x.fst.toNat;let z8:=decide (x.fst<(↑a.length:Int));let z9:=x.snd.snd.length+1;let z10:=((((4294967296:Int)+nthD a z7 (0:Int)) % (18446744073709551616:Int) - nthD b z7 (0:Int)) % (18446744073709551616:Int) - x.snd.fst) % (18446744073709551616:Int);let z11:=z10.tdiv (4294967296:Int);let z12:=x.fst+(1:Int);let z13:=x.snd.snd++[z10.tmod (4294967296:Int) % (4294967296:Int)];let z14:=((1:Int) - z11) % (18446744073709551616:Int);let z15:=SV.si .u64 z14;let z16:=SV.si .i64 z12;let z17:=SObj.row z1 z13 126 true;((0:Int)≤x.fst∧x.fst≤z5)∧((0:Int)≤x.snd.fst∧x.snd.fst≤(1:Int))∧(Dig x.snd.snd∧(↑z6:Int)=x.fst)∧valN x.snd.snd - (4294967296:Int)^z7*x.snd.fst=valN (List.take z7 a) - valN (List.take z7 b)→(z8=true→(Dig a∧(0:Int)≤x.fst)∧(Dig b∧(0:Int)≤x.fst)∧(4294967296:Int)≠(0:Int)∧z6=x.snd.snd.length∧z9*4≤140737488355328∧z9≤1000000000000∧(4294967296:Int)≠(0:Int)∧inR .u64 z11∧inR .i64 z12∧(((SV.row z1 a).same (SV.row z1 a)∧(SV.row z1 b).same (SV.row z1 b)∧(SV.ow 0 z13.length 1).same (SV.ow 0 z13.length 1)∧z15.same z15∧z16.same z16∧True)∧z17.same z17∧True)∧(((0:Int)≤z12∧z12≤z5)∧((0:Int)≤z14∧z14≤(1:Int))∧(Dig z13∧(↑z13.length:Int)=z12)∧valN z13 - (4294967296:Int)^z12.toNat*z14=valN (List.take z12.toNat a) - valN (List.take z12.toNat b))∧(z5 - z12).toNat<(z5 - x.fst).toNat)∧(z8=false→z6=x.snd.snd.length∧(Dig x.snd.snd∧z6≤100000000000)∧(SV.tup [SV.row z1 (natL (valN x.snd.snd)),SV.bl true]).same z2))) (by kernel_rfl) ?_
 simp only[vcs]
 have pa:=val_nonneg ha
 have pb:=val_nonneg hb
 refine⟨⟨⟨ha,hb⟩,by omega,by omega⟩,fun hlt=>?_,fun hge=>?_⟩
 ·have hlt2:valN a<valN b:=by unfold cmpN at hlt;split at hlt<;>(try split at hlt)<;>omega
  refine⟨nilN (natL_neg (by omega)),?_⟩
  rw[eq_comm,decide_eq_false_iff_not]
  omega
 have hge2:valN b≤valN a:=by unfold cmpN at hge;split at hge<;>(try split at hge)<;>omega
 refine⟨⟨by omega,by omega,by simp[Dig]⟩,?_⟩
 rintro⟨i,c,out⟩ ⟨⟨i0,i1⟩,⟨c0,c1⟩,⟨ho,hlo⟩,hv⟩
 simp only at i0 i1 c0 c1 ho hlo hv ⊢
 refine⟨fun hi=>?_,fun hi=>?_⟩
 ·have x:=dig_nth ha i.toNat
  have y:=dig_nth hb i.toNat
  have e1:(((4294967296+nthD a i.toNat 0) % 18446744073709551616 - nthD b i.toNat 0) % 18446744073709551616 - c) % 18446744073709551616=4294967296+nthD a i.toNat 0 - nthD b i.toNat 0 - c:=by omega
  have e2:(i+1).toNat=i.toNat+1:=by omega
  rw[e1,e2,Int.tdiv_eq_ediv_of_nonneg (by omega),Int.tmod_eq_emod_of_nonneg (by omega)]
  have e3:(1 - (4294967296+nthD a i.toNat 0 - nthD b i.toNat 0 - c) / 4294967296) % 18446744073709551616=1 - (4294967296+nthD a i.toNat 0 - nthD b i.toNat 0 - c) / 4294967296:=by omega
  rw[e3]
  have hval:valN (out++[(4294967296+nthD a i.toNat 0 - nthD b i.toNat 0 - c) % 4294967296 % 4294967296]) - 4294967296^(i.toNat+1)*(1 - (4294967296+nthD a i.toNat 0 - nthD b i.toNat 0 - c) / 4294967296)=valN (a.take (i.toNat+1)) - valN (b.take (i.toNat+1)):=by
   rw[val_snoc,take_snoc0,take_snoc0,show out.length=i.toNat by omega,Int.pow_succ]
   generalize (4294967296:Int)^i.toNat=B at*
   generalize hs:4294967296+nthD a i.toNat 0 - nthD b i.toNat 0 - c=s at*
   have e:B*4294967296*(1 - s / 4294967296)=B*(s % 4294967296 % 4294967296 - (nthD a i.toNat 0 - nthD b i.toNat 0 - c)):=by rw[Int.mul_assoc];congr 1;omega
   rw[e]
   simp only[Int.mul_add,Int.mul_sub]
   omega
  have hdg:Dig (out++[(4294967296+nthD a i.toNat 0 - nthD b i.toNat 0 - c) % 4294967296 % 4294967296]):=dig_app ho (dig_one (by omega) (by omega))
  repeat' refine And.intro ?_ ?_
  all_goals first|omega|exact ha|exact hb|exact u64_in (by omega) (by omega)|exact hval|exact hdg|(simp;omega)
 ·have hi2:i.toNat=a.length:=by omega
  rw[hi2,List.take_length] at hv
  have b1:=val_bdN ha
  have hbt:valN (b.take a.length)=valN b:=by
   by_cases h:b.length≤a.length
   ·rw[List.take_of_length_le h]
   ·have h1:=val_split (U:=b) (j:=a.length) (by omega)
    have h2:=val_nonneg (dig_take hb a.length)
    have h3:=val_nonneg (dig_drop hb a.length)
    by_cases hz:valN (b.drop a.length)=0
    ·rw[hz,Int.mul_zero] at h1;omega
    ·have:=Int.mul_le_mul_of_nonneg_left (show(1:Int)≤valN (b.drop a.length) by omega) (Int.le_of_lt (pow_pos a.length))
     rw[Int.mul_one] at this
     omega
  rw[hbt] at hv
  have hn:=val_bdN ho
  rw[show out.length=a.length by omega] at hn
  have hc:c=0:=by
   by_cases h:c=0
   ·exact h
   ·have:c=1:=by omega
    subst this
    omega
  rw[hc,Int.mul_zero,Int.sub_zero] at hv
  rw[hv]
  refine⟨⟨ho,by omega⟩,?_⟩
  repeat' refine And.intro ?_ ?_
  all_goals first|omega|rfl|(rw[eq_comm,decide_eq_true_eq];exact hge2)
def r159:SCtr:=⟨159,Int,.one (codI .u64),fun x=>0≤(show Int from x)∧(show Int from x)<18446744073709551616,fun x=> .row (.i .u32) (natL x)⟩
theorem h159:Holds Try.prog r159:=by
 refine con (L:=[r140]) r159 F159 (fun _ _=> .look) (OwnOK.none _) (by simpa using h140) (by kernel_rfl) (by kernel_rfl) (fun _=>rfl) ?_
 intro(x:Int) h
 obtain⟨h0,h1⟩:0≤x∧x<18446744073709551616:=h
 refine vcOf (let z0:=x.tdiv (4294967296:Int);let z1:=[x.tmod (4294967296:Int) % (4294967296:Int),z0 % (4294967296:Int)];(4294967296:Int)≠(0:Int)∧(4294967296:Int)≠(0:Int)∧inR .u64 z0∧(Dig z1∧2≤100000000000)∧(SV.row (SId.i .u32) (natL (valN z1))).same (SV.row (SId.i .u32) (natL x))) (by kernel_rfl) ?_
 simp only[vcs]
 rw[Int.tdiv_eq_ediv_of_nonneg h0,Int.tmod_eq_emod_of_nonneg h0]
 have hd:Dig [x % 4294967296 % 4294967296,x / 4294967296 % 4294967296]:=dig_cons.2 ⟨by omega,dig_one (by omega) (by omega)⟩
 have hv:valN [x % 4294967296 % 4294967296,x / 4294967296 % 4294967296]=x:=by simp only[valN];omega
 rw[hv]
 repeat' refine And.intro ?_ ?_
 all_goals first|omega|exact hd|exact u64_in (by omega) (by omega)|rfl
theorem add_len {a b:List Int} {k:Nat} (ha:Dig a) (hb:Dig b) (h1:a.length≤k) (h2:b.length≤k):(natL (valN a+valN b)).length≤k+1:=by
 have p1:=val_nonneg ha
 have p2:=val_nonneg hb
 have q1:=lt_of_len ha h1
 have q2:=lt_of_len hb h2
 refine natL_len (by omega) ?_
 rw[Int.pow_succ]
 omega
theorem nth_div:∀{j:Nat} {a:List Int},Dig a→valN a / 4294967296^j % 4294967296=nthD a j 0
 |0,a,h=>by
  have:=dig_nth h 0
  rw[val_tl a,Int.pow_zero,Int.ediv_one]
  omega
 |j+1,a,h=>by
  have h0:=dig_nth h 0
  have ih:=@nth_div j a.tail (dig_tl h)
  have e:valN a / 4294967296=valN a.tail:=by rw[val_tl a];omega
  rw[Int.pow_succ,Int.mul_comm (4294967296^j),←Int.ediv_ediv_of_nonneg (by decide),e,ih,nth_tl]
theorem two_split {q r:Nat}:(2:Int)^(32*q+r)=4294967296^q*2^r:=by
 rw[Int.pow_add,Int.pow_mul]
 rfl
theorem cut_div {x:Int} {r m:Nat} (hr:r≤m):x % 2^m / 2^r=x / 2^r % 2^(m - r):=by
 obtain⟨k,rfl⟩:=Nat.exists_eq_add_of_le hr
 have h1:(0:Int)<2^r:=Int.pow_pos (by decide)
 have h2:(0:Int)<2^k:=Int.pow_pos (by decide)
 rw[Nat.add_sub_cancel_left,Int.pow_add]
 have e1:=Int.mul_ediv_add_emod x (2^r)
 have e2:=Int.mul_ediv_add_emod (x / 2^r) (2^k)
 have m1:=Int.emod_nonneg x (show(2:Int)^r≠0 by omega)
 have m2:=Int.emod_lt_of_pos x h1
 have m3:=Int.emod_nonneg (x / 2^r) (show(2:Int)^k≠0 by omega)
 have m4:=Int.emod_lt_of_pos (x / 2^r) h2
 generalize x / 2^r % 2^k=s at*
 generalize x / 2^r / 2^k=t at*
 generalize x / 2^r=y at*
 generalize x % 2^r=u at*
 have hx:x=(2^r*s+u)+(2^r*2^k)*t:=by
  rw[←e1,←e2,Int.mul_add,Int.mul_assoc]
  omega
 have hlt:2^r*s+u<2^r*2^k:=by
  have:=Int.mul_le_mul_of_nonneg_left (show s+1≤2^k by omega) (Int.le_of_lt h1)
  rw[Int.mul_add,Int.mul_one] at this
  omega
 have hnn:0≤2^r*s+u:=by
  have:=Int.mul_nonneg (Int.le_of_lt h1) m3
  omega
 rw[hx,Int.add_mul_emod_self_left,Int.emod_eq_of_lt hnn hlt,Int.add_comm,Int.add_mul_ediv_left _ _ (by omega),Int.ediv_eq_zero_of_lt m1 m2,Int.zero_add]
theorem mod_mod_two {x:Int} {j k:Nat} (h:j≤k):x % 2^k % 2^j=x % 2^j:=by
 obtain⟨m,rfl⟩:=Nat.exists_eq_add_of_le h
 rw[Int.pow_add]
 exact Int.emod_emod_of_dvd _ (Int.dvd_mul_right _ _)
def bitQ (v:Int) (i:Nat):Int:=v / 2^i % 2
theorem bit_eq {a:List Int} {i:Nat} (h:Dig a):nthD a (i / 32) 0 / 2^(i % 32) % 2=bitQ (valN a) i:=by
 unfold bitQ
 have e:(2:Int)^i=4294967296^(i / 32)*2^(i % 32):=by
  rw[←two_split];congr 1;omega
 have h1:(0:Int)<4294967296^(i / 32):=pow_pos _
 rw[e,←Int.ediv_ediv_of_nonneg (Int.le_of_lt h1),←nth_div h]
 have:=cut_div (x:=valN a / 4294967296^(i / 32)) (r:=i % 32) (m:=32) (by omega)
 rw[show(2:Int)^32=4294967296 from rfl] at this
 rw[this]
 have h2:=mod_mod_two (x:=valN a / 4294967296^(i / 32) / 2^(i % 32)) (j:=1) (k:=32 - i % 32) (by omega)
 rwa [show(2:Int)^1=2 from rfl] at h2
theorem dig2 {a:List Int} {i r:Nat} (h:Dig a) (hr:r<32):(nthD a i 0+nthD a (i+1) 0*4294967296) / 2^r % 4294967296=valN a / 2^(32*i+r) % 4294967296:=by
 have h1:(0:Int)<4294967296^i:=pow_pos _
 rw[two_split,←Int.ediv_ediv_of_nonneg (Int.le_of_lt h1),←nth_div h,←nth_div h,Int.pow_succ,←Int.ediv_ediv_of_nonneg (Int.le_of_lt h1)]
 generalize valN a / 4294967296^i=y
 have e:y % 4294967296+y / 4294967296 % 4294967296*4294967296=y % 18446744073709551616:=by omega
 rw[e]
 have:=cut_div (x:=y) (r:=r) (m:=64) (by omega)
 rw[show(2:Int)^64=18446744073709551616 from rfl] at this
 rw[this]
 have h2:=mod_mod_two (x:=y / 2^r) (j:=32) (k:=64 - r) (by omega)
 rwa [show(2:Int)^32=4294967296 from rfl] at h2
def bitsN (v:Int):Int:=if v=0 then 0 else(v.toNat.log2+1:Nat)
theorem two_mono {a b:Nat} (h:a≤b):(2:Int)^a≤2^b:=by
 obtain⟨m,rfl⟩:=Nat.exists_eq_add_of_le h
 rw[Int.pow_add]
 have q1:(0:Int)<2^a:=Int.pow_pos (by decide)
 have q2:(0:Int)<2^m:=Int.pow_pos (by decide)
 have:=Int.mul_le_mul_of_nonneg_left (show(1:Int)≤2^m by omega) (Int.le_of_lt q1)
 rwa [Int.mul_one] at this
theorem bits_ok {v:Int} (h:0≤v):0≤bitsN v∧v<2^(bitsN v).toNat∧(bitsN v=0∨2^((bitsN v).toNat - 1)≤v):=by
 unfold bitsN
 split
 ·rename_i h0;subst h0;simp
 ·rename_i h0
  have h1:=@Nat.lt_log2_self v.toNat
  have h2:=Nat.log2_self_le (show v.toNat≠0 by omega)
  have c:∀k:Nat,((2^k:Nat):Int)=2^k:=fun k=>by push_cast;rfl
  refine⟨by omega,?_,.inr ?_⟩
  ·rw[Int.toNat_natCast,←c];omega
  ·rw[Int.toNat_natCast,←c,Nat.add_sub_cancel];omega
theorem bits_eq {v:Int} {n:Nat} (h0:0≤v) (h1:v<2^n) (h2:n=0∨2^(n - 1)≤v):(n:Int)=bitsN v:=by
 obtain⟨b0,b1,b2⟩:=bits_ok h0
 by_cases hlt:n<(bitsN v).toNat
 ·rcases b2 with b2|b2
  ·omega
  ·have:=two_mono (show n≤(bitsN v).toNat - 1 by omega)
   omega
 ·by_cases hgt:(bitsN v).toNat<n
  ·rcases h2 with h2|h2
   ·omega
   ·have:=two_mono (show(bitsN v).toNat≤n - 1 by omega)
    omega
  ·omega
def r162:SCtr:=⟨162,List Int×Int,.cons (codR (.i .u32)) (.one (codI .i64)),fun a=>Dig a.1∧0≤a.2∧a.2≤1000000000000,fun a=> .si .u64 (bitQ (valN a.1) a.2.toNat)⟩
theorem h162:Holds Try.prog r162:=by
 refine con (L:=[r139]) r162 F162 (fun _ _=> .look) (OwnOK.none _) (by simpa using h139) (by kernel_rfl) (by kernel_rfl) (fun _=>rfl) ?_
 rintro⟨a,i⟩ ⟨ha,hi,hi2⟩
 simp only at ha hi hi2
 refine vcOf (let z0:=i.tdiv (32:Int);let z1:=i.tmod (32:Int);let z2:=(1:Int)*(2:Int)^z1.toNat % (18446744073709551616:Int);let z3:=(nthD a z0.toNat (0:Int)).tdiv z2;(32:Int)≠(0:Int)∧inR .i64 z0∧(Dig a∧(0:Int)≤z0)∧(32:Int)≠(0:Int)∧(0:Int)≤z1∧z1≤(64:Int)∧z2≠(0:Int)∧inR .u64 z3∧(2:Int)≠(0:Int)∧(SV.si .u64 (z3.tmod (2:Int))).same (SV.si .u64 (bitQ (valN a) i.toNat))) (by kernel_rfl) ?_
 simp only[vcs]
 rw[Int.tdiv_eq_ediv_of_nonneg hi,Int.tmod_eq_emod_of_nonneg hi]
 have t1:(i / 32).toNat=i.toNat / 32:=by omega
 have t2:(i % 32).toNat=i.toNat % 32:=by omega
 have hp:(0:Int)<2^(i.toNat % 32):=Int.pow_pos (by decide)
 have hp2:=two_mono (show i.toNat % 32≤32 by omega)
 rw[show(2:Int)^32=4294967296 from rfl] at hp2
 have t3:1*2^(i.toNat % 32) % 18446744073709551616=(2:Int)^(i.toNat % 32):=by omega
 have hd:=dig_nth ha (i.toNat / 32)
 have hq:0≤nthD a (i.toNat / 32) 0 / 2^(i.toNat % 32):=Int.ediv_nonneg hd.1 (Int.le_of_lt hp)
 have hq2:nthD a (i.toNat / 32) 0 / 2^(i.toNat % 32)≤nthD a (i.toNat / 32) 0:=Int.ediv_le_self _ hd.1
 rw[t1,t2,t3,Int.tdiv_eq_ediv_of_nonneg hd.1,Int.tmod_eq_emod_of_nonneg hq,bit_eq ha]
 repeat' refine And.intro ?_ ?_
 all_goals first|omega|exact ha|exact u64_in hq (by omega)|rfl
def r160:SCtr:=⟨160,List Int,.one (codR (.i .u32)),fun a=>Dig a∧a.length≤10000000000,fun a=> .si .i64 (bitsN (valN a))⟩
def Λ160 (a:List Int):Nat→LoopAnn
 |2=> .inv Int (fun n=>⟨[(0,.row (.i .u32) a),(3,.si .i64 n)],[]⟩) (fun s=>iS s 3) (fun n=>0≤n∧n≤32*(a.length:Int)∧valN a<2^n.toNat) (fun n=>n.toNat) fun _ _=> .look
 |_=> .look
theorem h160:Holds Try.prog r160:=by
 refine con (L:=[r162]) r160 F160 Λ160 (OwnOK.none _) (by simpa using h162) (by kernel_rfl) (by kernel_rfl) (fun _=>rfl) ?_
 intro(a:List Int) h
 obtain⟨ha,hl⟩:Dig a∧a.length≤10000000000:=h
 refine vcOf (let z0:=(32:Int)*(↑a.length:Int);let z1:=SV.row (SId.i .u32) a;let z2:=SV.si .i64 z0;let z3:=(32:Int)*(↑a.length:Int);let z4:=SV.si .i64 (bitsN (valN a));inR .i64 z0∧(((z1.same z1∧z2.same z2∧True)∧True)∧(0:Int)≤z0∧z0≤z3∧valN a<(2:Int)^z0.toNat)∧∀(x:Int),let z5:=decide ((0:Int)<x);let z6:=x - (1:Int);let z7:=decide (bitQ (valN a) z6.toNat=(0:Int));let z8:=SV.si .i64 z6;(0:Int)≤x∧x≤z3∧valN a<(2:Int)^x.toNat→(z5=true→inR .i64 z6∧(Dig a∧(0:Int)≤z6∧z6≤(1000000000000:Int))∧(z7=true→inR .i64 z6∧((z1.same z1∧z8.same z8∧True)∧True)∧((0:Int)≤z6∧z6≤z3∧valN a<(2:Int)^z6.toNat)∧z6.toNat<x.toNat)∧(z7=false→(SV.si .i64 x).same z4))∧(z5=false→(SV.si .i64 x).same z4)) (by kernel_rfl) ?_
 simp only[vcs]
 have pa:=val_nonneg ha
 refine⟨by omega,⟨by omega,by omega,?_⟩,?_⟩
 ·have:=val_bdN ha
  have e:(32*(a.length:Int)).toNat=32*a.length+0:=by omega
  rw[e,two_split]
  omega
 rintro n ⟨n0,n1,hv⟩
 refine⟨fun hn=>⟨by omega,⟨ha,by omega,by omega⟩,fun hb=>⟨by omega,⟨by omega,by omega,?_⟩,by omega⟩,fun hb=>?_⟩,fun hn=>?_⟩
 ·have e:n.toNat=(n - 1).toNat+1:=by omega
  rw[e,Int.pow_succ] at hv
  unfold bitQ at hb
  generalize (n - 1).toNat=m at*
  have hp:(0:Int)<2^m:=Int.pow_pos (by decide)
  have h1:valN a / 2^m<2:=Int.ediv_lt_of_lt_mul hp (by rw[Int.mul_comm];exact hv)
  have h2:0≤valN a / 2^m:=Int.ediv_nonneg pa (Int.le_of_lt hp)
  have h3:valN a / 2^m=0:=by omega
  have h4:=Int.mul_ediv_add_emod (valN a) (2^m)
  have h5:=Int.emod_lt_of_pos (valN a) hp
  rw[h3,Int.mul_zero] at h4
  omega
 ·have:=bits_eq pa hv (.inr ?_)
  ·omega
  ·by_cases h:2^(n.toNat - 1)≤valN a
   ·exact h
   ·exfalso
    apply hb
    unfold bitQ
    rw[show(n - 1).toNat=n.toNat - 1 by omega,Int.ediv_eq_zero_of_lt pa (by omega)]
    rfl
 ·have:=bits_eq pa hv (.inl (by omega))
  omega
def r161:SCtr:=⟨161,List Int×Int,.cons (codR (.i .u32)) (.one (codI .i64)),fun a=>(Dig a.1∧a.1.length≤10000000000)∧0≤a.2∧a.2≤1000000000000,fun a=> .row (.i .u32) (natL (valN a.1 / 2^a.2.toNat))⟩
def Λ161 (a:List Int×Int):Nat→LoopAnn
 |3=> .inv (Int×List Int) (fun x=>⟨[(0,.row (.i .u32) a.1),(1,.si .i64 a.2),(5,.ow 0 x.2.length 1),(6,.si .i64 x.1)],[.row (.i .u32) x.2 126 true]⟩) (fun s=>(iS s 6,oS (.i .u32) s 0))
  (fun x=>(a.2 / 32≤x.1∧x.1≤max (a.2 / 32) a.1.length)∧Dig x.2∧(x.2.length:Int)=x.1 - a.2 / 32∧valN x.2=valN a.1 / 2^a.2.toNat % 4294967296^x.2.length) (fun x=>(max (a.2 / 32) a.1.length - x.1).toNat) fun _ _=> .look
 |_=> .look
theorem h161:Holds Try.prog r161:=by
 refine con (L:=[r139,r140]) r161 F161 Λ161 (OwnOK.none _) (by simpa using⟨h139,h140⟩) (by kernel_rfl) (by kernel_rfl) (fun _=>rfl) ?_
 rintro⟨a,k⟩ ⟨⟨ha,hla⟩,k0,k1⟩
 simp only at ha hla k0 k1
 refine vcOf (let z0:=k.tdiv (32:Int);let z1:=SId.i .u32;let z2:=SV.ow 0 0 1;let z3:=SV.si .i64 z0;let z4:=SObj.row z1 [] 126 true;let z5:=k / (32:Int);let z6:=max z5 (↑a.length:Int);let z7:=valN a / (2:Int)^k.toNat;let z8:=k.tmod (32:Int);let z9:=(1:Int)*(2:Int)^z8.toNat % (18446744073709551616:Int);(32:Int)≠(0:Int)∧inR .i64 z0∧((((SV.row z1 a).same (SV.row z1 a)∧(SV.si .i64 k).same (SV.si .i64 k)∧z2.same z2∧z3.same z3∧True)∧z4.same z4∧True)∧(z5≤z0∧z0≤z6)∧Dig []∧(0:Int)=z0 - z5∧valN []=z7 % (1:Int))∧∀(x:Int×List Int),let z10:=x.snd.length;let z11:=decide (x.fst<(↑a.length:Int));let z12:=x.fst+(1:Int);let z13:=((nthD a x.fst.toNat (0:Int)+nthD a z12.toNat (0:Int)*(4294967296:Int) % (18446744073709551616:Int)) % (18446744073709551616:Int)).tdiv z9;let z14:=x.snd.length+1;let z15:=x.snd++[z13.tmod (4294967296:Int) % (4294967296:Int)];let z16:=SV.si .i64 z12;let z17:=SObj.row z1 z15 126 true;(z5≤x.fst∧x.fst≤z6)∧Dig x.snd∧(↑z10:Int)=x.fst - z5∧valN x.snd=z7 % (4294967296:Int)^z10→(z11=true→(Dig a∧(0:Int)≤x.fst)∧inR .i64 z12∧(Dig a∧(0:Int)≤z12)∧(32:Int)≠(0:Int)∧(0:Int)≤z8∧z8≤(64:Int)∧z9≠(0:Int)∧inR .u64 z13∧(4294967296:Int)≠(0:Int)∧z10=x.snd.length∧z14*4≤140737488355328∧z14≤1000000000000∧inR .i64 z12∧(((SV.row z1 a).same (SV.row z1 a)∧(SV.si .i64 k).same (SV.si .i64 k)∧(SV.ow 0 z15.length 1).same (SV.ow 0 z15.length 1)∧z16.same z16∧True)∧z17.same z17∧True)∧((z5≤z12∧z12≤z6)∧Dig z15∧(↑z15.length:Int)=z12 - z5∧valN z15=z7 % (4294967296:Int)^z15.length)∧(z6 - z12).toNat<(z6 - x.fst).toNat)∧(z11=false→z10=x.snd.length∧(Dig x.snd∧z10≤100000000000)∧(SV.row z1 (natL (valN x.snd))).same (SV.row z1 (natL z7)))) (by kernel_rfl) ?_
 simp only[vcs]
 rw[Int.tdiv_eq_ediv_of_nonneg k0,Int.tmod_eq_emod_of_nonneg k0]
 have pa:=val_nonneg ha
 have t2:(k % 32).toNat=k.toNat % 32:=by omega
 have hp:(0:Int)<2^(k.toNat % 32):=Int.pow_pos (by decide)
 have hp2:=two_mono (show k.toNat % 32≤32 by omega)
 rw[show(2:Int)^32=4294967296 from rfl] at hp2
 have t3:1*2^(k.toNat % 32) % 18446744073709551616=(2:Int)^(k.toNat % 32):=by omega
 have hpk:(0:Int)<2^k.toNat:=Int.pow_pos (by decide)
 have pX:0≤valN a / 2^k.toNat:=Int.ediv_nonneg pa (Int.le_of_lt hpk)
 refine⟨by omega,by omega,⟨⟨by omega,by omega⟩,by simp[Dig],by omega,by rw[Int.emod_one];rfl⟩,?_⟩
 rintro⟨i,out⟩ ⟨⟨i0,i1⟩,ho,hlo,hv⟩
 simp only at i0 i1 ho hlo hv ⊢
 rw[t2,t3]
 refine⟨fun hi=>?_,fun hi=>?_⟩
 ·have x:=dig_nth ha i.toNat
  have y:=dig_nth ha (i.toNat+1)
  have e1:(i+1).toNat=i.toNat+1:=by omega
  have e2:(nthD a i.toNat 0+nthD a (i.toNat+1) 0*4294967296 % 18446744073709551616) % 18446744073709551616=nthD a i.toNat 0+nthD a (i.toNat+1) 0*4294967296:=by omega
  have hs0:0≤nthD a i.toNat 0+nthD a (i.toNat+1) 0*4294967296:=by omega
  have hq:0≤(nthD a i.toNat 0+nthD a (i.toNat+1) 0*4294967296) / 2^(k.toNat % 32):=Int.ediv_nonneg hs0 (Int.le_of_lt hp)
  have hq2:(nthD a i.toNat 0+nthD a (i.toNat+1) 0*4294967296) / 2^(k.toNat % 32)≤nthD a i.toNat 0+nthD a (i.toNat+1) 0*4294967296:=Int.ediv_le_self _ hs0
  have hd2:=dig2 (i:=i.toNat) (r:=k.toNat % 32) ha (by omega)
  have hin:inR .u64 ((nthD a i.toNat 0+nthD a (i.toNat+1) 0*4294967296) / 2^(k.toNat % 32)):=u64_in hq (by omega)
  rw[e1,e2,Int.tdiv_eq_ediv_of_nonneg hs0,Int.tmod_eq_emod_of_nonneg hq,hd2]
  have hm:valN a / 2^(32*i.toNat+k.toNat % 32) % 4294967296 % 4294967296=valN a / 2^k.toNat / 4294967296^out.length % 4294967296:=by
   rw[Int.emod_emod_of_dvd _ (Int.dvd_refl _)]
   have e3:(2:Int)^(32*i.toNat+k.toNat % 32)=2^k.toNat*4294967296^out.length:=by
    rw[two_split]
    have:(2:Int)^k.toNat=4294967296^(k.toNat / 32)*2^(k.toNat % 32):=by rw[←two_split];congr 1;omega
    rw[this,show i.toNat=k.toNat / 32+out.length by omega,Int.pow_add,Int.mul_assoc,Int.mul_comm (4294967296^out.length),←Int.mul_assoc]
   rw[e3,←Int.ediv_ediv_of_nonneg (Int.le_of_lt hpk)]
  rw[hm]
  have hd0:=Int.emod_nonneg (valN a / 2^k.toNat / 4294967296^out.length) (show(4294967296:Int)≠0 by decide)
  have hd1:=Int.emod_lt_of_pos (valN a / 2^k.toNat / 4294967296^out.length) (show(0:Int)<4294967296 by decide)
  have hval:valN (out++[valN a / 2^k.toNat / 4294967296^out.length % 4294967296])=valN a / 2^k.toNat % 4294967296^(out.length+1):=by
   rw[val_snoc,hv]
   have:=cut_div (x:=valN a / 2^k.toNat) (r:=32*out.length+0) (m:=32*(out.length+1)+0) (by omega)
   rw[two_split,two_split,Int.pow_zero,Int.mul_one,Int.mul_one,show 32*(out.length+1)+0 - (32*out.length+0)=32 by omega,show(2:Int)^32=4294967296 from rfl] at this
   rw[←this]
   have h1:=Int.mul_ediv_add_emod (valN a / 2^k.toNat % 4294967296^(out.length+1)) (4294967296^out.length)
   have h2:valN a / 2^k.toNat % 4294967296^(out.length+1) % 4294967296^out.length=valN a / 2^k.toNat % 4294967296^out.length:=by
    rw[Int.pow_succ]
    exact Int.emod_emod_of_dvd _ (Int.dvd_mul_right _ _)
   omega
  have hlen:(out++[valN a / 2^k.toNat / 4294967296^out.length % 4294967296]).length=out.length+1:=by simp
  have hdg:Dig (out++[valN a / 2^k.toNat / 4294967296^out.length % 4294967296]):=dig_app ho (dig_one (by omega) (by omega))
  rw[hlen]
  repeat' refine And.intro ?_ ?_
  all_goals first|omega|exact ha|exact hin|exact hdg|exact hval|rfl
 ·have hX:valN a / 2^k.toNat<4294967296^out.length:=by
   refine Int.ediv_lt_of_lt_mul hpk ?_
   have h1:=val_bdN ha
   have h2:=pow_mono (show a.length≤k.toNat / 32+out.length by omega)
   rw[Int.pow_add] at h2
   have h3:(4294967296:Int)^(k.toNat / 32)≤2^k.toNat:=by
    have:=two_mono (show 32*(k.toNat / 32)+0≤k.toNat by omega)
    rwa [two_split,Int.pow_zero,Int.mul_one] at this
   have h4:=Int.mul_le_mul_of_nonneg_right h3 (Int.le_of_lt (pow_pos out.length))
   rw[Int.mul_comm (2^k.toNat)] at h4
   first|omega|(rw[Int.mul_comm];omega)
  rw[Int.emod_eq_of_lt pX hX] at hv
  rw[hv]
  repeat' refine And.intro ?_ ?_
  all_goals first|omega|exact ho|rfl
theorem bits_le {a:List Int} (h:Dig a):bitsN (valN a)≤32*(a.length:Int):=by
 obtain⟨b0,b1,b2⟩:=bits_ok (val_nonneg h)
 by_cases hl:bitsN (valN a)≤32*(a.length:Int)
 ·exact hl
 ·rcases b2 with b2|b2
  ·omega
  ·have h1:=val_bdN h
   have h2:=two_mono (show 32*a.length+0≤(bitsN (valN a)).toNat - 1 by omega)
   rw[two_split,Int.pow_zero,Int.mul_one] at h2
   omega
def LR:List SCtr:=[r160,r161,r162,r106,r107,r141,r159]
theorem hLR:∀c∈LR,Holds Try.prog c:=by
 simp only[LR,List.forall_mem_cons,List.not_mem_nil,false_implies,implies_true,and_true]
 exact⟨h160,h161,h162,h106,h107,h141,h159⟩
def r138:SCtr:=⟨138,List Int×List Int,.cons (codR (.i .u32)) (.one (codR (.i .u32))),fun a=>(Dig a.1∧Dig a.2)∧(a.1.length≤1000000000∧a.2.length≤1000000000)∧0<valN a.2,
 fun a=> .tup [.row (.i .u32) (natL (valN a.1 / valN a.2)),.row (.i .u32) (natL (valN a.1 % valN a.2)),.si .i64 0]⟩
def Λ138 (a:List Int×List Int):Nat→LoopAnn
 |7=> .inv (Int×List Int×List Int) (fun x=>⟨[(0,.row (.i .u32) a.1),(1,.row (.i .u32) a.2),(8,.row (.i .u32) x.2.1),(9,.row (.i .u32) x.2.2),(10,.si .i64 x.1)],[.dead]⟩) (fun s=>(iS s 10,rS (.i .u32) s 8,rS (.i .u32) s 9))
  (fun x=>(-1≤x.1∧x.1≤100000000000)∧(Dig x.2.1∧Nrm x.2.1)∧(Dig x.2.2∧Nrm x.2.2)∧valN x.2.1*valN a.2+valN x.2.2=valN a.1 / 2^(x.1+1).toNat∧valN x.2.2<valN a.2) (fun x=>(x.1+1).toNat) fun _ _=> .look
 |_=> .look
theorem h138:Holds Try.prog r138:=by
 refine con (L:=LR) r138 F138 Λ138 (OwnOK.none _) hLR (by kernel_rfl) (by kernel_rfl) (fun _=>rfl) ?_
 rintro⟨a,b⟩ ⟨⟨ha,hb⟩,⟨hla,hlb⟩,b0⟩
 simp only at ha hb hla hlb b0
 refine vcOf (let z0:=decide ((↑b.length:Int)=(0:Int));let z1:=SV.row (SId.i .i64) [];let z2:=SId.i .u32;let z3:=SV.tup [SV.row z2 (natL (valN a / valN b)),SV.row z2 (natL (valN a % valN b)),SV.si .i64 0];let z4:=bitsN (valN a) - max (1:Int) (bitsN (valN b));let z5:=max (0:Int) (z4+(1:Int));let z6:=z5 - (1:Int);let z7:=natL (valN a / (2:Int)^z5.toNat);let z8:=SV.si .i64 z6;let z9:=natL (1:Int);(z0=true→(SV.tup [z1,z1,SV.il .i64 8]).same z3)∧(z0=false→(Dig a∧a.length≤10000000000)∧(Dig b∧b.length≤10000000000)∧inR .i64 z4∧inR .i64 (z4+(1:Int))∧0=0∧((Dig a∧a.length≤10000000000)∧(0:Int)≤z5∧z5≤(1000000000000:Int))∧inR .i64 z6∧((((SV.row z2 a).same (SV.row z2 a)∧(SV.row z2 b).same (SV.row z2 b)∧(SV.row z2 []).same (SV.row z2 [])∧(SV.row z2 z7).same (SV.row z2 z7)∧z8.same z8∧True)∧SObj.dead.same SObj.dead∧True)∧((-1:Int)≤z6∧z6≤(100000000000:Int))∧(Dig []∧Nrm [])∧(Dig z7∧Nrm z7)∧valN []*valN b+valN z7=valN a / (2:Int)^(z6+(1:Int)).toNat∧valN z7<valN b)∧∀(x:Int×List Int×List Int),let z10:=valN x.snd.fst;let z11:=valN x.snd.snd;let z12:=(x.fst+(1:Int)).toNat;let z13:=decide ((0:Int)≤x.fst);let z14:=bitQ (valN a) x.fst.toNat;let z15:=natL (z11+z11);let z16:=natL (valN z15+valN (natL z14));let z17:=decide ((0:Int)≤cmpN (valN z16) (valN b));let z18:=natL (z10+z10);let z19:=x.fst - (1:Int);let z20:=natL (valN z18+valN z9);let z21:=natL (valN z16 - valN b);let z22:=SV.si .i64 z19;let z23:=(z19+(1:Int)).toNat;let z24:=valN a / (2:Int)^z23;((-1:Int)≤x.fst∧x.fst≤(100000000000:Int))∧(Dig x.snd.fst∧Nrm x.snd.fst)∧(Dig x.snd.snd∧Nrm x.snd.snd)∧z10*valN b+z11=valN a / (2:Int)^z12∧z11<valN b→(z13=true→((Dig x.snd.fst∧Dig x.snd.fst)∧x.snd.fst.length≤10000000000∧x.snd.fst.length≤10000000000)∧((Dig x.snd.snd∧Dig x.snd.snd)∧x.snd.snd.length≤10000000000∧x.snd.snd.length≤10000000000)∧(Dig a∧(0:Int)≤x.fst∧x.fst≤(1000000000000:Int))∧((0:Int)≤z14∧z14<(18446744073709551616:Int))∧((Dig z15∧Dig (natL z14))∧z15.length≤10000000000∧(natL z14).length≤10000000000)∧((Dig z16∧Dig b)∧z16.length≤1000000000000∧b.length≤1000000000000)∧(z17=true→((Dig z16∧Dig b)∧z16.length≤10000000000∧b.length≤10000000000)∧((0:Int)≤(1:Int)∧(1:Int)<(18446744073709551616:Int))∧((Dig z18∧Dig z9)∧z18.length≤10000000000∧z9.length≤10000000000)∧inR .i64 z19∧(((SV.row z2 a).same (SV.row z2 a)∧(SV.row z2 b).same (SV.row z2 b)∧(SV.row z2 z20).same (SV.row z2 z20)∧(SV.row z2 z21).same (SV.row z2 z21)∧z22.same z22∧True)∧SObj.dead.same SObj.dead∧True)∧(((-1:Int)≤z19∧z19≤(100000000000:Int))∧(Dig z20∧Nrm z20)∧(Dig z21∧Nrm z21)∧valN z20*valN b+valN z21=z24∧valN z21<valN b)∧z23<z12)∧(z17=false→inR .i64 z19∧(((SV.row z2 a).same (SV.row z2 a)∧(SV.row z2 b).same (SV.row z2 b)∧(SV.row z2 z18).same (SV.row z2 z18)∧(SV.row z2 z16).same (SV.row z2 z16)∧z22.same z22∧True)∧SObj.dead.same SObj.dead∧True)∧(((-1:Int)≤z19∧z19≤(100000000000:Int))∧(Dig z18∧Nrm z18)∧(Dig z16∧Nrm z16)∧valN z18*valN b+valN z16=z24∧valN z16<valN b)∧z23<z12))∧(z13=false→(SV.tup [SV.row z2 x.snd.fst,SV.row z2 x.snd.snd,SV.il .i64 0]).same z3))) (by kernel_rfl) ?_
 simp only[vcs]
 have pa:=val_nonneg ha
 have hb0:b.length≠0:=by
  intro h
  rw[List.eq_nil_of_length_eq_zero h] at b0
  exact absurd b0 (by decide)
 obtain⟨A0,A1,A2⟩:=bits_ok pa
 obtain⟨B0,B1,B2⟩:=bits_ok (Int.le_of_lt b0)
 have Ab:=bits_le ha
 have Bb:=bits_le hb
 have hB1:1≤bitsN (valN b):=by
  by_cases h:1≤bitsN (valN b)
  ·exact h
  ·rw[show bitsN (valN b)=0 by omega] at B1
   simp at B1
   omega
 have hm:max 1 (bitsN (valN b))=bitsN (valN b):=by omega
 rw[hm]
 obtain⟨K,hK⟩:∃K,K=max 0 (bitsN (valN a) - bitsN (valN b)+1):=⟨_,rfl⟩
 rw[←hK]
 have hK0:0≤K:=by omega
 have hp:(0:Int)<2^K.toNat:=Int.pow_pos (by decide)
 have hlt:valN a / 2^K.toNat<valN b:=by
  refine Int.ediv_lt_of_lt_mul hp ?_
  have h1:=two_mono (show(bitsN (valN a)).toNat≤K.toNat+((bitsN (valN b)).toNat - 1) by omega)
  rw[Int.pow_add] at h1
  have h2:(2:Int)^((bitsN (valN b)).toNat - 1)≤valN b:=by rcases B2 with h|h<;>omega
  have h3:=Int.mul_le_mul_of_nonneg_left h2 (Int.le_of_lt hp)
  rw[Int.mul_comm (valN b)]
  omega
 have pq:0≤valN a / 2^K.toNat:=Int.ediv_nonneg pa (Int.le_of_lt hp)
 obtain⟨q1,q2,q3⟩:=natL_ok pq
 have eK:(K - 1+1).toNat=K.toNat:=by omega
 rw[eK,q1]
 clear A1 A2 B1 B2 hm
 refine⟨fun h=>absurd h (by omega),fun _=>⟨⟨ha,by omega⟩,⟨hb,by omega⟩,by omega,by omega,⟨⟨ha,by omega⟩,by omega,by omega⟩,by omega,⟨⟨by omega,by omega⟩,⟨by simp[Dig],trivial⟩,⟨q2,q3⟩,by simp[valN],hlt⟩,?_⟩⟩
 rintro⟨i,q,r⟩ ⟨⟨i0,i1⟩,⟨hq,nq⟩,⟨hr,nr⟩,hv,hrb⟩
 simp only at i0 i1 hq nq hr nr hv hrb ⊢
 have pqq:=val_nonneg hq
 have prr:=val_nonneg hr
 have hrl:=len_of hr hb nr (Int.le_of_lt hrb)
 have hp2:(0:Int)<2^(i+1).toNat:=Int.pow_pos (by decide)
 have hle:valN a / 2^(i+1).toNat≤valN a:=Int.ediv_le_self _ pa
 have hql:q.length≤a.length:=by
  refine len_of hq ha nq ?_
  have:=Int.mul_le_mul_of_nonneg_left (show(1:Int)≤valN b by omega) pqq
  rw[Int.mul_one] at this
  omega
 refine⟨fun hi=>?_,fun hi=>?_⟩
 ·have e1:(i+1).toNat=i.toNat+1:=by omega
  have e2:(i - 1+1).toNat=i.toNat:=by omega
  have hb2:0≤bitQ (valN a) i.toNat∧bitQ (valN a) i.toNat≤1:=by unfold bitQ;omega
  have hstep:valN a / 2^i.toNat=2*(valN a / 2^(i+1).toNat)+bitQ (valN a) i.toNat:=by
   have hpi:(0:Int)<2^i.toNat:=Int.pow_pos (by decide)
   rw[e1,Int.pow_succ,←Int.ediv_ediv_of_nonneg (Int.le_of_lt hpi)]
   unfold bitQ
   omega
  rw[←hv] at hstep
  obtain⟨u1,u2,u3⟩:=natL_ok (show 0≤valN r+valN r by omega)
  obtain⟨w1,w2,w3⟩:=natL_ok hb2.1
  obtain⟨x1,x2,x3⟩:=natL_ok (show 0≤valN r+valN r+bitQ (valN a) i.toNat by omega)
  obtain⟨y1,y2,y3⟩:=natL_ok (show 0≤valN q+valN q by omega)
  obtain⟨z1,z2,z3⟩:=natL_ok (show(0:Int)≤1 by omega)
  obtain⟨s1,s2,s3⟩:=natL_ok (show 0≤valN q+valN q+1 by omega)
  have ul:=add_len hr hr hrl hrl
  have wl:=natL_len (k:=1) hb2.1 (by rw[Int.pow_succ,Int.pow_zero];omega)
  have xl:=add_len (k:=b.length+2) u2 w2 (by omega) (by omega)
  have yl:=add_len hq hq hql hql
  have zl:=natL_len (k:=1) (show(0:Int)≤1 by omega) (by decide)
  rw[u1,w1] at xl
  rw[u1,w1,x1,y1,z1,e2]
  have hbv:(valN q+valN q)*valN b=2*(valN q*valN b):=by rw[←Int.two_mul,Int.mul_assoc]
  have hbv2:(valN q+valN q+1)*valN b=2*(valN q*valN b)+valN b:=by rw[Int.add_mul,hbv,Int.one_mul]
  have hcm:(0≤cmpN (valN r+valN r+bitQ (valN a) i.toNat) (valN b))↔valN b≤valN r+valN r+bitQ (valN a) i.toNat:=by
   unfold cmpN
   split
   ·omega
   ·split<;>omega
  rw[hcm]
  refine⟨⟨⟨hq,hq⟩,by omega,by omega⟩,⟨⟨hr,hr⟩,by omega,by omega⟩,⟨ha,by omega,by omega⟩,⟨by omega,by omega⟩,⟨⟨u2,w2⟩,by omega,by omega⟩,⟨⟨x2,hb⟩,by omega,by omega⟩,fun hc=>?_,fun hc=>?_⟩
  ·obtain⟨t1,t2,t3⟩:=natL_ok (show 0≤valN r+valN r+bitQ (valN a) i.toNat - valN b by omega)
   rw[s1,t1]
   repeat' refine And.intro ?_ ?_
   all_goals first|omega|exact x2|exact hb|exact y2|exact z2|exact s2|exact s3|exact t2|exact t3|rfl|(rw[hbv2];omega)
  ·repeat' refine And.intro ?_ ?_
   all_goals first|omega|exact x2|exact x3|exact y2|exact y3|rfl|(rw[hbv];omega)
 ·have e0:(i+1).toNat=0:=by omega
  rw[e0,Int.pow_zero,Int.ediv_one] at hv
  obtain⟨w1,w2⟩:=qr_of (X:=valN a) (V:=valN b) (q:=valN q) (by omega) (by rw[Int.add_mul,Int.one_mul];omega)
  rw[w1,w2,natL_val hq nq,show valN a - valN q*valN b=valN r by omega,natL_val hr nr]
  repeat' refine And.intro ?_ ?_
  all_goals first|omega|rfl
def r125:SCtr:=⟨125,List Int×List Int,.cons (codR (.i .u32)) (.one (codR (.i .u32))),fun a=>(Dig a.1∧Dig a.2)∧(a.1.length≤100000000∧a.2.length≤100000000)∧Nrm a.2,
 fun a=> .row (.i .u32) (natL (gcdN (valN a.1) (valN a.2)))⟩
def Λ125 (a:List Int×List Int):Nat→LoopAnn
 |1=> .inv (List Int×List Int) (fun x=>⟨[(0,.row (.i .u32) x.1),(1,.row (.i .u32) x.2)],[]⟩) (fun s=>(rS (.i .u32) s 0,rS (.i .u32) s 1))
  (fun x=>(Dig x.1∧Dig x.2)∧Nrm x.2∧(x.1.length≤100000000∧x.2.length≤100000000)∧gcdN (valN x.1) (valN x.2)=gcdN (valN a.1) (valN a.2)) (fun x=>(valN x.2).toNat) fun _ _=> .look
 |_=> .look
theorem h125:Holds Try.prog r125:=by
 refine con (L:=[r138,r140]) r125 F125 Λ125 (OwnOK.none _) (by simpa using⟨h138,h140⟩) (by kernel_rfl) (by kernel_rfl) (fun _=>rfl) ?_
 rintro⟨a,b⟩ ⟨⟨ha,hb⟩,⟨hla,hlb⟩,hn⟩
 simp only at ha hb hla hlb hn
 refine vcOf (let z0:=SId.i .u32;let z1:=gcdN (valN a) (valN b);((((SV.row z0 a).same (SV.row z0 a)∧(SV.row z0 b).same (SV.row z0 b)∧True)∧True)∧(Dig a∧Dig b)∧Nrm b∧(a.length≤100000000∧b.length≤100000000)∧z1=z1)∧∀(x:List Int×List Int),let z2:=x.fst.length;let z3:=decide ((0:Int)<(↑x.snd.length:Int));let z4:=natL (valN x.fst % valN x.snd);(Dig x.fst∧Dig x.snd)∧Nrm x.snd∧(z2≤100000000∧x.snd.length≤100000000)∧gcdN (valN x.fst) (valN x.snd)=z1→(z3=true→((Dig x.fst∧Dig x.snd)∧(z2≤1000000000∧x.snd.length≤1000000000)∧(0:Int)<valN x.snd)∧(((SV.row z0 x.snd).same (SV.row z0 x.snd)∧(SV.row z0 z4).same (SV.row z0 z4)∧True)∧True)∧((Dig x.snd∧Dig z4)∧Nrm z4∧(x.snd.length≤100000000∧z4.length≤100000000)∧gcdN (valN x.snd) (valN z4)=z1)∧(valN z4).toNat<(valN x.snd).toNat)∧(z3=false→(Dig x.fst∧z2≤100000000000)∧(SV.row z0 (natL (valN x.fst))).same (SV.row z0 (natL z1)))) (by kernel_rfl) ?_
 simp only[vcs]
 refine⟨⟨⟨ha,hb⟩,hn,⟨hla,hlb⟩⟩,?_⟩
 rintro⟨s,t⟩ ⟨⟨ds,dt⟩,nt,⟨hs,ht⟩,hg⟩
 simp only at ds dt nt ht hs hg ⊢
 have ps:=val_nonneg ds
 have pt:=val_nonneg dt
 refine⟨fun hl=>?_,fun hl=>?_⟩
 ·have hpos:0<valN t:=by
   by_cases h:valN t=0
   ·rw[val_zero dt nt h] at hl
    simp at hl
   ·omega
  have hm:=Int.emod_nonneg (valN s) (show valN t≠0 by omega)
  have hlt:=Int.emod_lt_of_pos (valN s) hpos
  obtain⟨m1,m2,m3⟩:=natL_ok hm
  have hml:=len_of m2 dt m3 (by rw[m1];omega)
  rw[m1]
  refine⟨⟨⟨ds,dt⟩,⟨by omega,by omega⟩,hpos⟩,⟨⟨dt,m2⟩,m3,⟨by omega,by omega⟩,by rw[gcdN_step ps hpos,hg]⟩,by omega⟩
 ·have ht0:t=[]:=List.eq_nil_of_length_eq_zero (by omega)
  rw[ht0,show valN []=0 from rfl,gcdN_zero ps] at hg
  rw[←hg]
  repeat' refine And.intro ?_ ?_
  all_goals first|omega|exact ds|rfl
def r135:SCtr:=⟨135,Int,.one (codI .i64),fun n=> -9223372036854775808≤(show Int from n)∧(show Int from n)≤9223372036854775807,fun n=> .row (.i .u32) (natL ((show Int from n).natAbs:Int))⟩
theorem h135:Holds Try.prog r135:=by
 refine con (L:=[r159]) r135 F135 (fun _ _=> .look) (OwnOK.none _) (by simpa using h159) (by kernel_rfl) (by kernel_rfl) (fun _=>rfl) ?_
 intro(n:Int) h
 obtain⟨h0,h1⟩: -9223372036854775808≤n∧n≤9223372036854775807:=h
 refine vcOf (let z0:=decide (n<(0:Int));let z1:=(-(n+(1:Int))+(1:Int)) % (18446744073709551616:Int);let z2:=SId.i .u32;let z3:=SV.row z2 (natL (↑n.natAbs:Int));(z0=true→inR .i64 (n+(1:Int))∧inR .i64 (-(n+(1:Int)))∧inR .u64 (-(n+(1:Int)))∧((0:Int)≤z1∧z1<(18446744073709551616:Int))∧(SV.row z2 (natL z1)).same z3)∧(z0=false→inR .u64 n∧((0:Int)≤n∧n<(18446744073709551616:Int))∧(SV.row z2 (natL n)).same z3)) (by kernel_rfl) ?_
 simp only[vcs]
 refine⟨fun hn=>?_,fun hn=>?_⟩
 ·have e:(-(n+1)+1) % 18446744073709551616=(n.natAbs:Int):=by omega
  rw[e]
  exact⟨by omega,by omega,u64_in (by omega) (by omega),by omega,rfl⟩
 ·have e:(n.natAbs:Int)=n:=by omega
  rw[e]
  exact⟨u64_in (by omega) (by omega),by omega,rfl⟩
def r105:SCtr:=⟨105,Bool×(List Int×List Int),.cons codB (.cons (codR (.i .u32)) (.one (codR (.i .u32)))),fun a=>(Dig a.2.1∧Dig a.2.2)∧(a.2.1.length≤100000000∧a.2.2.length≤100000000)∧(Nrm a.2.1∧Nrm a.2.2)∧0<valN a.2.2,
 fun a=> .tup [frS (mkF a.1 (valN a.2.1) (valN a.2.2)),.si .i64 0]⟩
theorem h105:Holds Try.prog r105:=by
 refine con (L:=[r125,r138]) r105 F105 (fun _ _=> .look) (OwnOK.none _) (by simpa using⟨h125,h138⟩) (by kernel_rfl) (by kernel_rfl) (fun _=>rfl) ?_
 rintro⟨s,n,d⟩ ⟨⟨hn,hd⟩,⟨hln,hld⟩,⟨nn,nd⟩,d0⟩
 simp only at hn hd hln hld d0 nn nd
 refine vcOf (let z0:=decide ((↑d.length:Int)=(0:Int));let z1:=SV.row (SId.i .i64) [];let z2:=frE (mkF s (valN n) (valN d));let z3:=SId.i .u32;let z4:=SV.tup [SV.agg [SV.sb z2.fst,SV.row z3 z2.snd.fst,SV.row z3 z2.snd.snd],SV.si .i64 0];let z5:=natL (gcdN (valN n) (valN d));let z6:=[SV.row z3 (natL (valN n / valN z5)),SV.row z3 (natL (valN d / valN z5))];let z7:=[SV.il .i64 0];(z0=true→(SV.tup [SV.agg [SV.bl false,z1,z1],SV.il .i64 8]).same z4)∧(z0=false→((Dig n∧Dig d)∧(n.length≤100000000∧d.length≤100000000)∧Nrm d)∧((Dig n∧Dig z5)∧(n.length≤1000000000∧z5.length≤1000000000)∧(0:Int)<valN z5)∧((Dig d∧Dig z5)∧(d.length≤1000000000∧z5.length≤1000000000)∧(0:Int)<valN z5)∧(s=true→(SV.tup (SV.agg (SV.sb (decide ((0:Int)<(↑n.length:Int)))::z6)::z7)).same z4)∧(s=false→(SV.tup (SV.agg (SV.bl false::z6)::z7)).same z4))) (by kernel_rfl) ?_
 simp only[vcs]
 have n0:=val_nonneg hn
 have g0:0<gcdN (valN n) (valN d):=by
  unfold gcdN
  have:=Nat.gcd_pos_of_pos_right (valN n).toNat (show 0<(valN d).toNat by omega)
  omega
 have gle:gcdN (valN n) (valN d)≤valN d:=by
  unfold gcdN
  have:=Nat.gcd_le_right (valN n).toNat (show 0<(valN d).toNat by omega)
  omega
 obtain⟨a1,a2,a3⟩:=natL_ok (Int.le_of_lt g0)
 have hgl:=len_of a2 hd a3 (by rw[a1];exact gle)
 have hpos:(0<(n.length:Int))↔0<valN n:=by
  constructor
  ·intro h
   by_cases hz:valN n=0
   ·rw[val_zero hn nn hz] at h;exact absurd h (by decide)
   ·omega
  ·intro h
   by_cases hl:n.length=0
   ·rw[List.eq_nil_of_length_eq_zero hl] at h
    exact absurd h (by decide)
   ·omega
 have hb:decide (0<(n.length:Int))=decide (0<valN n):=by rw[decide_eq_decide];exact hpos
 have hd0:d.length≠0:=by
  intro h
  rw[List.eq_nil_of_length_eq_zero h] at d0
  exact absurd d0 (by decide)
 unfold mkF
 rw[frE_mk n0 d0,a1]
 simp only
 refine⟨fun h=>absurd h (by omega),fun _=>⟨⟨⟨hn,hd⟩,⟨by omega,by omega⟩,nd⟩,⟨⟨hn,a2⟩,⟨by omega,by omega⟩,g0⟩,⟨⟨hd,a2⟩,⟨by omega,by omega⟩,g0⟩,fun hs=>?_,fun hs=>?_⟩⟩
 ·rw[hs,hb]
  rfl
 ·rw[hs]
  rfl
def r103:SCtr:=⟨103,Int×Int,.cons (codI .i64) (.one (codI .i64)),fun a=>(-9223372036854775808≤a.1∧a.1≤9223372036854775807)∧0<a.2∧a.2≤9223372036854775807,fun a=> .tup [frS (mkF (decide (a.1<0)) (a.1.natAbs:Int) a.2),.si .i64 0]⟩
theorem h103:Holds Try.prog r103:=by
 refine con (L:=[r135,r105]) r103 F103 (fun _ _=> .look) (OwnOK.none _) (by simpa using⟨h135,h105⟩) (by kernel_rfl) (by kernel_rfl) (fun _=>rfl) ?_
 rintro⟨n,d⟩ ⟨⟨h0,h1⟩,h2,h3⟩
 simp only at h0 h1 h2 h3
 refine vcOf (let z0:=natL (↑n.natAbs:Int);let z1:=natL (↑d.natAbs:Int);let z2:=frE (mkF (!decide (n<(0:Int))==decide (d<(0:Int))) (valN z0) (valN z1));let z3:=SId.i .u32;let z4:=[SV.si .i64 0];let z5:=frE (mkF (decide (n<(0:Int))) (↑n.natAbs:Int) d);((-9223372036854775808:Int)≤n∧n≤(9223372036854775807:Int))∧((-9223372036854775808:Int)≤d∧d≤(9223372036854775807:Int))∧((Dig z0∧Dig z1)∧(z0.length≤100000000∧z1.length≤100000000)∧(Nrm z0∧Nrm z1)∧(0:Int)<valN z1)∧(SV.tup (SV.agg [SV.sb z2.fst,SV.row z3 z2.snd.fst,SV.row z3 z2.snd.snd]::z4)).same (SV.tup (SV.agg [SV.sb z5.fst,SV.row z3 z5.snd.fst,SV.row z3 z5.snd.snd]::z4))) (by kernel_rfl) ?_
 simp only[vcs]
 obtain⟨a1,a2,a3⟩:=natL_ok (show(0:Int)≤(n.natAbs:Int) by omega)
 obtain⟨b1,b2,b3⟩:=natL_ok (show(0:Int)≤(d.natAbs:Int) by omega)
 have l1:=natL_len (k:=2) (show(0:Int)≤(n.natAbs:Int) by omega) (by rw[show(4294967296:Int)^2=18446744073709551616 from rfl];omega)
 have l2:=natL_len (k:=2) (show(0:Int)≤(d.natAbs:Int) by omega) (by rw[show(4294967296:Int)^2=18446744073709551616 from rfl];omega)
 have e:(d.natAbs:Int)=d:=by omega
 have hs:(!(decide (n<0)==decide (d<0)))=decide (n<0):=by
  have:decide (d<0)=false:=by rw[decide_eq_false_iff_not];omega
  rw[this]
  cases decide (n<0)<;>rfl
 rw[hs,a1,b1,e]
 rw[e] at b2 b3 l2
 repeat' refine And.intro ?_ ?_
 all_goals first|omega|exact a2|exact b2|exact a3|exact b3|rfl
def r51:SCtr:=⟨51,Int,.one (codI .i64),fun n=> -9223372036854775808≤(show Int from n)∧(show Int from n)≤9223372036854775807,fun n=>frS ((show Int from n):Rat)⟩
theorem mkF_int (n:Int):mkF (decide (n<0)) (n.natAbs:Int) 1=(n:Rat):=by
 unfold mkF
 have h2:(if decide (n<0)=true then -(n.natAbs:Int) else(n.natAbs:Int))=n:=by
  by_cases h:n<0
  ·rw[if_pos (by simpa using h)];omega
  ·rw[if_neg (by simpa using h)];omega
 rw[h2]
 exact Rat.mkRat_one n
theorem h51:Holds Try.prog r51:=by
 refine con (L:=[r103]) r51 F51 (fun _ _=> .look) (OwnOK.none _) (by simpa using h103) (by kernel_rfl) (by kernel_rfl) (fun _=>rfl) ?_
 intro(n:Int) h
 obtain⟨h0,h1⟩: -9223372036854775808≤n∧n≤9223372036854775807:=h
 refine vcOf (let z0:=frE (mkF (decide (n<(0:Int))) (↑n.natAbs:Int) (1:Int));let z1:=SId.i .u32;let z2:=frE (IntCast.intCast n);(((-9223372036854775808:Int)≤n∧n≤(9223372036854775807:Int))∧(0:Int)<(1:Int)∧(1:Int)≤(9223372036854775807:Int))∧(SV.agg [SV.sb z0.fst,SV.row z1 z0.snd.fst,SV.row z1 z0.snd.snd]).same (SV.agg [SV.sb z2.fst,SV.row z1 z2.snd.fst,SV.row z1 z2.snd.snd])) (by kernel_rfl) ?_
 conv=>zeta
 exact⟨⟨⟨h0,h1⟩,by omega,by omega⟩,frS_eq (mkF_int n)⟩
def isG (x:Fra):Prop:=∃q k,x=frE q∧Sz k q∧k≤10000000
theorem isG.isF {x:Fra} (h:isG x):isF x:=by
 obtain⟨q,k,h1,h2,h3⟩:=h
 exact⟨q,k,h1,h2,by omega⟩
def tabP (p:Prob) (n:Nat):List Int:=(List.range n).map fun(m:Nat)=>bestS p ⟨(m:Int),p.supply,p.opn⟩
def tabS (p:Prob):List Int:=tabP p (2^p.classes.length)
def r121:SCtr:=⟨121,Prob,.one codP,fun _=>True,fun p=> .tup [.row (.i .i64) (if checkE p=0 then tabS p else[]),.si .i64 (checkE p)]⟩
def stT (p:Prob) (es:Memo) (out:List Int):SStore:=[.cells p.ss 27 20 false,
 .cells [.si .i64 p.supply.a0,.si .i64 p.supply.a1,.si .i64 p.supply.a2,.si .i64 p.supply.a3,.si .i64 p.supply.a4,.si .i64 p.supply.a5,
  .si .i64 p.opn.a0,.si .i64 p.opn.a1,.si .i64 p.opn.a2,.si .i64 p.opn.a3,.si .i64 p.opn.a4,.si .i64 p.opn.a5,
  .si .i64 p.cls.a0,.si .i64 p.cls.a1,.si .i64 p.cls.a2,.si .i64 p.cls.a3,.si .i64 p.cls.a4,.si .i64 p.cls.a5,
  .row (.i .i64) p.classes,.row .off p.offers,.row .off (L8.of p).l0,.row .off (L8.of p).l1,.row .off (L8.of p).l2,.row .off (L8.of p).l3,.row .off (L8.of p).l4,.row .off (L8.of p).l5,.row .off (L8.of p).l6,.row .off (L8.of p).l7,.mp 2] 174 29 false,
 .map .sit (.i .i64) true es ([0,0,0,0,0,0,0,0,0,0,0,0,0],true) true,.row (.i .i64) out 2 true]
def Λ121 (p:Prob):Nat→LoopAnn
 |7=> .inv (Int×Memo×List Int) (fun x=>⟨[(5,.ptr 1 0 29),(6,.ow 3 x.2.2.length 1),(18,.si .i64 (2^p.classes.length)),(19,.si .i64 x.1)],stT p x.2.1 x.2.2⟩) (fun s=>(iS s 19,mS .sit (.i .i64) s 2,oS (.i .i64) s 3))
  (fun x=>(0≤x.1∧x.1≤2^p.classes.length)∧MemoOk p x.2.1∧x.2.2=tabP p x.1.toNat) (fun x=>(2^p.classes.length - x.1).toNat) fun _ _=> .look
 |_=> .look
theorem h121:Holds Try.prog r121:=by
 refine con (L:=[r79]) (W:=ownT WK) r121 F121 Λ121 (ownT_ok hWK) (by simpa using h79) (by kernel_rfl) (by kernel_rfl) (fun _=>rfl) ?_
 rintro(p:Prob) -
 refine vcOf (let z0:=decide (checkE p≠(0:Int));let z1:=SId.i .i64;let z2:=[SV.si .i64 (checkE p)];let z3:=SV.tup (SV.row z1 (if checkE p=(0:Int) then tabS p else[])::z2);let z4:=(↑p.classes.length:Int);let z5:=(1:Int)*(2:Int)^z4.toNat;let z6:=SV.ptr 1 0 29;let z7:=SV.ow 3 0 1;let z8:=(2:Int)^p.classes.length;let z9:=SV.si .i64 z8;let z10:=SV.il .i64 0;let z11:=SV.si .i64 p.supply.a0;let z12:=SV.si .i64 p.supply.a1;let z13:=SV.si .i64 p.supply.a2;let z14:=SV.si .i64 p.supply.a3;let z15:=SV.si .i64 p.supply.a4;let z16:=SV.si .i64 p.supply.a5;let z17:=SV.si .i64 p.opn.a0;let z18:=SV.si .i64 p.opn.a1;let z19:=SV.si .i64 p.opn.a2;let z20:=SV.si .i64 p.opn.a3;let z21:=SV.si .i64 p.opn.a4;let z22:=SV.si .i64 p.opn.a5;let z23:=SV.si .i64 p.cls.a0;let z24:=SV.si .i64 p.cls.a1;let z25:=SV.si .i64 p.cls.a2;let z26:=SV.si .i64 p.cls.a3;let z27:=SV.si .i64 p.cls.a4;let z28:=SV.si .i64 p.cls.a5;let z29:=SV.row SId.off p.offers;let z30:=SObj.cells [z11,z12,z13,z14,z15,z16,z17,z18,z19,z20,z21,z22,z23,z24,z25,z26,z27,z28,SV.row z1 p.classes,z29] 27 20 false;let z31:=SObj.cells [z11,z12,z13,z14,z15,z16,z17,z18,z19,z20,z21,z22,z23,z24,z25,z26,z27,z28,SV.row z1 p.classes,z29,SV.row SId.off (L8.of p).l0,SV.row SId.off (L8.of p).l1,SV.row SId.off (L8.of p).l2,SV.row SId.off (L8.of p).l3,SV.row SId.off (L8.of p).l4,SV.row SId.off (L8.of p).l5,SV.row SId.off (L8.of p).l6,SV.row SId.off (L8.of p).l7,SV.mp 2] 174 29 false;let z32:=([0,0,0,0,0,0,0,0,0,0,0,0,0],true);let z33:=SObj.map SId.sit z1 true [] z32 true;let z34:=SObj.row z1 [] 2 true;True∧(z0=true→(SV.tup (SV.row z1 []::z2)).same z3)∧(z0=false→Good p∧(0:Int)≤z4∧z4≤(64:Int)∧inR .i64 z5∧(((z6.same z6∧z7.same z7∧(SV.si .i64 z5).same z9∧z10.same (SV.si .i64 0)∧True)∧z30.same z30∧z31.same z31∧z33.same z33∧z34.same z34∧True)∧((0:Int)≤(0:Int)∧(0:Int)≤z8)∧MemoOk p []∧[]=tabP p 0)∧∀(x:Int×Memo×List Int),let z35:=Sit.mk x.fst p.supply p.opn;let z36:=x.snd.snd.length+1;let z37:=x.fst+(1:Int);let z38:=bestM p (cnt x.fst+1) x.snd.fst z35;let z39:=x.snd.snd++[z38.fst];let z40:=SV.si .i64 z37;let z41:=SObj.map SId.sit z1 true z38.snd z32 true;let z42:=SObj.row z1 z39 2 true;((0:Int)≤x.fst∧x.fst≤z8)∧MemoOk p x.snd.fst∧x.snd.snd=tabP p x.fst.toNat→(decide (x.fst<z8)=true→True∧((Good p∧L8.of p=L8.of p∧SitOk z35∧MemoOk p x.snd.fst)∧cnt x.fst<9)∧x.snd.snd.length=x.snd.snd.length∧z36*8≤140737488355328∧z36≤1000000000000∧inR .i64 z37∧((z6.same z6∧(SV.ow 3 z39.length 1).same (SV.ow 3 z39.length 1)∧z9.same z9∧z40.same z40∧True)∧z30.same z30∧z31.same z31∧z41.same z41∧z42.same z42∧True)∧(((0:Int)≤z37∧z37≤z8)∧MemoOk p z38.snd∧z39=tabP p z37.toNat)∧(z8 - z37).toNat<(z8 - x.fst).toNat)∧(decide (x.fst<z8)=false→x.snd.snd.length=x.snd.snd.length∧(SV.tup [SV.row z1 x.snd.snd,z10]).same z3))) (by kernel_rfl) ?_
 simp only[vcs]
 refine⟨fun hne=>?_,fun hz=>?_⟩
 ·rw[if_neg hne]
 have hz:checkE p=0:=by simpa using hz
 have hg:=good_of hz
 have hp:=pow_n hg.1
 have h8:=hg.1
 have e0:(1:Int)*2^((p.classes.length:Int)).toNat=2^p.classes.length:=by rw[Int.one_mul,Int.toNat_natCast]
 have c0:((2^p.classes.length:Nat):Int)=2^p.classes.length:=by push_cast;rfl
 rw[e0]
 have hm0:MemoOk p []:=fun e he=>by simp at he
 have cn:∀z,cnt z<9:=fun z=>by have:=@mem_len z;unfold cnt;omega
 refine⟨hg,by omega,by omega,by omega,?_,?_⟩
 ·repeat' refine And.intro ?_ ?_
  all_goals first|omega|rfl|exact hm0|trivial
 rintro⟨i,es,out⟩ ⟨⟨i0,i1⟩,hes,ho⟩
 simp only at i0 i1 hes ho ⊢
 subst ho
 have hol:(tabP p i.toNat).length=i.toNat:=by simp[tabP]
 refine⟨fun hi=>?_,fun hi=>?_⟩
 ·have ha:SitOk ⟨i,p.supply,p.opn⟩:=⟨i0,by simp only;omega,hg.2.2.1,hg.2.2.2.1⟩
  obtain⟨b1,b2⟩:=best_ok hg (cnt i+1) es ⟨i,p.supply,p.opn⟩ ha hes (by simp only;omega)
  have hsucc:tabP p (i+1).toNat=tabP p i.toNat++[bestS p ⟨i,p.supply,p.opn⟩]:=by
   unfold tabP
   rw[show(i+1).toNat=i.toNat+1 by omega,List.range_succ,List.map_append,List.map_cons,List.map_nil,show((i.toNat:Nat):Int)=i by omega]
  rw[b1]
  refine⟨⟨⟨hg,ha,hes⟩,cn i⟩,?_⟩
  repeat' refine And.intro ?_ ?_
  all_goals first|omega|exact b2|exact hsucc.symm|rfl
 ·rw[if_pos hz,hz]
  have:i.toNat=2^p.classes.length:=by omega
  unfold tabS
  rw[this]
  exact⟨rfl,rfl⟩
def inM (p:Prob) (m i:Int):Prop:=bitI m (nthD p.offers i.toNat SId.off.dflt).bidder=1
instance (p:Prob) (m i:Int):Decidable (inM p m i):=by unfold inM;infer_instance
def srcL (p:Prob) (m:Int):Nat→Int→List Int→Int→Alloc→Alloc
 |0,_,c,v,b=>if b.value<v then⟨c,v⟩ else b
 |k+1,i,c,v,b=>srcL p m k (i+1) c v (if inM p m i then(if feasE p (c++[i])=0 then srcL p m k (i+1) (c++[i]) (v+valI p i) b else b) else b)
def sumI (p:Prob) (t:List Int):Int:=sumV (offsI p t)
def Ext2 (p:Prob) (m i:Int) (k:Nat) (c t:List Int):Prop:=IncR i k t∧(∀j∈t,inM p m j)∧(t≠[]→FeasI p (c++t))
theorem incR_wide {i:Int} {k:Nat} {t:List Int} (h:IncR (i+1) k t):IncR i (k+1) t:=⟨h.1,fun j hj=>by have:=h.2 j hj;omega⟩
theorem incR_cons {i:Int} {k:Nat} {t:List Int} (h:IncR (i+1) k t):IncR i (k+1) (i::t):=⟨List.pairwise_cons.2 ⟨fun j hj=>by have:=h.2 j hj;omega,h.1⟩,fun j hj=>by
 rcases List.mem_cons.1 hj with rfl|hj
 ·omega
 ·have:=h.2 j hj;omega⟩
theorem sumI_cons {p:Prob} {i:Int} {t:List Int}:sumI p (i::t)=valI p i+sumI p t:=by
 unfold sumI offsI valI
 simp[sumV]
theorem src_ge {p:Prob} {m:Int} (hc:checkE p=0):∀{k:Nat} {i:Int} {c:List Int} {v:Int} {b:Alloc},b.value≤(srcL p m k i c v b).value∧∀t,Ext2 p m i k c t→v+sumI p t≤(srcL p m k i c v b).value
 |0,i,c,v,b=>by
  simp only[srcL]
  have e:b.value≤(if b.value<v then(⟨c,v⟩:Alloc) else b).value∧v≤(if b.value<v then(⟨c,v⟩:Alloc) else b).value:=by
   by_cases h:b.value<v
   ·rw[if_pos h]
    exact⟨by show b.value≤v;omega,by show v≤v;omega⟩
   ·rw[if_neg h];omega
  refine⟨e.1,fun t ht=>?_⟩
  have:t=[]:=by
   cases t with
   |nil=>rfl
   |cons j t=>have:=ht.1.2 j (by simp);omega
  subst this
  have h0:sumI p []=0:=rfl
  rw[h0]
  omega
 |k+1,i,c,v,b=>by
  have hg:=good_of hc
  simp only[srcL]
  generalize hb2:(if inM p m i then(if feasE p (c++[i])=0 then srcL p m k (i+1) (c++[i]) (v+valI p i) b else b) else b)=b2
  obtain⟨k1,k2⟩:=@src_ge p m hc k (i+1) c v b2
  obtain⟨k3,k4⟩:=@src_ge p m hc k (i+1) (c++[i]) (v+valI p i) b
  have hbb:b.value≤b2.value:=by
   rw[←hb2]
   split
   ·split
    ·exact k3
    ·exact Int.le_refl _
   ·exact Int.le_refl _
  refine⟨by omega,fun t ht=>?_⟩
  cases t with
  |nil=>exact k2 [] ⟨⟨by simp,by simp⟩,by simp,fun h=>absurd rfl h⟩
  |cons j t=>
   have hj:=ht.1.2 j (by simp)
   have hp:=List.pairwise_cons.1 ht.1.1
   have hF:=ht.2.2 (by simp)
   by_cases hji:j=i
   ·subst hji
    have h5:FeasI p ((c++[j])++t):=by simpa using hF
    rw[if_pos (ht.2.1 j (by simp)),if_pos ((feas_iff hc).2 (feasI_pre hg h5))] at hb2
    have:=k4 t ⟨⟨hp.2,fun n hn=>by have a:=hp.1 n hn;have b:=ht.1.2 n (by simp[hn]);omega⟩,fun n hn=>ht.2.1 n (by simp[hn]),fun _=>h5⟩
    rw[hb2] at this
    rw[sumI_cons]
    omega
   ·refine k2 (j::t) ⟨⟨ht.1.1,fun n hn=>?_⟩,ht.2.1,ht.2.2⟩
    have b:=ht.1.2 n hn
    rcases List.mem_cons.1 hn with rfl|hn
    ·omega
    ·have a:=hp.1 n hn;omega
theorem src_hit {p:Prob} {m:Int} (hc:checkE p=0):∀{k:Nat} {i:Int} {c:List Int} {v:Int} {b:Alloc},(srcL p m k i c v b).value=b.value∨∃t,Ext2 p m i k c t∧(srcL p m k i c v b).value=v+sumI p t
 |0,i,c,v,b=>by
  simp only[srcL]
  split
  ·exact .inr ⟨[],⟨⟨by simp,by simp⟩,by simp,fun h=>absurd rfl h⟩,by show v=v+0;omega⟩
  ·exact .inl rfl
 |k+1,i,c,v,b=>by
  simp only[srcL]
  generalize hb2:(if inM p m i then(if feasE p (c++[i])=0 then srcL p m k (i+1) (c++[i]) (v+valI p i) b else b) else b)=b2
  rcases @src_hit p m hc k (i+1) c v b2 with h|⟨t,h1,h2⟩
  ·rw[h,←hb2]
   split
   ·rename_i hm
    split
    ·rename_i hf
     rcases @src_hit p m hc k (i+1) (c++[i]) (v+valI p i) b with h3|⟨t,h3,h4⟩
     ·exact .inl h3
     ·refine .inr ⟨i::t,⟨incR_cons h3.1,fun j hj=>?_,fun _=>?_⟩,by rw[h4,sumI_cons];omega⟩
      ·rcases List.mem_cons.1 hj with rfl|hj
       ·exact hm
       ·exact h3.2.1 j hj
      ·by_cases ht:t=[]
       ·subst ht;exact(feas_iff hc).1 hf
       ·simpa using h3.2.2 ht
    ·exact .inl rfl
   ·exact .inl rfl
  ·exact .inr ⟨t,⟨incR_wide h1.1,h1.2.1,h1.2.2⟩,h2⟩
theorem bitI_one {m f:Int} (hm:0≤m) (hm2:m<256) (hf:0≤f) (hf2:f<8):bitI m f=1↔f∈memL m:=by
 have h:=(bit_del hm hm2 hf hf2).1
 have hin:f∈([0,1,2,3,4,5,6,7]:List Int):=by
  have:f=0∨f=1∨f=2∨f=3∨f=4∨f=5∨f=6∨f=7:=by omega
  simpa using this
 unfold memL
 rw[List.mem_filter,decide_eq_true_eq]
 constructor
 ·intro h1
  exact⟨hin,by omega⟩
 ·rintro⟨_,h1⟩
  rcases h with h|h
  ·exact absurd h h1
  ·exact h
theorem incR_mem {p:Prob} {t:List Int} (h:IncR 0 p.offers.length t) {x:Off} (hx:x∈offsI p t):∃j∈t,x=nthD p.offers j.toNat SId.off.dflt∧x∈p.offers:=by
 unfold offsI at hx
 obtain⟨j,hj,rfl⟩:=List.mem_map.1 hx
 have:=h.2 j hj
 exact⟨j,hj,rfl,nthD_mem (by omega)⟩
theorem src_worth {p:Prob} {m:Int} (hc:checkE p=0) (m0:0≤m) (m1:m<2^p.classes.length):(srcL p m p.offers.length 0 [] 0 ⟨[],0⟩).value=bestS p ⟨m,p.supply,p.opn⟩:=by
 have hg:=good_of hc
 have h2:=pow_n hg.1
 have h8:=hg.1
 have q1:=Bun.ok_iff.1 hg.2.2.1
 have q2:=Bun.ok_iff.1 hg.2.2.2.1
 have z1:Bun.zero.le p.supply=true:=by rw[Bun.le_iff];simp only[Bun.zero];omega
 have z2:Bun.zero.le p.opn=true:=by rw[Bun.le_iff];simp only[Bun.zero];omega
 have hb:bestS p ⟨m,p.supply,p.opn⟩=valL p (memL m) p.supply p.opn:=rfl
 rw[hb]
 have hmem:∀x∈p.offers,bitI m x.bidder=1↔x.bidder∈memL m:=fun x hx=>by
  have:=hg.2.2.2.2 x hx
  exact bitI_one m0 (by omega) this.1 (by omega)
 apply Int.le_antisymm
 ·have hfit:∀t,Ext2 p m 0 p.offers.length [] t→sumI p t≤valL p (memL m) p.supply p.opn:=fun t ht=>by
   by_cases h0:t=[]
   ·subst h0
    exact fit_le hg (L:=[]) ⟨by simp,by simp,z1,z2⟩
   ·have hF:FeasI p t:=by simpa using ht.2.2 h0
    refine fit_le hg ⟨hF.2.1,fun x hx=>?_,hF.2.2.1,hF.2.2.2⟩
    obtain⟨j,hj,hxj,hxo⟩:=incR_mem hF.1 hx
    have hm:=ht.2.1 j hj
    unfold inM at hm
    rw[←hxj] at hm
    exact⟨hxo,(hmem x hxo).1 hm⟩
  rcases @src_hit p m hc p.offers.length 0 [] 0 ⟨[],0⟩ with h|⟨t,h1,h3⟩
  ·rw[h]
   exact hfit [] ⟨⟨by simp,by simp⟩,by simp,fun h=>absurd rfl h⟩
  ·rw[h3,Int.zero_add]
   exact hfit t h1
 ·obtain⟨L,hL,hv⟩:=fit_at hg (mem_nodup m) z1 z2
  rw[←hv]
  obtain⟨t,ht,hperm⟩:=to_idx hc (L:=L) ⟨hL.nd,hL.w,hL.o⟩ (fun x hx=>(hL.mem x hx).1)
  have hs:sumV L=sumI p t:=(perm_V hperm).symm
  rw[hs]
  have:=(@src_ge p m hc p.offers.length 0 [] 0 ⟨[],0⟩).2 t ⟨ht.1,fun j hj=>?_,fun _=>by simpa using ht⟩
  ·omega
  ·have hx:nthD p.offers j.toNat SId.off.dflt∈L:=hperm.mem_iff.1 (List.mem_map.2 ⟨j,hj,rfl⟩)
   have h1:=hL.mem _ hx
   exact(hmem _ h1.1).2 h1.2
theorem howO {i u v:Nat} (h:u=v):(SV.ow i u 1).same (SV.ow i v 1):=by subst h;rfl
theorem valsL {p:Prob}:∀{c l:List Int},(c.foldl (setV p) l).length=l.length
 |[],l=>rfl
 |i::c,l=>by
  rw[List.foldl_cons,valsL]
  unfold setV
  rw[List.length_set]
theorem vals_lenN {p:Prob} {c:List Int}:(valsS p c).length=p.classes.length:=by
 unfold valsS
 rw[valsL,List.length_replicate]
theorem vals_succ {p:Prob} {c:List Int} {i:Nat} (h:i<c.length):valsS p (c.take (i+1))=setV p (valsS p (c.take i)) (nthD c i 0):=by
 rw[take_snoc h]
 unfold valsS
 rw[List.foldl_append]
 rfl
def faultC (p:Prob) (c:List Int):Int:=if feasE p c≠0 then feasE p c else checkE p
def Λ101 (a:Prob×Alloc):Nat→LoopAnn
 |5=> .inv (Int×List Int) (fun x=>⟨[(2,.ptr 0 0 20),(5,.ow 2 x.2.length 1),(18,.row (.i .i64) a.2.chosen),(19,.si .i64 a.2.chosen.length),(20,.si .i64 x.1)],[.cells a.1.ss 27 20 false,.cells [.row (.i .i64) a.2.chosen,.si .i64 a.2.value] 31 2 false,.row (.i .i64) x.2 2 true]⟩) (fun s=>(iS s 20,oS (.i .i64) s 2))
  (fun x=>(0≤x.1∧x.1≤a.2.chosen.length)∧x.2=valsS a.1 (a.2.chosen.take x.1.toNat)) (fun x=>(a.2.chosen.length - x.1).toNat) fun _ _=> .look
 |_=> .look
def r101:SCtr:=⟨101,Prob×Alloc,.cons codP (.one codA),fun a=>a.2.chosen.length≤9223372036854775807,fun a=> .row (.i .i64) (if feasE a.1 a.2.chosen=0 then valsS a.1 a.2.chosen else[])⟩
theorem h101:Holds Try.prog r101:=by
 refine con (L:=[r100]) r101 F101 Λ101 (OwnOK.none _) (by simpa using h100) (by kernel_rfl) (by kernel_rfl) (fun _=>rfl) ?_
 rintro⟨p,⟨c,v⟩⟩ h
 refine vcOf (let z0:=decide (feasE p c≠(0:Int));let z1:=SId.i .i64;let z2:=SV.row z1 (if feasE p c=(0:Int) then valsS p c else[]);let z3:=(↑p.classes.length:Int);let z4:=SV.ptr 0 0 20;let z5:=List.replicate z3.toNat (0:Int);let z6:=(↑c.length:Int);let z7:=SV.si .i64 z6;let z8:=SObj.cells [SV.si .i64 p.supply.a0,SV.si .i64 p.supply.a1,SV.si .i64 p.supply.a2,SV.si .i64 p.supply.a3,SV.si .i64 p.supply.a4,SV.si .i64 p.supply.a5,SV.si .i64 p.opn.a0,SV.si .i64 p.opn.a1,SV.si .i64 p.opn.a2,SV.si .i64 p.opn.a3,SV.si .i64 p.opn.a4,SV.si .i64 p.opn.a5,SV.si .i64 p.cls.a0,SV.si .i64 p.cls.a1,SV.si .i64 p.cls.a2,SV.si .i64 p.cls.a3,SV.si .i64 p.cls.a4,SV.si .i64 p.cls.a5,SV.row z1 p.classes,SV.row SId.off p.offers] 27 20 false;let z9:=SObj.cells [SV.row z1 c,SV.si .i64 v] 31 2 false;let z10:=SObj.row z1 z5 2 true;c.length≤9223372036854775807∧(z0=true→(SV.row z1 []).same z2)∧(z0=false→(0:Int)≤z3∧z3≤z3∧z3*(8:Int)≤(140737488355328:Int)∧z3≤(1000000000000:Int)∧(((z4.same z4∧(SV.ow 2 z3.toNat 1).same (SV.ow 2 z5.length 1)∧(SV.row z1 c).same (SV.row z1 c)∧(SV.si .i64 (↑c.length:Int)).same z7∧(SV.il .i64 0).same (SV.si .i64 0)∧True)∧z8.same z8∧z9.same z9∧z10.same z10∧True)∧((0:Int)≤(0:Int)∧(0:Int)≤z6)∧z5=valsS p [])∧∀(x:Int×List Int),let z11:=nthD c x.fst.toNat (0:Int);let z12:=x.snd.length;let z13:=nthD p.offers z11.toNat SId.off.dflt;let z14:=x.fst+(1:Int);let z15:=x.snd.set z13.bidder.toNat z13.value;let z16:=SV.si .i64 z14;let z17:=SObj.row z1 z15 2 true;((0:Int)≤x.fst∧x.fst≤z6)∧x.snd=valsS p (List.take x.fst.toNat c)→(decide (x.fst<z6)=true→(0:Int)≤x.fst∧x.fst<(↑c.length:Int)∧x.fst.toNat<c.length∧(0:Int)≤z11∧z11<(↑p.offers.length:Int)∧z11.toNat<p.offers.length∧(0:Int)≤z11∧z11<(↑p.offers.length:Int)∧z11.toNat<p.offers.length∧x.snd.length=z12∧(0:Int)≤z13.bidder∧z13.bidder<(↑z12:Int)∧x.snd.length=z12∧z13.bidder.toNat<z12∧inR .i64 z14∧((z4.same z4∧(SV.ow 2 x.snd.length 1).same (SV.ow 2 z15.length 1)∧(SV.row z1 c).same (SV.row z1 c)∧z7.same z7∧z16.same z16∧True)∧z8.same z8∧z9.same z9∧z17.same z17∧True)∧(((0:Int)≤z14∧z14≤z6)∧z15=valsS p (List.take z14.toNat c))∧(z6 - z14).toNat<(z6 - x.fst).toNat)∧(decide (x.fst<z6)=false→x.snd.length=z12∧(SV.row z1 x.snd).same z2))) (by kernel_rfl) ?_
 simp only[vcs]
 have hc1:c.length≤9223372036854775807:=h
 refine⟨hc1,fun hne=>?_,fun hz=>?_⟩
 ·rw[if_neg hne]
 have hz:feasE p c=0:=by simpa using hz
 obtain⟨_,_,hg,hcl,hix⟩:=feas_ok hz
 have h8:=hg.1
 have hN:=hg.2.1
 rw[if_pos hz]
 refine⟨by omega,by omega,by omega,by omega,?_,?_⟩
 ·repeat' refine And.intro ?_ ?_
  all_goals first|omega|exact howO (by simp)|rfl|trivial
 rintro⟨i,out⟩ ⟨⟨i0,i1⟩,ho⟩
 simp only at i0 i1 ho ⊢
 subst ho
 have hl:=@vals_lenN p (c.take i.toNat)
 refine⟨fun hi=>?_,fun hi=>?_⟩
 ·have hj:=hix (nthD c i.toNat 0) (nthD_mem (by omega))
  have hx:=hg.2.2.2.2 _ (nthD_mem (d:=SId.off.dflt) (show(nthD c i.toNat 0).toNat<p.offers.length by omega))
  have hs:=vals_succ (p:=p) (show i.toNat<c.length by omega)
  have e:(i+1).toNat=i.toNat+1:=by omega
  rw[e,hs]
  repeat' refine And.intro ?_ ?_
  all_goals first|omega|exact howO (by simp)|rfl|trivial
 ·have:i.toNat=c.length:=by omega
  rw[this,List.take_length]
  repeat' refine And.intro ?_ ?_
  all_goals first|omega|rfl
def r87:SCtr:=⟨87,Prob×Alloc,.cons codP (.one codA),fun a=>a.2.chosen.length≤9223372036854775807,fun a=> .tup [.row (.i .i64) (if faultC a.1 a.2.chosen=0 then tabS a.1 else[]),.row (.i .i64) (if faultC a.1 a.2.chosen=0 then valsS a.1 a.2.chosen else[]),.si .i64 (faultC a.1 a.2.chosen)]⟩
theorem h87:Holds Try.prog r87:=by
 refine con (L:=[r100,r121,r101]) r87 F87 (fun _ _=> .look) (OwnOK.none _) (by simpa using⟨h100,h121,h101⟩) (by kernel_rfl) (by kernel_rfl) (fun _=>rfl) ?_
 rintro⟨p,⟨c,v⟩⟩ h
 refine vcOf (let z0:=decide (feasE p c≠(0:Int));let z1:=SId.i .i64;let z2:=SV.row z1 [];let z3:=SV.tup [SV.row z1 (if faultC p c=(0:Int) then tabS p else[]),SV.row z1 (if faultC p c=(0:Int) then valsS p c else[]),SV.si .i64 (faultC p c)];let z4:=decide (checkE p≠(0:Int));c.length≤9223372036854775807∧(z0=true→(SV.tup [z2,z2,SV.si .i64 (feasE p c)]).same z3)∧(z0=false→True∧(z4=true→(SV.tup [z2,z2,SV.si .i64 (checkE p)]).same z3)∧(z4=false→c.length≤9223372036854775807∧(SV.tup [SV.row z1 (if checkE p=(0:Int) then tabS p else[]),SV.row z1 (if feasE p c=(0:Int) then valsS p c else[]),SV.il .i64 0]).same z3))) (by kernel_rfl) ?_
 simp only[vcs]
 unfold faultC
 refine⟨h,fun hne=>?_,fun hz=>⟨fun hne=>?_,fun hz2=>?_⟩⟩
 ·simp only[if_pos hne,if_neg hne]
  first|trivial|exact⟨trivial,trivial,trivial⟩|exact⟨rfl,rfl,rfl⟩
 ·have hz:feasE p c=0:=by simpa using hz
  obtain⟨hc,_⟩:=feas_ok hz
  exact absurd hc hne
 ·have hz:feasE p c=0:=by simpa using hz
  have hz2:checkE p=0:=by simpa using hz2
  simp only[hz,hz2,ne_eq,not_true_eq_false,if_false,if_true]
  first|exact h|exact⟨h,trivial⟩|exact⟨h,trivial,trivial⟩|exact⟨h,trivial,trivial,trivial⟩|exact⟨h,rfl,rfl,rfl⟩
def Λ57 (a:Prob×Alloc):Nat→LoopAnn
 |3=> .inv (Int×List Int) (fun x=>⟨[(2,.ptr 0 0 20),(3,.ptr 1 0 2),(5,.ow 2 x.2.length 1),(6,.si .i64 x.1)],[.cells a.1.ss 27 20 false,.cells [.row (.i .i64) a.2.chosen,.si .i64 a.2.value] 31 2 false,.row (.i .i64) x.2 2 true]⟩) (fun s=>(iS s 6,oS (.i .i64) s 2))
  (fun x=>(0≤x.1∧x.1≤a.2.chosen.length)∧x.2=valsS a.1 (a.2.chosen.take x.1.toNat)) (fun x=>(a.2.chosen.length - x.1).toNat) fun _ _=> .look
 |_=> .look
def r57:SCtr:=⟨57,Prob×Alloc,.cons codP (.one codA),fun a=>feasE a.1 a.2.chosen=0,fun a=> .row (.i .i64) (valsS a.1 a.2.chosen)⟩
theorem h57:Holds Try.prog r57:=by
 refine con (L:=[]) r57 F57 Λ57 (OwnOK.none _) (by simp) (by kernel_rfl) (by kernel_rfl) (fun _=>rfl) ?_
 rintro⟨p,⟨c,v⟩⟩ h
 refine vcOf (let z0:=(↑p.classes.length:Int);let z1:=SV.ptr 0 0 20;let z2:=SV.ptr 1 0 2;let z3:=List.replicate z0.toNat (0:Int);let z4:=SId.i .i64;let z5:=SObj.cells [SV.si .i64 p.supply.a0,SV.si .i64 p.supply.a1,SV.si .i64 p.supply.a2,SV.si .i64 p.supply.a3,SV.si .i64 p.supply.a4,SV.si .i64 p.supply.a5,SV.si .i64 p.opn.a0,SV.si .i64 p.opn.a1,SV.si .i64 p.opn.a2,SV.si .i64 p.opn.a3,SV.si .i64 p.opn.a4,SV.si .i64 p.opn.a5,SV.si .i64 p.cls.a0,SV.si .i64 p.cls.a1,SV.si .i64 p.cls.a2,SV.si .i64 p.cls.a3,SV.si .i64 p.cls.a4,SV.si .i64 p.cls.a5,SV.row z4 p.classes,SV.row SId.off p.offers] 27 20 false;let z6:=SObj.cells [SV.row z4 c,SV.si .i64 v] 31 2 false;let z7:=SObj.row z4 z3 2 true;let z8:=(↑c.length:Int);(0:Int)≤z0∧z0≤z0∧z0*(8:Int)≤(140737488355328:Int)∧z0≤(1000000000000:Int)∧(((z1.same z1∧z2.same z2∧(SV.ow 2 z0.toNat 1).same (SV.ow 2 z3.length 1)∧(SV.il .i64 0).same (SV.si .i64 0)∧True)∧z5.same z5∧z6.same z6∧z7.same z7∧True)∧((0:Int)≤(0:Int)∧(0:Int)≤z8)∧z3=valsS p [])∧∀(x:Int×List Int),let z9:=decide (x.fst<(↑c.length:Int));let z10:=nthD c x.fst.toNat (0:Int);let z11:=x.snd.length;let z12:=nthD p.offers z10.toNat SId.off.dflt;let z13:=x.fst+(1:Int);let z14:=x.snd.set z12.bidder.toNat z12.value;let z15:=SV.si .i64 z13;let z16:=SObj.row z4 z14 2 true;((0:Int)≤x.fst∧x.fst≤z8)∧x.snd=valsS p (List.take x.fst.toNat c)→(z9=true→(0:Int)≤x.fst∧x.fst<(↑c.length:Int)∧x.fst.toNat<c.length∧(0:Int)≤z10∧z10<(↑p.offers.length:Int)∧z10.toNat<p.offers.length∧x.snd.length=z11∧(0:Int)≤z12.bidder∧z12.bidder<(↑z11:Int)∧x.snd.length=z11∧z12.bidder.toNat<z11∧inR .i64 z13∧((z1.same z1∧z2.same z2∧(SV.ow 2 x.snd.length 1).same (SV.ow 2 z14.length 1)∧z15.same z15∧True)∧z5.same z5∧z6.same z6∧z16.same z16∧True)∧(((0:Int)≤z13∧z13≤z8)∧z14=valsS p (List.take z13.toNat c))∧(z8 - z13).toNat<(z8 - x.fst).toNat)∧(z9=false→x.snd.length=z11∧(SV.row z4 x.snd).same (SV.row z4 (valsS p c)))) (by kernel_rfl) ?_
 simp only[vcs]
 have hz:feasE p c=0:=h
 obtain⟨_,_,hg,hcl,hix⟩:=feas_ok hz
 have h8:=hg.1
 have hN:=hg.2.1
 refine⟨by omega,by omega,by omega,by omega,?_,?_⟩
 ·repeat' refine And.intro ?_ ?_
  all_goals first|omega|exact howO (by simp)|rfl|trivial
 rintro⟨i,out⟩ ⟨⟨i0,i1⟩,ho⟩
 simp only at i0 i1 ho ⊢
 subst ho
 have hl:=@vals_lenN p (c.take i.toNat)
 refine⟨fun hi=>?_,fun hi=>?_⟩
 ·have hj:=hix (nthD c i.toNat 0) (nthD_mem (by omega))
  have hx:=hg.2.2.2.2 _ (nthD_mem (d:=SId.off.dflt) (show(nthD c i.toNat 0).toNat<p.offers.length by omega))
  have hs:=vals_succ (p:=p) (show i.toNat<c.length by omega)
  have e:(i+1).toNat=i.toNat+1:=by omega
  rw[e,hs]
  repeat' refine And.intro ?_ ?_
  all_goals first|omega|exact howO (by simp)|rfl|trivial
 ·have:i.toNat=c.length:=by omega
  rw[this,List.take_length]
  repeat' refine And.intro ?_ ?_
  all_goals first|omega|rfl
theorem and_one {p:Int} (p0:0≤p) (p1:p<9223372036854775808):binK.andI .i64 p 1=p % 2:=by
 obtain⟨m,rfl⟩:=Int.eq_ofNat_of_zero_le p0
 have h1:(BitVec.ofInt 64 ((m:Nat):Int)).toNat=m:=by rw[BitVec.toNat_ofInt];omega
 have h2:(BitVec.ofInt 64 1).toNat=1:=by rw[BitVec.toNat_ofInt];rfl
 have h3:(BitVec.ofInt 64 ((m:Nat):Int) &&&BitVec.ofInt 64 1).toNat=m % 2:=by
  rw[BitVec.toNat_and,h1,h2]
  exact Nat.and_two_pow_sub_one_eq_mod m 1
 show wrapI .i64 ((BitVec.ofInt 64 ((m:Nat):Int) &&&BitVec.ofInt 64 1).toNat:Nat)=_
 rw[h3,wrapI_eq]
 simp only[IntKind.wrap,IntKind.bits,IntKind.signed]
 simp
 omega
def hasI (m b:Int):Bool:=decide (m / 2^b.toNat % 2=1)
theorem half_nn {m:Int} {i:Nat} (h:0≤m):0≤m / 2^i∧m / 2^i≤m:=by
 refine⟨Int.ediv_nonneg h (Int.pow_nonneg (by omega)),Int.ediv_le_self _ h⟩
def payU (vals:List Int) (m:Int) (n:Nat):Int:=(List.range n).foldl (fun(s:Int) (j:Nat)=>if 0<nthD vals j 0∧hasI m j=false then s+2^j else s) 0
def leastU (vals:List Int) (m w:Int) (n:Nat):Int:=(List.range n).foldl (fun(s:Int) (j:Nat)=>if hasI m j=true then s - nthD vals j 0 else s) w
theorem payU_succ {vals:List Int} {m:Int} {n:Nat}:payU vals m (n+1)=if 0<nthD vals n 0∧hasI m n=false then payU vals m n+2^n else payU vals m n:=by
 unfold payU
 rw[List.range_succ,List.foldl_append]
 rfl
theorem leastU_succ {vals:List Int} {m w:Int} {n:Nat}:leastU vals m w (n+1)=if hasI m n=true then leastU vals m w n - nthD vals n 0 else leastU vals m w n:=by
 unfold leastU
 rw[List.range_succ,List.foldl_append]
 rfl
theorem payU_bd {vals:List Int} {m:Int}:∀{n:Nat},0≤payU vals m n∧payU vals m n<2^n
 |0=>by simp[payU]
 |n+1=>by
  have:=@payU_bd vals m n
  rw[payU_succ,Int.pow_succ]
  split<;>omega
theorem pow8 {n:Nat} (h:n≤8):(2:Int)^n≤256∧1≤(2:Int)^n:=by
 have:n=0∨n=1∨n=2∨n=3∨n=4∨n=5∨n=6∨n=7∨n=8:=by omega
 rcases this with rfl|rfl|rfl|rfl|rfl|rfl|rfl|rfl|rfl<;>decide
theorem leastU_bd {vals:List Int} {m w:Int} (h:∀v∈vals,0≤v∧v≤1000000000000000):∀{n:Nat},n≤vals.length→w - 1000000000000000*n≤leastU vals m w n∧leastU vals m w n≤w
 |0,_=>by simp[leastU]
 |n+1,hn=>by
  have:=@leastU_bd vals m w h n (by omega)
  have hv:=h _ (nthD_mem (d:=0) (show n<vals.length by omega))
  rw[leastU_succ]
  split<;>omega
theorem setV_mem {p:Prob} {l:List Int} {i v:Int} (h:v∈setV p l i):v∈l∨v=(nthD p.offers i.toNat SId.off.dflt).value:=by
 unfold setV at h
 rcases List.mem_or_eq_of_mem_set h with h|h
 ·exact .inl h
 ·exact .inr h
theorem vals_ok {p:Prob} (hg:Good p):∀{c:List Int} {l:List Int},(∀i∈c,0≤i∧i<p.offers.length)→(∀v∈l,0≤v∧v≤1000000000000000)→∀v∈c.foldl (setV p) l,0≤v∧v≤1000000000000000
 |[],l,_,hl,v,hv=>hl v hv
 |i::c,l,hc,hl,v,hv=>by
  refine vals_ok hg (c:=c) (l:=setV p l i) (fun j hj=>hc j (List.mem_cons_of_mem _ hj)) (fun u hu=>?_) v hv
  rcases setV_mem hu with h|h
  ·exact hl u h
  ·have hi:=hc i (by simp)
   have:=hg.2.2.2.2 _ (nthD_mem (d:=SId.off.dflt) (show i.toNat<p.offers.length by omega))
   omega
theorem vals_good {p:Prob} {c:List Int} (h:feasE p c=0):(valsS p c).length=p.classes.length∧p.classes.length≤8∧∀v∈valsS p c,0≤v∧v≤1000000000000000:=by
 obtain⟨_,_,hg,hcl,hix⟩:=feas_ok h
 refine⟨vals_lenN,hg.1,?_⟩
 unfold valsS
 exact vals_ok hg hix fun v hv=>by
  have:=(List.mem_replicate.1 hv).2
  omega
def r88:OCtr where
 f:=88
 α:=List Int×List Int
 put a:=[.row (.i .i64) a.1,.row (.i .i64) a.2]
 st _:=[]
 dec v o:=match v,o with
  |[a,b],[]=>match decRow (.i .i64) a,decRow (.i .i64) b with
   |some a,some b=>some (a,b)
   |_,_=>none
  |_,_=>none
 ok v o a h:=by
  match v,o,h with
  |[x,y],[],h=>
   simp only at h
   split at h
   ·rename_i h1 h2
    simp only[Option.some.injEq] at h;subst h
    simp only[gL,decRow_ok h1,decRow_ok h2,and_self]
   ·cases h
 inj a b h _:=by
  simp only[gL,List.cons.injEq,and_true] at h
  exact Prod.ext ((codR (.i .i64)).inj _ _ h.1) ((codR (.i .i64)).inj _ _ h.2)
 dom _:=True
 res _:=.fn (.func 122) [] [.ptr 0 0 1,.ptr 1 0 1]
 out a:=[.cells [.row (.i .i64) a.1] 32 1 false,.cells [.row (.i .i64) a.2] 32 1 false]
theorem h88:HoldsO Try.prog r88:=by
 refine conN (L:=[]) (W:=[]) r88 F88 (fun _=>none) (fun _ _=> .look) (by simp) (by simp) (by kernel_rfl) (fun _=>rfl) (fun _=>rfl) (by kernel_rfl) ?_
 rintro⟨a,b⟩ -
 refine vcOf (let z0:=SV.fn (Fn.func 122) [] [SV.ptr 0 0 1,SV.ptr 1 0 1];let z1:=SObj.cells [SV.row (SId.i .i64) a] 32 1 false;let z2:=SObj.cells [SV.row (SId.i .i64) b] 32 1 false;z0.same z0∧z1.same z1∧z2.same z2∧True) (by kernel_rfl) ?_
 simp only[vcs]
 repeat' refine And.intro ?_ ?_
 all_goals rfl
def pU (V:List Int) (m:Int):Int:=payU V m V.length
def lU (V:List Int) (m w:Int):Int:=leastU V m w V.length
def lstU (V T:List Int) (pay:Int) (k:Nat):Int:=(List.range k).foldl (fun(s:Int) (m:Nat)=>if pU V m=pay then max s (lU V m (nthD T m 0)) else s) 0
theorem lstU_succ {V T:List Int} {pay:Int} {k:Nat}:lstU V T pay (k+1)=if pU V k=pay then max (lstU V T pay k) (lU V k (nthD T k 0)) else lstU V T pay k:=by
 unfold lstU
 rw[List.range_succ,List.foldl_append]
 rfl
def bestU (V T:List Int) (k:Nat):List Int:=(List.range T.length).map fun(q:Nat)=>lstU V T q k
def needU (V T:List Int) (n:Nat):List Need:=(List.range n).filterMap fun(q:Nat)=>if 0<lstU V T q T.length then some ⟨(q:Int),lstU V T q T.length⟩ else none
theorem bestU_len {V T:List Int} {k:Nat}:(bestU V T k).length=T.length:=by simp[bestU]
theorem bestU_get {V T:List Int} {k q:Nat} (h:q<T.length):nthD (bestU V T k) q 0=lstU V T q k:=by
 unfold bestU nthD
 simp[h]
theorem bestU_succ {V T:List Int} {k:Nat} (h0:0≤pU V k) (h1:pU V k<T.length):(bestU V T k).set (pU V k).toNat (max (nthD (bestU V T k) (pU V k).toNat 0) (lU V k (nthD T k 0)))=bestU V T (k+1):=by
 rw[bestU_get (by omega)]
 apply List.ext_getElem
 ·simp[bestU]
 ·intro i h2 h3
  rw[List.getElem_set]
  simp only[bestU,List.getElem_map,List.getElem_range,lstU_succ]
  simp only[bestU,List.length_map,List.length_range] at h3
  by_cases he:(pU V k).toNat=i
  ·subst he
   rw[if_pos rfl,if_pos (by omega),show(((pU V k).toNat:Nat):Int)=pU V k by omega]
  ·rw[if_neg he,if_neg (by omega)]
theorem needU_succ {V T:List Int} {n:Nat}:needU V T (n+1)=if 0<lstU V T n T.length then needU V T n++[⟨(n:Int),lstU V T n T.length⟩] else needU V T n:=by
 unfold needU
 rw[List.range_succ,List.filterMap_append]
 simp only[List.filterMap_cons,List.filterMap_nil]
 by_cases h:0<lstU V T n T.length
 ·simp[h]
 ·simp[h]
theorem or_pow {x:Int} {i:Nat} (x0:0≤x) (x1:x<2^i) (hi:i≤8):binK.orI .i64 x (1*2^i)=x+2^i:=by
 obtain⟨m,rfl⟩:=Int.eq_ofNat_of_zero_le x0
 have hp:=pow8 hi
 have hpn:((2^i:Nat):Int)=2^i:=by push_cast;rfl
 have h1:(BitVec.ofInt 64 ((m:Nat):Int)).toNat=m:=by rw[BitVec.toNat_ofInt];omega
 have h2:(BitVec.ofInt 64 (1*2^i)).toNat=2^i*1:=by rw[BitVec.toNat_ofInt];omega
 have h3:(BitVec.ofInt 64 ((m:Nat):Int) |||BitVec.ofInt 64 (1*2^i)).toNat=2^i+m:=by
  rw[BitVec.toNat_or,h1,h2,Nat.or_comm,←Nat.two_pow_add_eq_or_of_lt (by omega)]
  omega
 show wrapI .i64 ((BitVec.ofInt 64 ((m:Nat):Int) |||BitVec.ofInt 64 (1*2^i)).toNat:Nat)=_
 rw[h3,wrapI_eq]
 simp only[IntKind.wrap,IntKind.bits,IntKind.signed]
 simp
 omega
def tabA (a:Prob×Alloc):List Int:=if faultC a.1 a.2.chosen=0 then tabS a.1 else[]
def valA' (a:Prob×Alloc):List Int:=if faultC a.1 a.2.chosen=0 then valsS a.1 a.2.chosen else[]
def st40 (a:Prob×Alloc) (b:List Int):SStore:=[.cells a.1.ss 27 20 false,.cells [.row (.i .i64) a.2.chosen,.si .i64 a.2.value] 31 2 false,.row (.i .i64) b 2 true,.cells [.ow 2 b.length 1] 32 1 false,
 .cells [.row (.i .i64) (if faultC a.1 a.2.chosen=0 then tabS a.1 else[])] 32 1 false,.cells [.row (.i .i64) (if faultC a.1 a.2.chosen=0 then valsS a.1 a.2.chosen else[])] 32 1 false]
theorem cowE {i u v e:Nat} (h:u=v):(SObj.cells [.ow i u 1] e 1 false).same (SObj.cells [.ow i v 1] e 1 false):=by subst h;rfl
theorem faultC_zero {p:Prob} {c:List Int} (h:faultC p c=0):feasE p c=0∧checkE p=0:=by
 unfold faultC at h
 split at h
 ·rename_i h1;exact absurd h h1
 ·rename_i h1
  exact⟨by simpa using h1,h⟩
theorem tabS_ok {p:Prob} (hg:Good p):((tabS p).length:Int)=2^p.classes.length∧∀m:Nat,0≤nthD (tabS p) m 0∧nthD (tabS p) m 0≤8000000:=by
 refine⟨by unfold tabS tabP;rw[List.length_map,List.length_range];push_cast;rfl,fun m=>?_⟩
 unfold tabS tabP nthD
 by_cases h:m<2^p.classes.length
 ·simp only[List.getElem?_map,List.getElem?_range h,Option.map_some,Option.getD_some]
  exact bestS_bd hg _
 ·rw[List.getElem?_eq_none (by simp;omega)]
  simp
def Λ40 (a:Prob×Alloc):Nat→LoopAnn
 |1001=> .inv (Int×List Int) (fun x=>⟨[(0,.fn (.yield 0) [] []),(2,.ptr 5 0 1),(9,.row (.i .i64) (if faultC a.1 a.2.chosen=0 then tabS a.1 else[])),(10,.si .i64 (if faultC a.1 a.2.chosen=0 then tabS a.1 else[]).length),(11,.si .i64 x.1)],st40 a x.2⟩)
   (fun s=>(iS s 11,oS (.i .i64) s 2)) (fun x=>(0≤x.1∧x.1≤(tabA a).length)∧x.2=bestU (valA' a) (tabA a) x.1.toNat) (fun x=>((tabA a).length - x.1).toNat) fun x k=>match k with
    |5=> .inv (Int×Int×Int) (fun y=>⟨[(0,.fn (.yield 0) [] []),(2,.ptr 5 0 1),(4,.si .i64 x.1),(6,.ptr 6 0 4),(9,.row (.i .i64) (if faultC a.1 a.2.chosen=0 then tabS a.1 else[])),(10,.si .i64 (if faultC a.1 a.2.chosen=0 then tabS a.1 else[]).length),(11,.si .i64 x.1),
      (22,.row (.i .i64) (if faultC a.1 a.2.chosen=0 then valsS a.1 a.2.chosen else[])),(23,.si .i64 (if faultC a.1 a.2.chosen=0 then valsS a.1 a.2.chosen else[]).length),(24,.si .i64 y.1)],
      st40 a x.2++[.cells [.si .i64 x.1,.si .i64 (nthD (if faultC a.1 a.2.chosen=0 then tabS a.1 else[]) x.1.toNat 0),.si .i64 y.2.1,.si .i64 y.2.2] 120 4 false]⟩)
      (fun s=>(iS s 24,cS (.i .i64) s 6 2,cS (.i .i64) s 6 3)) (fun y=>(0≤y.1∧y.1≤(valA' a).length)∧y.2.1=payU (valA' a) x.1 y.1.toNat∧y.2.2=leastU (valA' a) x.1 (nthD (tabA a) x.1.toNat 0) y.1.toNat) (fun y=>((valA' a).length - y.1).toNat) fun _ _=> .look
    |_=> .look
 |10=> .inv (Int×List Int×List Need) (fun x=>⟨[(11,.ow 6 x.2.2.length 2),(46,.ow 2 x.2.1.length 1),(47,.si .i64 x.2.1.length),(48,.si .i64 x.1)],st40 a x.2.1++[.row .need x.2.2 83 true]⟩)
   (fun s=>(iS s 48,oS (.i .i64) s 2,oS .need s 6)) (fun x=>(0≤x.1∧x.1≤(tabA a).length)∧x.2.1=bestU (valA' a) (tabA a) (tabA a).length∧x.2.2=needU (valA' a) (tabA a) x.1.toNat) (fun x=>((tabA a).length - x.1).toNat) fun _ _=> .look
 |_=> .look
def needS (p:Prob) (c:List Int):List Need:=needU (valsS p c) (tabS p) (tabS p).length
def r40:SCtr:=⟨40,Prob×Alloc,.cons codP (.one codA),fun a=>a.2.chosen.length≤9223372036854775807,fun a=> .tup [.row .need (if faultC a.1 a.2.chosen=0 then needS a.1 a.2.chosen else[]),.si .i64 (faultC a.1 a.2.chosen)]⟩
theorem h40:Holds Try.prog r40:=by
 refine con (L:=[r87]) (W:=ownT [r88]) r40 F40 Λ40 (ownT_ok (by simpa using h88)) (by simpa using h87) (by kernel_rfl) (by kernel_rfl) (fun _=>rfl) ?_
 rintro⟨p,⟨c,v⟩⟩ h
 refine vcOf (let z0:=decide (faultC p c≠(0:Int));let z1:=SId.i .i64;let z2:=[SV.si .i64 (faultC p c)];let z3:=SV.tup (SV.row SId.need (if faultC p c=(0:Int) then needS p c else[])::z2);let z4:=if faultC p c=(0:Int) then tabS p else[];let z5:=(↑z4.length:Int);let z6:=SV.fn (Fn.yield 0) [] [];let z7:=SV.ptr 5 0 1;let z8:=SV.row z1 z4;let z9:=if faultC p c=(0:Int) then tabS p else[];let z10:=SV.si .i64 (↑z9.length:Int);let z11:=SV.il .i64 0;let z12:=SV.si .i64 0;let z13:=SObj.cells [SV.si .i64 p.supply.a0,SV.si .i64 p.supply.a1,SV.si .i64 p.supply.a2,SV.si .i64 p.supply.a3,SV.si .i64 p.supply.a4,SV.si .i64 p.supply.a5,SV.si .i64 p.opn.a0,SV.si .i64 p.opn.a1,SV.si .i64 p.opn.a2,SV.si .i64 p.opn.a3,SV.si .i64 p.opn.a4,SV.si .i64 p.opn.a5,SV.si .i64 p.cls.a0,SV.si .i64 p.cls.a1,SV.si .i64 p.cls.a2,SV.si .i64 p.cls.a3,SV.si .i64 p.cls.a4,SV.si .i64 p.cls.a5,SV.row z1 p.classes,SV.row SId.off p.offers] 27 20 false;let z14:=SObj.cells [SV.row z1 c,SV.si .i64 v] 31 2 false;let z15:=List.replicate z5.toNat (0:Int);let z16:=SObj.row z1 z15 2 true;let z17:=SObj.cells [z8] 32 1 false;let z18:=if faultC p c=(0:Int) then valsS p c else[];let z19:=SV.row z1 z18;let z20:=SObj.cells [z19] 32 1 false;let z21:=tabA (p,Alloc.mk c v);let z22:=(↑z21.length:Int);let z23:=valA' (p,Alloc.mk c v);let z24:=SV.ptr 6 0 4;let z25:=(↑(if faultC p c=(0:Int) then valsS p c else[]).length:Int);let z26:=SV.si .i64 z25;let z27:=(↑z23.length:Int);let z28:=SV.ow 6 0 2;let z29:=SObj.row SId.need [] 83 true;let z30:=bestU z23 z21 z21.length;c.length≤9223372036854775807∧(z0=true→(SV.tup (SV.row z1 []::z2)).same z3)∧(z0=false→(0:Int)≤z5∧z5≤z5∧z5*(8:Int)≤(140737488355328:Int)∧z5≤(1000000000000:Int)∧True∧(((z6.same z6∧z7.same z7∧z8.same z8∧(SV.si .i64 z5).same z10∧z11.same z12∧True)∧z13.same z13∧z14.same z14∧z16.same z16∧(SObj.cells [SV.ow 2 z5.toNat 1] 32 1 false).same (SObj.cells [SV.ow 2 z15.length 1] 32 1 false)∧z17.same z17∧z20.same z20∧True)∧((0:Int)≤(0:Int)∧(0:Int)≤z22)∧z15=bestU z23 z21 0)∧∀(x:Int×List Int),let z31:=x.fst.toNat;let z32:=decide (x.fst<(↑z9.length:Int));let z33:=SV.si .i64 x.fst;let z34:=SObj.row z1 x.snd 2 true;let z35:=x.snd.length;let z36:=SV.ow 2 z35 1;let z37:=SObj.cells [z36] 32 1 false;let z38:=nthD z4 z31 (0:Int);let z39:=SV.si .i64 z38;let z40:=SV.si .i64 (nthD z9 z31 (0:Int));let z41:=nthD z21 z31 (0:Int);let z42:=x.snd.length;let z43:=x.fst+(1:Int);let z44:=SV.si .i64 z43;let z45:=SV.si .i64 (↑z35:Int);((0:Int)≤x.fst∧x.fst≤z22)∧x.snd=bestU z23 z21 z31→(z32=true→(0:Int)≤x.fst∧x.fst<z5∧z31<z4.length∧(((z6.same z6∧z7.same z7∧z33.same z33∧z24.same z24∧z8.same z8∧z10.same z10∧z33.same z33∧z19.same z19∧(SV.si .i64 (↑z18.length:Int)).same z26∧z11.same z12∧True)∧z13.same z13∧z14.same z14∧z34.same z34∧z37.same z37∧z17.same z17∧z20.same z20∧(SObj.cells [z33,z39,z11,z39] 120 4 false).same (SObj.cells [z33,z40,z12,z39] 120 4 false)∧True)∧((0:Int)≤(0:Int)∧(0:Int)≤z27)∧(0:Int)=payU z23 x.fst 0∧z38=leastU z23 x.fst z41 0)∧∀(x_1:Int×Int×Int),let z46:=x_1.fst.toNat;let z47:=decide (x_1.fst<z25);let z48:=decide (binK.andI .i64 (x.fst / (2:Int)^z46) (1:Int)=(1:Int));let z49:=nthD z18 z46 (0:Int);let z50:=x_1.snd.snd - z49;let z51:=x_1.fst+(1:Int);let z52:=SV.si .i64 z51;let z53:=SV.si .i64 x_1.snd.fst;let z54:=SObj.cells [z33,z40,z53,SV.si .i64 z50] 120 4 false;let z55:=payU z23 x.fst z51.toNat;let z56:=leastU z23 x.fst z41 z51.toNat;let z57:=decide ((0:Int)<z49);let z58:=(1:Int)*(2:Int)^z46;let z59:=binK.orI .i64 x_1.snd.fst z58;let z60:=[SV.si .i64 x_1.snd.snd];let z61:=SObj.cells (z33::z40::SV.si .i64 z59::z60) 120 4 false;let z62:=SObj.cells (z33::z40::z53::z60) 120 4 false;let z63:=x_1.snd.fst.toNat;let z64:=x.snd.set z63 (max (nthD x.snd z63 (0:Int)) x_1.snd.snd);let z65:=SObj.row z1 z64 2 true;((0:Int)≤x_1.fst∧x_1.fst≤z27)∧x_1.snd.fst=payU z23 x.fst z46∧x_1.snd.snd=leastU z23 x.fst z41 z46→(z47=true→(0:Int)≤x_1.fst∧x_1.fst<(↑z18.length:Int)∧z46<z18.length∧(0:Int)≤x_1.fst∧x_1.fst≤(64:Int)∧(z48=true→inR .i64 z50∧inR .i64 z51∧((z6.same z6∧z7.same z7∧z33.same z33∧z24.same z24∧z8.same z8∧z10.same z10∧z33.same z33∧z19.same z19∧z26.same z26∧z52.same z52∧True)∧z13.same z13∧z14.same z14∧z34.same z34∧z37.same z37∧z17.same z17∧z20.same z20∧z54.same z54∧True)∧(((0:Int)≤z51∧z51≤z27)∧x_1.snd.fst=z55∧z50=z56)∧(z27 - z51).toNat<(z27 - x_1.fst).toNat)∧(z48=false→(z57=true→(0:Int)≤x_1.fst∧x_1.fst≤(64:Int)∧inR .i64 z58∧inR .i64 z51∧((z6.same z6∧z7.same z7∧z33.same z33∧z24.same z24∧z8.same z8∧z10.same z10∧z33.same z33∧z19.same z19∧z26.same z26∧z52.same z52∧True)∧z13.same z13∧z14.same z14∧z34.same z34∧z37.same z37∧z17.same z17∧z20.same z20∧z61.same z61∧True)∧(((0:Int)≤z51∧z51≤z27)∧z59=z55∧x_1.snd.snd=z56)∧(z27 - z51).toNat<(z27 - x_1.fst).toNat)∧(z57=false→inR .i64 z51∧((z6.same z6∧z7.same z7∧z33.same z33∧z24.same z24∧z8.same z8∧z10.same z10∧z33.same z33∧z19.same z19∧z26.same z26∧z52.same z52∧True)∧z13.same z13∧z14.same z14∧z34.same z34∧z37.same z37∧z17.same z17∧z20.same z20∧z62.same z62∧True)∧(((0:Int)≤z51∧z51≤z27)∧x_1.snd.fst=z55∧x_1.snd.snd=z56)∧(z27 - z51).toNat<(z27 - x_1.fst).toNat)))∧(z47=false→z35=z42∧(0:Int)≤x_1.snd.fst∧x_1.snd.fst<(↑z42:Int)∧z35=z42∧z63<z42∧z35=z42∧(0:Int)≤x_1.snd.fst∧x_1.snd.fst<(↑z42:Int)∧z35=z42∧z63<z42∧inR .i64 z43∧((z6.same z6∧z7.same z7∧z8.same z8∧z10.same z10∧z44.same z44∧True)∧z13.same z13∧z14.same z14∧z65.same z65∧z37.same (SObj.cells [SV.ow 2 z64.length 1] 32 1 false)∧z17.same z17∧z20.same z20∧True)∧(((0:Int)≤z43∧z43≤z22)∧z64=bestU z23 z21 z43.toNat)∧(z22 - z43).toNat<(z22 - x.fst).toNat))∧(z32=false→(((z28.same z28∧z36.same z36∧z45.same z45∧z11.same z12∧True)∧z13.same z13∧z14.same z14∧z34.same z34∧z37.same z37∧z17.same z17∧z20.same z20∧z29.same z29∧True)∧((0:Int)≤(0:Int)∧(0:Int)≤z22)∧x.snd=z30∧[]=needU z23 z21 0)∧∀(x:Int×List Int×List Need),let z66:=x.snd.fst.length;let z67:=decide (x.fst<(↑z66:Int));let z68:=x.snd.fst.length;let z69:=nthD x.snd.fst x.fst.toNat (0:Int);let z70:=decide ((0:Int)<z69);let z71:=x.snd.snd.length+1;let z72:=x.fst+(1:Int);let z73:=x.snd.snd++[Need.mk x.fst z69];let z74:=SV.ow 2 z66 1;let z75:=SV.si .i64 (↑z66:Int);let z76:=SV.si .i64 z72;let z77:=SObj.row z1 x.snd.fst 2 true;let z78:=SObj.cells [z74] 32 1 false;let z79:=SObj.row SId.need z73 83 true;let z80:=needU z23 z21 z72.toNat;let z81:=SV.ow 6 x.snd.snd.length 2;let z82:=SObj.row SId.need x.snd.snd 83 true;((0:Int)≤x.fst∧x.fst≤z22)∧x.snd.fst=z30∧x.snd.snd=needU z23 z21 x.fst.toNat→(z67=true→z66=z68∧(0:Int)≤x.fst∧x.fst<(↑z68:Int)∧z66=z68∧x.fst.toNat<z68∧(z70=true→x.snd.snd.length=x.snd.snd.length∧z71*16≤140737488355328∧z71≤1000000000000∧inR .i64 z72∧(((SV.ow 6 z73.length 2).same (SV.ow 6 z73.length 2)∧z74.same z74∧z75.same z75∧z76.same z76∧True)∧z13.same z13∧z14.same z14∧z77.same z77∧z78.same z78∧z17.same z17∧z20.same z20∧z79.same z79∧True)∧(((0:Int)≤z72∧z72≤z22)∧x.snd.fst=z30∧z73=z80)∧(z22 - z72).toNat<(z22 - x.fst).toNat)∧(z70=false→inR .i64 z72∧((z81.same z81∧z74.same z74∧z75.same z75∧z76.same z76∧True)∧z13.same z13∧z14.same z14∧z77.same z77∧z78.same z78∧z17.same z17∧z20.same z20∧z82.same z82∧True)∧(((0:Int)≤z72∧z72≤z22)∧x.snd.fst=z30∧x.snd.snd=z80)∧(z22 - z72).toNat<(z22 - x.fst).toNat))∧(z67=false→x.snd.snd.length=x.snd.snd.length∧(SV.tup [SV.row SId.need x.snd.snd,z11]).same z3)))) (by kernel_rfl) ?_
 simp only[vcs]
 refine⟨h,fun hne=>?_,fun hz=>?_⟩
 ·rw[if_neg hne]
  rfl
 have hz:faultC p c=0:=by simpa using hz
 obtain⟨hf,hc⟩:=faultC_zero hz
 have hg:=good_of hc
 obtain⟨hV,h8,hv⟩:=vals_good hf
 obtain⟨hT,ht⟩:=tabS_ok hg
 have hp8:=pow8 h8
 simp only[tabA,valA',hz,if_true,needS]
 generalize tabS p=T at*
 generalize valsS p c=V at*
 have b0:(List.replicate ((T.length:Nat):Int).toNat (0:Int))=bestU V T 0:=by
  apply List.ext_getElem
  ·simp[bestU]
  ·intro i h1 h2
   simp[bestU,lstU]
 refine⟨by omega,by omega,by omega,by omega,?_,?_⟩
 ·repeat' refine And.intro ?_ ?_
  all_goals first|omega|rfl|exact howO (by simp)|exact cowE (by simp)|exact b0
 rintro⟨m,b⟩ ⟨⟨m0,m1⟩,hb⟩
 simp only at m0 m1 hb ⊢
 subst hb
 have hw:=ht m.toNat
 have em:((m.toNat:Nat):Int)=m:=by omega
 have em1:(m+1).toNat=m.toNat+1:=by omega
 refine⟨fun hm=>⟨by omega,by omega,by omega,?_,?_⟩,fun hm=>?_⟩
 ·repeat' refine And.intro ?_ ?_
  all_goals first|omega|rfl
 ·rintro⟨i,q,l⟩ ⟨⟨i0,i1⟩,hq,hl⟩
  simp only at i0 i1 hq hl ⊢
  subst hq
  subst hl
  have e:(i+1).toNat=i.toNat+1:=by omega
  have ei:((i.toNat:Nat):Int)=i:=by omega
  have hsp:=@payU_succ V m i.toNat
  have hsl:=@leastU_succ V m (nthD T m.toNat 0) i.toNat
  rw[ei] at hsp hsl
  have hb:=@payU_bd V m i.toNat
  have hl:=@leastU_bd V m (nthD T m.toNat 0) hv i.toNat (by omega)
  obtain⟨n0,n1⟩:=half_nn (i:=i.toNat) m0
  have ha:binK.andI .i64 (m / 2^i.toNat) 1=m / 2^i.toNat % 2:=and_one n0 (by omega)
  have hI:hasI m i=decide (m / 2^i.toNat % 2=1):=rfl
  rw[ha]
  refine⟨fun hi=>?_,fun hi=>?_⟩
  ·have hx:=hv _ (nthD_mem (d:=0) (show i.toNat<V.length by omega))
   have hp:=pow8 (n:=i.toNat) (by omega)
   rw[e,hsp,hsl,hI]
   refine⟨by omega,by omega,by omega,by omega,by omega,fun h1=>?_,fun h1=>⟨fun h2=>?_,fun h2=>?_⟩⟩
   ·have h1':decide (m / 2^i.toNat % 2=1)=true:=by simpa using h1
    rw[if_neg (fun h=>by rw[h1'] at h;exact absurd h.2 (by decide)),if_pos h1']
    repeat' refine And.intro ?_ ?_
    all_goals first|omega|rfl
   ·have h1':decide (m / 2^i.toNat % 2=1)=false:=by simpa using h1
    have ho:=or_pow hb.1 hb.2 (show i.toNat≤8 by omega)
    rw[ho,if_pos ⟨h2,h1'⟩,if_neg (fun h=>by rw[h1'] at h;exact absurd h (by decide))]
    repeat' refine And.intro ?_ ?_
    all_goals first|omega|rfl
   ·have h1':decide (m / 2^i.toNat % 2=1)=false:=by simpa using h1
    rw[if_neg (fun h=>h2 h.1),if_neg (fun h=>by rw[h1'] at h;exact absurd h (by decide))]
    repeat' refine And.intro ?_ ?_
    all_goals first|omega|rfl
  ·have hiV:i.toNat=V.length:=by omega
   rw[hiV] at hb hl ⊢
   have hb2:payU V m V.length<T.length:=by rw[hT,←hV];exact hb.2
   have hs:=@bestU_succ V T m.toNat (by rw[em];exact hb.1) (by rw[em];exact hb2)
   rw[em] at hs
   unfold pU lU at hs
   have hbl:=@bestU_len V T m.toNat
   rw[em1,←hs]
   generalize bestU V T m.toNat=B at*
   repeat' refine And.intro ?_ ?_
   all_goals first|omega|rfl|exact cowE (by simp)
 ·have hmT:m.toNat=T.length:=by omega
  rw[hmT]
  have hbl:=@bestU_len V T T.length
  refine⟨?_,?_⟩
  ·repeat' refine And.intro ?_ ?_
   all_goals first|omega|rfl
  rintro⟨i,b,out⟩ ⟨⟨i0,i1⟩,hb,ho⟩
  simp only at i0 i1 hb ho ⊢
  subst hb
  subst ho
  have ei:((i.toNat:Nat):Int)=i:=by omega
  have e:(i+1).toNat=i.toNat+1:=by omega
  have hol:(needU V T i.toNat).length≤i.toNat:=by
   unfold needU
   refine Nat.le_trans (List.length_filterMap_le _ _) ?_
   simp
  refine⟨fun hi=>?_,fun hi=>?_⟩
  ·have hgt:=@bestU_get V T T.length i.toNat (by omega)
   have hsu:=@needU_succ V T i.toNat
   rw[ei] at hsu hgt
   rw[e,hsu,hgt]
   refine⟨by omega,by omega,by omega,fun hp=>?_,fun hp=>?_⟩
   ·rw[if_pos hp]
    repeat' refine And.intro ?_ ?_
    all_goals first|omega|rfl|(simp;omega)
   ·rw[if_neg hp]
    repeat' refine And.intro ?_ ?_
    all_goals first|omega|rfl
  ·rw[show i.toNat=T.length by omega]
   repeat' refine And.intro ?_ ?_
   all_goals first|omega|rfl|trivial
def r38:SCtr:=⟨38,Prob,.one codP,fun _=>True,fun p=> .sb (decide (p.offers.length≤12)&&decide (p.classes.length≤6))⟩
theorem h38:Holds Try.prog r38:=by
 refine con (L:=[]) r38 F38 (fun _ _=> .look) (OwnOK.none _) (by simp) (by kernel_rfl) (by kernel_rfl) (fun _=>rfl) ?_
 rintro(p:Prob) -
 refine vcOf (let z0:=decide ((↑p.offers.length:Int)≤(12:Int));let z1:=SV.sb (decide (p.offers.length≤12)&&decide (p.classes.length≤6));(z0=true→(SV.sb (decide ((↑p.classes.length:Int)≤(6:Int)))).same z1)∧(z0=false→(SV.bl false).same z1)) (by kernel_rfl) ?_
 simp only[vcs]
 refine⟨fun h=>?_,fun h=>?_⟩
 ·have:decide (p.offers.length≤12)=true:=by simp;omega
  rw[this]
  simp
  omega
 ·have:decide (p.offers.length≤12)=false:=by simp;omega
  rw[this]
  rfl
def Λ42 (a:List Need×List Need):Nat→LoopAnn
 |4=> .inv Int (fun x=>⟨[(0,.row .need a.1),(1,.row .need a.2),(12,.si .i64 a.1.length),(13,.si .i64 x)],[]⟩) (fun s=>iS s 13) (fun x=>(0≤x∧x≤a.1.length)∧∀j:Nat,(j:Int)<x→nthD a.1 j SId.need.dflt=nthD a.2 j SId.need.dflt) (fun x=>(a.1.length - x).toNat) fun _ _=> .look
 |_=> .look
def r42:SCtr:=⟨42,List Need×List Need,.cons (codR .need) (.one (codR .need)),fun a=>a.1.length≤1000000000∧a.2.length≤1000000000,fun a=> .sb (decide (a.1=a.2))⟩
theorem h42:Holds Try.prog r42:=by
 refine con (L:=[]) r42 F42 Λ42 (OwnOK.none _) (by simp) (by kernel_rfl) (by kernel_rfl) (fun _=>rfl) ?_
 rintro⟨a,b⟩ ⟨ha,hb⟩
 refine vcOf (let z0:=(↑a.length:Int);let z1:=decide (z0≠(↑b.length:Int));let z2:=SV.sb (decide (a=b));let z3:=(↑a.length:Int);let z4:=SV.si .i64 z3;let z5:=SId.need.dflt;(z1=true→(SV.bl false).same z2)∧(z1=false→((((SV.row SId.need a).same (SV.row SId.need a)∧(SV.row SId.need b).same (SV.row SId.need b)∧(SV.si .i64 z0).same z4∧(SV.il .i64 0).same (SV.si .i64 0)∧True)∧True)∧((0:Int)≤(0:Int)∧(0:Int)≤z3)∧∀(j:Nat),(↑j:Int)<(0:Int)→nthD a j z5=nthD b j z5)∧∀(x:Int),let z6:=!(decide ((nthD a x.toNat z5).payers=(nthD b x.toNat z5).payers)&&(decide ((nthD a x.toNat z5).least=(nthD b x.toNat z5).least)&&true));let z7:=x+(1:Int);let z8:=SV.si .i64 z7;(((0:Int)≤x∧x≤z3)∧∀(j:Nat),(↑j:Int)<x→nthD a j z5=nthD b j z5)→(decide (x<z3)=true→(0:Int)≤x∧x<z0∧x.toNat<a.length∧(0:Int)≤x∧x<(↑b.length:Int)∧x.toNat<b.length∧(z6=true→(SV.bl false).same z2)∧(z6=false→inR .i64 z7∧(((SV.row SId.need a).same (SV.row SId.need a)∧(SV.row SId.need b).same (SV.row SId.need b)∧z4.same z4∧z8.same z8∧True)∧True)∧(((0:Int)≤z7∧z7≤z3)∧∀(j:Nat),(↑j:Int)<z7→nthD a j z5=nthD b j z5)∧(z3 - z7).toNat<(z3 - x).toNat))∧(decide (x<z3)=false→(SV.bl true).same z2))) (by kernel_rfl) ?_
 simp only[vcs]
 have ha:a.length≤1000000000:=ha
 have hb:b.length≤1000000000:=hb
 refine⟨fun hne=>?_,fun hl=>?_⟩
 ·have:¬a=b:=fun h=>by subst h;omega
  simp[this]
 refine⟨⟨⟨by omega,by omega⟩,fun j hj=>by omega⟩,?_⟩
 rintro x ⟨⟨x0,x1⟩,hx⟩
 refine⟨fun hi=>⟨by omega,by omega,by omega,by omega,by omega,by omega,fun hd=>?_,fun hd=>?_⟩,fun hi=>?_⟩
 ·have:¬a=b:=fun h=>by subst h;simp at hd
  simp[this]
 ·have he:nthD a x.toNat SId.need.dflt=nthD b x.toNat SId.need.dflt:=by
   generalize nthD a x.toNat SId.need.dflt=u at*
   generalize nthD b x.toNat SId.need.dflt=w at*
   obtain⟨u1,u2⟩:=u
   obtain⟨w1,w2⟩:=w
   simp only at hd
   rw[hd.1,hd.2]
  refine⟨by omega,⟨⟨by omega,by omega⟩,fun j hj=>?_⟩,by omega⟩
  by_cases hjx:(j:Int)<x
  ·exact hx j hjx
  ·have:j=x.toNat:=by omega
   subst this
   exact he
 ·have:a=b:=List.ext_getElem (by omega) fun j h1 h2=>by
   have:=hx j (by omega)
   simpa[nthD,h1,h2] using this
  simp[this]
def payOk (l:List Fra):Prop:=l.length≤10∧∀x∈l,∃q,x=frE q∧Sz 3 q
def paidQ (l:List Fra) (m:Int) (n:Nat):Rat:=(List.range n).foldl (fun(s:Rat) (j:Nat)=>if hasI m j=true then s+valF (nthD l j sF.dflt) else s) 0
theorem paidQ_succ {l:List Fra} {m:Int} {n:Nat}:paidQ l m (n+1)=if hasI m n=true then paidQ l m n+valF (nthD l n sF.dflt) else paidQ l m n:=by
 unfold paidQ
 rw[List.range_succ,List.foldl_append]
 rfl
theorem payOk_get {l:List Fra} (h:payOk l) {n:Nat} (hn:n<l.length):∃q,nthD l n sF.dflt=frE q∧Sz 3 q:=h.2 _ (nthD_mem hn)
theorem sz_zero:Sz 1 0:=by unfold Sz;decide
theorem paidQ_sz {l:List Fra} {m:Int} (h:payOk l):∀{n:Nat},n≤l.length→Sz (1+4*n) (paidQ l m n)
 |0,_=>by simpa[paidQ] using sz_zero
 |n+1,hn=>by
  have h1:=@paidQ_sz l m h n (by omega)
  obtain⟨q,hq,hs⟩:=payOk_get h (show n<l.length by omega)
  rw[paidQ_succ]
  split
  ·rw[hq,valF_frE]
   exact(sz_add h1 hs).mono (by omega)
  ·exact h1.mono (by omega)
def r96:SCtr:=⟨96,List Fra×Int,.cons (codR sF) (.one (codI .i64)),fun a=>payOk a.1∧0≤a.2∧a.2≤9223372036854775807,fun a=>frS (paidQ a.1 a.2 a.1.length)⟩
def Λ96 (a:List Fra×Int):Nat→LoopAnn
 |3=> .inv (Int×Fra) (fun x=>⟨[(1,.si .i64 a.2),(4,.ptr 0 0 3),(5,.ptr 1 0 3),(9,.row sF a.1),(10,.si .i64 a.1.length),(11,.si .i64 x.1)],
   [.cells [.bl false,.sc (.slice none 0 0),.sc (.slice none 0 0)] 66 3 false,.cells [.sb x.2.1,.row (.i .u32) x.2.2.1,.row (.i .u32) x.2.2.2] 66 3 false]⟩)
   (fun s=>(iS s 11,cS sF s 1 0)) (fun x=>(0≤x.1∧x.1≤a.1.length)∧x.2=frE (paidQ a.1 a.2 x.1.toNat)) (fun x=>(a.1.length - x.1).toNat) fun _ _=> .look
 |_=> .look
theorem h96:Holds Try.prog r96:=by
 refine con (L:=[r94,r129]) r96 F96 Λ96 (OwnOK.none _) (by simpa using⟨h94,h129⟩) (by kernel_rfl) (by kernel_rfl) (fun _=>rfl) ?_
 rintro⟨l,m⟩ ⟨hl,m0,m1⟩
 refine vcOf (let z0:=SV.ptr 0 0 3;let z1:=SV.ptr 1 0 3;let z2:=(↑l.length:Int);let z3:=SV.si .i64 z2;let z4:=SV.sc (Value.slice none 0 0);let z5:=SObj.cells [SV.bl false,z4,z4] 66 3 false;let z6:=frE (IntCast.intCast (0:Int));let z7:=SId.i .u32;let z8:=SObj.cells [SV.sb z6.fst,SV.row z7 z6.snd.fst,SV.row z7 z6.snd.snd] 66 3 false;let z9:=frE (paidQ l m l.length);((-9223372036854775808:Int)≤(0:Int)∧(0:Int)≤(9223372036854775807:Int))∧((((SV.si .i64 m).same (SV.si .i64 m)∧z0.same z0∧z1.same z1∧(SV.row sF l).same (SV.row sF l)∧(SV.si .i64 (↑l.length:Int)).same z3∧(SV.il .i64 0).same (SV.si .i64 0)∧True)∧z5.same z5∧z8.same z8∧True)∧((0:Int)≤(0:Int)∧(0:Int)≤z2)∧(z6.fst,z6.snd.fst,z6.snd.snd)=frE (paidQ l m 0))∧∀(x:Int×Fra),let z10:=x.fst.toNat;let z11:=decide (binK.andI .i64 (m / (2:Int)^z10) (1:Int)=(1:Int));let z12:=(x.snd.fst,x.snd.snd.fst,x.snd.snd.snd);let z13:=(nthD l z10 sF.dflt).snd;let z14:=((nthD l z10 sF.dflt).fst,z13.fst,z13.snd);let z15:=x.fst+(1:Int);let z16:=SV.si .i64 z15;let z17:=frE (valF z12+valF z14);let z18:=SObj.cells [SV.sb z17.fst,SV.row z7 z17.snd.fst,SV.row z7 z17.snd.snd] 66 3 false;let z19:=frE (paidQ l m z15.toNat);let z20:=[SV.sb x.snd.fst,SV.row z7 x.snd.snd.fst,SV.row z7 x.snd.snd.snd];let z21:=SObj.cells z20 66 3 false;((0:Int)≤x.fst∧x.fst≤z2)∧x.snd=frE (paidQ l m z10)→(decide (x.fst<z2)=true→(0:Int)≤x.fst∧x.fst<(↑l.length:Int)∧z10<l.length∧(0:Int)≤x.fst∧x.fst≤(64:Int)∧(z11=true→(isF z12∧isF z14)∧inR .i64 z15∧(((SV.si .i64 m).same (SV.si .i64 m)∧z0.same z0∧z1.same z1∧(SV.row sF l).same (SV.row sF l)∧z3.same z3∧z16.same z16∧True)∧z5.same z5∧z18.same z18∧True)∧(((0:Int)≤z15∧z15≤z2)∧(z17.fst,z17.snd.fst,z17.snd.snd)=z19)∧(z2 - z15).toNat<(z2 - x.fst).toNat)∧(z11=false→inR .i64 z15∧(((SV.si .i64 m).same (SV.si .i64 m)∧z0.same z0∧z1.same z1∧(SV.row sF l).same (SV.row sF l)∧z3.same z3∧z16.same z16∧True)∧z5.same z5∧z21.same z21∧True)∧(((0:Int)≤z15∧z15≤z2)∧z12=z19)∧(z2 - z15).toNat<(z2 - x.fst).toNat))∧(decide (x.fst<z2)=false→(SV.agg z20).same (SV.agg [SV.sb z9.fst,SV.row z7 z9.snd.fst,SV.row z7 z9.snd.snd]))) (by kernel_rfl) ?_
 simp only[vcs]
 have m0:0≤m:=m0
 have m1:m≤9223372036854775807:=m1
 have hl:payOk l:=hl
 have hll:=hl.1
 have e0:(IntCast.intCast (0:Int):Rat)=paidQ l m 0:=by
  show((0:Int):Rat)=_
  simp[paidQ]
 rw[e0]
 refine⟨by omega,⟨⟨by omega,by omega⟩,rfl⟩,?_⟩
 rintro⟨i,s⟩ ⟨⟨i0,i1⟩,hs⟩
 simp only at i0 i1 hs
 subst hs
 have e:(i+1).toNat=i.toNat+1:=by omega
 have ei:((i.toNat:Nat):Int)=i:=by omega
 have hsu:=@paidQ_succ l m i.toNat
 rw[ei] at hsu
 obtain⟨n0,n1⟩:=half_nn (i:=i.toNat) m0
 have ha:binK.andI .i64 (m / 2^i.toNat) 1=m / 2^i.toNat % 2:=and_one n0 (by omega)
 have hI:hasI m i=decide (m / 2^i.toNat % 2=1):=rfl
 simp only[ha]
 refine⟨fun hi=>⟨by omega,by omega,by omega,by omega,by omega,fun h1=>?_,fun h1=>?_⟩,fun hi=>?_⟩
 ·obtain⟨q,hq,hsz⟩:=payOk_get hl (show i.toNat<l.length by omega)
  have hz:=@paidQ_sz l m hl i.toNat (by omega)
  rw[if_pos (by rw[hI];exact decide_eq_true h1)] at hsu
  have e1:valF ((frE (paidQ l m i.toNat)).1,(frE (paidQ l m i.toNat)).2.1,(frE (paidQ l m i.toNat)).2.2)+valF ((nthD l i.toNat sF.dflt).1,(nthD l i.toNat sF.dflt).2.1,(nthD l i.toNat sF.dflt).2.2)=paidQ l m (i.toNat+1):=by
   rw[hsu]
   show valF (frE (paidQ l m i.toNat))+valF (nthD l i.toNat sF.dflt)=_
   rw[valF_frE]
  refine⟨⟨⟨_,_,rfl,hz,by omega⟩,⟨q,3,hq,hsz,by omega⟩⟩,?_⟩
  rw[e,e1]
  repeat' refine And.intro ?_ ?_
  all_goals first|omega|rfl
 ·rw[if_neg (by rw[hI];simpa using h1)] at hsu
  rw[e,hsu]
  repeat' refine And.intro ?_ ?_
  all_goals first|omega|rfl
 ·rw[show i.toNat=l.length by omega]
  repeat' refine And.intro ?_ ?_
  all_goals rfl
def gainQ (V:List Int) (l:List Fra) (m w:Int):Rat:=(lU V m w:Rat) - paidQ l (pU V m) l.length
def fCells (x:Fra):SObj:=.cells [.sb x.1,.row (.i .u32) x.2.1,.row (.i .u32) x.2.2] 66 3 false
def nilF:SObj:=.cells [.bl false,.sc (.slice none 0 0),.sc (.slice none 0 0)] 66 3 false
end Go.Vi
