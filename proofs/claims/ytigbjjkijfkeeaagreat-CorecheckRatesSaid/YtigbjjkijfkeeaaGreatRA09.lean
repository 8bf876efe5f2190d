/-
  Contracts: fractions: Neg, Cmp, Add, Sub.
  Conditions: none.
-/
import Derived.Test.YtigbjjkijfkeeaaGreatRA06
import Derived.Test.YtigbjjkijfkeeaaGreatRA07
import Derived.Test.YtigbjjkijfkeeaaGreatRA08
set_option maxRecDepth 100000
set_option maxHeartbeats 4000000
set_option linter.unusedSimpArgs false
set_option linter.unusedVariables false
namespace Go.Vi
open Go.Proofs.YtigbjjkijfkeeaaGreat.Ir
open Go.Proofs
theorem frS_eq {p q:Rat} (h:p=q):(SV.agg [.sb (frE p).1,.row (.i .u32) (frE p).2.1,.row (.i .u32) (frE p).2.2]).same (.agg [.sb (frE q).1,.row (.i .u32) (frE q).2.1,.row (.i .u32) (frE q).2.2]):=by subst h;rfl
theorem num_sgn (q:Rat):q.num=if decide (q<0) then -(q.num.natAbs:Int) else(q.num.natAbs:Int):=by
 have h0:=@Rat.num_nonneg q
 by_cases h:q<0
 ·rw[if_pos (by simpa using h)]
  have:¬0≤q.num:=fun h2=>Rat.not_le.2 h (h0.1 h2)
  omega
 ·rw[if_neg (by simpa using h)]
  have:=h0.2 (Rat.not_lt.1 h)
  omega
theorem frE_ok (q:Rat):(frE q).1=decide (q<0)∧(Dig (frE q).2.1∧Nrm (frE q).2.1∧valN (frE q).2.1=(q.num.natAbs:Int))∧(Dig (frE q).2.2∧Nrm (frE q).2.2∧valN (frE q).2.2=(q.den:Int)):=by
 obtain⟨a1,a2,a3⟩:=natL_ok (show(0:Int)≤(q.num.natAbs:Int) by omega)
 obtain⟨b1,b2,b3⟩:=natL_ok (show(0:Int)≤(q.den:Int) by omega)
 exact⟨rfl,⟨a2,a3,a1⟩,⟨b2,b3,b1⟩⟩
theorem frE_len {q:Rat} {k:Nat} (h:Sz k q):(frE q).2.1.length≤k∧(frE q).2.2.length≤k:=
 ⟨natL_len (by omega) h.1,natL_len (by omega) h.2⟩
theorem mkF_neg (q:Rat):mkF (!decide (q<0)) (q.num.natAbs:Int) (q.den:Int)= -q:=by
 unfold mkF
 have h:=num_sgn q
 have e:(if(!decide (q<0))=true then -(q.num.natAbs:Int) else(q.num.natAbs:Int))= -q.num:=by
  by_cases hq:q<0
  ·rw[if_pos (by simpa using hq)] at h
   rw[if_neg (by simpa using hq)]
   omega
  ·rw[if_neg (by simpa using hq)] at h
   rw[if_pos (by simpa using hq)]
   omega
 rw[e,Int.toNat_natCast]
 conv=>rhs;rw[←Rat.mkRat_self q]
 rw[Rat.neg_mkRat]
def r130:SCtr:=⟨56,Fra,.one (codE sF),isF,fun x=>frS (-(valF x))⟩
theorem h130:Holds Tryz.prog r130:=by
 refine con (L:=[r126]) r130 F130 (fun _ _=> .look) (OwnOK.none _) (by simpa using h126) (by kernel_rfl) (by kernel_rfl) (fun _=>rfl) ?_
 intro(x:Fra) h
 obtain⟨q,k,rfl,hz,hk⟩:isF x:=h
 refine vcOf (let z0:=(frE q).snd.fst;let z1:=(frE q).snd.snd;let z2:=frE (mkF (!(frE q).fst) (valN z0) (valN z1));let z3:=SId.i .u32;let z4:=(frE (-valF (frE q))).snd;((Dig z0∧Dig z1)∧(List.length z0≤1000000000∧List.length z1≤1000000000)∧(0:Int)<valN z1)∧(SV.agg [SV.sb z2.fst,SV.row z3 z2.snd.fst,SV.row z3 z2.snd.snd]).same (SV.agg [SV.sb (frE (-valF (frE q))).fst,SV.row z3 z4.fst,SV.row z3 z4.snd])) (by kernel_rfl) ?_
 conv=>zeta
 obtain⟨e1,⟨a2,a3,a1⟩,⟨b2,b3,b1⟩⟩:=frE_ok q
 obtain⟨l1,l2⟩:=frE_len hz
 have hd:=q.den_pos
 refine⟨⟨⟨a2,b2⟩,⟨by omega,by omega⟩,by omega⟩,frS_eq ?_⟩
 rw[valF_frE,e1,a1,b1]
 exact mkF_neg q
theorem mul_lt_pow {a b:Int} {i j:Nat} (a0:0≤a) (h1:a<4294967296^i) (h2:b<4294967296^j):a*b<4294967296^(i+j):=by
 rw[Int.pow_add]
 exact Int.lt_of_le_of_lt (Int.mul_le_mul_of_nonneg_left (Int.le_of_lt h2) a0) (Int.mul_lt_mul_of_pos_right h1 (pow_pos _))
theorem cross_ok {p q:Rat} {i j:Nat} (hp:Sz i p) (hq:Sz j q):∃X Y D:Int,valN (frE p).2.1*valN (frE q).2.2=X∧valN (frE q).2.1*valN (frE p).2.2=Y∧valN (frE p).2.2*valN (frE q).2.2=D∧0≤X∧0≤Y∧0<D∧
  (natL X).length≤i+j∧(natL Y).length≤i+j∧(natL (X+Y)).length≤i+j+1∧(natL (X - Y)).length≤i+j∧(natL (Y - X)).length≤i+j∧(natL D).length≤i+j∧p.num*q.den=(if decide (p<0) then -X else X)∧q.num*p.den=(if decide (q<0) then -Y else Y)∧((p.den*q.den:Nat):Int)=D:=by
 obtain⟨_,⟨_,_,a1⟩,⟨_,_,b1⟩⟩:=frE_ok p
 obtain⟨_,⟨_,_,a2⟩,⟨_,_,b2⟩⟩:=frE_ok q
 rw[a1,b1,a2,b2]
 have d1:=p.den_pos
 have d2:=q.den_pos
 have x1:=mul_lt_pow (a:=(p.num.natAbs:Int)) (by omega) hp.1 hq.2
 have x2:=mul_lt_pow (a:=(q.num.natAbs:Int)) (by omega) hq.1 hp.2
 rw[Nat.add_comm j i] at x2
 have x3:=mul_lt_pow (a:=(p.den:Int)) (by omega) hp.2 hq.2
 have y1:0≤(p.num.natAbs:Int)*q.den:=Int.mul_nonneg (by omega) (by omega)
 have y2:0≤(q.num.natAbs:Int)*p.den:=Int.mul_nonneg (by omega) (by omega)
 have y3:0<(p.den:Int)*q.den:=Int.mul_pos (by omega) (by omega)
 have s1:=num_sgn p
 have s2:=num_sgn q
 refine⟨_,_,_,rfl,rfl,rfl,y1,y2,y3,natL_len y1 x1,natL_len y2 x2,natL_len (by omega) ?_,?_,?_,natL_len (by omega) x3,?_,?_,by push_cast;rfl⟩
 ·rw[Int.pow_succ]
  omega
 ·by_cases h:(p.num.natAbs:Int)*q.den - (q.num.natAbs:Int)*p.den≤0
  ·rw[natL_neg h];simp
  ·exact natL_len (by omega) (by omega)
 ·by_cases h:(q.num.natAbs:Int)*p.den - (p.num.natAbs:Int)*q.den≤0
  ·rw[natL_neg h];simp
  ·exact natL_len (by omega) (by omega)
 ·conv=>lhs;rw[s1]
  split
  ·rw[Int.neg_mul]
  ·rfl
 ·conv=>lhs;rw[s2]
  split
  ·rw[Int.neg_mul]
  ·rfl
theorem add_mkF {p q:Rat} {s:Bool} {n D:Int} (hD:((p.den*q.den:Nat):Int)=D) (h:p.num*q.den+q.num*p.den=if s then -n else n):mkF s n D=p+q:=by
 rw[add_mk]
 unfold mkF
 rw[←h,←hD,Int.toNat_natCast]
theorem digF_ok {p:Rat} {k:Nat} (h:Sz k p) (hk:k≤100000000):digF (frE p):=by
 obtain⟨_,⟨a,_,_⟩,⟨b,_,_⟩⟩:=frE_ok p
 have:=frE_len h
 exact⟨⟨a,b⟩,by omega,by omega⟩
def cmpQ (p q:Rat):Int:=if p<q then -1 else if q<p then 1 else 0
def r97:SCtr:=⟨24,Fra×Fra,.cons (codE sF) (.one (codE sF)),fun a=>isF a.1∧isF a.2,fun a=> .si .i64 (cmpQ (valF a.1) (valF a.2))⟩
theorem h97:Holds Tryz.prog r97:=by
 refine con (L:=[r131,r132]) r97 F97 (fun _ _=> .look) (OwnOK.none _) (by simpa using⟨h131,h132⟩) (by kernel_rfl) (by kernel_rfl) (fun _=>rfl) ?_
 rintro⟨x,y⟩ ⟨⟨p,i,hx,hz,hi⟩,⟨q,j,hy,hw,hj⟩⟩
 simp only at hx hy
 subst hx hy
 refine vcOf (let z0:=(frE p).fst;let z1:=SV.si .i64 (cmpQ (valF (frE p)) (valF (frE q)));let z2:=natL (valN (frE q).snd.fst*valN (frE p).snd.snd);let z3:=natL (valN (frE p).snd.fst*valN (frE q).snd.snd);((!z0==(frE q).fst)=true→(z0=true→(SV.il .i64 (-1:Int)).same z1)∧(z0=false→(SV.il .i64 1).same z1))∧((!z0==(frE q).fst)=false→(digF (z0,(frE p).snd.fst,(frE p).snd.snd)∧digF ((frE q).fst,(frE q).snd.fst,(frE q).snd.snd))∧(z0=true→((Dig z2∧Dig z3)∧z2.length≤1000000000000∧z3.length≤1000000000000)∧(SV.si .i64 (cmpN (valN z2) (valN z3))).same z1)∧(z0=false→((Dig z3∧Dig z2)∧z3.length≤1000000000000∧z2.length≤1000000000000)∧(SV.si .i64 (cmpN (valN z3) (valN z2))).same z1))) (by kernel_rfl) ?_
 conv=>zeta
 obtain⟨e1,_,_⟩:=frE_ok p
 obtain⟨e2,_,_⟩:=frE_ok q
 obtain⟨X,Y,D,hX,hY,hD,X0,Y0,D0,l1,l2,l3,l4,l5,l6,n1,n2,n3⟩:=cross_ok hz hw
 obtain⟨c1,c2,c3⟩:=natL_ok X0
 obtain⟨c4,c5,c6⟩:=natL_ok Y0
 simp only[valF_frE,hX,hY,c1,c4,e1,e2]
 simp only[vcs]
 have hl:p<q↔p.num*q.den<q.num*p.den:=Rat.lt_iff p q
 have hl2:q<p↔q.num*p.den<p.num*q.den:=Rat.lt_iff q p
 have hp0:=@Rat.num_nonneg p
 have hq0:=@Rat.num_nonneg q
 have hc:∀{z:Int},(z=if p.num*q.den<q.num*p.den then -1 else if q.num*p.den<p.num*q.den then 1 else 0)→z=cmpQ p q:=fun h=>by
  unfold cmpQ
  simp only[hl,hl2]
  exact h
 have hXp:p<0→0<X:=fun h=>by
  rw[if_pos (by simpa using h)] at n1
  have h1:p.num<0:=by rw[←Rat.not_le,←hp0] at h;omega
  have:=Int.mul_neg_of_neg_of_pos h1 (show(0:Int)<q.den by have:=q.den_pos;omega)
  omega
 have hYq:q<0→0<Y:=fun h=>by
  rw[if_pos (by simpa using h)] at n2
  have h1:q.num<0:=by rw[←Rat.not_le,←hq0] at h;omega
  have:=Int.mul_neg_of_neg_of_pos h1 (show(0:Int)<p.den by have:=p.den_pos;omega)
  omega
 rw[n1,n2] at hc
 refine⟨fun hne=>⟨fun hp=>?_,fun hp=>?_⟩,fun he=>⟨⟨digF_ok hz hi,digF_ok hw hj⟩,fun hp=>⟨⟨⟨c5,c2⟩,by omega,by omega⟩,?_⟩,fun hp=>⟨⟨⟨c2,c5⟩,by omega,by omega⟩,?_⟩⟩⟩
 ·apply hc
  have hq:¬q<0:=fun hq=>by simp[hp,hq] at hne
  simp only[decide_eq_true_eq,hp,hq,if_true,if_false]
  have:=hXp hp
  rw[if_pos (by omega)]
 ·apply hc
  have hq:q<0:=by
   by_cases hq:q<0
   ·exact hq
   ·simp[hp,hq] at hne
  simp only[decide_eq_true_eq,hp,hq,if_true,if_false]
  have:=hYq hq
  rw[if_neg (by omega),if_pos (by omega)]
 ·apply hc
  have hq:q<0:=by
   by_cases hq:q<0
   ·exact hq
   ·simp[hp,hq] at he
  simp only[decide_eq_true_eq,hp,hq,if_true,if_false]
  simp only[Int.neg_lt_neg_iff]
  rfl
 ·apply hc
  have hq:¬q<0:=fun hq=>by simp[hp,hq] at he
  simp only[decide_eq_true_eq,hp,hq,if_true,if_false]
  rfl
def r129:SCtr:=⟨55,Fra×Fra,.cons (codE sF) (.one (codE sF)),fun a=>isF a.1∧isF a.2,fun a=>frS (valF a.1+valF a.2)⟩
theorem h129:Holds Tryz.prog r129:=by
 refine con (L:=[r131,r153,r154,r155,r126]) r129 F129 (fun _ _=> .look) (OwnOK.none _) (by simpa using⟨h131,h153,h154,h155,h126⟩) (by kernel_rfl) (by kernel_rfl) (fun _=>rfl) ?_
 rintro⟨x,y⟩ ⟨⟨p,i,hx,hz,hi⟩,⟨q,j,hy,hw,hj⟩⟩
 simp only at hx hy
 subst hx hy
 refine vcOf (let z0:=(frE p).fst;let z1:=(frE p).snd.snd;let z2:=(frE q).snd.snd;let z3:=natL (valN (frE p).snd.fst*valN z2);let z4:=natL (valN (frE q).snd.fst*valN z1);let z5:=natL (valN z3+valN z4);let z6:=natL (valN z1*valN z2);let z7:=frE (mkF z0 (valN z5) (valN z6));let z8:=SId.i .u32;let z9:=frE (valF (frE p)+valF (frE q));let z10:=SV.agg [SV.sb z9.fst,SV.row z8 z9.snd.fst,SV.row z8 z9.snd.snd];let z11:=decide (valN z4≤valN z3);let z12:=natL (valN z3 - valN z4);let z13:=frE (mkF z0 (valN z12) (valN z6));let z14:=natL (valN z4 - valN z3);let z15:=frE (mkF (frE q).fst (valN z14) (valN z6));(digF (z0,(frE p).snd.fst,z1)∧digF ((frE q).fst,(frE q).snd.fst,z2))∧((Dig z1∧Dig z2)∧List.length z1≤100000000000∧List.length z2≤100000000000)∧((z0==(frE q).fst)=true→((Dig z3∧Dig z4)∧z3.length≤100000000000∧z4.length≤100000000000)∧((Dig z5∧Dig z6)∧(z5.length≤1000000000∧z6.length≤1000000000)∧(0:Int)<valN z6)∧(SV.agg [SV.sb z7.fst,SV.row z8 z7.snd.fst,SV.row z8 z7.snd.snd]).same z10)∧((z0==(frE q).fst)=false→((Dig z3∧Dig z4)∧z3.length≤100000000000∧z4.length≤100000000000)∧(z11=true→((Dig z12∧Dig z6)∧(z12.length≤1000000000∧z6.length≤1000000000)∧(0:Int)<valN z6)∧(SV.agg [SV.sb z13.fst,SV.row z8 z13.snd.fst,SV.row z8 z13.snd.snd]).same z10)∧(z11=false→((Dig z4∧Dig z3)∧z4.length≤100000000000∧z3.length≤100000000000)∧((Dig z14∧Dig z6)∧(z14.length≤1000000000∧z6.length≤1000000000)∧(0:Int)<valN z6)∧(SV.agg [SV.sb z15.fst,SV.row z8 z15.snd.fst,SV.row z8 z15.snd.snd]).same z10))) (by kernel_rfl) ?_
 conv=>zeta
 obtain⟨e1,⟨u1,_,_⟩,⟨u2,_,_⟩⟩:=frE_ok p
 obtain⟨e2,⟨u3,_,_⟩,⟨u4,_,_⟩⟩:=frE_ok q
 obtain⟨m1,m2⟩:=frE_len hz
 obtain⟨m3,m4⟩:=frE_len hw
 obtain⟨X,Y,D,hX,hY,hD,X0,Y0,D0,l1,l2,l3,l4,l5,l6,n1,n2,n3⟩:=cross_ok hz hw
 obtain⟨c1,c2,c3⟩:=natL_ok X0
 obtain⟨c4,c5,c6⟩:=natL_ok Y0
 obtain⟨c7,c8,c9⟩:=natL_ok (Int.le_of_lt D0)
 obtain⟨s1,s2,s3⟩:=natL_ok (show 0≤X+Y by omega)
 simp only[valF_frE,hX,hY,hD,c1,c4,c7,s1,e1,e2]
 simp only[vcs]
 have fin:∀{s:Bool} {n:Int},(p.num*q.den+q.num*p.den=if s then -n else n)→(SV.agg [.sb (frE (mkF s n D)).1,.row (.i .u32) (frE (mkF s n D)).2.1,.row (.i .u32) (frE (mkF s n D)).2.2]).same (.agg [.sb (frE (p+q)).1,.row (.i .u32) (frE (p+q)).2.1,.row (.i .u32) (frE (p+q)).2.2]):=
  fun h=>frS_eq (add_mkF n3 h)
 rw[n1,n2] at fin
 refine⟨⟨digF_ok hz hi,digF_ok hw hj⟩,⟨⟨u2,u4⟩,by omega,by omega⟩,fun he=>⟨⟨⟨c2,c5⟩,by omega,by omega⟩,⟨⟨s2,c8⟩,⟨by omega,by omega⟩,D0⟩,fin ?_⟩,fun he=>⟨⟨⟨c2,c5⟩,by omega,by omega⟩,fun hle=>?_,fun hle=>?_⟩⟩
 ·by_cases hp:p<0<;>by_cases hq:q<0<;>simp[hp,hq] at he ⊢<;>omega
 ·obtain⟨t1,t2,t3⟩:=natL_ok (show 0≤X - Y by omega)
  rw[t1]
  refine⟨⟨⟨t2,c8⟩,⟨by omega,by omega⟩,D0⟩,fin ?_⟩
  by_cases hp:p<0<;>by_cases hq:q<0<;>simp[hp,hq] at he ⊢<;>omega
 ·obtain⟨t1,t2,t3⟩:=natL_ok (show 0≤Y - X by omega)
  rw[t1]
  refine⟨⟨⟨c5,c2⟩,by omega,by omega⟩,⟨⟨t2,c8⟩,⟨by omega,by omega⟩,D0⟩,fin ?_⟩
  by_cases hp:p<0<;>by_cases hq:q<0<;>simp[hp,hq] at he ⊢<;>omega
def r95:SCtr:=⟨33,Fra×Fra,.cons (codE sF) (.one (codE sF)),fun a=>isF a.1∧isF a.2,fun a=>frS (valF a.1 - valF a.2)⟩
theorem h95:Holds Tryz.prog r95:=by
 refine con (L:=[r130,r129]) r95 F95 (fun _ _=> .look) (OwnOK.none _) (by simpa using⟨h130,h129⟩) (by kernel_rfl) (by kernel_rfl) (fun _=>rfl) ?_
 rintro⟨x,y⟩ ⟨⟨p,i,hx,hz,hi⟩,⟨q,j,hy,hw,hj⟩⟩
 simp only at hx hy
 subst hx hy
 refine vcOf (let z0:=((frE q).fst,(frE q).snd.fst,(frE q).snd.snd);let z1:=((frE p).fst,(frE p).snd.fst,(frE p).snd.snd);let z2:=(frE (-valF z0)).snd;let z3:=((frE (-valF z0)).fst,z2.fst,z2.snd);let z4:=frE (valF z1+valF z3);let z5:=SId.i .u32;let z6:=frE (valF (frE p) - valF (frE q));isF z0∧(isF z1∧isF z3)∧(SV.agg [SV.sb z4.fst,SV.row z5 z4.snd.fst,SV.row z5 z4.snd.snd]).same (SV.agg [SV.sb z6.fst,SV.row z5 z6.snd.fst,SV.row z5 z6.snd.snd])) (by kernel_rfl) ?_
 conv=>zeta
 have hn:isF (frE (-q)):=⟨-q,j,rfl,sz_neg hw,hj⟩
 refine⟨⟨q,j,rfl,hw,hj⟩,⟨⟨p,i,rfl,hz,hi⟩,?_⟩,frS_eq ?_⟩
 ·have e:valF (frE q)=q:=valF_frE q
  show isF (frE (-valF (frE q)))
  rw[e]
  exact hn
 ·show valF (frE p)+valF (frE (-valF (frE q)))=valF (frE p) - valF (frE q)
  rw[valF_frE,valF_frE,valF_frE,Rat.sub_eq_add_neg]
theorem val_tl (a:List Int):valN a=nthD a 0 0+4294967296*valN a.tail:=by
 cases a with
 |nil=>simp[valN,nthD]
 |cons d l=>simp[valN,nthD]
theorem nth_tl (a:List Int) (j:Nat):nthD a (j+1) 0=nthD a.tail j 0:=by
 cases a with
 |nil=>simp[nthD]
 |cons d l=>simp[nthD]
theorem dig_tl {a:List Int} (h:Dig a):Dig a.tail:=fun d hd=>h d (List.mem_of_mem_tail hd)
theorem val_ext:∀(n:Nat) {a b:List Int},a.length≤n→b.length≤n→(∀j,nthD a j 0=nthD b j 0)→valN a=valN b
 |0,a,b,h1,h2,_=>by rw[List.eq_nil_of_length_eq_zero (by omega:a.length=0),List.eq_nil_of_length_eq_zero (by omega:b.length=0)]
 |n+1,a,b,h1,h2,h=>by
  rw[val_tl a,val_tl b,h 0]
  have:=val_ext n (a:=a.tail) (b:=b.tail) (by rw[List.length_tail];omega) (by rw[List.length_tail];omega) (fun j=>by rw[←nth_tl,←nth_tl];exact h (j+1))
  rw[this]
theorem cmp_dig:∀{k:Nat} {a b:List Int},Dig a→Dig b→(∀j,k<j→nthD a j 0=nthD b j 0)→nthD a k 0<nthD b k 0→valN a<valN b
 |0,a,b,ha,hb,h,hk=>by
  have:=val_ext (max a.length b.length) (a:=a.tail) (b:=b.tail) (by rw[List.length_tail];omega) (by rw[List.length_tail];omega) (fun j=>by rw[←nth_tl,←nth_tl];exact h (j+1) (by omega))
  rw[val_tl a,val_tl b,this]
  omega
 |k+1,a,b,ha,hb,h,hk=>by
  rw[nth_tl,nth_tl] at hk
  have:=cmp_dig (k:=k) (dig_tl ha) (dig_tl hb) (fun j hj=>by rw[←nth_tl,←nth_tl];exact h (j+1) (by omega)) hk
  have h1:=dig_nth ha 0
  have h2:=dig_nth hb 0
  rw[val_tl a,val_tl b]
  omega
def trL (a:List Int):SV:=.row (.i .u32) (natL (valN a))
def r140:SCtr:=⟨52,List Int,.one (codR (.i .u32)),fun a=>Dig a∧a.length≤100000000000,fun a=>trL a⟩
def Λ140 (a:List Int):Nat→LoopAnn
 |1=> .inv (List Int) (fun l=>⟨[(0,.row (.i .u32) l)],[]⟩) (fun s=>rS (.i .u32) s 0) (fun l=>Dig l∧valN l=valN a∧l.length≤a.length) (fun l=>l.length) fun _ _=> .look
 |_=> .look
theorem tr_last {l:List Int} (h:l.length≠0) (hz:nthD l (l.length - 1) 0=0):valN (l.take (l.length - 1))=valN l:=by
 have:=@take_snoc0 l (l.length - 1)
 rw[show l.length - 1+1=l.length by omega,List.take_length,hz,Int.mul_zero,Int.add_zero] at this
 exact this.symm
theorem nrm_of {l:List Int} (h:l.length=0∨nthD l (l.length - 1) 0≠0):Nrm l:=by
 rcases h with h|h
 ·rw[List.eq_nil_of_length_eq_zero h];trivial
 ·by_cases hl:l.length=0
  ·rw[List.eq_nil_of_length_eq_zero hl];trivial
  ·have h1:=take_snoc (a:=l) (n:=l.length - 1) (by omega)
   rw[show l.length - 1+1=l.length by omega,List.take_length] at h1
   rw[h1]
   exact nrm_snoc h
theorem h140:Holds Tryz.prog r140:=by
 refine con (L:=[]) r140 F140 Λ140 (OwnOK.none _) (by simp) (by kernel_rfl) (by kernel_rfl) (fun _=>rfl) ?_
 intro(a:List Int) h
 obtain⟨ha,hl⟩:Dig a∧a.length≤100000000000:=h
 refine vcOf (let z0:=SId.i .u32;let z1:=SV.row z0 (natL (valN a));((((SV.row z0 a).same (SV.row z0 a)∧True)∧True)∧Dig a∧valN a=valN a∧a.length≤a.length)∧∀(x:List Int),let z2:=(↑x.length:Int);let z3:=decide ((0:Int)<z2);let z4:=z2 - (1:Int);let z5:=z4.toNat;let z6:=decide (nthD x z5 (0:Int)=(0:Int));let z7:=List.take (z5 - 0) x;let z8:=0+x.length;Dig x∧valN x=valN a∧x.length≤a.length→(z3=true→inR .i64 z4∧(0:Int)≤z4∧z4<z2∧z5<x.length∧(z6=true→inR .i64 z4∧(0:Int)≤z4∧0≤z5∧z5≤x.length∧(((SV.row z0 z7).same (SV.row z0 z7)∧True)∧True)∧(Dig z7∧valN z7=valN a∧z7.length≤a.length)∧z7.length<x.length)∧(z6=false→0=0∧z8*4≤140737488355328∧z8≤1000000000000∧x.length=x.length∧(SV.row z0 x).same z1))∧(z3=false→0=0∧z8*4≤140737488355328∧z8≤1000000000000∧x.length=x.length∧(SV.row z0 x).same z1)) (by kernel_rfl) ?_
 simp only[vcs]
 refine⟨⟨ha,by omega⟩,?_⟩
 rintro l ⟨dl,hv,hll⟩
 have t1:((l.length:Int) - 1).toNat - 0=l.length - 1:=by omega
 have t2:((l.length:Int) - 1).toNat=l.length - 1:=by omega
 rw[t1,t2]
 have fin:(l.length=0∨nthD l (l.length - 1) 0≠0)→(SV.row (.i .u32) l).same (SV.row (.i .u32) (natL (valN a))):=fun h=>rowN (by rw[←hv,natL_val dl (nrm_of h)])
 refine⟨fun hl0=>⟨by omega,by omega,by omega,by omega,fun hz=>?_,fun hz=>?_⟩,fun hl0=>?_⟩
 ·have:=tr_last (by omega) hz
  repeat' refine And.intro ?_ ?_
  all_goals first|omega|exact dig_take dl _|(rw[this];exact hv)|(simp;omega)
 ·repeat' refine And.intro ?_ ?_
  all_goals first|omega|exact natL_val dl (nrm_of (.inr hz))▸hv▸rfl|exact fin (.inr hz)|(rw[←hv,natL_val dl (nrm_of (.inr hz))])
 ·have h0:l.length=0:=by omega
  repeat' refine And.intro ?_ ?_
  all_goals first|omega|exact fin (.inl h0)|(rw[←hv,natL_val dl (nrm_of (.inl h0))])
def r139:SCtr:=⟨93,List Int×Int,.cons (codR (.i .u32)) (.one (codI .i64)),fun a=>Dig a.1∧0≤a.2,fun a=> .si .u64 (nthD a.1 a.2.toNat 0)⟩
theorem h139:Holds Tryz.prog r139:=by
 refine con (L:=[]) r139 F139 (fun _ _=> .look) (OwnOK.none _) (by simp) (by kernel_rfl) (by kernel_rfl) (fun _=>rfl) ?_
 rintro⟨a,i⟩ ⟨ha,hi⟩
 simp only at ha hi
 refine vcOf (let z0:=decide (i<(↑a.length:Int));let z1:=nthD a i.toNat (0:Int);let z2:=SV.si .u64 z1;(z0=true→(0:Int)≤i∧i<(↑a.length:Int)∧i.toNat<a.length∧(SV.si .u64 (z1 % (18446744073709551616:Int))).same z2)∧(z0=false→(SV.il .u64 0).same z2)) (by kernel_rfl) ?_
 simp only[vcs]
 have hd:=dig_nth ha i.toNat
 refine⟨fun h=>⟨hi,by omega,by omega,by omega⟩,fun h=>?_⟩
 exact(nth_out (by omega)).symm
def r141:SCtr:=⟨80,List Int×List Int,.cons (codR (.i .u32)) (.one (codR (.i .u32))),fun a=>(Dig a.1∧Dig a.2)∧a.1.length≤1000000000000∧a.2.length≤1000000000000,fun a=> .si .i64 (cmpN (valN a.1) (valN a.2))⟩
def Λ141 (a:List Int×List Int):Nat→LoopAnn
 |2=> .inv Int (fun i=>⟨[(0,.row (.i .u32) a.1),(1,.row (.i .u32) a.2),(5,.si .i64 i)],[]⟩) (fun s=>iS s 5)
  (fun i=> -1≤i∧i<max (a.1.length:Int) a.2.length∧∀j:Nat,i<j→nthD a.1 j 0=nthD a.2 j 0) (fun i=>(i+1).toNat) fun _ _=> .look
 |_=> .look
theorem h141:Holds Tryz.prog r141:=by
 refine con (L:=[r139]) r141 F141 Λ141 (OwnOK.none _) (by simpa using h139) (by kernel_rfl) (by kernel_rfl) (fun _=>rfl) ?_
 rintro⟨a,b⟩ ⟨⟨ha,hb⟩,hla,hlb⟩
 simp only at ha hb hla hlb
 refine vcOf (let z0:=max (↑a.length:Int) (↑b.length:Int) - (1:Int);let z1:=SV.row (SId.i .u32) a;let z2:=SV.row (SId.i .u32) b;let z3:=SV.si .i64 z0;let z4:=max (↑a.length:Int) (↑b.length:Int);let z5:=SV.si .i64 (cmpN (valN a) (valN b));inR .i64 z0∧(((z1.same z1∧z2.same z2∧z3.same z3∧True)∧True)∧(-1:Int)≤z0∧z0<z4∧∀(j:Nat),z0<(↑j:Int)→nthD a j (0:Int)=nthD b j (0:Int))∧∀(x:Int),let z6:=decide ((0:Int)≤x);let z7:=nthD a x.toNat (0:Int);let z8:=nthD b x.toNat (0:Int);let z9:=x - (1:Int);let z10:=SV.si .i64 z9;((-1:Int)≤x∧x<z4∧∀(j:Nat),x<(↑j:Int)→nthD a j (0:Int)=nthD b j (0:Int))→(z6=true→(Dig a∧(0:Int)≤x)∧(Dig b∧(0:Int)≤x)∧(decide (z7<z8)=true→(SV.il .i64 (-1:Int)).same z5)∧(decide (z7<z8)=false→(Dig a∧(0:Int)≤x)∧(Dig b∧(0:Int)≤x)∧(decide (z8<z7)=true→(SV.il .i64 1).same z5)∧(decide (z8<z7)=false→inR .i64 z9∧((z1.same z1∧z2.same z2∧z10.same z10∧True)∧True)∧((-1:Int)≤z9∧z9<z4∧∀(j:Nat),z9<(↑j:Int)→nthD a j (0:Int)=nthD b j (0:Int))∧(z9+(1:Int)).toNat<(x+(1:Int)).toNat)))∧(z6=false→(SV.il .i64 0).same z5)) (by kernel_rfl) ?_
 simp only[vcs]
 refine⟨by omega,⟨by omega,by omega,fun j hj=>by rw[nth_out (a:=a) (by omega),nth_out (a:=b) (by omega)]⟩,?_⟩
 rintro i ⟨i0,i1,hd⟩
 refine⟨fun hi=>⟨⟨ha,hi⟩,⟨hb,hi⟩,fun h=>?_,fun h=>⟨⟨ha,hi⟩,⟨hb,hi⟩,fun h2=>?_,fun h2=>⟨by omega,⟨by omega,by omega,fun j hj=>?_⟩,by omega⟩⟩⟩,fun hi=>?_⟩
 ·have:=cmp_dig ha hb (fun j hj=>hd j (by omega)) h
  unfold cmpN
  rw[if_pos this]
 ·have:=cmp_dig hb ha (fun j hj=>(hd j (by omega)).symm) h2
  unfold cmpN
  rw[if_neg (by omega),if_pos this]
 ·by_cases hji:(j:Int)=i
  ·rw[show i.toNat=j by omega] at h h2
   omega
  ·exact hd j (by omega)
 ·have:=val_ext (max a.length b.length) (a:=a) (b:=b) (by omega) (by omega) (fun j=>hd j (by omega))
  unfold cmpN
  rw[if_neg (by omega),if_neg (by omega)]
def r106:SCtr:=⟨77,List Int×List Int,.cons (codR (.i .u32)) (.one (codR (.i .u32))),fun a=>(Dig a.1∧Dig a.2)∧a.1.length≤10000000000∧a.2.length≤10000000000,fun a=> .row (.i .u32) (natL (valN a.1+valN a.2))⟩
def Λ106 (a:List Int×List Int):Nat→LoopAnn
 |4=> .inv (Int×Int×List Int) (fun x=>⟨[(0,.row (.i .u32) a.1),(1,.row (.i .u32) a.2),(5,.ow 0 x.2.2.length 1),(6,.si .u64 x.2.1),(7,.si .i64 x.1)],[.row (.i .u32) x.2.2 63 true]⟩)
  (fun s=>(iS s 7,iS s 6,oS (.i .u32) s 0))
  (fun x=>(0≤x.1∧x.1≤max (a.1.length:Int) a.2.length+1)∧(0≤x.2.1∧x.2.1≤1)∧(Dig x.2.2∧(x.2.2.length:Int)=x.1)∧valN x.2.2+4294967296^x.1.toNat*x.2.1=valN (a.1.take x.1.toNat)+valN (a.2.take x.1.toNat))
  (fun x=>(max (a.1.length:Int) a.2.length+1 - x.1).toNat) fun _ _=> .look
 |_=> .look
theorem h106:Holds Tryz.prog r106:=by
 refine con (L:=[r139,r140]) r106 F106 Λ106 (OwnOK.none _) (by simpa using⟨h139,h140⟩) (by kernel_rfl) (by kernel_rfl) (fun _=>rfl) ?_
 rintro⟨a,b⟩ ⟨⟨ha,hb⟩,hla,hlb⟩
 simp only at ha hb hla hlb
 refine vcOf (let z0:=SId.i .u32;let z1:=SV.ow 0 0 1;let z2:=SObj.row z0 [] 63 true;let z3:=max (↑a.length:Int) (↑b.length:Int)+(1:Int);((((SV.row z0 a).same (SV.row z0 a)∧(SV.row z0 b).same (SV.row z0 b)∧z1.same z1∧(SV.il .u64 0).same (SV.si .u64 0)∧(SV.il .i64 0).same (SV.si .i64 0)∧True)∧z2.same z2∧True)∧((0:Int)≤(0:Int)∧(0:Int)≤z3)∧((0:Int)≤(0:Int)∧(0:Int)≤(1:Int))∧(Dig []∧(0:Int)=(0:Int))∧(0:Int)=(0:Int))∧∀(x:Int×Int×List Int),let z4:=x.snd.snd.length;let z5:=x.fst.toNat;let z6:=decide (x.fst≤max (↑a.length:Int) (↑b.length:Int));let z7:=x.snd.snd.length+1;let z8:=((nthD a z5 (0:Int)+nthD b z5 (0:Int)) % (18446744073709551616:Int)+x.snd.fst) % (18446744073709551616:Int);let z9:=z8.tdiv (4294967296:Int);let z10:=x.fst+(1:Int);let z11:=x.snd.snd++[z8.tmod (4294967296:Int) % (4294967296:Int)];let z12:=SV.si .u64 z9;let z13:=SV.si .i64 z10;let z14:=SObj.row z0 z11 63 true;((0:Int)≤x.fst∧x.fst≤z3)∧((0:Int)≤x.snd.fst∧x.snd.fst≤(1:Int))∧(Dig x.snd.snd∧(↑z4:Int)=x.fst)∧valN x.snd.snd+(4294967296:Int)^z5*x.snd.fst=valN (List.take z5 a)+valN (List.take z5 b)→(z6=true→(Dig a∧(0:Int)≤x.fst)∧(Dig b∧(0:Int)≤x.fst)∧(4294967296:Int)≠(0:Int)∧z4=x.snd.snd.length∧z7*4≤140737488355328∧z7≤1000000000000∧(4294967296:Int)≠(0:Int)∧inR .u64 z9∧inR .i64 z10∧(((SV.row z0 a).same (SV.row z0 a)∧(SV.row z0 b).same (SV.row z0 b)∧(SV.ow 0 z11.length 1).same (SV.ow 0 z11.length 1)∧z12.same z12∧z13.same z13∧True)∧z14.same z14∧True)∧(((0:Int)≤z10∧z10≤z3)∧((0:Int)≤z9∧z9≤(1:Int))∧(Dig z11∧(↑z11.length:Int)=z10)∧valN z11+(4294967296:Int)^z10.toNat*z9=valN (List.take z10.toNat a)+valN (List.take z10.toNat b))∧(z3 - z10).toNat<(z3 - x.fst).toNat)∧(z6=false→z4=x.snd.snd.length∧(Dig x.snd.snd∧z4≤100000000000)∧(SV.row z0 (natL (valN x.snd.snd))).same (SV.row z0 (natL (valN a+valN b))))) (by kernel_rfl) ?_
 simp only[vcs]
 refine⟨⟨by omega,by omega,by simp[Dig]⟩,?_⟩
 rintro⟨i,c,out⟩ ⟨⟨i0,i1⟩,⟨c0,c1⟩,⟨ho,hlo⟩,hv⟩
 simp only at i0 i1 c0 c1 ho hlo hv ⊢
 refine⟨fun hi=>?_,fun hi=>?_⟩
 ·have x:=dig_nth ha i.toNat
  have y:=dig_nth hb i.toNat
  have e1:((nthD a i.toNat 0+nthD b i.toNat 0) % 18446744073709551616+c) % 18446744073709551616=nthD a i.toNat 0+nthD b i.toNat 0+c:=by omega
  have e2:(i+1).toNat=i.toNat+1:=by omega
  rw[e1,e2,Int.tdiv_eq_ediv_of_nonneg (by omega),Int.tmod_eq_emod_of_nonneg (by omega)]
  have hval:valN (out++[(nthD a i.toNat 0+nthD b i.toNat 0+c) % 4294967296 % 4294967296])+4294967296^(i.toNat+1)*((nthD a i.toNat 0+nthD b i.toNat 0+c) / 4294967296)=valN (a.take (i.toNat+1))+valN (b.take (i.toNat+1)):=by
   rw[val_snoc,take_snoc0,take_snoc0,show out.length=i.toNat by omega,Int.pow_succ]
   generalize (4294967296:Int)^i.toNat=B at*
   generalize hs:nthD a i.toNat 0+nthD b i.toNat 0+c=s at*
   have e:B*4294967296*(s / 4294967296)=B*(nthD a i.toNat 0+nthD b i.toNat 0+c - s % 4294967296 % 4294967296):=by rw[Int.mul_assoc];congr 1;omega
   rw[e]
   simp only[Int.mul_add,Int.mul_sub]
   omega
  have hdg:Dig (out++[(nthD a i.toNat 0+nthD b i.toNat 0+c) % 4294967296 % 4294967296]):=dig_app ho (dig_one (by omega) (by omega))
  repeat' refine And.intro ?_ ?_
  all_goals first|omega|exact ha|exact hb|exact u64_in (by omega) (by omega)|exact hval|exact hdg|(simp;omega)
 ·have hi2:i.toNat=max a.length b.length+1:=by omega
  rw[List.take_of_length_le (by omega),List.take_of_length_le (by omega)] at hv
  have b1:=val_bdN ha
  have b2:=val_bdN hb
  have b3:=pow_mono (show a.length≤max a.length b.length by omega)
  have b4:=pow_mono (show b.length≤max a.length b.length by omega)
  have hn:=val_nonneg ho
  rw[hi2,Int.pow_succ] at hv
  have hP:=pow_pos (max a.length b.length)
  have hc:c=0:=by
   by_cases h:c=0
   ·exact h
   ·have:c=1:=by omega
    subst this
    omega
  rw[hc,Int.mul_zero,Int.add_zero] at hv
  rw[hv]
  repeat' refine And.intro ?_ ?_
  all_goals first|omega|exact ho|rfl
def r107:SCtr:=⟨81,List Int×List Int,.cons (codR (.i .u32)) (.one (codR (.i .u32))),fun a=>(Dig a.1∧Dig a.2)∧a.1.length≤10000000000∧a.2.length≤10000000000,fun a=>sbO (valN a.1) (valN a.2)⟩
def Λ107 (a:List Int×List Int):Nat→LoopAnn
 |6=> .inv (Int×Int×List Int) (fun x=>⟨[(0,.row (.i .u32) a.1),(1,.row (.i .u32) a.2),(6,.ow 0 x.2.2.length 1),(7,.si .u64 x.2.1),(8,.si .i64 x.1)],[.row (.i .u32) x.2.2 63 true]⟩)
  (fun s=>(iS s 8,iS s 7,oS (.i .u32) s 0))
  (fun x=>(0≤x.1∧x.1≤a.1.length)∧(0≤x.2.1∧x.2.1≤1)∧(Dig x.2.2∧(x.2.2.length:Int)=x.1)∧valN x.2.2 - 4294967296^x.1.toNat*x.2.1=valN (a.1.take x.1.toNat) - valN (a.2.take x.1.toNat))
  (fun x=>(a.1.length - x.1).toNat) fun _ _=> .look
 |_=> .look
theorem h107:Holds Tryz.prog r107:=by
 refine con (L:=[r139,r140,r141]) r107 F107 Λ107 (OwnOK.none _) (by simpa using⟨h139,h140,h141⟩) (by kernel_rfl) (by kernel_rfl) (fun _=>rfl) ?_
 rintro⟨a,b⟩ ⟨⟨ha,hb⟩,hla,hlb⟩
 simp only at ha hb hla hlb
 refine vcOf (let z0:=decide (cmpN (valN a) (valN b)<(0:Int));let z1:=SId.i .u32;let z2:=SV.tup [SV.row z1 (natL (valN a - valN b)),SV.sb (decide (valN b≤valN a))];let z3:=SV.ow 0 0 1;let z4:=SObj.row z1 [] 63 true;let z5:=(↑a.length:Int);((Dig a∧Dig b)∧a.length≤1000000000000∧b.length≤1000000000000)∧(z0=true→(SV.tup [SV.row (SId.i .i64) [],SV.bl false]).same z2)∧(z0=false→((((SV.row z1 a).same (SV.row z1 a)∧(SV.row z1 b).same (SV.row z1 b)∧z3.same z3∧(SV.il .u64 0).same (SV.si .u64 0)∧(SV.il .i64 0).same (SV.si .i64 0)∧True)∧z4.same z4∧True)∧((0:Int)≤(0:Int)∧(0:Int)≤z5)∧((0:Int)≤(0:Int)∧(0:Int)≤(1:Int))∧(Dig []∧(0:Int)=(0:Int))∧(0:Int)=(0:Int))∧∀(x:Int×Int×List Int),let z6:=x.snd.snd.length;let z7:=x.fst.toNat;let z8:=decide (x.fst<(↑a.length:Int));let z9:=x.snd.snd.length+1;let z10:=((((4294967296:Int)+nthD a z7 (0:Int)) % (18446744073709551616:Int) - nthD b z7 (0:Int)) % (18446744073709551616:Int) - x.snd.fst) % (18446744073709551616:Int);let z11:=z10.tdiv (4294967296:Int);let z12:=x.fst+(1:Int);let z13:=x.snd.snd++[z10.tmod (4294967296:Int) % (4294967296:Int)];let z14:=((1:Int) - z11) % (18446744073709551616:Int);let z15:=SV.si .u64 z14;let z16:=SV.si .i64 z12;let z17:=SObj.row z1 z13 63 true;((0:Int)≤x.fst∧x.fst≤z5)∧((0:Int)≤x.snd.fst∧x.snd.fst≤(1:Int))∧(Dig x.snd.snd∧(↑z6:Int)=x.fst)∧valN x.snd.snd - (4294967296:Int)^z7*x.snd.fst=valN (List.take z7 a) - valN (List.take z7 b)→(z8=true→(Dig a∧(0:Int)≤x.fst)∧(Dig b∧(0:Int)≤x.fst)∧(4294967296:Int)≠(0:Int)∧z6=x.snd.snd.length∧z9*4≤140737488355328∧z9≤1000000000000∧(4294967296:Int)≠(0:Int)∧inR .u64 z11∧inR .i64 z12∧(((SV.row z1 a).same (SV.row z1 a)∧(SV.row z1 b).same (SV.row z1 b)∧(SV.ow 0 z13.length 1).same (SV.ow 0 z13.length 1)∧z15.same z15∧z16.same z16∧True)∧z17.same z17∧True)∧(((0:Int)≤z12∧z12≤z5)∧((0:Int)≤z14∧z14≤(1:Int))∧(Dig z13∧(↑z13.length:Int)=z12)∧valN z13 - (4294967296:Int)^z12.toNat*z14=valN (List.take z12.toNat a) - valN (List.take z12.toNat b))∧(z5 - z12).toNat<(z5 - x.fst).toNat)∧(z8=false→z6=x.snd.snd.length∧(Dig x.snd.snd∧z6≤100000000000)∧(SV.tup [SV.row z1 (natL (valN x.snd.snd)),SV.bl true]).same z2))) (by kernel_rfl) ?_
 simp only[vcs]
 have pa:=val_nonneg ha
 have pb:=val_nonneg hb
 refine⟨⟨⟨ha,hb⟩,by omega,by omega⟩,fun hlt=>?_,fun hge=>?_⟩
 ·have hlt2:valN a<valN b:=by unfold cmpN at hlt;split at hlt<;>(try split at hlt)<;>omega
  refine⟨nilN (natL_neg (by omega)),?_⟩
  rw[eq_comm,decide_eq_false_iff_not]
  omega
 have hge2:valN b≤valN a:=by unfold cmpN at hge;split at hge<;>(try split at hge)<;>omega
 refine⟨⟨by omega,by omega,by simp[Dig]⟩,?_⟩
 rintro⟨i,c,out⟩ ⟨⟨i0,i1⟩,⟨c0,c1⟩,⟨ho,hlo⟩,hv⟩
 simp only at i0 i1 c0 c1 ho hlo hv ⊢
 refine⟨fun hi=>?_,fun hi=>?_⟩
 ·have x:=dig_nth ha i.toNat
  have y:=dig_nth hb i.toNat
  have e1:(((4294967296+nthD a i.toNat 0) % 18446744073709551616 - nthD b i.toNat 0) % 18446744073709551616 - c) % 18446744073709551616=4294967296+nthD a i.toNat 0 - nthD b i.toNat 0 - c:=by omega
  have e2:(i+1).toNat=i.toNat+1:=by omega
  rw[e1,e2,Int.tdiv_eq_ediv_of_nonneg (by omega),Int.tmod_eq_emod_of_nonneg (by omega)]
  have e3:(1 - (4294967296+nthD a i.toNat 0 - nthD b i.toNat 0 - c) / 4294967296) % 18446744073709551616=1 - (4294967296+nthD a i.toNat 0 - nthD b i.toNat 0 - c) / 4294967296:=by omega
  rw[e3]
  have hval:valN (out++[(4294967296+nthD a i.toNat 0 - nthD b i.toNat 0 - c) % 4294967296 % 4294967296]) - 4294967296^(i.toNat+1)*(1 - (4294967296+nthD a i.toNat 0 - nthD b i.toNat 0 - c) / 4294967296)=valN (a.take (i.toNat+1)) - valN (b.take (i.toNat+1)):=by
   rw[val_snoc,take_snoc0,take_snoc0,show out.length=i.toNat by omega,Int.pow_succ]
   generalize (4294967296:Int)^i.toNat=B at*
   generalize hs:4294967296+nthD a i.toNat 0 - nthD b i.toNat 0 - c=s at*
   have e:B*4294967296*(1 - s / 4294967296)=B*(s % 4294967296 % 4294967296 - (nthD a i.toNat 0 - nthD b i.toNat 0 - c)):=by rw[Int.mul_assoc];congr 1;omega
   rw[e]
   simp only[Int.mul_add,Int.mul_sub]
   omega
  have hdg:Dig (out++[(4294967296+nthD a i.toNat 0 - nthD b i.toNat 0 - c) % 4294967296 % 4294967296]):=dig_app ho (dig_one (by omega) (by omega))
  repeat' refine And.intro ?_ ?_
  all_goals first|omega|exact ha|exact hb|exact u64_in (by omega) (by omega)|exact hval|exact hdg|(simp;omega)
 ·have hi2:i.toNat=a.length:=by omega
  rw[hi2,List.take_length] at hv
  have b1:=val_bdN ha
  have hbt:valN (b.take a.length)=valN b:=by
   by_cases h:b.length≤a.length
   ·rw[List.take_of_length_le h]
   ·have h1:=val_split (U:=b) (j:=a.length) (by omega)
    have h2:=val_nonneg (dig_take hb a.length)
    have h3:=val_nonneg (dig_drop hb a.length)
    by_cases hz:valN (b.drop a.length)=0
    ·rw[hz,Int.mul_zero] at h1;omega
    ·have:=Int.mul_le_mul_of_nonneg_left (show(1:Int)≤valN (b.drop a.length) by omega) (Int.le_of_lt (pow_pos a.length))
     rw[Int.mul_one] at this
     omega
  rw[hbt] at hv
  have hn:=val_bdN ho
  rw[show out.length=a.length by omega] at hn
  have hc:c=0:=by
   by_cases h:c=0
   ·exact h
   ·have:c=1:=by omega
    subst this
    omega
  rw[hc,Int.mul_zero,Int.sub_zero] at hv
  rw[hv]
  refine⟨⟨ho,by omega⟩,?_⟩
  repeat' refine And.intro ?_ ?_
  all_goals first|omega|rfl|(rw[eq_comm,decide_eq_true_eq];exact hge2)
def r159:SCtr:=⟨78,Int,.one (codI .u64),fun x=>0≤(show Int from x)∧(show Int from x)<18446744073709551616,fun x=> .row (.i .u32) (natL x)⟩
theorem h159:Holds Tryz.prog r159:=by
 refine con (L:=[r140]) r159 F159 (fun _ _=> .look) (OwnOK.none _) (by simpa using h140) (by kernel_rfl) (by kernel_rfl) (fun _=>rfl) ?_
 intro(x:Int) h
 obtain⟨h0,h1⟩:0≤x∧x<18446744073709551616:=h
 refine vcOf (let z0:=x.tdiv (4294967296:Int);let z1:=[x.tmod (4294967296:Int) % (4294967296:Int),z0 % (4294967296:Int)];(4294967296:Int)≠(0:Int)∧(4294967296:Int)≠(0:Int)∧inR .u64 z0∧(Dig z1∧2≤100000000000)∧(SV.row (SId.i .u32) (natL (valN z1))).same (SV.row (SId.i .u32) (natL x))) (by kernel_rfl) ?_
 simp only[vcs]
 rw[Int.tdiv_eq_ediv_of_nonneg h0,Int.tmod_eq_emod_of_nonneg h0]
 have hd:Dig [x % 4294967296 % 4294967296,x / 4294967296 % 4294967296]:=dig_cons.2 ⟨by omega,dig_one (by omega) (by omega)⟩
 have hv:valN [x % 4294967296 % 4294967296,x / 4294967296 % 4294967296]=x:=by simp only[valN];omega
 rw[hv]
 repeat' refine And.intro ?_ ?_
 all_goals first|omega|exact hd|exact u64_in (by omega) (by omega)|rfl
theorem add_len {a b:List Int} {k:Nat} (ha:Dig a) (hb:Dig b) (h1:a.length≤k) (h2:b.length≤k):(natL (valN a+valN b)).length≤k+1:=by
 have p1:=val_nonneg ha
 have p2:=val_nonneg hb
 have q1:=lt_of_len ha h1
 have q2:=lt_of_len hb h2
 refine natL_len (by omega) ?_
 rw[Int.pow_succ]
 omega
theorem mul_len {x y:Int} {i j:Nat} (x0:0≤x) (y0:0≤y) (hx:x<4294967296^i) (hy:y<4294967296^j):(natL (x*y)).length≤i+j:=natL_len (Int.mul_nonneg x0 y0) (mul_lt_pow x0 hx hy)
theorem rep_app {n:Nat} {a:List Int}:valN (List.replicate n 0++a)=valN a*4294967296^n:=by
 rw[val_app,rep_val,Int.zero_add,List.length_replicate,Int.mul_comm]
def r140o:OCtr where
 f:=52
 α:=Nat×List Int
 put a:=[.ow 0 a.1 1]
 st a:=[.row (.i .u32) a.2 63 true]
 dec v o:=match v,o with
  |[.ow 0 n 1],[.row t l 63 true]=>match castL t (.i .u32) l with
   |some l=>some (n,l)
   |_=>none
  |_,_=>none
 ok v o a h:=by
  split at h
  ·split at h
   ·rename_i h2
    simp only[Option.some.injEq] at h;subst h
    obtain⟨rfl,hh⟩:=castL_eq h2
    cases hh
    exact⟨rfl,rfl⟩
   ·cases h
  ·cases h
 inj a b h1 h2:=by
  obtain⟨n,U⟩:=a
  obtain⟨n',U'⟩:=b
  simp only[gL,List.cons.injEq,and_true,SV.g,AV.os.injEq,true_and] at h1
  simp only[gO,List.map_cons,List.map_nil,SObj.g,List.cons.injEq,AObj.cells.injEq,and_true] at h2
  have hl:U=U':=by
   have hf:=congrArg List.length h2
   rw[flatA_len,flatA_len] at hf
   exact flatA_inj (.i .u32) (by simpa[SId.sz] using hf) h2
  rw[h1.1,hl]
 dom a:=a.1=a.2.length∧Dig a.2∧a.2.length≤100000000000
 res a:=trL a.2
 out a:=[.row (.i .u32) a.2 63 true]
def Λ140o (a:Nat×List Int):Nat→LoopAnn
 |1=> .inv Int (fun n=>⟨[(0,.os 0 0 n.toNat a.1 1)],[.row (.i .u32) a.2 63 true]⟩) (fun s=>match getS s.env 0 with| .os _ _ n _ _=>n| .ow _ n _=>n|_=>0) (fun n=>0≤n∧n≤a.2.length∧valN (a.2.take n.toNat)=valN a.2) (fun n=>n.toNat) fun _ _=> .look
 |_=> .look
def r136:SCtr:=⟨99,List Int×Int,.cons (codR (.i .u32)) (.one (codI .i64)),fun a=>Dig a.1∧a.1.length≤10000000000∧0≤a.2∧a.2≤10000000000,fun a=> .row (.i .u32) (natL (valN a.1*4294967296^a.2.toNat))⟩
def Λ136 (a:List Int×Int):Nat→LoopAnn
 |3=> .inv Int (fun i=>⟨[(0,.row (.i .u32) a.1),(1,.si .i64 a.2),(5,.ow 0 i.toNat 1),(6,.si .i64 i)],[.row (.i .u32) (List.replicate i.toNat 0) 63 true]⟩) (fun s=>iS s 6) (fun i=>0≤i∧i≤a.2) (fun i=>(a.2 - i).toNat) fun _ _=> .look
 |_=> .look
theorem h140o:HoldsO Tryz.prog r140o:=by
 refine conO (L:=[]) (W:=[]) r140o F140 Λ140o (by simp) (by simp) (by kernel_rfl) (fun _=>rfl) (by kernel_rfl) ?_
 rintro⟨n,a⟩ ⟨hn,ha,hl⟩
 simp only at hn ha hl
 subst hn
 refine vcOf (let z0:=(↑a.length:Int);let z1:=SId.i .u32;let z2:=SObj.row z1 a 63 true;let z3:=SV.row z1 (natL (valN a));((((SV.ow 0 a.length 1).same (SV.os 0 0 z0.toNat a.length 1)∧True)∧z2.same z2∧True)∧(0:Int)≤z0∧z0≤z0∧valN (List.take z0.toNat a)=valN a)∧∀(x:Int),let z4:=List.take x.toNat a;let z5:=(↑x.toNat:Int);let z6:=decide ((0:Int)<z5);let z7:=z5 - (1:Int);let z8:=0+z7.toNat;let z9:=decide (nthD a z8 (0:Int)=(0:Int));let z10:=z7.toNat - 0;let z11:=(↑z10:Int);let z12:=0+z4.length;(0:Int)≤x∧x≤z0∧valN z4=valN a→(z6=true→inR .i64 z7∧a.length=a.length∧(0:Int)≤z7∧z7<z5∧0+x.toNat≤a.length∧a.length=a.length∧z8<a.length∧(z9=true→inR .i64 z7∧a.length=a.length∧(0:Int)≤z7∧0≤z7.toNat∧z7.toNat≤x.toNat∧(((SV.os 0 0 z10 a.length 1).same (SV.os 0 0 z11.toNat a.length 1)∧True)∧z2.same z2∧True)∧((0:Int)≤z11∧z11≤z0∧valN (List.take z11.toNat a)=valN a)∧z11.toNat<x.toNat)∧(z9=false→a.length=a.length∧0+x.toNat≤a.length∧0=0∧z12*4≤140737488355328∧z12≤1000000000000∧z4.length=z4.length∧(SV.row z1 z4).same z3∧z2.same z2∧True))∧(z6=false→a.length=a.length∧0+x.toNat≤a.length∧0=0∧z12*4≤140737488355328∧z12≤1000000000000∧z4.length=z4.length∧(SV.row z1 z4).same z3∧z2.same z2∧True)) (by kernel_rfl) ?_
 simp only[vcs]
 refine⟨⟨rfl,⟨by omega,by omega,by rw[Int.toNat_natCast,List.take_length]⟩⟩,?_⟩
 rintro n ⟨n0,n1,hv⟩
 have hll:(a.take n.toNat).length=n.toNat:=by simp;omega
 have t1:0+((n.toNat:Int) - 1).toNat=n.toNat - 1:=by omega
 have hnth:nthD a (n.toNat - 1) 0=nthD (a.take n.toNat) (n.toNat - 1) 0∨n.toNat=0:=by
  by_cases h:n.toNat=0
  ·exact .inr h
  ·left
   unfold nthD
   rw[List.getElem?_take,if_pos (by omega)]
 have dl:=dig_take ha n.toNat
 have fin:(n.toNat=0∨nthD a (n.toNat - 1) 0≠0)→a.take n.toNat=natL (valN a):=fun h=>by
  rw[←hv,natL_val dl (nrm_of ?_)]
  rw[hll]
  rcases h with h|h
  ·exact .inl h
  ·rcases hnth with h2|h2
   ·exact .inr (by rw[←h2];exact h)
   ·exact .inl h2
 rw[t1,hll]
 refine⟨fun hp=>⟨by omega,by omega,by omega,by omega,by omega,fun hz=>?_,fun hz=>?_⟩,fun hp=>?_⟩
 ·have hnl:nthD (a.take n.toNat) (n.toNat - 1) 0=0:=by
   rcases hnth with h|h
   ·rw[←h];exact hz
   ·omega
  have hlast:=tr_last (l:=a.take n.toNat) (by omega) (by rw[hll];exact hnl)
  rw[hll,List.take_take,Nat.min_eq_left (by omega),hv] at hlast
  have e:(n.toNat:Int).toNat - 1=n.toNat - 1:=by omega
  have e2:((n.toNat:Int) - 1).toNat - 0=n.toNat - 1:=by omega
  repeat' refine And.intro ?_ ?_
  all_goals first|omega|rfl|(rw[e2];rfl)|(simp only[e2];exact hlast)|skip
 ·have:=fin (.inr hz)
  repeat' refine And.intro ?_ ?_
  all_goals first|omega|exact this|(rw[this];rfl)
 ·have:=fin (.inl (by omega))
  repeat' refine And.intro ?_ ?_
  all_goals first|omega|exact this|(rw[this];rfl)
theorem h136:Holds Tryz.prog r136:=by
 refine con (L:=[]) (W:=ownT [r140o]) r136 F136 Λ136 (ownT_ok (by simpa using h140o)) (by simp) (by kernel_rfl) (by kernel_rfl) (fun _=>rfl) ?_
 rintro⟨a,n⟩ ⟨ha,hl,n0,n1⟩
 simp only at ha hl n0 n1
 refine vcOf (let z0:=SId.i .u32;let z1:=SV.ow 0 0 1;let z2:=SObj.row z0 [] 63 true;((((SV.row z0 a).same (SV.row z0 a)∧(SV.si .i64 n).same (SV.si .i64 n)∧z1.same z1∧(SV.il .i64 0).same (SV.si .i64 0)∧True)∧z2.same z2∧True)∧(0:Int)≤(0:Int)∧(0:Int)≤n)∧∀(x:Int),let z3:=List.replicate x.toNat (0:Int);let z4:=z3.length+1;let z5:=x+(1:Int);let z6:=SV.si .i64 z5;let z7:=z3.length+a.length;(0:Int)≤x∧x≤n→(decide (x<n)=true→x.toNat=z3.length∧z4*4≤140737488355328∧z4≤1000000000000∧inR .i64 z5∧(((SV.row z0 a).same (SV.row z0 a)∧(SV.si .i64 n).same (SV.si .i64 n)∧(SV.ow 0 (z3++[(0:Int)]).length 1).same (SV.ow 0 z5.toNat 1)∧z6.same z6∧True)∧(SObj.row z0 (z3++[(0:Int)]) 63 true).same (SObj.row z0 (List.replicate z5.toNat (0:Int)) 63 true)∧True)∧((0:Int)≤z5∧z5≤n)∧(n - z5).toNat<(n - x).toNat)∧(decide (x<n)=false→x.toNat=z3.length∧z7*4≤140737488355328∧z7≤1000000000000∧((z3++a).length=(z3++a).length∧Dig (z3++a)∧(z3++a).length≤100000000000)∧(SV.row z0 (natL (valN (z3++a)))).same (SV.row z0 (natL (valN a*(4294967296:Int)^n.toNat))))) (by kernel_rfl) ?_
 simp only[vcs]
 refine⟨⟨by omega,by omega⟩,?_⟩
 rintro i ⟨i0,i1⟩
 have hr:(List.replicate i.toNat (0:Int)).length=i.toNat:=by simp
 have hrs:List.replicate i.toNat (0:Int)++[0]=List.replicate (i+1).toNat 0:=by rw[show(i+1).toNat=i.toNat+1 by omega,List.replicate_succ']
 have hda:(List.replicate i.toNat (0:Int)++a).length=i.toNat+a.length:=by simp
 have hl2:@List.length (SId.T (.i .u32)) a≤10000000000:=hl
 rw[hrs]
 refine⟨fun hi=>?_,fun hi=>?_⟩
 ·repeat' refine And.intro ?_ ?_
  all_goals first|omega|exact howN (by simp)|rfl
 ·rw[rep_app,hda,show i.toNat=n.toNat by omega]
  simp only[List.length_replicate]
  repeat' refine And.intro ?_ ?_
  all_goals first|omega|exact dig_app rep_dig ha|rfl|trivial
def r137:SCtr:=⟨100,List Int×Int,.cons (codR (.i .u32)) (.one (codI .u64)),fun a=>Dig a.1∧a.1.length≤10000000000∧0≤a.2∧a.2<4294967296,fun a=> .row (.i .u32) (natL (valN a.1*a.2))⟩
def Λ137 (a:List Int×Int):Nat→LoopAnn
 |4=> .inv (Int×Int×List Int) (fun x=>⟨[(0,.row (.i .u32) a.1),(1,.si .u64 a.2),(5,.ow 0 x.2.2.length 1),(6,.si .u64 x.2.1),(7,.si .i64 x.1)],[.row (.i .u32) x.2.2 63 true]⟩)
  (fun s=>(iS s 7,iS s 6,oS (.i .u32) s 0))
  (fun x=>(0≤x.1∧x.1≤(a.1.length:Int)+1)∧(0≤x.2.1∧x.2.1<4294967296)∧(Dig x.2.2∧(x.2.2.length:Int)=x.1)∧valN x.2.2+4294967296^x.1.toNat*x.2.1=valN (a.1.take x.1.toNat)*a.2)
  (fun x=>((a.1.length:Int)+1 - x.1).toNat) fun _ _=> .look
 |_=> .look
theorem h137:Holds Tryz.prog r137:=by
 refine con (L:=[r139,r140]) r137 F137 Λ137 (OwnOK.none _) (by simpa using⟨h139,h140⟩) (by kernel_rfl) (by kernel_rfl) (fun _=>rfl) ?_
 rintro⟨a,d⟩ ⟨ha,hla,d0,d1⟩
 simp only at ha hla d0 d1
 refine vcOf (let z0:=SId.i .u32;let z1:=SV.ow 0 0 1;let z2:=SObj.row z0 [] 63 true;let z3:=(↑a.length:Int)+(1:Int);((((SV.row z0 a).same (SV.row z0 a)∧(SV.si .u64 d).same (SV.si .u64 d)∧z1.same z1∧(SV.il .u64 0).same (SV.si .u64 0)∧(SV.il .i64 0).same (SV.si .i64 0)∧True)∧z2.same z2∧True)∧((0:Int)≤(0:Int)∧(0:Int)≤z3)∧((0:Int)≤(0:Int)∧(0:Int)<(4294967296:Int))∧(Dig []∧(0:Int)=(0:Int))∧(0:Int)=valN []*d)∧∀(x:Int×Int×List Int),let z4:=x.snd.snd.length;let z5:=decide (x.fst≤(↑a.length:Int));let z6:=x.snd.snd.length+1;let z7:=(nthD a x.fst.toNat (0:Int)*d % (18446744073709551616:Int)+x.snd.fst) % (18446744073709551616:Int);let z8:=z7.tdiv (4294967296:Int);let z9:=x.fst+(1:Int);let z10:=x.snd.snd++[z7.tmod (4294967296:Int) % (4294967296:Int)];let z11:=SV.si .u64 z8;let z12:=SV.si .i64 z9;let z13:=SObj.row z0 z10 63 true;((0:Int)≤x.fst∧x.fst≤z3)∧((0:Int)≤x.snd.fst∧x.snd.fst<(4294967296:Int))∧(Dig x.snd.snd∧(↑z4:Int)=x.fst)∧valN x.snd.snd+(4294967296:Int)^x.fst.toNat*x.snd.fst=valN (List.take x.fst.toNat a)*d→(z5=true→(Dig a∧(0:Int)≤x.fst)∧(4294967296:Int)≠(0:Int)∧z4=x.snd.snd.length∧z6*4≤140737488355328∧z6≤1000000000000∧(4294967296:Int)≠(0:Int)∧inR .u64 z8∧inR .i64 z9∧(((SV.row z0 a).same (SV.row z0 a)∧(SV.si .u64 d).same (SV.si .u64 d)∧(SV.ow 0 z10.length 1).same (SV.ow 0 z10.length 1)∧z11.same z11∧z12.same z12∧True)∧z13.same z13∧True)∧(((0:Int)≤z9∧z9≤z3)∧((0:Int)≤z8∧z8<(4294967296:Int))∧(Dig z10∧(↑z10.length:Int)=z9)∧valN z10+(4294967296:Int)^z9.toNat*z8=valN (List.take z9.toNat a)*d)∧(z3 - z9).toNat<(z3 - x.fst).toNat)∧(z5=false→z4=x.snd.snd.length∧(Dig x.snd.snd∧z4≤100000000000)∧(SV.row z0 (natL (valN x.snd.snd))).same (SV.row z0 (natL (valN a*d))))) (by kernel_rfl) ?_
 simp only[vcs]
 refine⟨⟨by omega,by omega,by simp[Dig],by simp[valN]⟩,?_⟩
 rintro⟨i,c,out⟩ ⟨⟨i0,i1⟩,⟨c0,c1⟩,⟨ho,hlo⟩,hv⟩
 simp only at i0 i1 c0 c1 ho hlo hv ⊢
 refine⟨fun hi=>?_,fun hi=>?_⟩
 ·have x:=dig_nth ha i.toNat
  have t0:0≤nthD a i.toNat 0*d:=Int.mul_nonneg x.1 d0
  have t1:nthD a i.toNat 0*d≤4294967295*4294967295:=Int.mul_le_mul (by omega) (by omega) d0 (by omega)
  have e1:(nthD a i.toNat 0*d % 18446744073709551616+c) % 18446744073709551616=nthD a i.toNat 0*d+c:=by omega
  have e2:(i+1).toNat=i.toNat+1:=by omega
  rw[e1,e2,Int.tdiv_eq_ediv_of_nonneg (by omega),Int.tmod_eq_emod_of_nonneg (by omega)]
  have hval:valN (out++[(nthD a i.toNat 0*d+c) % 4294967296 % 4294967296])+4294967296^(i.toNat+1)*((nthD a i.toNat 0*d+c) / 4294967296)=valN (a.take (i.toNat+1))*d:=by
   rw[val_snoc,take_snoc0,show out.length=i.toNat by omega,Int.pow_succ,Int.add_mul,Int.mul_assoc (4294967296^i.toNat) (nthD a i.toNat 0) d]
   generalize (4294967296:Int)^i.toNat=B at*
   generalize hs:nthD a i.toNat 0*d=s at*
   have e:B*4294967296*((s+c) / 4294967296)=B*(s+c - (s+c) % 4294967296 % 4294967296):=by rw[Int.mul_assoc];congr 1;omega
   rw[e]
   simp only[Int.mul_add,Int.mul_sub]
   omega
  have hdg:Dig (out++[(nthD a i.toNat 0*d+c) % 4294967296 % 4294967296]):=dig_app ho (dig_one (by omega) (by omega))
  repeat' refine And.intro ?_ ?_
  all_goals first|omega|exact ha|exact u64_in (by omega) (by omega)|exact hval|exact hdg|(simp;omega)
 ·have hi2:i.toNat=a.length+1:=by omega
  rw[hi2,List.take_of_length_le (by omega)] at hv
  have hn:=val_nonneg ho
  have hb:=val_bdN ha
  have hc:c=0:=by
   by_cases h:c=0
   ·exact h
   ·have h1:=Int.mul_le_mul_of_nonneg_left (show(1:Int)≤c by omega) (Int.le_of_lt (pow_pos (a.length+1)))
    have h2:valN a*d<4294967296^a.length*4294967296:=Int.lt_of_le_of_lt (Int.mul_le_mul_of_nonneg_left (Int.le_of_lt d1) (val_nonneg ha)) (Int.mul_lt_mul_of_pos_right hb (by decide))
    rw[Int.mul_one,Int.pow_succ] at h1
    rw[Int.pow_succ] at hv
    omega
  rw[hc,Int.mul_zero,Int.add_zero] at hv
  rw[hv]
  repeat' refine And.intro ?_ ?_
  all_goals first|omega|exact ho|rfl
def r104:SCtr:=⟨92,List Int×List Int,.cons (codR (.i .u32)) (.one (codR (.i .u32))),fun a=>(Dig a.1∧Dig a.2)∧a.1.length≤1000000000∧a.2.length≤1000000000,fun a=> .row (.i .u32) (natL (valN a.1*valN a.2))⟩
def Λ104 (a:List Int×List Int):Nat→LoopAnn
 |3=> .inv (Int×List Int) (fun x=>⟨[(0,.row (.i .u32) a.1),(1,.row (.i .u32) a.2),(5,.row (.i .u32) x.2),(6,.si .i64 x.1)],[.dead]⟩)
  (fun s=>(iS s 6,rS (.i .u32) s 5))
  (fun x=>(0≤x.1∧x.1≤(a.2.length:Int))∧x.2=natL (valN a.1*valN (a.2.take x.1.toNat))) (fun x=>((a.2.length:Int) - x.1).toNat) fun _ _=> .look
 |_=> .look
theorem h104:Holds Tryz.prog r104:=by
 refine con (L:=[r106,r136,r137]) r104 F104 Λ104 (OwnOK.none _) (by simpa using⟨h106,h136,h137⟩) (by kernel_rfl) (by kernel_rfl) (fun _=>rfl) ?_
 rintro⟨a,b⟩ ⟨⟨ha,hb⟩,hla,hlb⟩
 simp only at ha hb hla hlb
 refine vcOf (let z0:=SId.i .u32;let z1:=(↑b.length:Int);0=0∧((((SV.row z0 a).same (SV.row z0 a)∧(SV.row z0 b).same (SV.row z0 b)∧(SV.row z0 []).same (SV.row z0 [])∧(SV.il .i64 0).same (SV.si .i64 0)∧True)∧SObj.dead.same SObj.dead∧True)∧((0:Int)≤(0:Int)∧(0:Int)≤z1)∧[]=natL (valN a*valN []))∧∀(x:Int×List Int),let z2:=x.fst.toNat;let z3:=decide (x.fst<(↑b.length:Int));let z4:=nthD b z2 (0:Int) % (18446744073709551616:Int);let z5:=natL (valN a*z4);let z6:=natL (valN z5*(4294967296:Int)^z2);let z7:=x.fst+(1:Int);let z8:=natL (valN x.snd+valN z6);let z9:=SV.si .i64 z7;((0:Int)≤x.fst∧x.fst≤z1)∧x.snd=natL (valN a*valN (List.take z2 b))→(z3=true→(0:Int)≤x.fst∧x.fst<(↑b.length:Int)∧z2<b.length∧(Dig a∧a.length≤10000000000∧(0:Int)≤z4∧z4<(4294967296:Int))∧(Dig z5∧z5.length≤10000000000∧(0:Int)≤x.fst∧x.fst≤(10000000000:Int))∧((Dig x.snd∧Dig z6)∧x.snd.length≤10000000000∧z6.length≤10000000000)∧inR .i64 z7∧(((SV.row z0 a).same (SV.row z0 a)∧(SV.row z0 b).same (SV.row z0 b)∧(SV.row z0 z8).same (SV.row z0 z8)∧z9.same z9∧True)∧SObj.dead.same SObj.dead∧True)∧(((0:Int)≤z7∧z7≤z1)∧z8=natL (valN a*valN (List.take z7.toNat b)))∧(z1 - z7).toNat<(z1 - x.fst).toNat)∧(z3=false→(SV.row z0 x.snd).same (SV.row z0 (natL (valN a*valN b))))) (by kernel_rfl) ?_
 simp only[vcs]
 have pa:=val_nonneg ha
 refine⟨⟨⟨by omega,by omega⟩,by simp[valN,natL,natF]⟩,?_⟩
 rintro⟨i,o⟩ ⟨⟨i0,i1⟩,ho⟩
 simp only at i0 i1 ho ⊢
 subst ho
 have pb:=val_nonneg (dig_take hb i.toNat)
 have hb1:=val_bdN (dig_take hb i.toNat)
 rw[List.length_take,Nat.min_eq_left (by omega)] at hb1
 have ha1:=val_bdN ha
 have pab:=Int.mul_nonneg pa pb
 obtain⟨u1,u2,u3⟩:=natL_ok pab
 have ul:=mul_len pa pb ha1 hb1
 refine⟨fun hi=>?_,fun hi=>?_⟩
 ·have x:=dig_nth hb i.toNat
  have e1:nthD b i.toNat 0 % 18446744073709551616=nthD b i.toNat 0:=by omega
  have e2:(i+1).toNat=i.toNat+1:=by omega
  have p1:=Int.mul_nonneg pa x.1
  obtain⟨w1,w2,w3⟩:=natL_ok p1
  have wl:=mul_len (j:=1) pa x.1 ha1 (by rw[Int.pow_succ,Int.pow_zero,Int.one_mul];exact x.2)
  have p2:0≤valN a*nthD b i.toNat 0*4294967296^i.toNat:=Int.mul_nonneg p1 (Int.le_of_lt (pow_pos _))
  obtain⟨z1,z2,z3⟩:=natL_ok p2
  have zl:=mul_len (j:=i.toNat+1) p1 (Int.le_of_lt (pow_pos i.toNat)) (show valN a*nthD b i.toNat 0<4294967296^(a.length+1) from mul_lt_pow pa ha1 (by rw[Int.pow_succ,Int.pow_zero,Int.one_mul];exact x.2)) (by
   have:=pow_pos i.toNat
   rw[Int.pow_succ];omega)
  have hfin:valN a*valN (b.take i.toNat)+valN a*nthD b i.toNat 0*4294967296^i.toNat=valN a*valN (b.take (i.toNat+1)):=by
   rw[take_snoc0,Int.mul_add,Int.mul_assoc (valN a) (nthD b i.toNat 0),Int.mul_comm (nthD b i.toNat 0)]
  rw[e1,e2,w1,z1,u1,hfin]
  repeat' refine And.intro ?_ ?_
  all_goals first|omega|exact ha|exact w2|exact u2|exact z2|rfl
 ·rw[show i.toNat=b.length by omega,List.take_length]
theorem nth_div:∀{j:Nat} {a:List Int},Dig a→valN a / 4294967296^j % 4294967296=nthD a j 0
 |0,a,h=>by
  have:=dig_nth h 0
  rw[val_tl a,Int.pow_zero,Int.ediv_one]
  omega
 |j+1,a,h=>by
  have h0:=dig_nth h 0
  have ih:=@nth_div j a.tail (dig_tl h)
  have e:valN a / 4294967296=valN a.tail:=by rw[val_tl a];omega
  rw[Int.pow_succ,Int.mul_comm (4294967296^j),←Int.ediv_ediv_of_nonneg (by decide),e,ih,nth_tl]
theorem two_split {q r:Nat}:(2:Int)^(32*q+r)=4294967296^q*2^r:=by
 rw[Int.pow_add,Int.pow_mul]
 rfl
theorem cut_div {x:Int} {r m:Nat} (hr:r≤m):x % 2^m / 2^r=x / 2^r % 2^(m - r):=by
 obtain⟨k,rfl⟩:=Nat.exists_eq_add_of_le hr
 have h1:(0:Int)<2^r:=Int.pow_pos (by decide)
 have h2:(0:Int)<2^k:=Int.pow_pos (by decide)
 rw[Nat.add_sub_cancel_left,Int.pow_add]
 have e1:=Int.mul_ediv_add_emod x (2^r)
 have e2:=Int.mul_ediv_add_emod (x / 2^r) (2^k)
 have m1:=Int.emod_nonneg x (show(2:Int)^r≠0 by omega)
 have m2:=Int.emod_lt_of_pos x h1
 have m3:=Int.emod_nonneg (x / 2^r) (show(2:Int)^k≠0 by omega)
 have m4:=Int.emod_lt_of_pos (x / 2^r) h2
 generalize x / 2^r % 2^k=s at*
 generalize x / 2^r / 2^k=t at*
 generalize x / 2^r=y at*
 generalize x % 2^r=u at*
 have hx:x=(2^r*s+u)+(2^r*2^k)*t:=by
  rw[←e1,←e2,Int.mul_add,Int.mul_assoc]
  omega
 have hlt:2^r*s+u<2^r*2^k:=by
  have:=Int.mul_le_mul_of_nonneg_left (show s+1≤2^k by omega) (Int.le_of_lt h1)
  rw[Int.mul_add,Int.mul_one] at this
  omega
 have hnn:0≤2^r*s+u:=by
  have:=Int.mul_nonneg (Int.le_of_lt h1) m3
  omega
 rw[hx,Int.add_mul_emod_self_left,Int.emod_eq_of_lt hnn hlt,Int.add_comm,Int.add_mul_ediv_left _ _ (by omega),Int.ediv_eq_zero_of_lt m1 m2,Int.zero_add]
theorem mod_mod_two {x:Int} {j k:Nat} (h:j≤k):x % 2^k % 2^j=x % 2^j:=by
 obtain⟨m,rfl⟩:=Nat.exists_eq_add_of_le h
 rw[Int.pow_add]
 exact Int.emod_emod_of_dvd _ (Int.dvd_mul_right _ _)
def bitQ (v:Int) (i:Nat):Int:=v / 2^i % 2
theorem bit_eq {a:List Int} {i:Nat} (h:Dig a):nthD a (i / 32) 0 / 2^(i % 32) % 2=bitQ (valN a) i:=by
 unfold bitQ
 have e:(2:Int)^i=4294967296^(i / 32)*2^(i % 32):=by
  rw[←two_split];congr 1;omega
 have h1:(0:Int)<4294967296^(i / 32):=pow_pos _
 rw[e,←Int.ediv_ediv_of_nonneg (Int.le_of_lt h1),←nth_div h]
 have:=cut_div (x:=valN a / 4294967296^(i / 32)) (r:=i % 32) (m:=32) (by omega)
 rw[show(2:Int)^32=4294967296 from rfl] at this
 rw[this]
 have h2:=mod_mod_two (x:=valN a / 4294967296^(i / 32) / 2^(i % 32)) (j:=1) (k:=32 - i % 32) (by omega)
 rwa [show(2:Int)^1=2 from rfl] at h2
theorem dig2 {a:List Int} {i r:Nat} (h:Dig a) (hr:r<32):(nthD a i 0+nthD a (i+1) 0*4294967296) / 2^r % 4294967296=valN a / 2^(32*i+r) % 4294967296:=by
 have h1:(0:Int)<4294967296^i:=pow_pos _
 rw[two_split,←Int.ediv_ediv_of_nonneg (Int.le_of_lt h1),←nth_div h,←nth_div h,Int.pow_succ,←Int.ediv_ediv_of_nonneg (Int.le_of_lt h1)]
 generalize valN a / 4294967296^i=y
 have e:y % 4294967296+y / 4294967296 % 4294967296*4294967296=y % 18446744073709551616:=by omega
 rw[e]
 have:=cut_div (x:=y) (r:=r) (m:=64) (by omega)
 rw[show(2:Int)^64=18446744073709551616 from rfl] at this
 rw[this]
 have h2:=mod_mod_two (x:=y / 2^r) (j:=32) (k:=64 - r) (by omega)
 rwa [show(2:Int)^32=4294967296 from rfl] at h2
def bitsN (v:Int):Int:=if v=0 then 0 else(v.toNat.log2+1:Nat)
theorem two_mono {a b:Nat} (h:a≤b):(2:Int)^a≤2^b:=by
 obtain⟨m,rfl⟩:=Nat.exists_eq_add_of_le h
 rw[Int.pow_add]
 have q1:(0:Int)<2^a:=Int.pow_pos (by decide)
 have q2:(0:Int)<2^m:=Int.pow_pos (by decide)
 have:=Int.mul_le_mul_of_nonneg_left (show(1:Int)≤2^m by omega) (Int.le_of_lt q1)
 rwa [Int.mul_one] at this
theorem bits_ok {v:Int} (h:0≤v):0≤bitsN v∧v<2^(bitsN v).toNat∧(bitsN v=0∨2^((bitsN v).toNat - 1)≤v):=by
 unfold bitsN
 split
 ·rename_i h0;subst h0;simp
 ·rename_i h0
  have h1:=@Nat.lt_log2_self v.toNat
  have h2:=Nat.log2_self_le (show v.toNat≠0 by omega)
  have c:∀k:Nat,((2^k:Nat):Int)=2^k:=fun k=>by push_cast;rfl
  refine⟨by omega,?_,.inr ?_⟩
  ·rw[Int.toNat_natCast,←c];omega
  ·rw[Int.toNat_natCast,←c,Nat.add_sub_cancel];omega
theorem bits_eq {v:Int} {n:Nat} (h0:0≤v) (h1:v<2^n) (h2:n=0∨2^(n - 1)≤v):(n:Int)=bitsN v:=by
 obtain⟨b0,b1,b2⟩:=bits_ok h0
 by_cases hlt:n<(bitsN v).toNat
 ·rcases b2 with b2|b2
  ·omega
  ·have:=two_mono (show n≤(bitsN v).toNat - 1 by omega)
   omega
 ·by_cases hgt:(bitsN v).toNat<n
  ·rcases h2 with h2|h2
   ·omega
   ·have:=two_mono (show(bitsN v).toNat≤n - 1 by omega)
    omega
  ·omega
def r162:SCtr:=⟨79,List Int×Int,.cons (codR (.i .u32)) (.one (codI .i64)),fun a=>Dig a.1∧0≤a.2∧a.2≤1000000000000,fun a=> .si .u64 (bitQ (valN a.1) a.2.toNat)⟩
theorem h162:Holds Tryz.prog r162:=by
 refine con (L:=[r139]) r162 F162 (fun _ _=> .look) (OwnOK.none _) (by simpa using h139) (by kernel_rfl) (by kernel_rfl) (fun _=>rfl) ?_
 rintro⟨a,i⟩ ⟨ha,hi,hi2⟩
 simp only at ha hi hi2
 refine vcOf (let z0:=i.tdiv (32:Int);let z1:=i.tmod (32:Int);let z2:=(1:Int)*(2:Int)^z1.toNat % (18446744073709551616:Int);let z3:=(nthD a z0.toNat (0:Int)).tdiv z2;(32:Int)≠(0:Int)∧inR .i64 z0∧(Dig a∧(0:Int)≤z0)∧(32:Int)≠(0:Int)∧(0:Int)≤z1∧z1≤(64:Int)∧z2≠(0:Int)∧inR .u64 z3∧(2:Int)≠(0:Int)∧(SV.si .u64 (z3.tmod (2:Int))).same (SV.si .u64 (bitQ (valN a) i.toNat))) (by kernel_rfl) ?_
 simp only[vcs]
 rw[Int.tdiv_eq_ediv_of_nonneg hi,Int.tmod_eq_emod_of_nonneg hi]
 have t1:(i / 32).toNat=i.toNat / 32:=by omega
 have t2:(i % 32).toNat=i.toNat % 32:=by omega
 have hp:(0:Int)<2^(i.toNat % 32):=Int.pow_pos (by decide)
 have hp2:=two_mono (show i.toNat % 32≤32 by omega)
 rw[show(2:Int)^32=4294967296 from rfl] at hp2
 have t3:1*2^(i.toNat % 32) % 18446744073709551616=(2:Int)^(i.toNat % 32):=by omega
 have hd:=dig_nth ha (i.toNat / 32)
 have hq:0≤nthD a (i.toNat / 32) 0 / 2^(i.toNat % 32):=Int.ediv_nonneg hd.1 (Int.le_of_lt hp)
 have hq2:nthD a (i.toNat / 32) 0 / 2^(i.toNat % 32)≤nthD a (i.toNat / 32) 0:=Int.ediv_le_self _ hd.1
 rw[t1,t2,t3,Int.tdiv_eq_ediv_of_nonneg hd.1,Int.tmod_eq_emod_of_nonneg hq,bit_eq ha]
 repeat' refine And.intro ?_ ?_
 all_goals first|omega|exact ha|exact u64_in hq (by omega)|rfl
def r160:SCtr:=⟨75,List Int,.one (codR (.i .u32)),fun a=>Dig a∧a.length≤10000000000,fun a=> .si .i64 (bitsN (valN a))⟩
def Λ160 (a:List Int):Nat→LoopAnn
 |2=> .inv Int (fun n=>⟨[(0,.row (.i .u32) a),(3,.si .i64 n)],[]⟩) (fun s=>iS s 3) (fun n=>0≤n∧n≤32*(a.length:Int)∧valN a<2^n.toNat) (fun n=>n.toNat) fun _ _=> .look
 |_=> .look
theorem h160:Holds Tryz.prog r160:=by
 refine con (L:=[r162]) r160 F160 Λ160 (OwnOK.none _) (by simpa using h162) (by kernel_rfl) (by kernel_rfl) (fun _=>rfl) ?_
 intro(a:List Int) h
 obtain⟨ha,hl⟩:Dig a∧a.length≤10000000000:=h
 refine vcOf (let z0:=(32:Int)*(↑a.length:Int);let z1:=SV.row (SId.i .u32) a;let z2:=SV.si .i64 z0;let z3:=(32:Int)*(↑a.length:Int);let z4:=SV.si .i64 (bitsN (valN a));inR .i64 z0∧(((z1.same z1∧z2.same z2∧True)∧True)∧(0:Int)≤z0∧z0≤z3∧valN a<(2:Int)^z0.toNat)∧∀(x:Int),let z5:=decide ((0:Int)<x);let z6:=x - (1:Int);let z7:=decide (bitQ (valN a) z6.toNat=(0:Int));let z8:=SV.si .i64 z6;(0:Int)≤x∧x≤z3∧valN a<(2:Int)^x.toNat→(z5=true→inR .i64 z6∧(Dig a∧(0:Int)≤z6∧z6≤(1000000000000:Int))∧(z7=true→inR .i64 z6∧((z1.same z1∧z8.same z8∧True)∧True)∧((0:Int)≤z6∧z6≤z3∧valN a<(2:Int)^z6.toNat)∧z6.toNat<x.toNat)∧(z7=false→(SV.si .i64 x).same z4))∧(z5=false→(SV.si .i64 x).same z4)) (by kernel_rfl) ?_
 simp only[vcs]
 have pa:=val_nonneg ha
 refine⟨by omega,⟨by omega,by omega,?_⟩,?_⟩
 ·have:=val_bdN ha
  have e:(32*(a.length:Int)).toNat=32*a.length+0:=by omega
  rw[e,two_split]
  omega
 rintro n ⟨n0,n1,hv⟩
 refine⟨fun hn=>⟨by omega,⟨ha,by omega,by omega⟩,fun hb=>⟨by omega,⟨by omega,by omega,?_⟩,by omega⟩,fun hb=>?_⟩,fun hn=>?_⟩
 ·have e:n.toNat=(n - 1).toNat+1:=by omega
  rw[e,Int.pow_succ] at hv
  unfold bitQ at hb
  generalize (n - 1).toNat=m at*
  have hp:(0:Int)<2^m:=Int.pow_pos (by decide)
  have h1:valN a / 2^m<2:=Int.ediv_lt_of_lt_mul hp (by rw[Int.mul_comm];exact hv)
  have h2:0≤valN a / 2^m:=Int.ediv_nonneg pa (Int.le_of_lt hp)
  have h3:valN a / 2^m=0:=by omega
  have h4:=Int.mul_ediv_add_emod (valN a) (2^m)
  have h5:=Int.emod_lt_of_pos (valN a) hp
  rw[h3,Int.mul_zero] at h4
  omega
 ·have:=bits_eq pa hv (.inr ?_)
  ·omega
  ·by_cases h:2^(n.toNat - 1)≤valN a
   ·exact h
   ·exfalso
    apply hb
    unfold bitQ
    rw[show(n - 1).toNat=n.toNat - 1 by omega,Int.ediv_eq_zero_of_lt pa (by omega)]
    rfl
 ·have:=bits_eq pa hv (.inl (by omega))
  omega
def r161:SCtr:=⟨76,List Int×Int,.cons (codR (.i .u32)) (.one (codI .i64)),fun a=>(Dig a.1∧a.1.length≤10000000000)∧0≤a.2∧a.2≤1000000000000,fun a=> .row (.i .u32) (natL (valN a.1 / 2^a.2.toNat))⟩
def Λ161 (a:List Int×Int):Nat→LoopAnn
 |3=> .inv (Int×List Int) (fun x=>⟨[(0,.row (.i .u32) a.1),(1,.si .i64 a.2),(5,.ow 0 x.2.length 1),(6,.si .i64 x.1)],[.row (.i .u32) x.2 63 true]⟩) (fun s=>(iS s 6,oS (.i .u32) s 0))
  (fun x=>(a.2 / 32≤x.1∧x.1≤max (a.2 / 32) a.1.length)∧Dig x.2∧(x.2.length:Int)=x.1 - a.2 / 32∧valN x.2=valN a.1 / 2^a.2.toNat % 4294967296^x.2.length) (fun x=>(max (a.2 / 32) a.1.length - x.1).toNat) fun _ _=> .look
 |_=> .look
theorem h161:Holds Tryz.prog r161:=by
 refine con (L:=[r139,r140]) r161 F161 Λ161 (OwnOK.none _) (by simpa using⟨h139,h140⟩) (by kernel_rfl) (by kernel_rfl) (fun _=>rfl) ?_
 rintro⟨a,k⟩ ⟨⟨ha,hla⟩,k0,k1⟩
 simp only at ha hla k0 k1
 refine vcOf (let z0:=k.tdiv (32:Int);let z1:=SId.i .u32;let z2:=SV.ow 0 0 1;let z3:=SV.si .i64 z0;let z4:=SObj.row z1 [] 63 true;let z5:=k / (32:Int);let z6:=max z5 (↑a.length:Int);let z7:=valN a / (2:Int)^k.toNat;let z8:=k.tmod (32:Int);let z9:=(1:Int)*(2:Int)^z8.toNat % (18446744073709551616:Int);(32:Int)≠(0:Int)∧inR .i64 z0∧((((SV.row z1 a).same (SV.row z1 a)∧(SV.si .i64 k).same (SV.si .i64 k)∧z2.same z2∧z3.same z3∧True)∧z4.same z4∧True)∧(z5≤z0∧z0≤z6)∧Dig []∧(0:Int)=z0 - z5∧valN []=z7 % (1:Int))∧∀(x:Int×List Int),let z10:=x.snd.length;let z11:=decide (x.fst<(↑a.length:Int));let z12:=x.fst+(1:Int);let z13:=((nthD a x.fst.toNat (0:Int)+nthD a z12.toNat (0:Int)*(4294967296:Int) % (18446744073709551616:Int)) % (18446744073709551616:Int)).tdiv z9;let z14:=x.snd.length+1;let z15:=x.snd++[z13.tmod (4294967296:Int) % (4294967296:Int)];let z16:=SV.si .i64 z12;let z17:=SObj.row z1 z15 63 true;(z5≤x.fst∧x.fst≤z6)∧Dig x.snd∧(↑z10:Int)=x.fst - z5∧valN x.snd=z7 % (4294967296:Int)^z10→(z11=true→(Dig a∧(0:Int)≤x.fst)∧inR .i64 z12∧(Dig a∧(0:Int)≤z12)∧(32:Int)≠(0:Int)∧(0:Int)≤z8∧z8≤(64:Int)∧z9≠(0:Int)∧inR .u64 z13∧(4294967296:Int)≠(0:Int)∧z10=x.snd.length∧z14*4≤140737488355328∧z14≤1000000000000∧inR .i64 z12∧(((SV.row z1 a).same (SV.row z1 a)∧(SV.si .i64 k).same (SV.si .i64 k)∧(SV.ow 0 z15.length 1).same (SV.ow 0 z15.length 1)∧z16.same z16∧True)∧z17.same z17∧True)∧((z5≤z12∧z12≤z6)∧Dig z15∧(↑z15.length:Int)=z12 - z5∧valN z15=z7 % (4294967296:Int)^z15.length)∧(z6 - z12).toNat<(z6 - x.fst).toNat)∧(z11=false→z10=x.snd.length∧(Dig x.snd∧z10≤100000000000)∧(SV.row z1 (natL (valN x.snd))).same (SV.row z1 (natL z7)))) (by kernel_rfl) ?_
 simp only[vcs]
 rw[Int.tdiv_eq_ediv_of_nonneg k0,Int.tmod_eq_emod_of_nonneg k0]
 have pa:=val_nonneg ha
 have t2:(k % 32).toNat=k.toNat % 32:=by omega
 have hp:(0:Int)<2^(k.toNat % 32):=Int.pow_pos (by decide)
 have hp2:=two_mono (show k.toNat % 32≤32 by omega)
 rw[show(2:Int)^32=4294967296 from rfl] at hp2
 have t3:1*2^(k.toNat % 32) % 18446744073709551616=(2:Int)^(k.toNat % 32):=by omega
 have hpk:(0:Int)<2^k.toNat:=Int.pow_pos (by decide)
 have pX:0≤valN a / 2^k.toNat:=Int.ediv_nonneg pa (Int.le_of_lt hpk)
 refine⟨by omega,by omega,⟨⟨by omega,by omega⟩,by simp[Dig],by omega,by rw[Int.emod_one];rfl⟩,?_⟩
 rintro⟨i,out⟩ ⟨⟨i0,i1⟩,ho,hlo,hv⟩
 simp only at i0 i1 ho hlo hv ⊢
 rw[t2,t3]
 refine⟨fun hi=>?_,fun hi=>?_⟩
 ·have x:=dig_nth ha i.toNat
  have y:=dig_nth ha (i.toNat+1)
  have e1:(i+1).toNat=i.toNat+1:=by omega
  have e2:(nthD a i.toNat 0+nthD a (i.toNat+1) 0*4294967296 % 18446744073709551616) % 18446744073709551616=nthD a i.toNat 0+nthD a (i.toNat+1) 0*4294967296:=by omega
  have hs0:0≤nthD a i.toNat 0+nthD a (i.toNat+1) 0*4294967296:=by omega
  have hq:0≤(nthD a i.toNat 0+nthD a (i.toNat+1) 0*4294967296) / 2^(k.toNat % 32):=Int.ediv_nonneg hs0 (Int.le_of_lt hp)
  have hq2:(nthD a i.toNat 0+nthD a (i.toNat+1) 0*4294967296) / 2^(k.toNat % 32)≤nthD a i.toNat 0+nthD a (i.toNat+1) 0*4294967296:=Int.ediv_le_self _ hs0
  have hd2:=dig2 (i:=i.toNat) (r:=k.toNat % 32) ha (by omega)
  have hin:inR .u64 ((nthD a i.toNat 0+nthD a (i.toNat+1) 0*4294967296) / 2^(k.toNat % 32)):=u64_in hq (by omega)
  rw[e1,e2,Int.tdiv_eq_ediv_of_nonneg hs0,Int.tmod_eq_emod_of_nonneg hq,hd2]
  have hm:valN a / 2^(32*i.toNat+k.toNat % 32) % 4294967296 % 4294967296=valN a / 2^k.toNat / 4294967296^out.length % 4294967296:=by
   rw[Int.emod_emod_of_dvd _ (Int.dvd_refl _)]
   have e3:(2:Int)^(32*i.toNat+k.toNat % 32)=2^k.toNat*4294967296^out.length:=by
    rw[two_split]
    have:(2:Int)^k.toNat=4294967296^(k.toNat / 32)*2^(k.toNat % 32):=by rw[←two_split];congr 1;omega
    rw[this,show i.toNat=k.toNat / 32+out.length by omega,Int.pow_add,Int.mul_assoc,Int.mul_comm (4294967296^out.length),←Int.mul_assoc]
   rw[e3,←Int.ediv_ediv_of_nonneg (Int.le_of_lt hpk)]
  rw[hm]
  have hd0:=Int.emod_nonneg (valN a / 2^k.toNat / 4294967296^out.length) (show(4294967296:Int)≠0 by decide)
  have hd1:=Int.emod_lt_of_pos (valN a / 2^k.toNat / 4294967296^out.length) (show(0:Int)<4294967296 by decide)
  have hval:valN (out++[valN a / 2^k.toNat / 4294967296^out.length % 4294967296])=valN a / 2^k.toNat % 4294967296^(out.length+1):=by
   rw[val_snoc,hv]
   have:=cut_div (x:=valN a / 2^k.toNat) (r:=32*out.length+0) (m:=32*(out.length+1)+0) (by omega)
   rw[two_split,two_split,Int.pow_zero,Int.mul_one,Int.mul_one,show 32*(out.length+1)+0 - (32*out.length+0)=32 by omega,show(2:Int)^32=4294967296 from rfl] at this
   rw[←this]
   have h1:=Int.mul_ediv_add_emod (valN a / 2^k.toNat % 4294967296^(out.length+1)) (4294967296^out.length)
   have h2:valN a / 2^k.toNat % 4294967296^(out.length+1) % 4294967296^out.length=valN a / 2^k.toNat % 4294967296^out.length:=by
    rw[Int.pow_succ]
    exact Int.emod_emod_of_dvd _ (Int.dvd_mul_right _ _)
   omega
  have hlen:(out++[valN a / 2^k.toNat / 4294967296^out.length % 4294967296]).length=out.length+1:=by simp
  have hdg:Dig (out++[valN a / 2^k.toNat / 4294967296^out.length % 4294967296]):=dig_app ho (dig_one (by omega) (by omega))
  rw[hlen]
  repeat' refine And.intro ?_ ?_
  all_goals first|omega|exact ha|exact hin|exact hdg|exact hval|rfl
 ·have hX:valN a / 2^k.toNat<4294967296^out.length:=by
   refine Int.ediv_lt_of_lt_mul hpk ?_
   have h1:=val_bdN ha
   have h2:=pow_mono (show a.length≤k.toNat / 32+out.length by omega)
   rw[Int.pow_add] at h2
   have h3:(4294967296:Int)^(k.toNat / 32)≤2^k.toNat:=by
    have:=two_mono (show 32*(k.toNat / 32)+0≤k.toNat by omega)
    rwa [two_split,Int.pow_zero,Int.mul_one] at this
   have h4:=Int.mul_le_mul_of_nonneg_right h3 (Int.le_of_lt (pow_pos out.length))
   rw[Int.mul_comm (2^k.toNat)] at h4
   first|omega|(rw[Int.mul_comm];omega)
  rw[Int.emod_eq_of_lt pX hX] at hv
  rw[hv]
  repeat' refine And.intro ?_ ?_
  all_goals first|omega|exact ho|rfl
theorem bits_le {a:List Int} (h:Dig a):bitsN (valN a)≤32*(a.length:Int):=by
 obtain⟨b0,b1,b2⟩:=bits_ok (val_nonneg h)
 by_cases hl:bitsN (valN a)≤32*(a.length:Int)
 ·exact hl
 ·rcases b2 with b2|b2
  ·omega
  ·have h1:=val_bdN h
   have h2:=two_mono (show 32*a.length+0≤(bitsN (valN a)).toNat - 1 by omega)
   rw[two_split,Int.pow_zero,Int.mul_one] at h2
   omega
def LR:List SCtr:=[r160,r161,r162,r106,r107,r141,r159]
theorem hLR:∀c∈LR,Holds Tryz.prog c:=by
 simp only[LR,List.forall_mem_cons,List.not_mem_nil,false_implies,implies_true,and_true]
 exact⟨h160,h161,h162,h106,h107,h141,h159⟩
def r138:SCtr:=⟨51,List Int×List Int,.cons (codR (.i .u32)) (.one (codR (.i .u32))),fun a=>(Dig a.1∧Dig a.2)∧(a.1.length≤1000000000∧a.2.length≤1000000000)∧0<valN a.2,
 fun a=> .tup [.row (.i .u32) (natL (valN a.1 / valN a.2)),.row (.i .u32) (natL (valN a.1 % valN a.2)),.si .i64 0]⟩
def Λ138 (a:List Int×List Int):Nat→LoopAnn
 |7=> .inv (Int×List Int×List Int) (fun x=>⟨[(0,.row (.i .u32) a.1),(1,.row (.i .u32) a.2),(8,.row (.i .u32) x.2.1),(9,.row (.i .u32) x.2.2),(10,.si .i64 x.1)],[.dead]⟩) (fun s=>(iS s 10,rS (.i .u32) s 8,rS (.i .u32) s 9))
  (fun x=>(-1≤x.1∧x.1≤100000000000)∧(Dig x.2.1∧Nrm x.2.1)∧(Dig x.2.2∧Nrm x.2.2)∧valN x.2.1*valN a.2+valN x.2.2=valN a.1 / 2^(x.1+1).toNat∧valN x.2.2<valN a.2) (fun x=>(x.1+1).toNat) fun _ _=> .look
 |_=> .look
theorem h138:Holds Tryz.prog r138:=by
 refine con (L:=LR) r138 F138 Λ138 (OwnOK.none _) hLR (by kernel_rfl) (by kernel_rfl) (fun _=>rfl) ?_
 rintro⟨a,b⟩ ⟨⟨ha,hb⟩,⟨hla,hlb⟩,b0⟩
 simp only at ha hb hla hlb b0
 refine vcOf (let z0:=decide ((↑b.length:Int)=(0:Int));let z1:=SV.row (SId.i .i64) [];let z2:=SId.i .u32;let z3:=SV.tup [SV.row z2 (natL (valN a / valN b)),SV.row z2 (natL (valN a % valN b)),SV.si .i64 0];let z4:=bitsN (valN a) - max (1:Int) (bitsN (valN b));let z5:=max (0:Int) (z4+(1:Int));let z6:=z5 - (1:Int);let z7:=natL (valN a / (2:Int)^z5.toNat);let z8:=SV.si .i64 z6;let z9:=natL (1:Int);(z0=true→(SV.tup [z1,z1,SV.il .i64 8]).same z3)∧(z0=false→(Dig a∧a.length≤10000000000)∧(Dig b∧b.length≤10000000000)∧inR .i64 z4∧inR .i64 (z4+(1:Int))∧0=0∧((Dig a∧a.length≤10000000000)∧(0:Int)≤z5∧z5≤(1000000000000:Int))∧inR .i64 z6∧((((SV.row z2 a).same (SV.row z2 a)∧(SV.row z2 b).same (SV.row z2 b)∧(SV.row z2 []).same (SV.row z2 [])∧(SV.row z2 z7).same (SV.row z2 z7)∧z8.same z8∧True)∧SObj.dead.same SObj.dead∧True)∧((-1:Int)≤z6∧z6≤(100000000000:Int))∧(Dig []∧Nrm [])∧(Dig z7∧Nrm z7)∧valN []*valN b+valN z7=valN a / (2:Int)^(z6+(1:Int)).toNat∧valN z7<valN b)∧∀(x:Int×List Int×List Int),let z10:=valN x.snd.fst;let z11:=valN x.snd.snd;let z12:=(x.fst+(1:Int)).toNat;let z13:=decide ((0:Int)≤x.fst);let z14:=bitQ (valN a) x.fst.toNat;let z15:=natL (z11+z11);let z16:=natL (valN z15+valN (natL z14));let z17:=decide ((0:Int)≤cmpN (valN z16) (valN b));let z18:=natL (z10+z10);let z19:=x.fst - (1:Int);let z20:=natL (valN z18+valN z9);let z21:=natL (valN z16 - valN b);let z22:=SV.si .i64 z19;let z23:=(z19+(1:Int)).toNat;let z24:=valN a / (2:Int)^z23;((-1:Int)≤x.fst∧x.fst≤(100000000000:Int))∧(Dig x.snd.fst∧Nrm x.snd.fst)∧(Dig x.snd.snd∧Nrm x.snd.snd)∧z10*valN b+z11=valN a / (2:Int)^z12∧z11<valN b→(z13=true→((Dig x.snd.fst∧Dig x.snd.fst)∧x.snd.fst.length≤10000000000∧x.snd.fst.length≤10000000000)∧((Dig x.snd.snd∧Dig x.snd.snd)∧x.snd.snd.length≤10000000000∧x.snd.snd.length≤10000000000)∧(Dig a∧(0:Int)≤x.fst∧x.fst≤(1000000000000:Int))∧((0:Int)≤z14∧z14<(18446744073709551616:Int))∧((Dig z15∧Dig (natL z14))∧z15.length≤10000000000∧(natL z14).length≤10000000000)∧((Dig z16∧Dig b)∧z16.length≤1000000000000∧b.length≤1000000000000)∧(z17=true→((Dig z16∧Dig b)∧z16.length≤10000000000∧b.length≤10000000000)∧((0:Int)≤(1:Int)∧(1:Int)<(18446744073709551616:Int))∧((Dig z18∧Dig z9)∧z18.length≤10000000000∧z9.length≤10000000000)∧inR .i64 z19∧(((SV.row z2 a).same (SV.row z2 a)∧(SV.row z2 b).same (SV.row z2 b)∧(SV.row z2 z20).same (SV.row z2 z20)∧(SV.row z2 z21).same (SV.row z2 z21)∧z22.same z22∧True)∧SObj.dead.same SObj.dead∧True)∧(((-1:Int)≤z19∧z19≤(100000000000:Int))∧(Dig z20∧Nrm z20)∧(Dig z21∧Nrm z21)∧valN z20*valN b+valN z21=z24∧valN z21<valN b)∧z23<z12)∧(z17=false→inR .i64 z19∧(((SV.row z2 a).same (SV.row z2 a)∧(SV.row z2 b).same (SV.row z2 b)∧(SV.row z2 z18).same (SV.row z2 z18)∧(SV.row z2 z16).same (SV.row z2 z16)∧z22.same z22∧True)∧SObj.dead.same SObj.dead∧True)∧(((-1:Int)≤z19∧z19≤(100000000000:Int))∧(Dig z18∧Nrm z18)∧(Dig z16∧Nrm z16)∧valN z18*valN b+valN z16=z24∧valN z16<valN b)∧z23<z12))∧(z13=false→(SV.tup [SV.row z2 x.snd.fst,SV.row z2 x.snd.snd,SV.il .i64 0]).same z3))) (by kernel_rfl) ?_
 simp only[vcs]
 have pa:=val_nonneg ha
 have hb0:b.length≠0:=by
  intro h
  rw[List.eq_nil_of_length_eq_zero h] at b0
  exact absurd b0 (by decide)
 obtain⟨A0,A1,A2⟩:=bits_ok pa
 obtain⟨B0,B1,B2⟩:=bits_ok (Int.le_of_lt b0)
 have Ab:=bits_le ha
 have Bb:=bits_le hb
 have hB1:1≤bitsN (valN b):=by
  by_cases h:1≤bitsN (valN b)
  ·exact h
  ·rw[show bitsN (valN b)=0 by omega] at B1
   simp at B1
   omega
 have hm:max 1 (bitsN (valN b))=bitsN (valN b):=by omega
 rw[hm]
 obtain⟨K,hK⟩:∃K,K=max 0 (bitsN (valN a) - bitsN (valN b)+1):=⟨_,rfl⟩
 rw[←hK]
 have hK0:0≤K:=by omega
 have hp:(0:Int)<2^K.toNat:=Int.pow_pos (by decide)
 have hlt:valN a / 2^K.toNat<valN b:=by
  refine Int.ediv_lt_of_lt_mul hp ?_
  have h1:=two_mono (show(bitsN (valN a)).toNat≤K.toNat+((bitsN (valN b)).toNat - 1) by omega)
  rw[Int.pow_add] at h1
  have h2:(2:Int)^((bitsN (valN b)).toNat - 1)≤valN b:=by rcases B2 with h|h<;>omega
  have h3:=Int.mul_le_mul_of_nonneg_left h2 (Int.le_of_lt hp)
  rw[Int.mul_comm (valN b)]
  omega
 have pq:0≤valN a / 2^K.toNat:=Int.ediv_nonneg pa (Int.le_of_lt hp)
 obtain⟨q1,q2,q3⟩:=natL_ok pq
 have eK:(K - 1+1).toNat=K.toNat:=by omega
 rw[eK,q1]
 clear A1 A2 B1 B2 hm
 refine⟨fun h=>absurd h (by omega),fun _=>⟨⟨ha,by omega⟩,⟨hb,by omega⟩,by omega,by omega,⟨⟨ha,by omega⟩,by omega,by omega⟩,by omega,⟨⟨by omega,by omega⟩,⟨by simp[Dig],trivial⟩,⟨q2,q3⟩,by simp[valN],hlt⟩,?_⟩⟩
 rintro⟨i,q,r⟩ ⟨⟨i0,i1⟩,⟨hq,nq⟩,⟨hr,nr⟩,hv,hrb⟩
 simp only at i0 i1 hq nq hr nr hv hrb ⊢
 have pqq:=val_nonneg hq
 have prr:=val_nonneg hr
 have hrl:=len_of hr hb nr (Int.le_of_lt hrb)
 have hp2:(0:Int)<2^(i+1).toNat:=Int.pow_pos (by decide)
 have hle:valN a / 2^(i+1).toNat≤valN a:=Int.ediv_le_self _ pa
 have hql:q.length≤a.length:=by
  refine len_of hq ha nq ?_
  have:=Int.mul_le_mul_of_nonneg_left (show(1:Int)≤valN b by omega) pqq
  rw[Int.mul_one] at this
  omega
 refine⟨fun hi=>?_,fun hi=>?_⟩
 ·have e1:(i+1).toNat=i.toNat+1:=by omega
  have e2:(i - 1+1).toNat=i.toNat:=by omega
  have hb2:0≤bitQ (valN a) i.toNat∧bitQ (valN a) i.toNat≤1:=by unfold bitQ;omega
  have hstep:valN a / 2^i.toNat=2*(valN a / 2^(i+1).toNat)+bitQ (valN a) i.toNat:=by
   have hpi:(0:Int)<2^i.toNat:=Int.pow_pos (by decide)
   rw[e1,Int.pow_succ,←Int.ediv_ediv_of_nonneg (Int.le_of_lt hpi)]
   unfold bitQ
   omega
  rw[←hv] at hstep
  obtain⟨u1,u2,u3⟩:=natL_ok (show 0≤valN r+valN r by omega)
  obtain⟨w1,w2,w3⟩:=natL_ok hb2.1
  obtain⟨x1,x2,x3⟩:=natL_ok (show 0≤valN r+valN r+bitQ (valN a) i.toNat by omega)
  obtain⟨y1,y2,y3⟩:=natL_ok (show 0≤valN q+valN q by omega)
  obtain⟨z1,z2,z3⟩:=natL_ok (show(0:Int)≤1 by omega)
  obtain⟨s1,s2,s3⟩:=natL_ok (show 0≤valN q+valN q+1 by omega)
  have ul:=add_len hr hr hrl hrl
  have wl:=natL_len (k:=1) hb2.1 (by rw[Int.pow_succ,Int.pow_zero];omega)
  have xl:=add_len (k:=b.length+2) u2 w2 (by omega) (by omega)
  have yl:=add_len hq hq hql hql
  have zl:=natL_len (k:=1) (show(0:Int)≤1 by omega) (by decide)
  rw[u1,w1] at xl
  rw[u1,w1,x1,y1,z1,e2]
  have hbv:(valN q+valN q)*valN b=2*(valN q*valN b):=by rw[←Int.two_mul,Int.mul_assoc]
  have hbv2:(valN q+valN q+1)*valN b=2*(valN q*valN b)+valN b:=by rw[Int.add_mul,hbv,Int.one_mul]
  have hcm:(0≤cmpN (valN r+valN r+bitQ (valN a) i.toNat) (valN b))↔valN b≤valN r+valN r+bitQ (valN a) i.toNat:=by
   unfold cmpN
   split
   ·omega
   ·split<;>omega
  rw[hcm]
  refine⟨⟨⟨hq,hq⟩,by omega,by omega⟩,⟨⟨hr,hr⟩,by omega,by omega⟩,⟨ha,by omega,by omega⟩,⟨by omega,by omega⟩,⟨⟨u2,w2⟩,by omega,by omega⟩,⟨⟨x2,hb⟩,by omega,by omega⟩,fun hc=>?_,fun hc=>?_⟩
  ·obtain⟨t1,t2,t3⟩:=natL_ok (show 0≤valN r+valN r+bitQ (valN a) i.toNat - valN b by omega)
   rw[s1,t1]
   repeat' refine And.intro ?_ ?_
   all_goals first|omega|exact x2|exact hb|exact y2|exact z2|exact s2|exact s3|exact t2|exact t3|rfl|(rw[hbv2];omega)
  ·repeat' refine And.intro ?_ ?_
   all_goals first|omega|exact x2|exact x3|exact y2|exact y3|rfl|(rw[hbv];omega)
 ·have e0:(i+1).toNat=0:=by omega
  rw[e0,Int.pow_zero,Int.ediv_one] at hv
  obtain⟨w1,w2⟩:=qr_of (X:=valN a) (V:=valN b) (q:=valN q) (by omega) (by rw[Int.add_mul,Int.one_mul];omega)
  rw[w1,w2,natL_val hq nq,show valN a - valN q*valN b=valN r by omega,natL_val hr nr]
  repeat' refine And.intro ?_ ?_
  all_goals first|omega|rfl
def r125:SCtr:=⟨30,List Int×List Int,.cons (codR (.i .u32)) (.one (codR (.i .u32))),fun a=>(Dig a.1∧Dig a.2)∧(a.1.length≤100000000∧a.2.length≤100000000)∧Nrm a.2,
 fun a=> .row (.i .u32) (natL (gcdN (valN a.1) (valN a.2)))⟩
def Λ125 (a:List Int×List Int):Nat→LoopAnn
 |1=> .inv (List Int×List Int) (fun x=>⟨[(0,.row (.i .u32) x.1),(1,.row (.i .u32) x.2)],[]⟩) (fun s=>(rS (.i .u32) s 0,rS (.i .u32) s 1))
  (fun x=>(Dig x.1∧Dig x.2)∧Nrm x.2∧(x.1.length≤100000000∧x.2.length≤100000000)∧gcdN (valN x.1) (valN x.2)=gcdN (valN a.1) (valN a.2)) (fun x=>(valN x.2).toNat) fun _ _=> .look
 |_=> .look
theorem h125:Holds Tryz.prog r125:=by
 refine con (L:=[r138,r140]) r125 F125 Λ125 (OwnOK.none _) (by simpa using⟨h138,h140⟩) (by kernel_rfl) (by kernel_rfl) (fun _=>rfl) ?_
 rintro⟨a,b⟩ ⟨⟨ha,hb⟩,⟨hla,hlb⟩,hn⟩
 simp only at ha hb hla hlb hn
 refine vcOf (let z0:=SId.i .u32;let z1:=gcdN (valN a) (valN b);((((SV.row z0 a).same (SV.row z0 a)∧(SV.row z0 b).same (SV.row z0 b)∧True)∧True)∧(Dig a∧Dig b)∧Nrm b∧(a.length≤100000000∧b.length≤100000000)∧z1=z1)∧∀(x:List Int×List Int),let z2:=x.fst.length;let z3:=decide ((0:Int)<(↑x.snd.length:Int));let z4:=natL (valN x.fst % valN x.snd);(Dig x.fst∧Dig x.snd)∧Nrm x.snd∧(z2≤100000000∧x.snd.length≤100000000)∧gcdN (valN x.fst) (valN x.snd)=z1→(z3=true→((Dig x.fst∧Dig x.snd)∧(z2≤1000000000∧x.snd.length≤1000000000)∧(0:Int)<valN x.snd)∧(((SV.row z0 x.snd).same (SV.row z0 x.snd)∧(SV.row z0 z4).same (SV.row z0 z4)∧True)∧True)∧((Dig x.snd∧Dig z4)∧Nrm z4∧(x.snd.length≤100000000∧z4.length≤100000000)∧gcdN (valN x.snd) (valN z4)=z1)∧(valN z4).toNat<(valN x.snd).toNat)∧(z3=false→(Dig x.fst∧z2≤100000000000)∧(SV.row z0 (natL (valN x.fst))).same (SV.row z0 (natL z1)))) (by kernel_rfl) ?_
 simp only[vcs]
 refine⟨⟨⟨ha,hb⟩,hn,⟨hla,hlb⟩⟩,?_⟩
 rintro⟨s,t⟩ ⟨⟨ds,dt⟩,nt,⟨hs,ht⟩,hg⟩
 simp only at ds dt nt ht hs hg ⊢
 have ps:=val_nonneg ds
 have pt:=val_nonneg dt
 refine⟨fun hl=>?_,fun hl=>?_⟩
 ·have hpos:0<valN t:=by
   by_cases h:valN t=0
   ·rw[val_zero dt nt h] at hl
    simp at hl
   ·omega
  have hm:=Int.emod_nonneg (valN s) (show valN t≠0 by omega)
  have hlt:=Int.emod_lt_of_pos (valN s) hpos
  obtain⟨m1,m2,m3⟩:=natL_ok hm
  have hml:=len_of m2 dt m3 (by rw[m1];omega)
  rw[m1]
  refine⟨⟨⟨ds,dt⟩,⟨by omega,by omega⟩,hpos⟩,⟨⟨dt,m2⟩,m3,⟨by omega,by omega⟩,by rw[gcdN_step ps hpos,hg]⟩,by omega⟩
 ·have ht0:t=[]:=List.eq_nil_of_length_eq_zero (by omega)
  rw[ht0,show valN []=0 from rfl,gcdN_zero ps] at hg
  rw[←hg]
  repeat' refine And.intro ?_ ?_
  all_goals first|omega|exact ds|rfl
def nrmB (a:List Int):Bool:=decide (a.length=0)||decide (nthD a (a.length - 1) 0≠0)
theorem nrmB_iff {a:List Int}:nrmB a=true↔Nrm a:=by
 unfold nrmB
 rw[Bool.or_eq_true,decide_eq_true_eq,decide_eq_true_eq]
 constructor
 ·exact nrm_of
 ·intro h
  by_cases h0:a.length=0
  ·exact .inl h0
  ·right
   have h1:=take_snoc (a:=a) (n:=a.length - 1) (by omega)
   rw[show a.length - 1+1=a.length by omega,List.take_length] at h1
   have:∀{l:List Int} {x:Int},Nrm (l++[x])→x≠0:=by
    intro l x
    induction l with
    |nil=>intro h;exact h.1 rfl
    |cons d l ih=>intro h;exact ih h.2
   rw[h1] at h
   exact this h
def r124:SCtr:=⟨29,List Int,.one (codR (.i .u32)),fun a=>a.length≤1000000000,fun a=> .sb (nrmB a)⟩
theorem h124:Holds Tryz.prog r124:=by
 refine con (L:=[]) r124 F124 (fun _ _=> .look) (OwnOK.none _) (by simp) (by kernel_rfl) (by kernel_rfl) (fun _=>rfl) ?_
 intro(a:List Int) h
 have h:a.length≤1000000000:=h
 refine vcOf (let z0:=(↑a.length:Int);let z1:=decide (z0=(0:Int));let z2:=z0 - (1:Int);(z1=true→(SV.bl true).same (SV.sb (nrmB a)))∧(z1=false→inR .i64 z2∧(0:Int)≤z2∧z2<z0∧z2.toNat<a.length∧(SV.sb (decide (nthD a z2.toNat (0:Int)≠(0:Int)))).same (SV.sb (nrmB a)))) (by kernel_rfl) ?_
 simp only[vcs]
 have e:((a.length:Int) - 1).toNat=a.length - 1:=by omega
 rw[e]
 unfold nrmB
 refine⟨fun h0=>?_,fun h0=>?_⟩
 ·have:a.length=0:=by omega
  simp[this]
 ·have:¬a.length=0:=by omega
  simp[this]
  omega
def r135:SCtr:=⟨58,Int,.one (codI .i64),fun n=> -9223372036854775808≤(show Int from n)∧(show Int from n)≤9223372036854775807,fun n=> .row (.i .u32) (natL ((show Int from n).natAbs:Int))⟩
theorem h135:Holds Tryz.prog r135:=by
 refine con (L:=[r159]) r135 F135 (fun _ _=> .look) (OwnOK.none _) (by simpa using h159) (by kernel_rfl) (by kernel_rfl) (fun _=>rfl) ?_
 intro(n:Int) h
 obtain⟨h0,h1⟩: -9223372036854775808≤n∧n≤9223372036854775807:=h
 refine vcOf (let z0:=decide (n<(0:Int));let z1:=(-(n+(1:Int))+(1:Int)) % (18446744073709551616:Int);let z2:=SId.i .u32;let z3:=SV.row z2 (natL (↑n.natAbs:Int));(z0=true→inR .i64 (n+(1:Int))∧inR .i64 (-(n+(1:Int)))∧inR .u64 (-(n+(1:Int)))∧((0:Int)≤z1∧z1<(18446744073709551616:Int))∧(SV.row z2 (natL z1)).same z3)∧(z0=false→inR .u64 n∧((0:Int)≤n∧n<(18446744073709551616:Int))∧(SV.row z2 (natL n)).same z3)) (by kernel_rfl) ?_
 simp only[vcs]
 refine⟨fun hn=>?_,fun hn=>?_⟩
 ·have e:(-(n+1)+1) % 18446744073709551616=(n.natAbs:Int):=by omega
  rw[e]
  exact⟨by omega,by omega,u64_in (by omega) (by omega),by omega,rfl⟩
 ·have e:(n.natAbs:Int)=n:=by omega
  rw[e]
  exact⟨u64_in (by omega) (by omega),by omega,rfl⟩
def r105:SCtr:=⟨57,Bool×(List Int×List Int),.cons codB (.cons (codR (.i .u32)) (.one (codR (.i .u32)))),fun a=>(Dig a.2.1∧Dig a.2.2)∧(a.2.1.length≤100000000∧a.2.2.length≤100000000)∧(Nrm a.2.1∧Nrm a.2.2)∧0<valN a.2.2,
 fun a=> .tup [frS (mkF a.1 (valN a.2.1) (valN a.2.2)),.si .i64 0]⟩
theorem h105:Holds Tryz.prog r105:=by
 refine con (L:=[r125,r138]) r105 F105 (fun _ _=> .look) (OwnOK.none _) (by simpa using⟨h125,h138⟩) (by kernel_rfl) (by kernel_rfl) (fun _=>rfl) ?_
 rintro⟨s,n,d⟩ ⟨⟨hn,hd⟩,⟨hln,hld⟩,⟨nn,nd⟩,d0⟩
 simp only at hn hd hln hld d0 nn nd
 refine vcOf (let z0:=decide ((↑d.length:Int)=(0:Int));let z1:=SV.row (SId.i .i64) [];let z2:=frE (mkF s (valN n) (valN d));let z3:=SId.i .u32;let z4:=SV.tup [SV.agg [SV.sb z2.fst,SV.row z3 z2.snd.fst,SV.row z3 z2.snd.snd],SV.si .i64 0];let z5:=natL (gcdN (valN n) (valN d));let z6:=[SV.row z3 (natL (valN n / valN z5)),SV.row z3 (natL (valN d / valN z5))];let z7:=[SV.il .i64 0];(z0=true→(SV.tup [SV.agg [SV.bl false,z1,z1],SV.il .i64 8]).same z4)∧(z0=false→((Dig n∧Dig d)∧(n.length≤100000000∧d.length≤100000000)∧Nrm d)∧((Dig n∧Dig z5)∧(n.length≤1000000000∧z5.length≤1000000000)∧(0:Int)<valN z5)∧((Dig d∧Dig z5)∧(d.length≤1000000000∧z5.length≤1000000000)∧(0:Int)<valN z5)∧(s=true→(SV.tup (SV.agg (SV.sb (decide ((0:Int)<(↑n.length:Int)))::z6)::z7)).same z4)∧(s=false→(SV.tup (SV.agg (SV.bl false::z6)::z7)).same z4))) (by kernel_rfl) ?_
 simp only[vcs]
 have n0:=val_nonneg hn
 have g0:0<gcdN (valN n) (valN d):=by
  unfold gcdN
  have:=Nat.gcd_pos_of_pos_right (valN n).toNat (show 0<(valN d).toNat by omega)
  omega
 have gle:gcdN (valN n) (valN d)≤valN d:=by
  unfold gcdN
  have:=Nat.gcd_le_right (valN n).toNat (show 0<(valN d).toNat by omega)
  omega
 obtain⟨a1,a2,a3⟩:=natL_ok (Int.le_of_lt g0)
 have hgl:=len_of a2 hd a3 (by rw[a1];exact gle)
 have hpos:(0<(n.length:Int))↔0<valN n:=by
  constructor
  ·intro h
   by_cases hz:valN n=0
   ·rw[val_zero hn nn hz] at h;exact absurd h (by decide)
   ·omega
  ·intro h
   by_cases hl:n.length=0
   ·rw[List.eq_nil_of_length_eq_zero hl] at h
    exact absurd h (by decide)
   ·omega
 have hb:decide (0<(n.length:Int))=decide (0<valN n):=by rw[decide_eq_decide];exact hpos
 have hd0:d.length≠0:=by
  intro h
  rw[List.eq_nil_of_length_eq_zero h] at d0
  exact absurd d0 (by decide)
 unfold mkF
 rw[frE_mk n0 d0,a1]
 simp only
 refine⟨fun h=>absurd h (by omega),fun _=>⟨⟨⟨hn,hd⟩,⟨by omega,by omega⟩,nd⟩,⟨⟨hn,a2⟩,⟨by omega,by omega⟩,g0⟩,⟨⟨hd,a2⟩,⟨by omega,by omega⟩,g0⟩,fun hs=>?_,fun hs=>?_⟩⟩
 ·rw[hs,hb]
  rfl
 ·rw[hs]
  rfl
def r103:SCtr:=⟨35,Int×Int,.cons (codI .i64) (.one (codI .i64)),fun a=>(-9223372036854775808≤a.1∧a.1≤9223372036854775807)∧0<a.2∧a.2≤9223372036854775807,fun a=> .tup [frS (mkF (decide (a.1<0)) (a.1.natAbs:Int) a.2),.si .i64 0]⟩
theorem h103:Holds Tryz.prog r103:=by
 refine con (L:=[r135,r105]) r103 F103 (fun _ _=> .look) (OwnOK.none _) (by simpa using⟨h135,h105⟩) (by kernel_rfl) (by kernel_rfl) (fun _=>rfl) ?_
 rintro⟨n,d⟩ ⟨⟨h0,h1⟩,h2,h3⟩
 simp only at h0 h1 h2 h3
 refine vcOf (let z0:=natL (↑n.natAbs:Int);let z1:=natL (↑d.natAbs:Int);let z2:=frE (mkF (!decide (n<(0:Int))==decide (d<(0:Int))) (valN z0) (valN z1));let z3:=SId.i .u32;let z4:=[SV.si .i64 0];let z5:=frE (mkF (decide (n<(0:Int))) (↑n.natAbs:Int) d);((-9223372036854775808:Int)≤n∧n≤(9223372036854775807:Int))∧((-9223372036854775808:Int)≤d∧d≤(9223372036854775807:Int))∧((Dig z0∧Dig z1)∧(z0.length≤100000000∧z1.length≤100000000)∧(Nrm z0∧Nrm z1)∧(0:Int)<valN z1)∧(SV.tup (SV.agg [SV.sb z2.fst,SV.row z3 z2.snd.fst,SV.row z3 z2.snd.snd]::z4)).same (SV.tup (SV.agg [SV.sb z5.fst,SV.row z3 z5.snd.fst,SV.row z3 z5.snd.snd]::z4))) (by kernel_rfl) ?_
 simp only[vcs]
 obtain⟨a1,a2,a3⟩:=natL_ok (show(0:Int)≤(n.natAbs:Int) by omega)
 obtain⟨b1,b2,b3⟩:=natL_ok (show(0:Int)≤(d.natAbs:Int) by omega)
 have l1:=natL_len (k:=2) (show(0:Int)≤(n.natAbs:Int) by omega) (by rw[show(4294967296:Int)^2=18446744073709551616 from rfl];omega)
 have l2:=natL_len (k:=2) (show(0:Int)≤(d.natAbs:Int) by omega) (by rw[show(4294967296:Int)^2=18446744073709551616 from rfl];omega)
 have e:(d.natAbs:Int)=d:=by omega
 have hs:(!(decide (n<0)==decide (d<0)))=decide (n<0):=by
  have:decide (d<0)=false:=by rw[decide_eq_false_iff_not];omega
  rw[this]
  cases decide (n<0)<;>rfl
 rw[hs,a1,b1,e]
 rw[e] at b2 b3 l2
 repeat' refine And.intro ?_ ?_
 all_goals first|omega|exact a2|exact b2|exact a3|exact b3|rfl
def r51:SCtr:=⟨18,Int,.one (codI .i64),fun n=> -9223372036854775808≤(show Int from n)∧(show Int from n)≤9223372036854775807,fun n=>frS ((show Int from n):Rat)⟩
theorem mkF_int (n:Int):mkF (decide (n<0)) (n.natAbs:Int) 1=(n:Rat):=by
 unfold mkF
 have h2:(if decide (n<0)=true then -(n.natAbs:Int) else(n.natAbs:Int))=n:=by
  by_cases h:n<0
  ·rw[if_pos (by simpa using h)];omega
  ·rw[if_neg (by simpa using h)];omega
 rw[h2]
 exact Rat.mkRat_one n
theorem h51:Holds Tryz.prog r51:=by
 refine con (L:=[r103]) r51 F51 (fun _ _=> .look) (OwnOK.none _) (by simpa using h103) (by kernel_rfl) (by kernel_rfl) (fun _=>rfl) ?_
 intro(n:Int) h
 obtain⟨h0,h1⟩: -9223372036854775808≤n∧n≤9223372036854775807:=h
 refine vcOf (let z0:=frE (mkF (decide (n<(0:Int))) (↑n.natAbs:Int) (1:Int));let z1:=SId.i .u32;let z2:=frE (IntCast.intCast n);(((-9223372036854775808:Int)≤n∧n≤(9223372036854775807:Int))∧(0:Int)<(1:Int)∧(1:Int)≤(9223372036854775807:Int))∧(SV.agg [SV.sb z0.fst,SV.row z1 z0.snd.fst,SV.row z1 z0.snd.snd]).same (SV.agg [SV.sb z2.fst,SV.row z1 z2.snd.fst,SV.row z1 z2.snd.snd])) (by kernel_rfl) ?_
 conv=>zeta
 exact⟨⟨⟨h0,h1⟩,by omega,by omega⟩,frS_eq (mkF_int n)⟩
def isG (x:Fra):Prop:=∃q k,x=frE q∧Sz k q∧k≤10000000
theorem isG.isF {x:Fra} (h:isG x):isF x:=by
 obtain⟨q,k,h1,h2,h3⟩:=h
 exact⟨q,k,h1,h2,by omega⟩
theorem frE_neg (q:Rat):frE (-q)=(!(frE q).1&&decide (0<((frE q).2.1.length:Int)),(frE q).2):=by
 have hl:0<((frE q).2.1.length:Int)↔q.num≠0:=by
  obtain⟨_,⟨a2,a3,a1⟩,_⟩:=frE_ok q
  constructor
  ·intro h hz
   rw[hz] at a1
   rw[val_zero a2 a3 a1] at h
   exact absurd h (by decide)
  ·intro h
   by_cases h0:(frE q).2.1.length=0
   ·rw[List.eq_nil_of_length_eq_zero h0] at a1
    simp only[valN] at a1
    omega
   ·omega
 unfold frE
 refine Prod.ext ?_ (Prod.ext ?_ ?_)
 ·simp only
  rw[Bool.eq_iff_iff]
  simp only[decide_eq_true_eq,Bool.and_eq_true,Bool.not_eq_true',decide_eq_false_iff_not]
  have h0:=@Rat.num_nonneg q
  have h1:=@Rat.num_nonneg (-q)
  rw[Rat.neg_num] at h1
  have hl2:(0:Int)<(natL (q.num.natAbs:Int)).length↔q.num≠0:=hl
  rw[hl2,←Rat.not_le,←h1,←Rat.not_le,←h0]
  omega
 ·simp only[Rat.neg_num,Int.natAbs_neg]
 ·simp only[Rat.neg_den]
def r142:SCtr:=⟨74,Fra,.one (codE sF),isF,fun x=>frS (-(valF x))⟩
theorem h142:Holds Tryz.prog r142:=by
 refine con (L:=[]) r142 F142 (fun _ _=> .look) (OwnOK.none _) (by simp) (by kernel_rfl) (by kernel_rfl) (fun _=>rfl) ?_
 intro(x:Fra) h
 obtain⟨q,k,rfl,hz,hk⟩:isF x:=h
 refine vcOf (let z0:=SId.i .u32;let z1:=[SV.row z0 (frE q).snd.fst,SV.row z0 (frE q).snd.snd];let z2:=(frE (-valF (frE q))).snd;let z3:=SV.agg [SV.sb (frE (-valF (frE q))).fst,SV.row z0 z2.fst,SV.row z0 z2.snd];((!(frE q).fst)=true→(SV.agg (SV.sb (decide ((0:Int)<(↑(List.length (frE q).snd.fst):Int)))::z1)).same z3)∧((!(frE q).fst)=false→(SV.agg (SV.bl false::z1)).same z3)) (by kernel_rfl) ?_
 conv=>zeta
 have hn:=frE_neg q
 rw[valF_frE]
 refine⟨fun h=>?_,fun h=>?_⟩
 ·rw[hn,h]
  rfl
 ·rw[hn,h]
  rfl
def r52:SCtr:=⟨73,Fra×Fra,.cons (codE sF) (.one (codE sF)),fun a=>isG a.1∧isG a.2,fun a=>frS (valF a.1+valF a.2)⟩
theorem h52:Holds Tryz.prog r52:=by
 refine con (L:=[r104,r106,r107,r105]) r52 F52 (fun _ _=> .look) (OwnOK.none _) (by simpa using⟨h104,h106,h107,h105⟩) (by kernel_rfl) (by kernel_rfl) (fun _=>rfl) ?_
 rintro⟨x,y⟩ ⟨⟨p,i,hx,hz,hi⟩,⟨q,j,hy,hw,hj⟩⟩
 simp only at hx hy
 subst hx hy
 refine vcOf (let z0:=(frE p).snd.fst;let z1:=(frE q).snd.snd;let z2:=(frE q).snd.fst;let z3:=(frE p).snd.snd;let z4:=(frE p).fst==(frE q).fst;let z5:=natL (valN z0*valN z1);let z6:=natL (valN z2*valN z3);let z7:=natL (valN z5+valN z6);let z8:=natL (valN z3*valN z1);let z9:=frE (mkF (frE p).fst (valN z7) (valN z8));let z10:=SId.i .u32;let z11:=frE (valF (frE p)+valF (frE q));let z12:=SV.agg [SV.sb z11.fst,SV.row z10 z11.snd.fst,SV.row z10 z11.snd.snd];let z13:=decide (valN z6≤valN z5);let z14:=natL (valN z5 - valN z6);let z15:=frE (mkF (frE p).fst (valN z14) (valN z8));let z16:=natL (valN z6 - valN z5);let z17:=frE (mkF (frE q).fst (valN z16) (valN z8));((Dig z0∧Dig z1)∧List.length z0≤1000000000∧List.length z1≤1000000000)∧((Dig z2∧Dig z3)∧List.length z2≤1000000000∧List.length z3≤1000000000)∧((Dig z3∧Dig z1)∧List.length z3≤1000000000∧List.length z1≤1000000000)∧(z4=true→((Dig z5∧Dig z6)∧z5.length≤10000000000∧z6.length≤10000000000)∧((Dig z7∧Dig z8)∧(z7.length≤100000000∧z8.length≤100000000)∧(Nrm z7∧Nrm z8)∧(0:Int)<valN z8)∧(SV.agg [SV.sb z9.fst,SV.row z10 z9.snd.fst,SV.row z10 z9.snd.snd]).same z12)∧(z4=false→((Dig z5∧Dig z6)∧z5.length≤10000000000∧z6.length≤10000000000)∧(z13=true→((Dig z14∧Dig z8)∧(z14.length≤100000000∧z8.length≤100000000)∧(Nrm z14∧Nrm z8)∧(0:Int)<valN z8)∧(SV.agg [SV.sb z15.fst,SV.row z10 z15.snd.fst,SV.row z10 z15.snd.snd]).same z12)∧(z13=false→((Dig z6∧Dig z5)∧z6.length≤10000000000∧z5.length≤10000000000)∧((Dig z16∧Dig z8)∧(z16.length≤100000000∧z8.length≤100000000)∧(Nrm z16∧Nrm z8)∧(0:Int)<valN z8)∧(SV.agg [SV.sb z17.fst,SV.row z10 z17.snd.fst,SV.row z10 z17.snd.snd]).same z12))) (by kernel_rfl) ?_
 conv=>zeta
 obtain⟨e1,⟨u1,_,_⟩,⟨u2,_,_⟩⟩:=frE_ok p
 obtain⟨e2,⟨u3,_,_⟩,⟨u4,_,_⟩⟩:=frE_ok q
 obtain⟨m1,m2⟩:=frE_len hz
 obtain⟨m3,m4⟩:=frE_len hw
 obtain⟨X,Y,D,hX,hY,hD,X0,Y0,D0,l1,l2,l3,l4,l5,l6,n1,n2,n3⟩:=cross_ok hz hw
 obtain⟨c1,c2,c3⟩:=natL_ok X0
 obtain⟨c4,c5,c6⟩:=natL_ok Y0
 obtain⟨c7,c8,c9⟩:=natL_ok (Int.le_of_lt D0)
 obtain⟨s1,s2,s3⟩:=natL_ok (show 0≤X+Y by omega)
 simp only[valF_frE,hX,hY,hD,c1,c4,c7,s1,e1,e2]
 simp only[vcs]
 have fin:∀{s:Bool} {n:Int},(p.num*q.den+q.num*p.den=if s then -n else n)→(SV.agg [.sb (frE (mkF s n D)).1,.row (.i .u32) (frE (mkF s n D)).2.1,.row (.i .u32) (frE (mkF s n D)).2.2]).same (.agg [.sb (frE (p+q)).1,.row (.i .u32) (frE (p+q)).2.1,.row (.i .u32) (frE (p+q)).2.2]):=
  fun h=>frS_eq (add_mkF n3 h)
 rw[n1,n2] at fin
 refine⟨⟨⟨u1,u4⟩,by omega,by omega⟩,⟨⟨u3,u2⟩,by omega,by omega⟩,⟨⟨u2,u4⟩,by omega,by omega⟩,fun he=>⟨⟨⟨c2,c5⟩,by omega,by omega⟩,⟨⟨s2,c8⟩,⟨by omega,by omega⟩,⟨s3,c9⟩,D0⟩,fin ?_⟩,fun he=>⟨⟨⟨c2,c5⟩,by omega,by omega⟩,fun hle=>?_,fun hle=>?_⟩⟩
 ·by_cases hp:p<0<;>by_cases hq:q<0<;>simp[hp,hq] at he ⊢<;>omega
 ·obtain⟨t1,t2,t3⟩:=natL_ok (show 0≤X - Y by omega)
  rw[t1]
  refine⟨⟨⟨t2,c8⟩,⟨by omega,by omega⟩,⟨t3,c9⟩,D0⟩,fin ?_⟩
  by_cases hp:p<0<;>by_cases hq:q<0<;>simp[hp,hq] at he ⊢<;>omega
 ·obtain⟨t1,t2,t3⟩:=natL_ok (show 0≤Y - X by omega)
  rw[t1]
  refine⟨⟨⟨c5,c2⟩,by omega,by omega⟩,⟨⟨t2,c8⟩,⟨by omega,by omega⟩,⟨t3,c9⟩,D0⟩,fin ?_⟩
  by_cases hp:p<0<;>by_cases hq:q<0<;>simp[hp,hq] at he ⊢<;>omega
def r108:SCtr:=⟨50,Fra×Fra,.cons (codE sF) (.one (codE sF)),fun a=>isG a.1∧isG a.2,fun a=>frS (valF a.1 - valF a.2)⟩
theorem h108:Holds Tryz.prog r108:=by
 refine con (L:=[r142,r52]) r108 F108 (fun _ _=> .look) (OwnOK.none _) (by simpa using⟨h142,h52⟩) (by kernel_rfl) (by kernel_rfl) (fun _=>rfl) ?_
 rintro⟨x,y⟩ ⟨⟨p,i,hx,hz,hi⟩,⟨q,j,hy,hw,hj⟩⟩
 simp only at hx hy
 subst hx hy
 refine vcOf (let z0:=((frE q).fst,(frE q).snd.fst,(frE q).snd.snd);let z1:=((frE p).fst,(frE p).snd.fst,(frE p).snd.snd);let z2:=(frE (-valF z0)).snd;let z3:=((frE (-valF z0)).fst,z2.fst,z2.snd);let z4:=frE (valF z1+valF z3);let z5:=SId.i .u32;let z6:=frE (valF (frE p) - valF (frE q));isF z0∧(isG z1∧isG z3)∧(SV.agg [SV.sb z4.fst,SV.row z5 z4.snd.fst,SV.row z5 z4.snd.snd]).same (SV.agg [SV.sb z6.fst,SV.row z5 z6.snd.fst,SV.row z5 z6.snd.snd])) (by kernel_rfl) ?_
 conv=>zeta
 have hn:isG (frE (-q)):=⟨-q,j,rfl,sz_neg hw,hj⟩
 refine⟨⟨q,j,rfl,hw,by omega⟩,⟨⟨p,i,rfl,hz,hi⟩,?_⟩,frS_eq ?_⟩
 ·have e:valF (frE q)=q:=valF_frE q
  show isG (frE (-valF (frE q)))
  rw[e]
  exact hn
 ·show valF (frE p)+valF (frE (-valF (frE q)))=valF (frE p) - valF (frE q)
  rw[valF_frE,valF_frE,valF_frE,Rat.sub_eq_add_neg]
def r48:SCtr:=⟨21,Fra,.one (codE sF),isF,fun x=> .si .i64 (sgnQ (valF x))⟩
theorem h48:Holds Tryz.prog r48:=by
 refine con (L:=[]) r48 F48 (fun _ _=> .look) (OwnOK.none _) (by simp) (by kernel_rfl) (by kernel_rfl) (fun _=>rfl) ?_
 intro(x:Fra) h
 obtain⟨q,k,rfl,hz,hk⟩:isF x:=h
 refine vcOf (let z0:=SV.si .i64 (sgnQ (valF (frE q)));let z1:=decide ((↑(List.length (frE q).snd.fst):Int)=(0:Int));((frE q).fst=true→(SV.il .i64 (-1:Int)).same z0)∧((frE q).fst=false→(z1=true→(SV.il .i64 0).same z0)∧(z1=false→(SV.il .i64 1).same z0))) (by kernel_rfl) ?_
 simp only[vcs]
 rw[valF_frE]
 obtain⟨e1,⟨a2,a3,a1⟩,_⟩:=frE_ok q
 have hl:((frE q).2.1.length:Int)=0↔q.num=0:=by
  constructor
  ·intro h
   rw[List.eq_nil_of_length_eq_zero (by omega:(frE q).2.1.length=0)] at a1
   simp only[valN] at a1
   omega
  ·intro h
   rw[val_zero a2 a3 (by rw[a1,h];rfl)]
   rfl
 have h0:=@Rat.num_nonneg q
 have hn:q<0↔q.num<0:=by
  rw[←Rat.not_le,←h0]
  omega
 have hp:0<q↔0<q.num:=by
  constructor
  ·intro h
   have h1:=h0.2 (Rat.le_of_lt h)
   by_cases hz:q.num=0
   ·have:=Rat.num_eq_zero.1 hz
    subst this
    exact absurd h (by decide)
   ·omega
  ·intro h
   have h1:=h0.1 (by omega)
   exact Rat.lt_of_le_of_ne h1 (fun he=>by rw[←he] at h;exact absurd h (by decide))
 rw[hl,e1]
 simp only[decide_eq_true_eq,decide_eq_false_iff_not]
 unfold sgnQ
 simp only[hn,hp]
 refine⟨fun h=>?_,fun h=>⟨fun h2=>?_,fun h2=>?_⟩⟩
 ·rw[if_pos h]
 ·rw[if_neg (by omega),if_neg (by omega)]
 ·rw[if_neg (by omega),if_pos (by omega)]
def r53:SCtr:=⟨28,Fra×Fra,.cons (codE sF) (.one (codE sF)),fun a=>isG a.1∧isG a.2,fun a=> .si .i64 (cmpQ (valF a.1) (valF a.2))⟩
theorem sgn_sub (p q:Rat):sgnQ (p - q)=cmpQ p q:=by
 unfold sgnQ cmpQ
 have h1:p - q<0↔p<q:=by constructor<;>intro h<;>grind
 have h2:0<p - q↔q<p:=by constructor<;>intro h<;>grind
 simp only[h1,h2]
theorem h53:Holds Tryz.prog r53:=by
 refine con (L:=[r108,r48]) r53 F53 (fun _ _=> .look) (OwnOK.none _) (by simpa using⟨h108,h48⟩) (by kernel_rfl) (by kernel_rfl) (fun _=>rfl) ?_
 rintro⟨x,y⟩ ⟨⟨p,i,hx,hz,hi⟩,⟨q,j,hy,hw,hj⟩⟩
 simp only at hx hy
 subst hx hy
 refine vcOf (let z0:=((frE p).fst,(frE p).snd.fst,(frE p).snd.snd);let z1:=((frE q).fst,(frE q).snd.fst,(frE q).snd.snd);let z2:=frE (valF z0 - valF z1);let z3:=(z2.fst,z2.snd.fst,z2.snd.snd);(isG z0∧isG z1)∧isF z3∧(SV.si .i64 (sgnQ (valF z3))).same (SV.si .i64 (cmpQ (valF (frE p)) (valF (frE q))))) (by kernel_rfl) ?_
 conv=>zeta
 have e0:valF (frE p) - valF (frE q)=p - q:=by rw[valF_frE,valF_frE]
 refine⟨⟨⟨p,i,rfl,hz,hi⟩,⟨q,j,rfl,hw,hj⟩⟩,?_,?_⟩
 ·show isF (frE (valF (frE p) - valF (frE q)))
  rw[e0,Rat.sub_eq_add_neg]
  exact⟨_,_,rfl,sz_add hz (sz_neg hw),by omega⟩
 ·show(SV.si IntKind.i64 (sgnQ (valF (frE (valF (frE p) - valF (frE q)))))).same _
  rw[e0,valF_frE,valF_frE,valF_frE,sgn_sub]
  rfl
def bestC (n:Nat):OCtr:=solCtr 83 Sit (.one (codE .sit)) (fun a=>(Good a.1.p∧a.1.ls=L8.of a.1.p∧SitOk a.2∧MemoOk a.1.p a.1.es)∧cnt a.2.members<n)
 (fun a=> .si .i64 (bestM a.1.p (cnt a.2.members+1) a.1.es a.2).1) (fun a=>⟨a.1.p,a.1.ls,(bestM a.1.p (cnt a.2.members+1) a.1.es a.2).2⟩)
def W9 (n:Nat):List OCtr:=[bestC n,r116]
def runJ (s:Sol) (a:Sit) (j:Int):Int×Memo:=((lstOf s.ls (fstB a.members)).take j.toNat).foldl (stepM s.p (cnt a.members) a) (bestM s.p (cnt a.members) s.es (skipAt a))
def Λ115 (s:Sol) (a:Sit):Nat→LoopAnn
 |7=> .inv Int (fun f=>⟨[(0,.ptr 0 0 29),(3,.ptr 2 0 13),(7,.si .i64 f)],s.o++[.cells (encS .sit a) 129 13 false]⟩) (fun t=>iS t 7) (fun f=>0≤f∧f≤fstB a.members) (fun f=>(fstB a.members - f).toNat) fun _ _=> .look
 |13=> .inv Int (fun j=>⟨[(0,.ptr 0 0 29),(3,.ptr 2 0 13),(9,.si .i64 (runJ s a j).1),(51,.row .off (lstOf s.ls (fstB a.members))),(52,.si .i64 (lstOf s.ls (fstB a.members)).length),(53,.si .i64 j)],
   (Sol.o ⟨s.p,s.ls,(runJ s a j).2⟩)++[.cells (encS .sit a) 129 13 false,.cells (encS .sit (skipAt a)) 129 13 false]⟩) (fun t=>iS t 53)
  (fun j=>0≤j∧j≤(lstOf s.ls (fstB a.members)).length) (fun j=>((lstOf s.ls (fstB a.members)).length - j).toNat) fun _ _=> .look
 |_=> .look
theorem bestM_zero {p:Prob} {n:Nat} {es:Memo} {a:Sit} (h:a.members=0):bestM p (n+1) es a=(0,es):=by
 unfold bestM
 rw[if_pos h]
theorem bestM_hit {p:Prob} {n:Nat} {es:Memo} {a:Sit} {v:Int} (h:a.members≠0) (hv:findT .sit (.i .i64) a es=some v):bestM p (n+1) es a=(v,es):=by
 unfold bestM
 rw[if_neg h,hv]
theorem bestM_run {s:Sol} {a:Sit} (hl:s.ls=L8.of s.p) (h:a.members≠0) (hv:findT .sit (.i .i64) a s.es=none) {j:Int} (hj:j=(lstOf s.ls (fstB a.members)).length):
  bestM s.p (cnt a.members+1) s.es a=((runJ s a j).1,setT .sit (.i .i64) a (runJ s a j).1 (runJ s a j).2):=by
 unfold bestM runJ
 rw[if_neg h,hv,show j.toNat=(lstOf s.ls (fstB a.members)).length from by omega,List.take_length,hl]
 rfl
theorem runJ_succ {s:Sol} {a:Sit} {j:Int} (h0:0≤j) (h1:j<(lstOf s.ls (fstB a.members)).length):runJ s a (j+1)=stepM s.p (cnt a.members) a (runJ s a j) (nthD (lstOf s.ls (fstB a.members)) j.toNat SId.off.dflt):=by
 unfold runJ
 rw[take_nth (d:=SId.off.dflt) h0 h1,List.foldl_append]
 rfl
theorem map_same_eq {es es':Memo} {kt:List Nat×Bool} (h:es=es'):(SObj.map SId.sit (SId.i IntKind.i64) true es kt true).same (SObj.map SId.sit (SId.i IntKind.i64) true es' kt true):=by rw[h];rfl
theorem bestX (n:Nat) (s:Sol) (a:Sit) (hg:Good s.p) (hl:s.ls=L8.of s.p) (ha:SitOk a) (hm:MemoOk s.p s.es) (hn:cnt a.members<n+1):
  Vc (fnOwnK (parL L8l (ownT (W9 n)) tyN mtN fnN) (Λ115 s a) F115 ((bestC (n+1)).put (s,a)) ((bestC (n+1)).st (s,a)) fun v t=>v.same ((bestC (n+1)).res (s,a))∧sameO t ((bestC (n+1)).out (s,a))):=by
 refine vcOf (let z0:=decide (a.members=(0:Int));let z1:=SV.il .i64 0;let z2:=bestM s.p (cnt a.members+1) s.es a;let z3:=SV.si .i64 z2.fst;let z4:=SId.i .i64;let z5:=SObj.cells [SV.si .i64 s.p.supply.a0,SV.si .i64 s.p.supply.a1,SV.si .i64 s.p.supply.a2,SV.si .i64 s.p.supply.a3,SV.si .i64 s.p.supply.a4,SV.si .i64 s.p.supply.a5,SV.si .i64 s.p.opn.a0,SV.si .i64 s.p.opn.a1,SV.si .i64 s.p.opn.a2,SV.si .i64 s.p.opn.a3,SV.si .i64 s.p.opn.a4,SV.si .i64 s.p.opn.a5,SV.si .i64 s.p.cls.a0,SV.si .i64 s.p.cls.a1,SV.si .i64 s.p.cls.a2,SV.si .i64 s.p.cls.a3,SV.si .i64 s.p.cls.a4,SV.si .i64 s.p.cls.a5,SV.row z4 s.p.classes,SV.row SId.off s.p.offers,SV.row SId.off s.ls.l0,SV.row SId.off s.ls.l1,SV.row SId.off s.ls.l2,SV.row SId.off s.ls.l3,SV.row SId.off s.ls.l4,SV.row SId.off s.ls.l5,SV.row SId.off s.ls.l6,SV.row SId.off s.ls.l7,SV.mp 1] 138 29 false;let z6:=([0,0,0,0,0,0,0,0,0,0,0,0,0],true);let z7:=SObj.map SId.sit z4 true s.es z6 true;let z8:=SObj.map SId.sit z4 true z2.snd z6 true;let z9:=findT SId.sit z4 a s.es;let z10:=SV.ptr 0 0 29;let z11:=SV.ptr 2 0 13;let z12:=[SV.si .i64 a.left.a0,SV.si .i64 a.left.a1,SV.si .i64 a.left.a2,SV.si .i64 a.left.a3,SV.si .i64 a.left.a4,SV.si .i64 a.left.a5,SV.si .i64 a.opn.a0,SV.si .i64 a.opn.a1,SV.si .i64 a.opn.a2,SV.si .i64 a.opn.a3,SV.si .i64 a.opn.a4,SV.si .i64 a.opn.a5];let z13:=SObj.cells (SV.si .i64 a.members::z12) 129 13 false;let z14:=fstB a.members;let z15:=lstOf s.ls z14;let z16:=SV.row SId.off z15;let z17:=(↑z15.length:Int);let z18:=SV.si .i64 z17;let z19:=(skipAt a).left;let z20:=(skipAt a).opn;let z21:=SObj.cells [SV.si .i64 (skipAt a).members,SV.si .i64 z19.a0,SV.si .i64 z19.a1,SV.si .i64 z19.a2,SV.si .i64 z19.a3,SV.si .i64 z19.a4,SV.si .i64 z19.a5,SV.si .i64 z20.a0,SV.si .i64 z20.a1,SV.si .i64 z20.a2,SV.si .i64 z20.a3,SV.si .i64 z20.a4,SV.si .i64 z20.a5] 129 13 false;(z0=true→z1.same z3∧z5.same z5∧z7.same z8∧True)∧(z0=false→(z9.isSome=true→(SV.si .i64 (z9.getD (0:Int))).same z3∧z5.same z5∧z7.same z8∧True)∧(z9.isSome=false→(((z10.same z10∧z11.same z11∧z1.same (SV.si .i64 0)∧True)∧z5.same z5∧z7.same z7∧z13.same z13∧True)∧(0:Int)≤(0:Int)∧(0:Int)≤z14)∧∀(x:Int),let z22:=decide (binK.andI .i64 (a.members / (2:Int)^x.toNat) (1:Int)=(0:Int));let z23:=x+(1:Int);let z24:=SV.si .i64 z23;let z25:=(1:Int)*(2:Int)^x.toNat;let z26:=binK.andNotI .i64 a.members z25;let z27:=Sit.mk z26 a.left a.opn;let z28:=bestM s.p (cnt z26+1) s.es z27;let z29:=nthD [s.ls.l0,s.ls.l1,s.ls.l2,s.ls.l3,s.ls.l4,s.ls.l5,s.ls.l6,s.ls.l7] x.toNat [];(0:Int)≤x∧x≤z14→(0:Int)≤x∧x≤(64:Int)∧(z22=true→inR .i64 z23∧((z10.same z10∧z11.same z11∧z24.same z24∧True)∧z5.same z5∧z7.same z7∧z13.same z13∧True)∧((0:Int)≤z23∧z23≤z14)∧(z14 - z23).toNat<(z14 - x).toNat)∧(z22=false→(0:Int)≤x∧x≤(64:Int)∧inR .i64 z25∧((Good s.p∧s.ls=L8.of s.p∧SitOk z27∧MemoOk s.p s.es)∧cnt z26<n)∧(0:Int)≤x∧x<(8:Int)∧x.toNat<8∧(((z10.same z10∧z11.same z11∧(SV.si .i64 z28.fst).same (SV.si .i64 (runJ s a (0:Int)).fst)∧(SV.row SId.off z29).same z16∧(SV.si .i64 (↑z29.length:Int)).same z18∧z1.same (SV.si .i64 0)∧True)∧z5.same z5∧(SObj.map SId.sit z4 true z28.snd z6 true).same (SObj.map SId.sit z4 true (runJ s a (0:Int)).snd z6 true)∧z13.same z13∧(SObj.cells (SV.si .i64 z26::z12) 129 13 false).same z21∧True)∧(0:Int)≤(0:Int)∧(0:Int)≤z17)∧∀(x:Int),let z30:=nthD z15 x.toNat SId.off.dflt;let z31:=afterS s.p a z30;let z32:=(runJ s a x).snd;let z33:=bestM s.p (cnt z31.members+1) z32 z31;let z34:=x+(1:Int);let z35:=(runJ s a x).fst;let z36:=SV.si .i64 (runJ s a z34).fst;let z37:=SV.si .i64 z34;let z38:=SObj.map SId.sit z4 true (runJ s a z34).snd z6 true;let z39:=SV.si .i64 z35;(0:Int)≤x∧x≤z17→(decide (x<z17)=true→(0:Int)≤x∧x<(↑z15.length:Int)∧x.toNat<z15.length∧(s.p.classes.length≤8∧(0:Int)≤z30.bidder∧z30.bidder<(↑s.p.classes.length:Int)∧a.b∧z30.want.ok=true)∧(fitsAt s.p a z30=true→((Good s.p∧s.ls=L8.of s.p∧SitOk z31∧MemoOk s.p z32)∧cnt z31.members<n)∧inR .i64 (z30.value+z33.fst)∧inR .i64 z34∧((z10.same z10∧z11.same z11∧(SV.si .i64 (max z35 (z30.value+z33.fst))).same z36∧z16.same z16∧z18.same z18∧z37.same z37∧True)∧z5.same z5∧(SObj.map SId.sit z4 true z33.snd z6 true).same z38∧z13.same z13∧z21.same z21∧True)∧((0:Int)≤z34∧z34≤z17)∧(z17 - z34).toNat<(z17 - x).toNat)∧(fitsAt s.p a z30=false→inR .i64 z34∧((z10.same z10∧z11.same z11∧z39.same z36∧z16.same z16∧z18.same z18∧z37.same z37∧True)∧z5.same z5∧(SObj.map SId.sit z4 true z32 z6 true).same z38∧z13.same z13∧z21.same z21∧True)∧((0:Int)≤z34∧z34≤z17)∧(z17 - z34).toNat<(z17 - x).toNat))∧(decide (x<z17)=false→z39.same z3∧z5.same z5∧(SObj.map SId.sit z4 true (setT SId.sit z4 a z35 z32) z6 true).same z8∧True))))) (by kernel_rfl) ?_
 simp only[vcs]
 refine⟨fun h0=>?_,fun h0=>⟨fun hf=>?_,fun hf=>?_⟩⟩
 ·rw[bestM_zero h0]
  exact⟨rfl,rfl⟩
 ·obtain⟨v,hv⟩:=Option.isSome_iff_exists.1 hf
  rw[bestM_hit h0 hv,hv]
  exact⟨rfl,rfl⟩
 ·have hnone:findT .sit (.i .i64) a s.es=none:=by simpa using hf
  obtain⟨f0,f1,f2,f3,f4⟩:=fst_ok ha.1 ha.2.1 h0
  obtain⟨s1,s2⟩:=skip_ok ha h0
  have hcs:cnt (skipAt a).members+1=cnt a.members:=by unfold cnt;rw[s2];simp
  have hle:lstOf s.ls (fstB a.members)=byB s.p (fstB a.members):=by rw[hl];exact lst_eq f0 f1
  have hll:(lstOf s.ls (fstB a.members)).length≤160:=by rw[hle];exact Nat.le_trans (List.length_filter_le _ _) hg.2.1
  have hb8:=best_ok hg (cnt a.members)
  obtain⟨q1,q2⟩:=hb8 s.es _ s1 hm (by omega)
  have hrun:∀j:Int,0≤(runJ s a j).1∧(runJ s a j).1≤9000000∧MemoOk s.p (runJ s a j).2:=by
   intro j
   have hmem:∀x∈(lstOf s.ls (fstB a.members)).take j.toNat,x∈byB s.p (fstB a.members):=fun x hx=>by rw[hle] at hx;exact List.mem_of_mem_take hx
   obtain⟨k1,k2⟩:=steps_ok hg ha h0 (n:=cnt a.members) (fun es b hb h1 h2=>hb8 es b hb h1 h2) (by omega) (xs:=(lstOf s.ls (fstB a.members)).take j.toNat) (r:=bestM s.p (cnt a.members) s.es (skipAt a)) hmem q2
   have hB:=stepV_bd (l:=a.left) (o:=a.opn) (fs:=memL (skipAt a).members) hg 8000000 (fun l o=>by
    have:=valL_bd hg (memL (skipAt a).members) l o
    have:=@mem_len (skipAt a).members
    omega) (xs:=(lstOf s.ls (fstB a.members)).take j.toNat) (v:=(bestM s.p (cnt a.members) s.es (skipAt a)).1) (fun x hx=>(List.mem_filter.1 (hmem x hx)).1) (by
     rw[q1]
     have:=bestS_bd hg (skipAt a)
     omega)
   unfold runJ
   rw[k1]
   exact⟨hB.1,hB.2,k2⟩
  refine⟨⟨by omega,f0⟩,?_⟩
  rintro f ⟨g0,g1⟩
  refine⟨g0,by omega,fun hb=>⟨by omega,⟨by omega,?_⟩,?_⟩,fun hb=>?_⟩
  ·have:f≠fstB a.members:=fun e=>f2 (by rw[←e];exact hb)
   omega
  ·have:f≠fstB a.members:=fun e=>f2 (by rw[←e];exact hb)
   omega
  ·have hfe:f=fstB a.members:=by
    by_cases hlt:f<fstB a.members
    ·exact absurd (f4 f g0 hlt) hb
    ·omega
   subst hfe
   simp only[Int.one_mul]
   have hp:(2:Int)^(fstB a.members).toNat≤256∧0<(2:Int)^(fstB a.members).toNat:=by
    have:(fstB a.members).toNat=0∨(fstB a.members).toNat=1∨(fstB a.members).toNat=2∨(fstB a.members).toNat=3∨(fstB a.members).toNat=4∨(fstB a.members).toNat=5∨(fstB a.members).toNat=6∨(fstB a.members).toNat=7:=by omega
    rcases this with h|h|h|h|h|h|h|h<;>rw[h]<;>decide
   have hsk:binK.andNotI .i64 a.members (2^(fstB a.members).toNat)=(skipAt a).members:=rfl
   simp only[hsk]
   have hse:(⟨(skipAt a).members,a.left,a.opn⟩:Sit)=skipAt a:=rfl
   simp only[hse,hcs]
   have hr0:runJ s a 0=bestM s.p (cnt a.members) s.es (skipAt a):=rfl
   refine⟨g0,by omega,⟨by omega,by omega⟩,⟨⟨hg,hl,s1,hm⟩,by omega⟩,g0,f1,by omega,⟨⟨⟨?_,rfl,rfl⟩,map_same_eq (by rw[hr0]),rfl⟩,by omega,by omega⟩,?_⟩
   ·rw[hr0]
   rintro j ⟨j0,j1⟩
   obtain⟨b1,b2,b3⟩:=hrun j
   refine⟨fun jlt=>?_,fun jge=>?_⟩
   ·have hsucc:=runJ_succ (s:=s) (a:=a) j0 jlt
    have hxm:=nthD_mem (d:=SId.off.dflt) (show j.toNat<(lstOf s.ls (fstB a.members)).length by omega)
    generalize nthD (lstOf s.ls (fstB a.members)) j.toNat SId.off.dflt=x at hsucc hxm ⊢
    rw[hle] at hxm
    have hxo:=(List.mem_filter.1 hxm).1
    have hxv:=hg.2.2.2.2 x hxo
    refine⟨j0,jlt,by omega,⟨hg.1,hxv.1,hxv.2.1,ha.2.2,hxv.2.2.1⟩,fun hfit=>?_,fun hfit=>?_⟩
    ·obtain⟨k1,k2,k3⟩:=next_ok hg ha h0 hxm hfit
     have hcn:cnt (nextAt s.p a x).members+1=cnt a.members:=by unfold cnt;rw[k2];simp
     have haf:afterS s.p a x=nextAt s.p a x:=by unfold afterS;rw[if_pos hfit]
     simp only[haf,hcn]
     obtain⟨e1,e2⟩:=hb8 (runJ s a j).2 _ k1 b3 (by omega)
     have hbd:=bestS_bd hg (nextAt s.p a x)
     have hst:runJ s a (j+1)=(max (runJ s a j).1 (x.value+(bestM s.p (cnt a.members) (runJ s a j).2 (nextAt s.p a x)).1),(bestM s.p (cnt a.members) (runJ s a j).2 (nextAt s.p a x)).2):=by
      rw[hsucc];unfold stepM;rw[if_pos hfit]
     rw[hst]
     refine⟨⟨⟨hg,hl,k1,b3⟩,by omega⟩,by rw[e1];omega,by omega,⟨rfl,rfl⟩,by omega,by omega⟩
    ·have hst:runJ s a (j+1)=runJ s a j:=by
      rw[hsucc];unfold stepM;rw[if_neg (by simp[hfit])]
     rw[hst]
     exact⟨by omega,⟨rfl,rfl⟩,by omega,by omega⟩
   ·have hj:j=(lstOf s.ls (fstB a.members)).length:=by omega
    rw[bestM_run hl h0 hnone hj]
    exact⟨rfl,rfl⟩
theorem hBest:∀n,HoldsO Tryz.prog (bestC n)
 |0=>by
  rintro⟨s,a⟩ ⟨_,h⟩
  exact absurd h (Nat.not_lt_zero _)
 |n+1=>by
  rintro⟨s,a⟩ ⟨h1,h2⟩
  by_cases hc:cnt a.members<n
  ·exact hBest n (s,a) ⟨h1,hc⟩
  ·refine holdsO_of (bestC (n+1)) (W:=W9 n) (Λ:=fun x=>Λ115 x.1 x.2) base_ok (by simp only[W9,List.forall_mem_cons,List.not_mem_nil,false_implies,implies_true,and_true];exact⟨hBest n,h116⟩) hL8
    (show fnN 83=some F115 by kernel_rfl) (fun _=>rfl) (s,a) ?_ (bestX n s a h1.1 h1.2.1 h1.2.2.1 h1.2.2.2 h2).out
   intro d hd b hb1 hb2 hb3
   have hd2:d=bestC n:=by
    have:findO 83 (W9 n)=some (bestC n):=rfl
    have hd3:findO 83 (W9 n)=some d:=hd
    rw[this] at hd3
    injection hd3 with hd3
    exact hd3.symm
   subst hd2
   have hb:(s,a)=b:=(bestC n).inj (s,a) b hb1 hb2
   subst hb
   exact hc hb3.2
def r113:OCtr where
 f:=82
 α:=Prob
 put p:=[codP.put p]
 st _:=[]
 dec v o:=match v,o with
  |[v],[]=>codP.dec v
  |_,_=>none
 ok v o a h:=by
  split at h
  ·exact⟨by simp only[gL,codP.ok _ _ h],rfl⟩
  ·cases h
 inj a b h _:=by
  simp only[gL,List.cons.injEq,and_true] at h
  exact codP.inj _ _ h
 dom p:=Good p
 res _:=.ptr 0 0 29
 out p:=Sol.o ⟨p,L8.of p,[]⟩
def sp113:Nat→Option (Nat×Nat×Nat)
 |5=>some (11,0,8)
 |_=>none
def byT (p:Prob) (i:Int) (j:Int):List Off:=(p.offers.take i.toNat).filter fun x=>decide (x.bidder=j)
def Λ113 (p:Prob):Nat→LoopAnn
 |3=> .inv Int (fun i=>⟨[(3,.ptr 2 0 29),(11,.row .off p.offers),(12,.si .i64 p.offers.length),(13,.si .i64 i)],
  [.cells p.ss 27 20 false,.map .sit (.i .i64) true [] ([0,0,0,0,0,0,0,0,0,0,0,0,0],true) true,
   .cells [.si .i64 p.supply.a0,.si .i64 p.supply.a1,.si .i64 p.supply.a2,.si .i64 p.supply.a3,.si .i64 p.supply.a4,.si .i64 p.supply.a5,
    .si .i64 p.opn.a0,.si .i64 p.opn.a1,.si .i64 p.opn.a2,.si .i64 p.opn.a3,.si .i64 p.opn.a4,.si .i64 p.opn.a5,
    .si .i64 p.cls.a0,.si .i64 p.cls.a1,.si .i64 p.cls.a2,.si .i64 p.cls.a3,.si .i64 p.cls.a4,.si .i64 p.cls.a5,
    .row (.i .i64) p.classes,.row .off p.offers,.ow 3 (byT p i 0).length 8,.ow 4 (byT p i 1).length 8,.ow 5 (byT p i 2).length 8,.ow 6 (byT p i 3).length 8,.ow 7 (byT p i 4).length 8,.ow 8 (byT p i 5).length 8,.ow 9 (byT p i 6).length 8,.ow 10 (byT p i 7).length 8,.mp 1] 138 29 false,
   .row .off (byT p i 0) 66 true,.row .off (byT p i 1) 66 true,.row .off (byT p i 2) 66 true,.row .off (byT p i 3) 66 true,.row .off (byT p i 4) 66 true,.row .off (byT p i 5) 66 true,.row .off (byT p i 6) 66 true,.row .off (byT p i 7) 66 true]⟩)
  (fun s=>iS s 13) (fun i=>0≤i∧i≤p.offers.length) (fun i=>(p.offers.length - i).toNat) fun _ _=> .look
 |_=> .look
theorem byT_hit {p:Prob} {i:Int} {j:Int} (h0:0≤i) (h1:i<p.offers.length) (h:(nthD p.offers i.toNat SId.off.dflt).bidder=j):byT p (i+1) j=byT p i j++[nthD p.offers i.toNat SId.off.dflt]:=by
 unfold byT
 rw[take_nth (d:=SId.off.dflt) h0 h1,List.filter_append]
 simp[h]
theorem byT_miss {p:Prob} {i:Int} {j:Int} (h0:0≤i) (h1:i<p.offers.length) (h:(nthD p.offers i.toNat SId.off.dflt).bidder≠j):byT p (i+1) j=byT p i j:=by
 unfold byT
 rw[take_nth (d:=SId.off.dflt) h0 h1,List.filter_append]
 simp[h]
theorem h113:HoldsO Tryz.prog r113:=by
 refine conN (L:=[]) (W:=[]) r113 F113 sp113 Λ113 (by simp) (by simp) (by kernel_rfl) (fun _=>rfl) (fun _=>rfl) (by kernel_rfl) ?_
 intro(p:Prob) (hp:Good p)
 refine vcOf (let z0:=SV.ptr 2 0 29;let z1:=SV.row SId.off p.offers;let z2:=(↑p.offers.length:Int);let z3:=(↑p.offers.length:Int);let z4:=SV.si .i64 z3;let z5:=SV.si .i64 p.supply.a0;let z6:=SV.si .i64 p.supply.a1;let z7:=SV.si .i64 p.supply.a2;let z8:=SV.si .i64 p.supply.a3;let z9:=SV.si .i64 p.supply.a4;let z10:=SV.si .i64 p.supply.a5;let z11:=SV.si .i64 p.opn.a0;let z12:=SV.si .i64 p.opn.a1;let z13:=SV.si .i64 p.opn.a2;let z14:=SV.si .i64 p.opn.a3;let z15:=SV.si .i64 p.opn.a4;let z16:=SV.si .i64 p.opn.a5;let z17:=SV.si .i64 p.cls.a0;let z18:=SV.si .i64 p.cls.a1;let z19:=SV.si .i64 p.cls.a2;let z20:=SV.si .i64 p.cls.a3;let z21:=SV.si .i64 p.cls.a4;let z22:=SV.si .i64 p.cls.a5;let z23:=SV.row (SId.i .i64) p.classes;let z24:=SObj.cells [z5,z6,z7,z8,z9,z10,z11,z12,z13,z14,z15,z16,z17,z18,z19,z20,z21,z22,z23,z1] 27 20 false;let z25:=SObj.map SId.sit (SId.i .i64) true [] ([0,0,0,0,0,0,0,0,0,0,0,0,0],true) true;let z26:=[SV.mp 1];let z27:=byT p (0:Int) (0:Int);let z28:=byT p (0:Int) (1:Int);let z29:=byT p (0:Int) (2:Int);let z30:=byT p (0:Int) (3:Int);let z31:=byT p (0:Int) (4:Int);let z32:=byT p (0:Int) (5:Int);let z33:=byT p (0:Int) (6:Int);let z34:=byT p (0:Int) (7:Int);let z35:=SObj.row SId.off [] 66 true;let z36:=SV.ptr 0 0 29;(((z0.same z0∧z1.same z1∧(SV.si .i64 z2).same z4∧(SV.il .i64 0).same (SV.si .i64 0)∧True)∧z24.same z24∧z25.same z25∧(SObj.cells (z5::z6::z7::z8::z9::z10::z11::z12::z13::z14::z15::z16::z17::z18::z19::z20::z21::z22::z23::z1::SV.ow 3 0 8::SV.ow 4 0 8::SV.ow 5 0 8::SV.ow 6 0 8::SV.ow 7 0 8::SV.ow 8 0 8::SV.ow 9 0 8::SV.ow 10 0 8::z26) 138 29 false).same (SObj.cells (z5::z6::z7::z8::z9::z10::z11::z12::z13::z14::z15::z16::z17::z18::z19::z20::z21::z22::z23::z1::SV.ow 3 z27.length 8::SV.ow 4 z28.length 8::SV.ow 5 z29.length 8::SV.ow 6 z30.length 8::SV.ow 7 z31.length 8::SV.ow 8 z32.length 8::SV.ow 9 z33.length 8::SV.ow 10 z34.length 8::z26) 138 29 false)∧z35.same (SObj.row SId.off z27 66 true)∧z35.same (SObj.row SId.off z28 66 true)∧z35.same (SObj.row SId.off z29 66 true)∧z35.same (SObj.row SId.off z30 66 true)∧z35.same (SObj.row SId.off z31 66 true)∧z35.same (SObj.row SId.off z32 66 true)∧z35.same (SObj.row SId.off z33 66 true)∧z35.same (SObj.row SId.off z34 66 true)∧True)∧(0:Int)≤(0:Int)∧(0:Int)≤z3)∧∀(x:Int),let z37:=nthD p.offers x.toNat SId.off.dflt;let z38:=z37.bidder;let z39:=byT p x (0:Int);let z40:=z39.length+1;let z41:=x+(1:Int);let z42:=SV.si .i64 z41;let z43:=z37.want;let z44:=z37.value;let z45:=z39++[Off.mk (0:Int) z43 z44];let z46:=byT p x (1:Int);let z47:=SV.ow 4 z46.length 8;let z48:=byT p x (2:Int);let z49:=SV.ow 5 z48.length 8;let z50:=byT p x (3:Int);let z51:=SV.ow 6 z50.length 8;let z52:=byT p x (4:Int);let z53:=SV.ow 7 z52.length 8;let z54:=byT p x (5:Int);let z55:=SV.ow 8 z54.length 8;let z56:=byT p x (6:Int);let z57:=SV.ow 9 z56.length 8;let z58:=byT p x (7:Int);let z59:=SV.ow 10 z58.length 8::z26;let z60:=z53::z55::z57::z59;let z61:=SObj.cells (z5::z6::z7::z8::z9::z10::z11::z12::z13::z14::z15::z16::z17::z18::z19::z20::z21::z22::z23::z1::SV.ow 3 (byT p z41 (0:Int)).length 8::SV.ow 4 (byT p z41 (1:Int)).length 8::SV.ow 5 (byT p z41 (2:Int)).length 8::SV.ow 6 (byT p z41 (3:Int)).length 8::SV.ow 7 (byT p z41 (4:Int)).length 8::SV.ow 8 (byT p z41 (5:Int)).length 8::SV.ow 9 (byT p z41 (6:Int)).length 8::SV.ow 10 (byT p z41 (7:Int)).length 8::z26) 138 29 false;let z62:=SObj.row SId.off (byT p z41 (0:Int)) 66 true;let z63:=SObj.row SId.off (byT p z41 (1:Int)) 66 true;let z64:=SObj.row SId.off (byT p z41 (2:Int)) 66 true;let z65:=SObj.row SId.off (byT p z41 (3:Int)) 66 true;let z66:=SObj.row SId.off (byT p z41 (4:Int)) 66 true;let z67:=SObj.row SId.off (byT p z41 (5:Int)) 66 true;let z68:=SObj.row SId.off (byT p z41 (6:Int)) 66 true;let z69:=SObj.row SId.off (byT p z41 (7:Int)) 66 true;let z70:=z46.length+1;let z71:=SV.ow 3 z39.length 8;let z72:=z46++[Off.mk (1:Int) z43 z44];let z73:=z48.length+1;let z74:=z48++[Off.mk (2:Int) z43 z44];let z75:=z50.length+1;let z76:=z50++[Off.mk (3:Int) z43 z44];let z77:=z52.length+1;let z78:=z52++[Off.mk (4:Int) z43 z44];let z79:=z54.length+1;let z80:=z54++[Off.mk (5:Int) z43 z44];let z81:=z56.length+1;let z82:=z56++[Off.mk (6:Int) z43 z44];let z83:=z58.length+1;let z84:=z58++[Off.mk (7:Int) z43 z44];(0:Int)≤x∧x≤z3→(decide (x<z3)=true→(0:Int)≤x∧x<z2∧x.toNat<p.offers.length∧(z38=(0:Int)→1=1∧z39.length=z39.length∧z40*64≤140737488355328∧z40≤1000000000000∧inR .i64 z41∧((z0.same z0∧z1.same z1∧z4.same z4∧z42.same z42∧True)∧z24.same z24∧z25.same z25∧(SObj.cells (z5::z6::z7::z8::z9::z10::z11::z12::z13::z14::z15::z16::z17::z18::z19::z20::z21::z22::z23::z1::SV.ow 3 z45.length 8::z47::z49::z51::z60) 138 29 false).same z61∧(SObj.row SId.off z45 66 true).same z62∧(SObj.row SId.off z46 66 true).same z63∧(SObj.row SId.off z48 66 true).same z64∧(SObj.row SId.off z50 66 true).same z65∧(SObj.row SId.off z52 66 true).same z66∧(SObj.row SId.off z54 66 true).same z67∧(SObj.row SId.off z56 66 true).same z68∧(SObj.row SId.off z58 66 true).same z69∧True)∧((0:Int)≤z41∧z41≤z3)∧(z3 - z41).toNat<(z3 - x).toNat)∧(z38=(1:Int)→1=1∧z46.length=z46.length∧z70*64≤140737488355328∧z70≤1000000000000∧inR .i64 z41∧((z0.same z0∧z1.same z1∧z4.same z4∧z42.same z42∧True)∧z24.same z24∧z25.same z25∧(SObj.cells (z5::z6::z7::z8::z9::z10::z11::z12::z13::z14::z15::z16::z17::z18::z19::z20::z21::z22::z23::z1::z71::SV.ow 4 z72.length 8::z49::z51::z60) 138 29 false).same z61∧(SObj.row SId.off z39 66 true).same z62∧(SObj.row SId.off z72 66 true).same z63∧(SObj.row SId.off z48 66 true).same z64∧(SObj.row SId.off z50 66 true).same z65∧(SObj.row SId.off z52 66 true).same z66∧(SObj.row SId.off z54 66 true).same z67∧(SObj.row SId.off z56 66 true).same z68∧(SObj.row SId.off z58 66 true).same z69∧True)∧((0:Int)≤z41∧z41≤z3)∧(z3 - z41).toNat<(z3 - x).toNat)∧(z38=(2:Int)→1=1∧z48.length=z48.length∧z73*64≤140737488355328∧z73≤1000000000000∧inR .i64 z41∧((z0.same z0∧z1.same z1∧z4.same z4∧z42.same z42∧True)∧z24.same z24∧z25.same z25∧(SObj.cells (z5::z6::z7::z8::z9::z10::z11::z12::z13::z14::z15::z16::z17::z18::z19::z20::z21::z22::z23::z1::z71::z47::SV.ow 5 z74.length 8::z51::z60) 138 29 false).same z61∧(SObj.row SId.off z39 66 true).same z62∧(SObj.row SId.off z46 66 true).same z63∧(SObj.row SId.off z74 66 true).same z64∧(SObj.row SId.off z50 66 true).same z65∧(SObj.row SId.off z52 66 true).same z66∧(SObj.row SId.off z54 66 true).same z67∧(SObj.row SId.off z56 66 true).same z68∧(SObj.row SId.off z58 66 true).same z69∧True)∧((0:Int)≤z41∧z41≤z3)∧(z3 - z41).toNat<(z3 - x).toNat)∧(z38=(3:Int)→1=1∧z50.length=z50.length∧z75*64≤140737488355328∧z75≤1000000000000∧inR .i64 z41∧((z0.same z0∧z1.same z1∧z4.same z4∧z42.same z42∧True)∧z24.same z24∧z25.same z25∧(SObj.cells (z5::z6::z7::z8::z9::z10::z11::z12::z13::z14::z15::z16::z17::z18::z19::z20::z21::z22::z23::z1::z71::z47::z49::SV.ow 6 z76.length 8::z60) 138 29 false).same z61∧(SObj.row SId.off z39 66 true).same z62∧(SObj.row SId.off z46 66 true).same z63∧(SObj.row SId.off z48 66 true).same z64∧(SObj.row SId.off z76 66 true).same z65∧(SObj.row SId.off z52 66 true).same z66∧(SObj.row SId.off z54 66 true).same z67∧(SObj.row SId.off z56 66 true).same z68∧(SObj.row SId.off z58 66 true).same z69∧True)∧((0:Int)≤z41∧z41≤z3)∧(z3 - z41).toNat<(z3 - x).toNat)∧(z38=(4:Int)→1=1∧z52.length=z52.length∧z77*64≤140737488355328∧z77≤1000000000000∧inR .i64 z41∧((z0.same z0∧z1.same z1∧z4.same z4∧z42.same z42∧True)∧z24.same z24∧z25.same z25∧(SObj.cells (z5::z6::z7::z8::z9::z10::z11::z12::z13::z14::z15::z16::z17::z18::z19::z20::z21::z22::z23::z1::z71::z47::z49::z51::SV.ow 7 z78.length 8::z55::z57::z59) 138 29 false).same z61∧(SObj.row SId.off z39 66 true).same z62∧(SObj.row SId.off z46 66 true).same z63∧(SObj.row SId.off z48 66 true).same z64∧(SObj.row SId.off z50 66 true).same z65∧(SObj.row SId.off z78 66 true).same z66∧(SObj.row SId.off z54 66 true).same z67∧(SObj.row SId.off z56 66 true).same z68∧(SObj.row SId.off z58 66 true).same z69∧True)∧((0:Int)≤z41∧z41≤z3)∧(z3 - z41).toNat<(z3 - x).toNat)∧(z38=(5:Int)→1=1∧z54.length=z54.length∧z79*64≤140737488355328∧z79≤1000000000000∧inR .i64 z41∧((z0.same z0∧z1.same z1∧z4.same z4∧z42.same z42∧True)∧z24.same z24∧z25.same z25∧(SObj.cells (z5::z6::z7::z8::z9::z10::z11::z12::z13::z14::z15::z16::z17::z18::z19::z20::z21::z22::z23::z1::z71::z47::z49::z51::z53::SV.ow 8 z80.length 8::z57::z59) 138 29 false).same z61∧(SObj.row SId.off z39 66 true).same z62∧(SObj.row SId.off z46 66 true).same z63∧(SObj.row SId.off z48 66 true).same z64∧(SObj.row SId.off z50 66 true).same z65∧(SObj.row SId.off z52 66 true).same z66∧(SObj.row SId.off z80 66 true).same z67∧(SObj.row SId.off z56 66 true).same z68∧(SObj.row SId.off z58 66 true).same z69∧True)∧((0:Int)≤z41∧z41≤z3)∧(z3 - z41).toNat<(z3 - x).toNat)∧(z38=(6:Int)→1=1∧z56.length=z56.length∧z81*64≤140737488355328∧z81≤1000000000000∧inR .i64 z41∧((z0.same z0∧z1.same z1∧z4.same z4∧z42.same z42∧True)∧z24.same z24∧z25.same z25∧(SObj.cells (z5::z6::z7::z8::z9::z10::z11::z12::z13::z14::z15::z16::z17::z18::z19::z20::z21::z22::z23::z1::z71::z47::z49::z51::z53::z55::SV.ow 9 z82.length 8::z59) 138 29 false).same z61∧(SObj.row SId.off z39 66 true).same z62∧(SObj.row SId.off z46 66 true).same z63∧(SObj.row SId.off z48 66 true).same z64∧(SObj.row SId.off z50 66 true).same z65∧(SObj.row SId.off z52 66 true).same z66∧(SObj.row SId.off z54 66 true).same z67∧(SObj.row SId.off z82 66 true).same z68∧(SObj.row SId.off z58 66 true).same z69∧True)∧((0:Int)≤z41∧z41≤z3)∧(z3 - z41).toNat<(z3 - x).toNat)∧(z38=(7:Int)→1=1∧z58.length=z58.length∧z83*64≤140737488355328∧z83≤1000000000000∧inR .i64 z41∧((z0.same z0∧z1.same z1∧z4.same z4∧z42.same z42∧True)∧z24.same z24∧z25.same z25∧(SObj.cells (z5::z6::z7::z8::z9::z10::z11::z12::z13::z14::z15::z16::z17::z18::z19::z20::z21::z22::z23::z1::z71::z47::z49::z51::z53::z55::z57::SV.ow 10 z84.length 8::z26) 138 29 false).same z61∧(SObj.row SId.off z39 66 true).same z62∧(SObj.row SId.off z46 66 true).same z63∧(SObj.row SId.off z48 66 true).same z64∧(SObj.row SId.off z50 66 true).same z65∧(SObj.row SId.off z52 66 true).same z66∧(SObj.row SId.off z54 66 true).same z67∧(SObj.row SId.off z56 66 true).same z68∧(SObj.row SId.off z84 66 true).same z69∧True)∧((0:Int)≤z41∧z41≤z3)∧(z3 - z41).toNat<(z3 - x).toNat)∧(0:Int)≤z38∧z38<(8:Int))∧(decide (x<z3)=false→z39.length=z39.length∧z46.length=z46.length∧z48.length=z48.length∧z50.length=z50.length∧z52.length=z52.length∧z54.length=z54.length∧z56.length=z56.length∧z58.length=z58.length∧z36.same z36∧(SObj.cells (z5::z6::z7::z8::z9::z10::z11::z12::z13::z14::z15::z16::z17::z18::z19::z20::z21::z22::z23::z1::SV.row SId.off z39::SV.row SId.off z46::SV.row SId.off z48::SV.row SId.off z50::SV.row SId.off z52::SV.row SId.off z54::SV.row SId.off z56::SV.row SId.off z58::z26) 138 29 false).same (SObj.cells (z5::z6::z7::z8::z9::z10::z11::z12::z13::z14::z15::z16::z17::z18::z19::z20::z21::z22::z23::z1::SV.row SId.off (L8.of p).l0::SV.row SId.off (L8.of p).l1::SV.row SId.off (L8.of p).l2::SV.row SId.off (L8.of p).l3::SV.row SId.off (L8.of p).l4::SV.row SId.off (L8.of p).l5::SV.row SId.off (L8.of p).l6::SV.row SId.off (L8.of p).l7::z26) 138 29 false)∧z25.same z25∧True)) (by kernel_rfl) ?_
 conv=>zeta
 try simp only[vcs]
 have hz:∀j,byT p 0 j=[]:=fun j=>rfl
 have hlen:∀i j,(byT p i j).length≤160:=fun i j=>by
  have h1:=List.length_filter_le (fun x:Off=>decide (x.bidder=j)) (p.offers.take i.toNat)
  have h2:=hp.2.1
  simp only[List.length_take] at h1
  unfold byT
  omega
 have h160:=hp.2.1
 refine⟨⟨by simp only[hz];exact⟨rfl,rfl,rfl,rfl,rfl,rfl,rfl,rfl,rfl⟩,by omega,by omega⟩,?_⟩
 rintro i ⟨hi0,hi1⟩
 refine⟨fun hlt=>⟨hi0,hlt,by omega,?c0,?c1,?c2,?c3,?c4,?c5,?c6,?c7,?cb⟩,fun hge=>?ce⟩
 case c0=>
  intro hb
  have hx:(⟨0,(nthD p.offers i.toNat SId.off.dflt).want,(nthD p.offers i.toNat SId.off.dflt).value⟩:Off)=nthD p.offers i.toNat SId.off.dflt:=by rw[←hb]
  simp only[hx]
  rw[byT_hit (j:=0) hi0 hlt hb]
  rw[byT_miss (j:=1) hi0 hlt (by rw[hb];decide)]
  rw[byT_miss (j:=2) hi0 hlt (by rw[hb];decide)]
  rw[byT_miss (j:=3) hi0 hlt (by rw[hb];decide)]
  rw[byT_miss (j:=4) hi0 hlt (by rw[hb];decide)]
  rw[byT_miss (j:=5) hi0 hlt (by rw[hb];decide)]
  rw[byT_miss (j:=6) hi0 hlt (by rw[hb];decide)]
  rw[byT_miss (j:=7) hi0 hlt (by rw[hb];decide)]
  have hl:=hlen i 0
  exact⟨by omega,by omega,by omega,⟨rfl,rfl,rfl,rfl,rfl,rfl,rfl,rfl,rfl⟩,by omega,by omega⟩
 case c1=>
  intro hb
  have hx:(⟨1,(nthD p.offers i.toNat SId.off.dflt).want,(nthD p.offers i.toNat SId.off.dflt).value⟩:Off)=nthD p.offers i.toNat SId.off.dflt:=by rw[←hb]
  simp only[hx]
  rw[byT_miss (j:=0) hi0 hlt (by rw[hb];decide)]
  rw[byT_hit (j:=1) hi0 hlt hb]
  rw[byT_miss (j:=2) hi0 hlt (by rw[hb];decide)]
  rw[byT_miss (j:=3) hi0 hlt (by rw[hb];decide)]
  rw[byT_miss (j:=4) hi0 hlt (by rw[hb];decide)]
  rw[byT_miss (j:=5) hi0 hlt (by rw[hb];decide)]
  rw[byT_miss (j:=6) hi0 hlt (by rw[hb];decide)]
  rw[byT_miss (j:=7) hi0 hlt (by rw[hb];decide)]
  have hl:=hlen i 1
  exact⟨by omega,by omega,by omega,⟨rfl,rfl,rfl,rfl,rfl,rfl,rfl,rfl,rfl⟩,by omega,by omega⟩
 case c2=>
  intro hb
  have hx:(⟨2,(nthD p.offers i.toNat SId.off.dflt).want,(nthD p.offers i.toNat SId.off.dflt).value⟩:Off)=nthD p.offers i.toNat SId.off.dflt:=by rw[←hb]
  simp only[hx]
  rw[byT_miss (j:=0) hi0 hlt (by rw[hb];decide)]
  rw[byT_miss (j:=1) hi0 hlt (by rw[hb];decide)]
  rw[byT_hit (j:=2) hi0 hlt hb]
  rw[byT_miss (j:=3) hi0 hlt (by rw[hb];decide)]
  rw[byT_miss (j:=4) hi0 hlt (by rw[hb];decide)]
  rw[byT_miss (j:=5) hi0 hlt (by rw[hb];decide)]
  rw[byT_miss (j:=6) hi0 hlt (by rw[hb];decide)]
  rw[byT_miss (j:=7) hi0 hlt (by rw[hb];decide)]
  have hl:=hlen i 2
  exact⟨by omega,by omega,by omega,⟨rfl,rfl,rfl,rfl,rfl,rfl,rfl,rfl,rfl⟩,by omega,by omega⟩
 case c3=>
  intro hb
  have hx:(⟨3,(nthD p.offers i.toNat SId.off.dflt).want,(nthD p.offers i.toNat SId.off.dflt).value⟩:Off)=nthD p.offers i.toNat SId.off.dflt:=by rw[←hb]
  simp only[hx]
  rw[byT_miss (j:=0) hi0 hlt (by rw[hb];decide)]
  rw[byT_miss (j:=1) hi0 hlt (by rw[hb];decide)]
  rw[byT_miss (j:=2) hi0 hlt (by rw[hb];decide)]
  rw[byT_hit (j:=3) hi0 hlt hb]
  rw[byT_miss (j:=4) hi0 hlt (by rw[hb];decide)]
  rw[byT_miss (j:=5) hi0 hlt (by rw[hb];decide)]
  rw[byT_miss (j:=6) hi0 hlt (by rw[hb];decide)]
  rw[byT_miss (j:=7) hi0 hlt (by rw[hb];decide)]
  have hl:=hlen i 3
  exact⟨by omega,by omega,by omega,⟨rfl,rfl,rfl,rfl,rfl,rfl,rfl,rfl,rfl⟩,by omega,by omega⟩
 case c4=>
  intro hb
  have hx:(⟨4,(nthD p.offers i.toNat SId.off.dflt).want,(nthD p.offers i.toNat SId.off.dflt).value⟩:Off)=nthD p.offers i.toNat SId.off.dflt:=by rw[←hb]
  simp only[hx]
  rw[byT_miss (j:=0) hi0 hlt (by rw[hb];decide)]
  rw[byT_miss (j:=1) hi0 hlt (by rw[hb];decide)]
  rw[byT_miss (j:=2) hi0 hlt (by rw[hb];decide)]
  rw[byT_miss (j:=3) hi0 hlt (by rw[hb];decide)]
  rw[byT_hit (j:=4) hi0 hlt hb]
  rw[byT_miss (j:=5) hi0 hlt (by rw[hb];decide)]
  rw[byT_miss (j:=6) hi0 hlt (by rw[hb];decide)]
  rw[byT_miss (j:=7) hi0 hlt (by rw[hb];decide)]
  have hl:=hlen i 4
  exact⟨by omega,by omega,by omega,⟨rfl,rfl,rfl,rfl,rfl,rfl,rfl,rfl,rfl⟩,by omega,by omega⟩
 case c5=>
  intro hb
  have hx:(⟨5,(nthD p.offers i.toNat SId.off.dflt).want,(nthD p.offers i.toNat SId.off.dflt).value⟩:Off)=nthD p.offers i.toNat SId.off.dflt:=by rw[←hb]
  simp only[hx]
  rw[byT_miss (j:=0) hi0 hlt (by rw[hb];decide)]
  rw[byT_miss (j:=1) hi0 hlt (by rw[hb];decide)]
  rw[byT_miss (j:=2) hi0 hlt (by rw[hb];decide)]
  rw[byT_miss (j:=3) hi0 hlt (by rw[hb];decide)]
  rw[byT_miss (j:=4) hi0 hlt (by rw[hb];decide)]
  rw[byT_hit (j:=5) hi0 hlt hb]
  rw[byT_miss (j:=6) hi0 hlt (by rw[hb];decide)]
  rw[byT_miss (j:=7) hi0 hlt (by rw[hb];decide)]
  have hl:=hlen i 5
  exact⟨by omega,by omega,by omega,⟨rfl,rfl,rfl,rfl,rfl,rfl,rfl,rfl,rfl⟩,by omega,by omega⟩
 case c6=>
  intro hb
  have hx:(⟨6,(nthD p.offers i.toNat SId.off.dflt).want,(nthD p.offers i.toNat SId.off.dflt).value⟩:Off)=nthD p.offers i.toNat SId.off.dflt:=by rw[←hb]
  simp only[hx]
  rw[byT_miss (j:=0) hi0 hlt (by rw[hb];decide)]
  rw[byT_miss (j:=1) hi0 hlt (by rw[hb];decide)]
  rw[byT_miss (j:=2) hi0 hlt (by rw[hb];decide)]
  rw[byT_miss (j:=3) hi0 hlt (by rw[hb];decide)]
  rw[byT_miss (j:=4) hi0 hlt (by rw[hb];decide)]
  rw[byT_miss (j:=5) hi0 hlt (by rw[hb];decide)]
  rw[byT_hit (j:=6) hi0 hlt hb]
  rw[byT_miss (j:=7) hi0 hlt (by rw[hb];decide)]
  have hl:=hlen i 6
  exact⟨by omega,by omega,by omega,⟨rfl,rfl,rfl,rfl,rfl,rfl,rfl,rfl,rfl⟩,by omega,by omega⟩
 case c7=>
  intro hb
  have hx:(⟨7,(nthD p.offers i.toNat SId.off.dflt).want,(nthD p.offers i.toNat SId.off.dflt).value⟩:Off)=nthD p.offers i.toNat SId.off.dflt:=by rw[←hb]
  simp only[hx]
  rw[byT_miss (j:=0) hi0 hlt (by rw[hb];decide)]
  rw[byT_miss (j:=1) hi0 hlt (by rw[hb];decide)]
  rw[byT_miss (j:=2) hi0 hlt (by rw[hb];decide)]
  rw[byT_miss (j:=3) hi0 hlt (by rw[hb];decide)]
  rw[byT_miss (j:=4) hi0 hlt (by rw[hb];decide)]
  rw[byT_miss (j:=5) hi0 hlt (by rw[hb];decide)]
  rw[byT_miss (j:=6) hi0 hlt (by rw[hb];decide)]
  rw[byT_hit (j:=7) hi0 hlt hb]
  have hl:=hlen i 7
  exact⟨by omega,by omega,by omega,⟨rfl,rfl,rfl,rfl,rfl,rfl,rfl,rfl,rfl⟩,by omega,by omega⟩
 case cb=>
  have hv:=hp.2.2.2.2 _ (nthD_mem (d:=SId.off.dflt) (show i.toNat<p.offers.length by omega))
  have:=hp.1
  exact⟨hv.1,by omega⟩
 case ce=>
  have hb:∀j,byT p i j=byB p j:=fun j=>by unfold byT byB;rw[show i.toNat=p.offers.length from by omega,List.take_length]
  simp only[hb]
  rfl
def WK:List OCtr:=[r113,r114,r116,bestC 9]
theorem hWK:∀c∈WK,HoldsO Tryz.prog c:=by
 simp only[WK,List.forall_mem_cons,List.not_mem_nil,false_implies,implies_true,and_true]
 exact⟨h113,h114,h116,hBest 9⟩
def tabP (p:Prob) (n:Nat):List Int:=(List.range n).map fun(m:Nat)=>bestS p ⟨(m:Int),p.supply,p.opn⟩
def tabS (p:Prob):List Int:=tabP p (2^p.classes.length)
def r121:SCtr:=⟨53,Prob,.one codP,fun _=>True,fun p=> .tup [.row (.i .i64) (if checkE p=0 then tabS p else[]),.si .i64 (checkE p)]⟩
def stT (p:Prob) (es:Memo) (out:List Int):SStore:=[.cells p.ss 27 20 false,
 .cells [.si .i64 p.supply.a0,.si .i64 p.supply.a1,.si .i64 p.supply.a2,.si .i64 p.supply.a3,.si .i64 p.supply.a4,.si .i64 p.supply.a5,
  .si .i64 p.opn.a0,.si .i64 p.opn.a1,.si .i64 p.opn.a2,.si .i64 p.opn.a3,.si .i64 p.opn.a4,.si .i64 p.opn.a5,
  .si .i64 p.cls.a0,.si .i64 p.cls.a1,.si .i64 p.cls.a2,.si .i64 p.cls.a3,.si .i64 p.cls.a4,.si .i64 p.cls.a5,
  .row (.i .i64) p.classes,.row .off p.offers,.row .off (L8.of p).l0,.row .off (L8.of p).l1,.row .off (L8.of p).l2,.row .off (L8.of p).l3,.row .off (L8.of p).l4,.row .off (L8.of p).l5,.row .off (L8.of p).l6,.row .off (L8.of p).l7,.mp 2] 138 29 false,
 .map .sit (.i .i64) true es ([0,0,0,0,0,0,0,0,0,0,0,0,0],true) true,.row (.i .i64) out 2 true]
def Λ121 (p:Prob):Nat→LoopAnn
 |7=> .inv (Int×Memo×List Int) (fun x=>⟨[(5,.ptr 1 0 29),(6,.ow 3 x.2.2.length 1),(18,.si .i64 (2^p.classes.length)),(19,.si .i64 x.1)],stT p x.2.1 x.2.2⟩) (fun s=>(iS s 19,mS .sit (.i .i64) s 2,oS (.i .i64) s 3))
  (fun x=>(0≤x.1∧x.1≤2^p.classes.length)∧MemoOk p x.2.1∧x.2.2=tabP p x.1.toNat) (fun x=>(2^p.classes.length - x.1).toNat) fun _ _=> .look
 |_=> .look
theorem h121:Holds Tryz.prog r121:=by
 refine con (L:=[r79]) (W:=ownT WK) r121 F121 Λ121 (ownT_ok hWK) (by simpa using h79) (by kernel_rfl) (by kernel_rfl) (fun _=>rfl) ?_
 rintro(p:Prob) -
 refine vcOf (let z0:=decide (checkE p≠(0:Int));let z1:=SId.i .i64;let z2:=[SV.si .i64 (checkE p)];let z3:=SV.tup (SV.row z1 (if checkE p=(0:Int) then tabS p else[])::z2);let z4:=(↑p.classes.length:Int);let z5:=(1:Int)*(2:Int)^z4.toNat;let z6:=SV.ptr 1 0 29;let z7:=SV.ow 3 0 1;let z8:=(2:Int)^p.classes.length;let z9:=SV.si .i64 z8;let z10:=SV.il .i64 0;let z11:=SV.si .i64 p.supply.a0;let z12:=SV.si .i64 p.supply.a1;let z13:=SV.si .i64 p.supply.a2;let z14:=SV.si .i64 p.supply.a3;let z15:=SV.si .i64 p.supply.a4;let z16:=SV.si .i64 p.supply.a5;let z17:=SV.si .i64 p.opn.a0;let z18:=SV.si .i64 p.opn.a1;let z19:=SV.si .i64 p.opn.a2;let z20:=SV.si .i64 p.opn.a3;let z21:=SV.si .i64 p.opn.a4;let z22:=SV.si .i64 p.opn.a5;let z23:=SV.si .i64 p.cls.a0;let z24:=SV.si .i64 p.cls.a1;let z25:=SV.si .i64 p.cls.a2;let z26:=SV.si .i64 p.cls.a3;let z27:=SV.si .i64 p.cls.a4;let z28:=SV.si .i64 p.cls.a5;let z29:=SV.row SId.off p.offers;let z30:=SObj.cells [z11,z12,z13,z14,z15,z16,z17,z18,z19,z20,z21,z22,z23,z24,z25,z26,z27,z28,SV.row z1 p.classes,z29] 27 20 false;let z31:=SObj.cells [z11,z12,z13,z14,z15,z16,z17,z18,z19,z20,z21,z22,z23,z24,z25,z26,z27,z28,SV.row z1 p.classes,z29,SV.row SId.off (L8.of p).l0,SV.row SId.off (L8.of p).l1,SV.row SId.off (L8.of p).l2,SV.row SId.off (L8.of p).l3,SV.row SId.off (L8.of p).l4,SV.row SId.off (L8.of p).l5,SV.row SId.off (L8.of p).l6,SV.row SId.off (L8.of p).l7,SV.mp 2] 138 29 false;let z32:=([0,0,0,0,0,0,0,0,0,0,0,0,0],true);let z33:=SObj.map SId.sit z1 true [] z32 true;let z34:=SObj.row z1 [] 2 true;True∧(z0=true→(SV.tup (SV.row z1 []::z2)).same z3)∧(z0=false→Good p∧(0:Int)≤z4∧z4≤(64:Int)∧inR .i64 z5∧(((z6.same z6∧z7.same z7∧(SV.si .i64 z5).same z9∧z10.same (SV.si .i64 0)∧True)∧z30.same z30∧z31.same z31∧z33.same z33∧z34.same z34∧True)∧((0:Int)≤(0:Int)∧(0:Int)≤z8)∧MemoOk p []∧[]=tabP p 0)∧∀(x:Int×Memo×List Int),let z35:=Sit.mk x.fst p.supply p.opn;let z36:=x.snd.snd.length+1;let z37:=x.fst+(1:Int);let z38:=bestM p (cnt x.fst+1) x.snd.fst z35;let z39:=x.snd.snd++[z38.fst];let z40:=SV.si .i64 z37;let z41:=SObj.map SId.sit z1 true z38.snd z32 true;let z42:=SObj.row z1 z39 2 true;((0:Int)≤x.fst∧x.fst≤z8)∧MemoOk p x.snd.fst∧x.snd.snd=tabP p x.fst.toNat→(decide (x.fst<z8)=true→True∧((Good p∧L8.of p=L8.of p∧SitOk z35∧MemoOk p x.snd.fst)∧cnt x.fst<9)∧x.snd.snd.length=x.snd.snd.length∧z36*8≤140737488355328∧z36≤1000000000000∧inR .i64 z37∧((z6.same z6∧(SV.ow 3 z39.length 1).same (SV.ow 3 z39.length 1)∧z9.same z9∧z40.same z40∧True)∧z30.same z30∧z31.same z31∧z41.same z41∧z42.same z42∧True)∧(((0:Int)≤z37∧z37≤z8)∧MemoOk p z38.snd∧z39=tabP p z37.toNat)∧(z8 - z37).toNat<(z8 - x.fst).toNat)∧(decide (x.fst<z8)=false→x.snd.snd.length=x.snd.snd.length∧(SV.tup [SV.row z1 x.snd.snd,z10]).same z3))) (by kernel_rfl) ?_
 simp only[vcs]
 refine⟨fun hne=>?_,fun hz=>?_⟩
 ·rw[if_neg hne]
 have hz:checkE p=0:=by simpa using hz
 have hg:=good_of hz
 have hp:=pow_n hg.1
 have h8:=hg.1
 have e0:(1:Int)*2^((p.classes.length:Int)).toNat=2^p.classes.length:=by rw[Int.one_mul,Int.toNat_natCast]
 have c0:((2^p.classes.length:Nat):Int)=2^p.classes.length:=by push_cast;rfl
 rw[e0]
 have hm0:MemoOk p []:=fun e he=>by simp at he
 have cn:∀z,cnt z<9:=fun z=>by have:=@mem_len z;unfold cnt;omega
 refine⟨hg,by omega,by omega,by omega,?_,?_⟩
 ·repeat' refine And.intro ?_ ?_
  all_goals first|omega|rfl|exact hm0|trivial
 rintro⟨i,es,out⟩ ⟨⟨i0,i1⟩,hes,ho⟩
 simp only at i0 i1 hes ho ⊢
 subst ho
 have hol:(tabP p i.toNat).length=i.toNat:=by simp[tabP]
 refine⟨fun hi=>?_,fun hi=>?_⟩
 ·have ha:SitOk ⟨i,p.supply,p.opn⟩:=⟨i0,by simp only;omega,hg.2.2.1,hg.2.2.2.1⟩
  obtain⟨b1,b2⟩:=best_ok hg (cnt i+1) es ⟨i,p.supply,p.opn⟩ ha hes (by simp only;omega)
  have hsucc:tabP p (i+1).toNat=tabP p i.toNat++[bestS p ⟨i,p.supply,p.opn⟩]:=by
   unfold tabP
   rw[show(i+1).toNat=i.toNat+1 by omega,List.range_succ,List.map_append,List.map_cons,List.map_nil,show((i.toNat:Nat):Int)=i by omega]
  rw[b1]
  refine⟨⟨⟨hg,ha,hes⟩,cn i⟩,?_⟩
  repeat' refine And.intro ?_ ?_
  all_goals first|omega|exact b2|exact hsucc.symm|rfl
 ·rw[if_pos hz,hz]
  have:i.toNat=2^p.classes.length:=by omega
  unfold tabS
  rw[this]
  exact⟨rfl,rfl⟩
def valI (p:Prob) (i:Int):Int:=(nthD p.offers i.toNat SId.off.dflt).value
def leftN (p:Prob) (i:Int):Nat:=(p.offers.length - i).toNat
theorem conR {L:List SCtr} {W:OwnT} (c:SCtr) (F:IFn) (Λ:Nat→LoopAnn) (hW:OwnOK Tryz.prog W) (hL:∀c∈L,Holds Tryz.prog c)
  (hF:fnN c.f=some F) (a:c.α) (hlen:(c.A.put a).length=F.params) (hfr:∀d,findC c.f L=some d→∀b,gL (c.A.put a)=gL (d.A.put b)→¬d.dom b)
  (h:Vc (fnK (parL L W tyN mtN fnN) Λ F (c.A.put a) fun v=>v.same (c.res a))):goodF Tryz.prog c.f=true∧CallO Tryz.prog c.f (gL (c.A.put a)) [] (c.res a).g []:=by
 refine fnK_sound (p:=parL L W tyN mtN fnN) (Λ:=Λ) (tabL_ok hW hL base_ok) (tabL_calls hW) (fun _ _ h=>h) hF ?_ hlen h.out
 simp only[tabL,tabK,Bool.false_eq_true,if_false]
 split
 ·rename_i d hd
  have:ans (fun a=>gL (d.A.put a)) d.dom (fun a=>(d.res a).g) (gL (c.A.put a))=none:=by
   unfold ans
   rw[dif_neg]
   rintro⟨b,h1,h2⟩
   exact hfr d hd b h1 h2
  rw[this]
  rfl
 ·rfl
end Go.Vi
