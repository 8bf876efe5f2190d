/-
  Plain law: long division of natural numbers.
  Conditions: none.
-/
import Derived.Test.YtoifpgeocpjneaaDB06
import Derived.Test.YtoifpgeocpjneaaDB07
import Derived.Test.YtoifpgeocpjneaaDB08
set_option maxRecDepth 100000
set_option maxHeartbeats 4000000
set_option linter.unusedSimpArgs false
set_option linter.unusedVariables false
namespace Go.Vi
theorem val_split {U:List Int} {j:Nat} (h:j≤U.length):valN U=valN (U.take j)+4294967296^j*valN (U.drop j):=by
 conv=>lhs;rw[←List.take_append_drop j U]
 rw[val_app,List.length_take,Nat.min_eq_left h]
theorem wth_take {U l:List Int} {j:Nat} (h:j≤U.length):(wth U j l).take j=U.take j:=by
 unfold wth
 rw[List.take_append_of_le_length (by simp;omega),List.take_take,Nat.min_self]
theorem wth_drop {U l:List Int} {j:Nat} (h:j≤U.length):(wth U j l).drop j=l++U.drop (j+l.length):=by
 unfold wth
 rw[List.drop_append,List.drop_of_length_le (by simp;omega),List.length_take,Nat.min_eq_left h,Nat.sub_self]
 simp
theorem dig_wth {U l:List Int} {j:Nat} (hU:Dig U) (hl:Dig l):Dig (wth U j l):=dig_app (dig_take hU _) (dig_app hl (dig_drop hU _))
theorem dv_step {U q v:List Int} {j m:Nat} {A:Int} (hU:Dig U) (hv:Dig v) (hq:Dig q) (hn:2≤v.length) (hlU:U.length=m+1+v.length) (hlq:q.length=m+1) (hj:j≤m) (hV:0<valN v)
  (hz:nthD q j 0=0) (he:valN U+valN v*valN q=A) (hlt:valN (U.drop (j+1))<valN v):
  valN (prt U j (v.length+1))<4294967296*valN v∧
  (Dig (wth U j (digK (v.length+1) (valN (prt U j (v.length+1)) % valN v)))∧(wth U j (digK (v.length+1) (valN (prt U j (v.length+1)) % valN v))).length=U.length)∧
  (0≤valN (prt U j (v.length+1)) / valN v∧valN (prt U j (v.length+1)) / valN v<4294967296)∧
  valN (wth U j (digK (v.length+1) (valN (prt U j (v.length+1)) % valN v)))+valN v*valN (q.set j (valN (prt U j (v.length+1)) / valN v))=A∧
  valN ((wth U j (digK (v.length+1) (valN (prt U j (v.length+1)) % valN v))).drop j)<valN v:=by
 have hVb:=val_bdN hv
 have hd1:=dig_drop hU (j+1)
 have hX0:=val_nonneg (prt_dig hU (j:=j) (k:=v.length+1))
 have hrest:valN (U.drop (j+(v.length+1)))=0:=by
  have h1:valN (U.drop (j+1))=valN ((U.drop (j+1)).take v.length)+4294967296^v.length*valN ((U.drop (j+1)).drop v.length):=val_split (by simp;omega)
  rw[List.drop_drop,show j+1+v.length=j+(v.length+1) by omega] at h1
  have h2:=val_nonneg (dig_take hd1 v.length)
  have h3:=val_nonneg (dig_drop hU (j+(v.length+1)))
  by_cases h:valN (U.drop (j+(v.length+1)))=0
  ·exact h
  ·have:=Int.mul_le_mul_of_nonneg_left (show(1:Int)≤valN (U.drop (j+(v.length+1))) by omega) (Int.le_of_lt (pow_pos v.length))
   rw[Int.mul_one] at this
   omega
 have hdrop:valN (U.drop j)=valN (prt U j (v.length+1)):=by
  have h1:valN (U.drop j)=valN ((U.drop j).take (v.length+1))+4294967296^(v.length+1)*valN ((U.drop j).drop (v.length+1)):=val_split (by simp;omega)
  rw[List.drop_drop,hrest,Int.mul_zero,Int.add_zero] at h1
  exact h1
 have hcons:valN (U.drop j)=nthD U j 0+4294967296*valN (U.drop (j+1)):=by
  rw[drop_nthN (show j<U.length by omega)]
  rfl
 have du:=dig_nth hU j
 have hX:valN (prt U j (v.length+1))<4294967296*valN v:=by rw[←hdrop,hcons];omega
 have hlk:=@digK_len (v.length+1) (valN (prt U j (v.length+1)) % valN v)
 have hm0:=Int.emod_nonneg (valN (prt U j (v.length+1))) (show valN v≠0 by omega)
 have hm1:=Int.emod_lt_of_pos (valN (prt U j (v.length+1))) hV
 have hkv:valN (digK (v.length+1) (valN (prt U j (v.length+1)) % valN v))=valN (prt U j (v.length+1)) % valN v:=by
  refine digK_val hm0 ?_
  rw[Int.pow_succ]
  omega
 have hnd:valN ((wth U j (digK (v.length+1) (valN (prt U j (v.length+1)) % valN v))).drop j)=valN (prt U j (v.length+1)) % valN v:=by
  rw[wth_drop (by omega),val_app,hlk,hrest,hkv,Int.mul_zero,Int.add_zero]
 have hwl:(wth U j (digK (v.length+1) (valN (prt U j (v.length+1)) % valN v))).length=U.length:=wth_len (by rw[hlk];omega)
 have hq0:0≤valN (prt U j (v.length+1)) / valN v:=Int.ediv_nonneg hX0 (by omega)
 refine⟨hX,⟨dig_wth hU digK_dig,hwl⟩,⟨hq0,Int.ediv_lt_of_lt_mul hV hX⟩,?_,by rw[hnd];exact hm1⟩
 rw[val_split (U:=wth U j _) (j:=j) (by rw[hwl];omega),wth_take (by omega),hnd,val_set (by omega),hz,Int.sub_zero]
 rw[val_split (U:=U) (j:=j) (by omega),hdrop] at he
 have hdm:=Int.mul_ediv_add_emod (valN (prt U j (v.length+1))) (valN v)
 generalize valN (prt U j (v.length+1)) / valN v=d at*
 generalize valN (prt U j (v.length+1)) % valN v=r at*
 rw[←hdm] at he
 rw[Int.mul_add,Int.mul_left_comm (valN v) (4294967296^j)]
 rw[Int.mul_add] at he
 omega
theorem dv_start {a b:List Int} {s:Nat} (ha:Dig a) (hb:Dig b) (hs:s≤31) (hlen:b.length≤a.length) (hb1:1≤b.length) (htop:1≤nthD b (b.length - 1) 0):
  Dig (shl a s)∧(shl a s).length=a.length+1∧valN (shl a s)=valN a*2^s∧valN ((shl a s).drop (a.length - b.length+1))<valN b*2^s:=by
 have hk:(0:Int)<2^s:=Int.pow_pos (by decide)
 have hk2:(2:Int)^s≤2147483648:=by
  have h1:(2:Nat)^s≤2^31:=Nat.pow_le_pow_right (by decide) hs
  have h2:(2:Nat)^31=2147483648:=by decide
  rw[h2] at h1
  have h3:(2:Int)^s=((2^s:Nat):Int):=by push_cast;rfl
  rw[h3]
  omega
 have hv0:=val_nonneg ha
 have hbd:=val_bdN ha
 have hA:valN a*2^s<4294967296^a.length*2^s:=Int.mul_lt_mul_of_pos_right hbd hk
 have hval:valN (shl a s)=valN a*2^s:=by
  unfold shl
  refine digK_val (Int.mul_nonneg hv0 (Int.le_of_lt hk)) (Int.lt_of_lt_of_le hA ?_)
  rw[Int.pow_succ]
  exact Int.mul_le_mul_of_nonneg_left (by omega) (Int.le_of_lt (pow_pos _))
 have hd:Dig (shl a s):=digK_dig
 have hl:(shl a s).length=a.length+1:=digK_len
 refine⟨hd,hl,hval,?_⟩
 have h1:=val_split (U:=shl a s) (j:=a.length - b.length+1) (by omega)
 have h2:=val_nonneg (dig_take hd (a.length - b.length+1))
 have h3:4294967296^(b.length - 1)*nthD b (b.length - 1) 0≤valN b:=nth_le hb
 have h4:(4294967296:Int)^(b.length - 1)≤valN b:=by
  have:=Int.mul_le_mul_of_nonneg_left htop (Int.le_of_lt (pow_pos (b.length - 1)))
  rw[Int.mul_one] at this
  omega
 have h5:(4294967296:Int)^a.length=4294967296^(a.length - b.length+1)*4294967296^(b.length - 1):=by
  rw[←Int.pow_add]
  congr 1
  omega
 rw[hval] at h1
 have h6:(4294967296:Int)^(a.length - b.length+1)*valN ((shl a s).drop (a.length - b.length+1))<4294967296^(a.length - b.length+1)*(4294967296^(b.length - 1)*2^s):=by
  rw[←Int.mul_assoc,←h5]
  omega
 have h7:=Int.lt_of_mul_lt_mul_left h6 (Int.le_of_lt (pow_pos _))
 exact Int.lt_of_lt_of_le h7 (Int.mul_le_mul_of_nonneg_right h4 (Int.le_of_lt hk))
theorem rs_digit {x y:Int} {s:Nat} (x0:0≤x) (x1:x<4294967296) (y0:0≤y) (y1:y<4294967296) (hs0:0<s) (hs:s≤31):
  ∃r,binK.orI .u32 (x / 2^s) (y*2^(32 - s) % 4294967296)=r∧(0≤r∧r<4294967296)∧2^s*r=x - x % 2^s+4294967296*(y % 2^s):=by
 have hk:(0:Int)<2^s:=Int.pow_pos (by decide)
 have hq:(0:Int)<2^(32 - s):=Int.pow_pos (by decide)
 have hB:(4294967296:Int)=2^s*2^(32 - s):=by
  rw[←Int.pow_add,show s+(32 - s)=32 by omega]
  decide
 have e1:y*2^(32 - s) % 4294967296=(y % 2^s)*2^(32 - s):=by
  conv=>lhs;rw[hB]
  rw[Int.mul_comm y,Int.mul_comm (2^s),Int.mul_emod_mul_of_pos _ _ hq,Int.mul_comm]
 have m0:=Int.emod_nonneg y (show(2:Int)^s≠0 by omega)
 have m1:=Int.emod_lt_of_pos y hk
 have d0:0≤x / 2^s:=Int.ediv_nonneg x0 (Int.le_of_lt hk)
 have d1:x / 2^s<2^(32 - s):=Int.ediv_lt_of_lt_mul hk (by rw[Int.mul_comm,←hB];exact x1)
 have hm2:(y % 2^s)*2^(32 - s)+2^(32 - s)≤4294967296:=by
  have:=Int.mul_le_mul_of_nonneg_right (show y % 2^s+1≤2^s by omega) (Int.le_of_lt hq)
  rw[←hB,Int.add_mul,Int.one_mul] at this
  exact this
 have hmn:0≤(y % 2^s)*2^(32 - s):=Int.mul_nonneg m0 (Int.le_of_lt hq)
 have hor:=or_add32 (k:=32 - s) d0 d1 m0 (by omega) (by omega)
 refine⟨x / 2^s+(y % 2^s)*2^(32 - s),by rw[e1,hor],⟨by omega,by omega⟩,?_⟩
 have hxd:=Int.mul_ediv_add_emod x (2^s)
 rw[Int.mul_add,Int.mul_left_comm,←hB,Int.mul_comm (y % 2^s)]
 omega
theorem rs_step {U r:List Int} {i s:Nat} {d:Int} (hU:Dig U) (hr:Dig r) (hi:i<r.length) (hz:∀j,i≤j→nthD r j 0=0) (hd0:0≤d∧d<4294967296)
  (hd:2^s*d=nthD U i 0 - nthD U i 0 % 2^s+4294967296*(nthD U (i+1) 0 % 2^s))
  (he:2^s*valN r=valN (U.take i) - nthD U 0 0 % 2^s+4294967296^i*(nthD U i 0 % 2^s)):
  Dig (r.set i d)∧(r.set i d).length=r.length∧(∀j,i+1≤j→nthD (r.set i d) j 0=0)∧
  2^s*valN (r.set i d)=valN (U.take (i+1)) - nthD U 0 0 % 2^s+4294967296^(i+1)*(nthD U (i+1) 0 % 2^s):=by
 refine⟨dig_set hr hd0.1 hd0.2,by simp,fun j hj=>by rw[nth_set_ne (by omega)];exact hz j (by omega),?_⟩
 rw[val_set hi,hz i (Nat.le_refl _),Int.sub_zero,Int.mul_add,he,take_snoc0,Int.pow_succ,Int.mul_left_comm,hd]
 generalize (4294967296:Int)^i=B at*
 simp only[Int.mul_add,Int.mul_sub,Int.mul_assoc]
 omega
theorem rs_fin {U r v q:List Int} {n s:Nat} {a b:Int} (hU:Dig U) (hr:Dig r) (hv:Dig v) (hvn:v.length=n) (hlt:valN U<valN v) (hb:valN v=b*2^s) (hb0:0<b) (he:valN U+valN v*valN q=a*2^s)
  (hs:s≤31) (hln:n+1≤U.length)
  (hfin:2^s*valN r=valN (U.take n) - nthD U 0 0 % 2^s+4294967296^n*(nthD U n 0 % 2^s)):valN q=a / b∧valN r=a % b:=by
 have hk:(0:Int)<2^s:=Int.pow_pos (by decide)
 have hVb:=val_bdN hv
 rw[hvn] at hVb
 have hun:nthD U n 0=0:=nth_small hU (i:=n) (by omega) (Nat.le_refl _)
 have hut:valN (U.take n)=valN U:=by
  have h1:=val_split (U:=U) (j:=n) (by omega)
  have h2:=val_nonneg (dig_take hU n)
  have h3:=val_nonneg (dig_drop hU n)
  by_cases h:valN (U.drop n)=0
  ·rw[h,Int.mul_zero] at h1;omega
  ·have:=Int.mul_le_mul_of_nonneg_left (show(1:Int)≤valN (U.drop n) by omega) (Int.le_of_lt (pow_pos n))
   rw[Int.mul_one] at this
   omega
 have hUm:valN U=2^s*(a - b*valN q):=by
  rw[Int.mul_sub,Int.mul_comm (2^s) a,←he,hb,Int.mul_comm (2^s) (b*valN q),Int.mul_assoc b,Int.mul_assoc b,Int.mul_comm (2^s)]
  omega
 have hu0:nthD U 0 0 % 2^s=0:=by
  have h1:=@take_snoc0 U 0
  have h2:=val_split (U:=U) (j:=1) (by omega)
  have hB:(4294967296:Int)=2^s*2^(32 - s):=by
   rw[←Int.pow_add,show s+(32 - s)=32 by omega]
   decide
  simp only[Nat.zero_add,List.take_zero,valN,Int.pow_zero,Int.one_mul,Int.zero_add] at h1
  rw[h1,Int.pow_succ,Int.pow_zero,Int.one_mul] at h2
  have h3:nthD U 0 0=2^s*(a - b*valN q - 2^(32 - s)*valN (U.drop 1)):=by
   rw[Int.mul_sub,←hUm,←Int.mul_assoc,←hB]
   omega
  rw[h3]
  exact Int.mul_emod_right _ _
 rw[hun,hu0,hut,Int.zero_emod,Int.mul_zero,Int.sub_zero,Int.add_zero,hUm] at hfin
 have hr2:valN r=a - b*valN q:=Int.eq_of_mul_eq_mul_left (by omega) hfin
 have hr0:=val_nonneg hr
 have hrb:valN r<b:=by
  have:2^s*valN r<2^s*b:=by
   rw[hfin,←hUm,Int.mul_comm (2^s) b,←hb]
   exact hlt
  exact Int.lt_of_mul_lt_mul_left this (Int.le_of_lt hk)
 obtain⟨w1,w2⟩:=qr_of (X:=a) (V:=b) (q:=valN q) (by rw[Int.mul_comm];omega) (by rw[Int.add_mul,Int.one_mul,Int.mul_comm];omega)
 exact⟨w1.symm,by rw[w2,hr2,Int.mul_comm]⟩
theorem nrm_ge:∀{w:List Int},Dig w→Nrm w→w≠[]→4294967296^(w.length - 1)≤valN w
 |[],_,_,h=>absurd rfl h
 |[d],hd,hn,_=>by
  have h1:=(dig_cons.1 hd).1
  have h2:=hn.1 rfl
  simp[valN]
  omega
 |d::e::l,hd,hn,_=>by
  obtain⟨h1,h2⟩:=dig_cons.1 hd
  have ih:=nrm_ge h2 hn.2 (by simp)
  have hv:valN (d::e::l)=d+4294967296*valN (e::l):=rfl
  simp only[List.length_cons,Nat.add_sub_cancel] at ih ⊢
  rw[hv,Int.pow_succ]
  omega
theorem pow_mono {a b:Nat} (h:a≤b):(4294967296:Int)^a≤4294967296^b:=by
 obtain⟨m,rfl⟩:=Nat.exists_eq_add_of_le h
 rw[Int.pow_add]
 have q1:=pow_pos a
 have q2:=pow_pos m
 have:=Int.mul_le_mul_of_nonneg_left (show(1:Int)≤4294967296^m by omega) (Int.le_of_lt q1)
 rwa [Int.mul_one] at this
theorem sh_trim {t:List Int} {s:Nat} (ht:Dig t) (h1:1≤t.length) (hs:s≤31) (hlt:nthD t (t.length - 1) 0*2^s<4294967296) (hge:2147483648≤nthD t (t.length - 1) 0*2^s):
  Dig (trimN (shl t s))∧(trimN (shl t s)).length=t.length∧valN (trimN (shl t s))=valN t*2^s∧2147483648≤nthD (trimN (shl t s)) (t.length - 1) 0∧1≤nthD t (t.length - 1) 0:=by
 have hk:(0:Int)<2^s:=Int.pow_pos (by decide)
 have hx:=dig_nth ht (t.length - 1)
 have htop:1≤nthD t (t.length - 1) 0:=by
  by_cases h:1≤nthD t (t.length - 1) 0
  ·exact h
  ·have:nthD t (t.length - 1) 0=0:=by omega
   rw[this,Int.zero_mul] at hge
   omega
 obtain⟨d1,d2,d3,_⟩:=dv_start ht ht hs (Nat.le_refl _) h1 htop
 obtain⟨v1,v2⟩:=@trim_val (shl t s)
 have dw:=trim_dig d1
 rw[d3] at v1
 generalize trimN (shl t s)=w at*
 obtain⟨n,hn⟩:∃n,t.length=n+1:=⟨t.length - 1,by omega⟩
 rw[hn] at hlt hge htop hx ⊢
 simp only[Nat.add_sub_cancel] at hlt hge htop hx ⊢
 have hP:=pow_pos n
 have hts:valN t=valN (t.take n)+4294967296^n*nthD t n 0:=by
  have:=@take_snoc0 t n
  rwa [←hn,List.take_length] at this
 have hr0:=val_nonneg (dig_take ht n)
 have hr1:=val_bdN (dig_take ht n)
 rw[List.length_take,Nat.min_eq_left (by omega)] at hr1
 have hB:(4294967296:Int)=2^(32 - s)*2^s:=by
  rw[←Int.pow_add,show 32 - s+s=32 by omega]
  decide
 have hq:(0:Int)<2^(32 - s):=Int.pow_pos (by decide)
 have ht1:nthD t n 0<2^(32 - s):=by
  rw[hB] at hlt
  exact Int.lt_of_mul_lt_mul_right hlt (Int.le_of_lt hk)
 have ht2:(nthD t n 0+1)*2^s≤4294967296:=by
  have:=Int.mul_le_mul_of_nonneg_right (show nthD t n 0+1≤2^(32 - s) by omega) (Int.le_of_lt hk)
  rwa [←hB] at this
 have hup:valN w<4294967296^(n+1):=by
  rw[v1,Int.pow_succ]
  have g1:valN t<4294967296^n*(nthD t n 0+1):=by rw[Int.mul_add,Int.mul_one];omega
  have g2:=Int.mul_lt_mul_of_pos_right g1 hk
  have g3:=Int.mul_le_mul_of_nonneg_left ht2 (Int.le_of_lt hP)
  rw[←Int.mul_assoc] at g3
  omega
 have hlo:4294967296^n*(nthD t n 0*2^s)≤valN w:=by
  rw[v1,←Int.mul_assoc]
  exact Int.mul_le_mul_of_nonneg_right (by omega) (Int.le_of_lt hk)
 have hlo2:(4294967296:Int)^n≤valN w:=by
  have:=Int.mul_le_mul_of_nonneg_left (show(1:Int)≤nthD t n 0*2^s by omega) (Int.le_of_lt hP)
  rw[Int.mul_one] at this
  omega
 have hlen:w.length=n+1:=by
  have a1:n<w.length:=by
   by_cases h:n<w.length
   ·exact h
   ·have:=val_bdN dw
    have:=pow_mono (show w.length≤n by omega)
    omega
  by_cases h:w.length=n+1
  ·exact h
  ·have hne:w≠[]:=by rintro rfl;simp at a1
   have:=nrm_ge dw v2 hne
   have:=pow_mono (show n+1≤w.length - 1 by omega)
   omega
 refine⟨dw,hlen,v1,?_,htop⟩
 have hws:valN w=valN (w.take n)+4294967296^n*nthD w n 0:=by
  have:=@take_snoc0 w n
  rwa [←hlen,List.take_length] at this
 have hw1:=val_bdN (dig_take dw n)
 rw[List.length_take,Nat.min_eq_left (by omega)] at hw1
 have g:4294967296^n*(nthD t n 0*2^s)<4294967296^n*(nthD w n 0+1):=by rw[Int.mul_add,Int.mul_one];omega
 have:=Int.lt_of_mul_lt_mul_left g (Int.le_of_lt hP)
 omega
@[reducible] def sF:SId:=.pair .b (.pair (.lst (.i .u32)) (.lst (.i .u32)))
abbrev Fra:=Bool×(List Int×List Int)
def frE (q:Rat):Fra:=(decide (q<0),(natL (q.num.natAbs:Int),natL (q.den:Int)))
def valF (x:Fra):Rat:=mkRat (if x.1 then -valN x.2.1 else valN x.2.1) (valN x.2.2).toNat
def Sz (k:Nat) (q:Rat):Prop:=(q.num.natAbs:Int)<4294967296^k∧(q.den:Int)<4294967296^k
theorem natL_len {n:Int} {k:Nat} (h0:0≤n) (h:n<4294967296^k):(natL n).length≤k:=by
 obtain⟨h1,h2,h3⟩:=natL_ok h0
 by_cases hl:(natL n).length≤k
 ·exact hl
 ·have hne:natL n≠[]:=by rintro he;rw[he] at hl;simp at hl
  have:=nrm_ge h2 h3 hne
  have:=pow_mono (show k≤(natL n).length - 1 by omega)
  omega
theorem valF_frE (q:Rat):valF (frE q)=q:=by
 unfold valF frE
 have h1:=(natL_ok (show(0:Int)≤(q.num.natAbs:Int) by omega)).1
 have h2:=(natL_ok (show(0:Int)≤(q.den:Int) by omega)).1
 simp only[h1,h2,decide_eq_true_eq,Int.toNat_natCast]
 have h3:(if q<0 then -(q.num.natAbs:Int) else(q.num.natAbs:Int))=q.num:=by
  have:=@Rat.num_nonneg q
  split
  ·rename_i h
   have:¬0≤q.num:=fun h2=>by
    have:=this.1 h2
    exact absurd h (Rat.not_lt.2 this)
   omega
  ·rename_i h
   have:=this.2 (Rat.not_lt.1 h)
   omega
 rw[h3]
 exact Rat.mkRat_self q
theorem mk_num {N:Int} {D:Nat} (hD:D≠0):(mkRat N D).num.natAbs=N.natAbs / N.natAbs.gcd D∧(mkRat N D).den=D / N.natAbs.gcd D:=by
 rw[←Rat.normalize_eq_mkRat hD,Rat.normalize_eq hD]
 simp only
 refine⟨?_,trivial⟩
 have hg:0<N.natAbs.gcd D:=Nat.gcd_pos_of_pos_right _ (by omega)
 have hd:((N.natAbs.gcd D:Nat):Int)∣N:=Int.ofNat_dvd_left.2 (Nat.gcd_dvd_left _ _)
 generalize N.natAbs.gcd D=g at*
 obtain⟨m,rfl⟩:=hd
 rw[Int.mul_ediv_cancel_left _ (by omega),Int.natAbs_mul,Int.natAbs_natCast,Nat.mul_div_cancel_left _ hg]
theorem mk_neg {N:Int} {D:Nat} (hD:D≠0):mkRat N D<0↔N<0:=by
 have h1:(0:Rat)=mkRat 0 D:=(Rat.zero_mkRat D).symm
 have h2:mkRat N D<0↔¬0≤mkRat N D:=Rat.not_le.symm
 rw[h2,←Rat.num_nonneg]
 have h3:=Rat.num_divInt_den (mkRat N D)
 have h4:(mkRat N D).num*(D:Int)=N*((mkRat N D).den:Int):=by
  have:=(Rat.mkRat_eq_iff (n₁:=(mkRat N D).num) (d₁:=(mkRat N D).den) (n₂:=N) (d₂:=D) (mkRat N D).den_nz hD).1 (Rat.mkRat_self _)
  exact this
 have hd:(0:Int)<((mkRat N D).den:Int):=by have:=(mkRat N D).den_pos;omega
 have hD2:(0:Int)<(D:Int):=by omega
 constructor
 ·intro h
  by_cases hN:N<0
  ·exact hN
  ·exfalso
   apply h
   have:0≤(mkRat N D).num*(D:Int):=by rw[h4];exact Int.mul_nonneg (by omega) (by omega)
   exact Int.nonneg_of_mul_nonneg_left this hD2
 ·intro hN h
  have:0≤(mkRat N D).num*(D:Int):=Int.mul_nonneg h (by omega)
  rw[h4] at this
  have:=Int.mul_neg_of_neg_of_pos hN hd
  omega
theorem frE_mk {s:Bool} {n d:Int} (n0:0≤n) (d0:0<d):frE (mkRat (if s then -n else n) d.toNat)=(s&&decide (0<n),(natL (n / gcdN n d),natL (d / gcdN n d))):=by
 have hD:d.toNat≠0:=by omega
 obtain⟨h1,h2⟩:=mk_num (N:=if s then -n else n) hD
 have hab:(if s then -n else n).natAbs=n.toNat:=by split<;>omega
 unfold frE
 rw[h1,h2,hab]
 have hg:gcdN n d=((n.toNat.gcd d.toNat:Nat):Int):=rfl
 refine Prod.ext ?_ (Prod.ext ?_ ?_)
 ·simp only
  rw[Bool.eq_iff_iff]
  simp only[decide_eq_true_eq,Bool.and_eq_true]
  rw[mk_neg hD]
  cases s<;>simp<;>omega
 ·simp only
  rw[hg]
  congr 1
  rw[Int.natCast_ediv]
  congr 1
  omega
 ·simp only
  rw[hg]
  congr 1
  rw[Int.natCast_ediv]
  congr 1
  omega
theorem sz_mk {N:Int} {D:Nat} {k:Nat} (hD:D≠0) (h1:(N.natAbs:Int)<4294967296^k) (h2:(D:Int)<4294967296^k):Sz k (mkRat N D):=by
 obtain⟨e1,e2⟩:=mk_num (N:=N) hD
 unfold Sz
 rw[e1,e2]
 have a1:=Nat.div_le_self N.natAbs (N.natAbs.gcd D)
 have a2:=Nat.div_le_self D (N.natAbs.gcd D)
 exact⟨by omega,by omega⟩
theorem Sz.mono {j k:Nat} {q:Rat} (h:Sz j q) (hk:j≤k):Sz k q:=by
 have:=pow_mono hk
 exact⟨by have:=h.1;omega,by have:=h.2;omega⟩
theorem add_mk (p q:Rat):p+q=mkRat (p.num*q.den+q.num*p.den) (p.den*q.den):=by
 rw[Rat.add_def,Rat.normalize_eq_mkRat]
theorem sz_add {p q:Rat} {i j:Nat} (hp:Sz i p) (hq:Sz j q):Sz (i+j+1) (p+q):=by
 rw[add_mk]
 have d1:=p.den_pos
 have d2:=q.den_pos
 have hD:p.den*q.den≠0:=Nat.ne_of_gt (Nat.mul_pos d1 d2)
 have m:∀{a b:Int} {i j:Nat},0≤a→0≤b→a<4294967296^i→b<4294967296^j→a*b<4294967296^(i+j):=by
  intro a b i j a0 b0 h1 h2
  rw[Int.pow_add]
  exact Int.lt_of_le_of_lt (Int.mul_le_mul_of_nonneg_left (Int.le_of_lt h2) a0) (Int.mul_lt_mul_of_pos_right h1 (pow_pos _))
 have h1:=m (by omega) (by omega) hp.1 hq.2
 have h2:=m (by omega) (by omega) hq.1 hp.2
 have h3:=m (by omega) (by omega) hp.2 hq.2
 rw[Nat.add_comm j i] at h2
 have hP:=pow_pos (i+j)
 refine sz_mk hD ?_ ?_
 ·have a1:(p.num*(q.den:Int)).natAbs=p.num.natAbs*q.den:=by rw[Int.natAbs_mul,Int.natAbs_natCast]
  have a2:(q.num*(p.den:Int)).natAbs=q.num.natAbs*p.den:=by rw[Int.natAbs_mul,Int.natAbs_natCast]
  have a3:=Int.natAbs_add_le (p.num*(q.den:Int)) (q.num*(p.den:Int))
  rw[a1,a2] at a3
  have a4:((p.num.natAbs*q.den+q.num.natAbs*p.den:Nat):Int)=(p.num.natAbs:Int)*q.den+(q.num.natAbs:Int)*p.den:=by push_cast;rfl
  rw[Int.pow_succ]
  omega
 ·have a4:((p.den*q.den:Nat):Int)=(p.den:Int)*q.den:=by push_cast;rfl
  rw[a4,Int.pow_succ]
  omega
theorem sz_neg {p:Rat} {i:Nat} (hp:Sz i p):Sz i (-p):=by
 unfold Sz at hp ⊢
 rw[Rat.neg_num,Rat.neg_den,Int.natAbs_neg]
 exact hp
open Go.Proofs.Ytoifpgeocpjneaa.Ir
open Go.Proofs
def r128:SCtr:=⟨42,Int,.one (codI .u64),fun x=>0≤(show Int from x)∧(show Int from x)<18446744073709551616,fun x=> .row (.i .u32) (natL x)⟩
theorem h128:Holds Try.prog r128:=by
 refine con (L:=[r152]) r128 F128 (fun _ _=> .look) (OwnOK.none _) (by simpa using h152) (by kernel_rfl) (by kernel_rfl) (fun _=>rfl) ?_
 intro(x:Int) h
 obtain⟨h0,h1⟩:0≤x∧x<18446744073709551616:=h
 refine vcOf ((0:Int)≤(32:Int)∧(32:Int)≤(64:Int)∧2≤1000000000000∧(SV.row (SId.i .u32) (trimN [x % (4294967296:Int),x / (4294967296:Int) % (4294967296:Int)])).same (SV.row (SId.i .u32) (natL x))) (by kernel_rfl) ?_
 simp only[vcs]
 refine⟨by omega,by omega,by omega,?_⟩
 have hd:Dig [x % 4294967296,x / 4294967296 % 4294967296]:=by
  rw[dig_cons,dig_cons]
  exact⟨by omega,by omega,by simp[Dig]⟩
 rw[trim_eq hd]
 congr 1
 simp only[valN]
 omega
def QD:List SCtr:=[r152,r132,r154,r167,r128,r168p]
theorem hQD:∀c∈QD,Holds Try.prog c:=by
 simp only[QD,List.forall_mem_cons,List.not_mem_nil,false_implies,implies_true,and_true]
 exact⟨h152,h132,h154,h167,h128,h168p⟩
def WD:List OCtr:=[r168,r169]
theorem hWD:∀c∈WD,HoldsO Try.prog c:=by
 simp only[WD,List.forall_mem_cons,List.not_mem_nil,false_implies,implies_true,and_true]
 exact⟨h168,h169⟩
def r166g:SCtr:=⟨77,List Int×List Int,.cons (codR (.i .u32)) (.one (codR (.i .u32))),fun a=>(Dig a.1∧Dig a.2)∧(a.1.length≤10000000000∧a.2.length≤10000000000)∧0<valN a.2,
 fun a=> .tup [.row (.i .u32) (natL (valN a.1 / valN a.2)),.row (.i .u32) (natL (valN a.1 % valN a.2)),.si .i64 0]⟩
def dvS (a:List Int×List Int) (s:Int):Prop:=(0≤s∧s≤31)∧nthD (trimN a.2) ((trimN a.2).length - 1) 0*2^s.toNat<4294967296∧2147483648≤nthD (trimN a.2) ((trimN a.2).length - 1) 0*2^s.toNat
def Λ166 (a:List Int×List Int):Nat→LoopAnn
 |10=> .inv Int (fun s=>⟨[(0,.row (.i .u32) (trimN a.1)),(1,.row (.i .u32) (trimN a.2)),(9,.si .u64 s)],[]⟩) (fun s=>iS s 9)
  (fun s=>(0≤s∧s≤31)∧nthD (trimN a.2) ((trimN a.2).length - 1) 0*2^s.toNat<4294967296) (fun s=>(32 - s).toNat) fun _ _=> .look
 |17=> .inv (Int×Int×List Int×List Int) (fun x=>⟨[(4,.ow 1 x.2.2.2.length 1),(9,.si .u64 x.2.1),(10,.ow 0 x.2.2.1.length 1),(11,.row (.i .u32) (trimN (shl (trimN a.2) x.2.1.toNat))),(12,.si .i64 (trimN (shl (trimN a.2) x.2.1.toNat)).length),
   (13,.si .i64 ((trimN a.1).length - (trimN a.2).length)),(74,.si .i64 ((trimN a.1).length - (trimN a.2).length+1)),(75,.si .i64 x.1)],[.row (.i .u32) x.2.2.1 110 false,.row (.i .u32) x.2.2.2 110 true]⟩)
  (fun s=>(iS s 75,iS s 9,oS (.i .u32) s 0,oS (.i .u32) s 1))
  (fun x=>(0≤x.1∧x.1≤(trimN a.1).length - (trimN a.2).length+1)∧dvS a x.2.1∧(Dig x.2.2.1∧x.2.2.1.length=(trimN a.1).length+1)∧(Dig x.2.2.2∧x.2.2.2.length=(trimN a.1).length - (trimN a.2).length+1)∧
   (∀j:Nat,(j:Int)<(trimN a.1).length - (trimN a.2).length+1 - x.1→nthD x.2.2.2 j 0=0)∧
   valN x.2.2.1+valN (trimN (shl (trimN a.2) x.2.1.toNat))*valN x.2.2.2=valN (trimN a.1)*2^x.2.1.toNat∧
   valN (x.2.2.1.drop (((trimN a.1).length - (trimN a.2).length+1 - x.1:Int).toNat))<valN (trimN (shl (trimN a.2) x.2.1.toNat)))
  (fun x=>((trimN a.1).length - (trimN a.2).length+1 - x.1:Int).toNat) fun _ _=> .look
 |24=> .inv (Int×Int×List Int×List Int×List Int) (fun x=>⟨[(4,.ow 1 x.2.2.2.1.length 1),(5,.ow 2 x.2.2.2.2.length 1),(9,.si .u64 x.2.1),(10,.ow 0 x.2.2.1.length 1),(100,.si .i64 (trimN (shl (trimN a.2) x.2.1.toNat)).length),(101,.si .i64 x.1)],
   [.row (.i .u32) x.2.2.1 110 false,.row (.i .u32) x.2.2.2.1 110 true,.row (.i .u32) x.2.2.2.2 110 true]⟩)
  (fun s=>(iS s 101,iS s 9,oS (.i .u32) s 0,oS (.i .u32) s 1,oS (.i .u32) s 2))
  (fun x=>(0≤x.1∧x.1≤(trimN (shl (trimN a.2) x.2.1.toNat)).length)∧dvS a x.2.1∧(Dig x.2.2.1∧x.2.2.1.length=(trimN a.1).length+1)∧(Dig x.2.2.2.1∧x.2.2.2.1.length=(trimN a.1).length - (trimN a.2).length+1)∧
   valN x.2.2.1+valN (trimN (shl (trimN a.2) x.2.1.toNat))*valN x.2.2.2.1=valN (trimN a.1)*2^x.2.1.toNat∧valN x.2.2.1<valN (trimN (shl (trimN a.2) x.2.1.toNat))∧
   (Dig x.2.2.2.2∧x.2.2.2.2.length=(trimN (shl (trimN a.2) x.2.1.toNat)).length)∧(∀j,x.1.toNat≤j→nthD x.2.2.2.2 j 0=0)∧
   2^x.2.1.toNat*valN x.2.2.2.2=valN (x.2.2.1.take x.1.toNat) - nthD x.2.2.1 0 0 % 2^x.2.1.toNat+4294967296^x.1.toNat*(nthD x.2.2.1 x.1.toNat 0 % 2^x.2.1.toNat))
  (fun x=>((trimN (shl (trimN a.2) x.2.1.toNat)).length - x.1).toNat) fun _ _=> .look
 |_=> .look
theorem h166g:Holds Try.prog r166g:=by
 refine con (L:=QD) (W:=ownT WD) r166g F166 Λ166 (ownT_ok hWD) hQD (by kernel_rfl) (by kernel_rfl) (fun _=>rfl) ?_
 rintro⟨a,b⟩ ⟨⟨ha,hb⟩,⟨hla,hlb⟩,b0⟩
 simp only at ha hb hla hlb b0
 refine vcOf (let z0:=(trimN b).length;let z1:=(↑z0:Int);let z2:=decide (z1=(0:Int));let z3:=SV.row (SId.i .i64) [];let z4:=SId.i .u32;let z5:=SV.si .i64 0;let z6:=SV.tup [SV.row z4 (natL (valN a / valN b)),SV.row z4 (natL (valN a % valN b)),z5];let z7:=(trimN a).length;let z8:=(trimN b).length;let z9:=valN (trimN a);let z10:=decide (cmpN z9 (valN (trimN b))<(0:Int));let z11:=SV.il .i64 0;let z12:=decide (z1=(1:Int));let z13:=nthD (trimN b) 0 (0:Int);let z14:=z9 % z13 % (18446744073709551616:Int);let z15:=nthD (trimN b) (z8 - 1) (0:Int);let z16:=z1 - (1:Int);let z17:=(↑(trimN a).length:Int) - z1;let z18:=z17+(1:Int);let z19:=List.replicate z18.toNat (0:Int);let z20:=(↑z7:Int) - (↑z8:Int);let z21:=SV.si .i64 z20;let z22:=z20+(1:Int);let z23:=SV.si .i64 z22;let z24:=SObj.row z4 z19 110 true;let z25:=z7+1;let z26:=z7 - z8+1;a.length≤1000000000000∧b.length≤1000000000000∧(z2=true→(SV.tup [z3,z3,SV.il .i64 8]).same z6)∧(z2=false→((Dig (trimN a)∧Dig (trimN b))∧z7≤1000000000000∧z8≤1000000000000)∧(z10=true→((Dig (trimN a)∧Dig [])∧z7≤100000000000∧0≤100000000000)∧(SV.tup [z3,SV.row z4 (natL (z9+valN [])),z11]).same z6)∧(z10=false→(z12=true→(0:Int)≤(0:Int)∧(0:Int)<z1∧0<z0∧(Dig (trimN a)∧z7≤100000000000∧(0:Int)<z13∧z13<(4294967296:Int))∧((0:Int)≤z14∧z14<(18446744073709551616:Int))∧(SV.tup [SV.row z4 (natL (z9 / z13)),SV.row z4 (natL z14),z11]).same z6)∧(z12=false→((((SV.row z4 (trimN a)).same (SV.row z4 (trimN a))∧(SV.row z4 (trimN b)).same (SV.row z4 (trimN b))∧(SV.il .u64 0).same (SV.si .u64 0)∧True)∧True)∧((0:Int)≤(0:Int)∧(0:Int)≤(31:Int))∧z15*(1:Int)<(4294967296:Int))∧∀(x:Int),let z27:=(2:Int)^x.toNat;let z28:=decide (nthD (trimN b) z16.toNat (0:Int)*z27 % (4294967296:Int)<(2147483648:Int));let z29:=(x+(1:Int)) % (18446744073709551616:Int);let z30:=SV.si .u64 z29;let z31:=shl (trimN b) x.toNat;let z32:=shl (trimN a) x.toNat;let z33:=SV.ow 0 z32.length 1;let z34:=trimN z31;let z35:=SObj.row z4 z32 110 false;((0:Int)≤x∧x≤(31:Int))∧z15*z27<(4294967296:Int)→inR .i64 z16∧(0:Int)≤z16∧z16<z1∧z16.toNat<z0∧(0:Int)≤x∧x≤(32:Int)∧(z28=true→(((SV.row z4 (trimN a)).same (SV.row z4 (trimN a))∧(SV.row z4 (trimN b)).same (SV.row z4 (trimN b))∧z30.same z30∧True)∧True)∧(((0:Int)≤z29∧z29≤(31:Int))∧z15*(2:Int)^z29.toNat<(4294967296:Int))∧((32:Int) - z29).toNat<((32:Int) - x).toNat)∧(z28=false→shD (trimN a,x)∧shD (trimN b,x)∧z31.length≤1000000000000∧inR .i64 z17∧inR .i64 z18∧(0:Int)≤z18∧z18≤z18∧z18*(4:Int)≤(140737488355328:Int)∧z18≤(1000000000000:Int)∧inR .i64 z18∧((((SV.ow 1 z18.toNat 1).same (SV.ow 1 z19.length 1)∧(SV.si .u64 x).same (SV.si .u64 x)∧z33.same z33∧(SV.row z4 z34).same (SV.row z4 z34)∧(SV.si .i64 (↑z34.length:Int)).same (SV.si .i64 (↑z34.length:Int))∧(SV.si .i64 z17).same z21∧(SV.si .i64 z18).same z23∧z11.same z5∧True)∧z35.same z35∧z24.same z24∧True)∧((0:Int)≤(0:Int)∧(0:Int)≤z22)∧dvS (a,b) x∧(Dig z32∧z32.length=z25)∧(Dig z19∧z19.length=z26)∧(∀(j:Nat),(↑j:Int)<z22 - (0:Int)→nthD z19 j (0:Int)=(0:Int))∧valN z32+valN z34*valN z19=z9*z27∧valN (List.drop (z22 - (0:Int)).toNat z32)<valN z34)∧∀(x:Int×Int×List Int×List Int),let z36:=x.snd.snd.fst;let z37:=z36.length;let z38:=x.snd.snd.snd;let z39:=trimN (shl (trimN b) x.snd.fst.toNat);let z40:=valN z39;let z41:=(2:Int)^x.snd.fst.toNat;let z42:=decide (x.fst<z22);let z43:=z20 - x.fst;let z44:=(↑z39.length:Int);let z45:=z43+z44+(1:Int);let z46:=z43.toNat;let z47:=z45.toNat;let z48:=DgA.mk z36 z46 (z47 - z46) z37 z39;let z49:=x.fst+(1:Int);let z50:=SV.ow 1 z38.length 1;let z51:=z38.set z46 (z48.x / z40);let z52:=SV.si .u64 x.snd.fst;let z53:=SV.ow 0 z37 1;let z54:=SV.si .i64 z44;let z55:=SV.si .i64 z49;let z56:=SObj.row z4 z48.row 110 false;let z57:=SObj.row z4 z51 110 true;let z58:=List.replicate z44.toNat (0:Int);let z59:=SObj.row z4 z36 110 false;let z60:=SObj.row z4 z38 110 true;let z61:=SObj.row z4 z58 110 true;let z62:=nthD z36 0 (0:Int) % z41;((0:Int)≤x.fst∧x.fst≤z22)∧dvS (a,b) x.snd.fst∧(Dig z36∧z37=z25)∧(Dig z38∧z38.length=z26)∧(∀(j:Nat),(↑j:Int)<z22 - x.fst→nthD z38 j (0:Int)=(0:Int))∧valN z36+z40*valN z38=z9*z41∧valN (List.drop (z22 - x.fst).toNat z36)<z40→(z42=true→inR .i64 z43∧inR .i64 (z43+z44)∧inR .i64 z45∧inR .i64 (z43+z44)∧inR .i64 z45∧z37=z36.length∧(0:Int)≤z43∧(0:Int)≤z45∧(0:Int)≤z45∧z46≤z47∧z47≤z47∧z47≤z37∧z48.ok∧z38.length=z38.length∧(0:Int)≤z43∧z43<(↑z38.length:Int)∧z38.length=z38.length∧z46<z38.length∧inR .i64 z49∧((z50.same (SV.ow 1 z51.length 1)∧z52.same z52∧z53.same (SV.ow 0 z48.row.length 1)∧(SV.row z4 z39).same (SV.row z4 z39)∧z54.same z54∧z21.same z21∧z23.same z23∧z55.same z55∧True)∧z56.same z56∧z57.same z57∧True)∧(((0:Int)≤z49∧z49≤z22)∧dvS (a,b) x.snd.fst∧(Dig z48.row∧z48.row.length=z25)∧(Dig z51∧z51.length=z26)∧(∀(j:Nat),(↑j:Int)<z22 - z49→nthD z51 j (0:Int)=(0:Int))∧valN z48.row+z40*valN z51=z9*z41∧valN (List.drop (z22 - z49).toNat z48.row)<z40)∧(z22 - z49).toNat<(z22 - x.fst).toNat)∧(z42=false→(0:Int)≤z44∧z44≤z44∧z44*(4:Int)≤(140737488355328:Int)∧z44≤(1000000000000:Int)∧(((z50.same z50∧(SV.ow 2 z44.toNat 1).same (SV.ow 2 z58.length 1)∧z52.same z52∧z53.same z53∧z54.same z54∧z11.same z5∧True)∧z59.same z59∧z60.same z60∧z61.same z61∧True)∧((0:Int)≤(0:Int)∧(0:Int)≤z44)∧dvS (a,b) x.snd.fst∧(Dig z36∧z37=z25)∧(Dig z38∧z38.length=z26)∧valN z36+z40*valN z38=z9*z41∧valN z36<z40∧(Dig z58∧z58.length=z39.length)∧(∀(j:Nat),0≤j→nthD z58 j (0:Int)=(0:Int))∧z41*valN z58=valN [] - z62+(1:Int)*z62)∧∀(x:Int×Int×List Int×List Int×List Int),let z63:=trimN (shl (trimN b) x.snd.fst.toNat);let z64:=z63.length;let z65:=(↑z64:Int);let z66:=x.snd.snd.fst;let z67:=x.snd.snd.snd.fst;let z68:=z67.length;let z69:=(2:Int)^x.snd.fst.toNat;let z70:=x.snd.snd.snd.snd;let z71:=z70.length;let z72:=x.fst.toNat;let z73:=nthD z66 0 (0:Int) % z69;let z74:=nthD z66 z72 (0:Int);let z75:=decide (x.fst<z65);let z76:=z66.length;let z77:=decide ((0:Int)<x.snd.fst);let z78:=z70.set z72 (z74 / z69);let z79:=x.fst+(1:Int);let z80:=z79.toNat;let z81:=((32:Int) - x.snd.fst) % (18446744073709551616:Int);let z82:=SV.ow 1 z68 1;let z83:=SV.ow 2 z71 1;let z84:=nthD z66 z80 (0:Int);let z85:=z78.set z72 (binK.orI .u32 (nthD z78 z72 (0:Int)) (z84*(2:Int)^z81.toNat % (4294967296:Int)));let z86:=SV.si .u64 x.snd.fst;let z87:=SV.ow 0 z66.length 1;let z88:=SV.si .i64 z65;let z89:=SV.si .i64 z79;let z90:=SObj.row z4 z66 110 false;let z91:=SObj.row z4 z67 110 true;let z92:=SObj.row z4 z85 110 true;let z93:=valN (List.take z80 z66) - z73+(4294967296:Int)^z80*(z84 % z69);let z94:=SObj.row z4 z78 110 true;((0:Int)≤x.fst∧x.fst≤z65)∧dvS (a,b) x.snd.fst∧(Dig z66∧z66.length=z25)∧(Dig z67∧z68=z26)∧valN z66+valN z63*valN z67=z9*z69∧valN z66<valN z63∧(Dig z70∧z71=z64)∧(∀(j:Nat),z72≤j→nthD z70 j (0:Int)=(0:Int))∧z69*valN z70=valN (List.take z72 z66) - z73+(4294967296:Int)^z72*(z74 % z69)→(z75=true→z66.length=z76∧(0:Int)≤x.fst∧x.fst<(↑z76:Int)∧z66.length=z76∧z72<z76∧(0:Int)≤x.snd.fst∧x.snd.fst≤(32:Int)∧z71=z70.length∧(0:Int)≤x.fst∧x.fst<(↑z70.length:Int)∧z71=z70.length∧z72<z70.length∧(z77=true→z71=z78.length∧(0:Int)≤x.fst∧x.fst<(↑z78.length:Int)∧z71=z78.length∧z72<z78.length∧inR .i64 z79∧z66.length=z76∧(0:Int)≤z79∧z79<(↑z76:Int)∧z66.length=z76∧z80<z76∧(0:Int)≤z81∧z81≤(32:Int)∧z71=z78.length∧(0:Int)≤x.fst∧x.fst<(↑z78.length:Int)∧z71=z78.length∧z72<z78.length∧inR .i64 z79∧((z82.same z82∧z83.same (SV.ow 2 z85.length 1)∧z86.same z86∧z87.same z87∧z88.same z88∧z89.same z89∧True)∧z90.same z90∧z91.same z91∧z92.same z92∧True)∧(((0:Int)≤z79∧z79≤z65)∧dvS (a,b) x.snd.fst∧(Dig z66∧z66.length=z25)∧(Dig z67∧z68=z26)∧valN z66+valN z63*valN z67=z9*z69∧valN z66<valN z63∧(Dig z85∧z85.length=z64)∧(∀(j:Nat),z80≤j→nthD z85 j (0:Int)=(0:Int))∧z69*valN z85=z93)∧(z65 - z79).toNat<(z65 - x.fst).toNat)∧(z77=false→inR .i64 z79∧((z82.same z82∧z83.same (SV.ow 2 z78.length 1)∧z86.same z86∧z87.same z87∧z88.same z88∧z89.same z89∧True)∧z90.same z90∧z91.same z91∧z94.same z94∧True)∧(((0:Int)≤z79∧z79≤z65)∧dvS (a,b) x.snd.fst∧(Dig z66∧z66.length=z25)∧(Dig z67∧z68=z26)∧valN z66+valN z63*valN z67=z9*z69∧valN z66<valN z63∧(Dig z78∧z78.length=z64)∧(∀(j:Nat),z80≤j→nthD z78 j (0:Int)=(0:Int))∧z69*valN z78=z93)∧(z65 - z79).toNat<(z65 - x.fst).toNat))∧(z75=false→z68=z67.length∧z71=z70.length∧z68≤1000000000000∧z71≤1000000000000∧(SV.tup [SV.row z4 (trimN z67),SV.row z4 (trimN z70),z11]).same z6))))))) (by kernel_rfl) ?_
 simp only[vcs]
 obtain⟨va,na⟩:=@trim_val a
 obtain⟨vb,nb⟩:=@trim_val b
 have da:=trim_dig ha
 have db:=trim_dig hb
 have la:=@trim_len a
 have lb:=@trim_len b
 have p0:=val_nonneg da
 have d0:Dig []:=by simp[Dig]
 simp only[dvS]
 rw[←va,←vb]
 rw[←vb] at b0
 generalize trimN a=S at*
 generalize trimN b=T at*
 have hm:=Int.emod_nonneg (valN S) (show valN T≠0 by omega)
 have hl:=Int.emod_lt_of_pos (valN S) b0
 have hT1:T.length≠0:=by
  intro h
  rw[List.eq_nil_of_length_eq_zero h] at b0
  exact absurd b0 (by decide)
 refine⟨by omega,by omega,fun h0=>by omega,fun h0=>⟨⟨⟨da,db⟩,by omega,by omega⟩,fun hlt=>⟨⟨⟨da,d0⟩,by omega,by omega⟩,?_⟩,fun hge=>⟨fun h1=>?_,fun h1=>⟨?_,?_⟩⟩⟩⟩
 ·have hab:valN S<valN T:=by unfold cmpN at hlt;split at hlt<;>(try split at hlt)<;>omega
  have hdv:valN S / valN T=0:=Int.ediv_eq_zero_of_lt p0 hab
  have hmv:valN S % valN T=valN S:=Int.emod_eq_of_lt p0 hab
  refine⟨nilN (by rw[hdv];rfl),?_⟩
  rw[hmv]
  simp[valN]
 ·obtain⟨d,rfl⟩:∃d,T=[d]:=List.length_eq_one_iff.1 (by omega)
  have hd:=(dig_cons.1 db).1
  have hnth:nthD [d] 0 0=d:=rfl
  have hv:valN [d]=d:=by simp[valN]
  rw[hv] at b0 hm hl ⊢
  rw[hnth]
  have hmm:valN S % d % 18446744073709551616=valN S % d:=by omega
  rw[hmm]
  repeat' refine And.intro ?_ ?_
  all_goals first|omega|exact da|rfl|(simp;done)
 ·have:=dig_nth db (T.length - 1)
  repeat' refine And.intro ?_ ?_
  all_goals omega
 have hge2:valN T≤valN S:=by unfold cmpN at hge;split at hge<;>(try split at hge)<;>omega
 have hlen:T.length≤S.length:=by
  by_cases h:S.length<T.length
  ·have:=len_lt da db nb h
   omega
  ·omega
 have hTn:2≤T.length:=by omega
 clear hge h0 h1 hT1 va vb d0
 rintro s ⟨⟨s0,s1⟩,hs⟩
 have t1:((T.length:Int) - 1).toNat=T.length - 1:=by omega
 have hxt:=dig_nth db (T.length - 1)
 have hps:(0:Int)<2^s.toNat:=Int.pow_pos (by decide)
 have hnn:0≤nthD T (T.length - 1) 0*2^s.toNat:=Int.mul_nonneg hxt.1 (Int.le_of_lt hps)
 have hmod:nthD T (T.length - 1) 0*2^s.toNat % 4294967296=nthD T (T.length - 1) 0*2^s.toNat:=by omega
 rw[t1,hmod]
 repeat refine And.intro (by omega) ?_
 refine⟨fun hc=>?_,fun hc=>?_⟩
 ·have htop:1≤nthD T (T.length - 1) 0:=by
   by_cases h:1≤nthD T (T.length - 1) 0
   ·exact h
   ·exfalso
    have h4:=nrm_ge db nb (by rintro rfl;simp at hTn)
    have h5:valN T=valN (T.take (T.length - 1))+4294967296^(T.length - 1)*nthD T (T.length - 1) 0:=by
     have:=@take_snoc0 T (T.length - 1)
     rwa [show T.length - 1+1=T.length by omega,List.take_length] at this
    have h6:=val_bdN (dig_take db (T.length - 1))
    rw[List.length_take,Nat.min_eq_left (by omega)] at h6
    rw[show nthD T (T.length - 1) 0=0 by omega,Int.mul_zero] at h5
    omega
  have h31:s≤30:=by
   by_cases h:s≤30
   ·exact h
   ·have hs31:s.toNat=31:=by omega
    rw[hs31,show(2:Int)^31=2147483648 from rfl] at hc
    omega
  have e:((s+1) % 18446744073709551616)=s+1:=by omega
  have e2:(s+1).toNat=s.toNat+1:=by omega
  rw[e,e2,Int.pow_succ,←Int.mul_assoc]
  repeat' refine And.intro ?_ ?_
  all_goals omega
 ·obtain⟨dw,lw,vw,tw,ttop⟩:=sh_trim db (by omega) (show s.toNat≤31 by omega) hs (by omega)
  obtain⟨ds,ls,vs,hst⟩:=dv_start da db (show s.toNat≤31 by omega) hlen (by omega) ttop
  have hds:∀z,shD (z,s)↔(Dig z∧z.length≤100000000000):=fun z=>⟨fun h=>⟨h.1,h.2.1⟩,fun h=>⟨h.1,h.2,s0,s1⟩⟩
  have lst:(shl T s.toNat).length=T.length+1:=digK_len
  have bits:(0≤s∧s≤31)∧nthD T (T.length - 1) 0*2^s.toNat<4294967296∧2147483648≤nthD T (T.length - 1) 0*2^s.toNat:=⟨⟨s0,s1⟩,hs,by omega⟩
  rw[hds,hds,lst,ls]
  refine⟨⟨da,by omega⟩,⟨db,by omega⟩,?_⟩
  repeat refine And.intro (by omega) ?_
  refine⟨?_,?_⟩
  ·repeat' refine And.intro ?_ ?_
   all_goals first|omega|exact howN (by simp)|exact howN (by omega)|exact ds|exact rep_dig|exact fun j _=>rep_nth|(simp;omega)|(rw[rep_val,Int.mul_zero,Int.add_zero];exact vs)|(rw[vw,show((S.length:Int) - T.length+1 - 0).toNat=S.length - T.length+1 by omega];exact hst)
  clear hst vs ls ds bits hds hmod hnn hps hxt ttop tw vw lw dw lst t1 hc hs s0 s1
  clear s
  rintro⟨i,s,U,q⟩ ⟨⟨i0,i1⟩,⟨⟨s0,s1⟩,hs,hs2⟩,⟨hU,hUl⟩,⟨hq,hql⟩,hz,he,hlt⟩
  simp only at i0 i1 s0 s1 hs hs2 hU hUl hq hql hz he hlt ⊢
  obtain⟨dw,lw,vw,tw,ttop⟩:=sh_trim db (by omega) (show s.toNat≤31 by omega) hs (by omega)
  generalize hw:trimN (shl T s.toNat)=w at*
  have hw0:0<valN w:=by
   rw[vw]
   exact Int.mul_pos b0 (Int.pow_pos (by decide))
  refine⟨fun ilt=>?_,fun ige=>?_⟩
  ·obtain⟨j,hj⟩:∃j:Nat,(S.length:Int) - T.length - i=j:=⟨((S.length:Int) - T.length - i).toNat,by omega⟩
   have e1:((j:Int)+w.length+1).toNat - j=w.length+1:=by omega
   have e2:((S.length:Int) - T.length+1 - i).toNat=j+1:=by omega
   rw[e2] at hlt
   obtain⟨k1,⟨k2,k3⟩,⟨k4,k5⟩,k6,k7⟩:=dv_step (j:=j) (m:=S.length - T.length) hU dw hq (by omega) (by omega) (by omega) (by omega) hw0 (hz j (by omega)) he hlt
   have e3:((S.length:Int) - T.length+1 - (i+1)).toNat=j:=by omega
   simp only[hj,e1,e3,Int.toNat_natCast,DgA.row,DgA.x,DgA.ok]
   repeat' refine And.intro ?_ ?_
   all_goals first|omega|exact howN (by simp)|exact howN k3.symm|exact trivial|exact hU|exact dw|exact k1|exact k2|exact k6|exact k7|exact dig_set hq k4 k5|(simp;omega)|(rw[lw];exact tw)|exact fun p hp=>by rw[nth_set_ne (by omega)];exact hz p (by omega)
  ·have e2:((S.length:Int) - T.length+1 - i).toNat=0:=by omega
   rw[e2,List.drop_zero] at hlt
   repeat refine And.intro (by omega) ?_
   refine⟨?_,?_⟩
   ·have h1:=@take_snoc0 U 0
    simp only[List.take_zero,valN,Int.pow_zero,Int.one_mul]
    repeat' refine And.intro ?_ ?_
    all_goals first|omega|exact howN (by simp)|exact hU|exact hq|exact he|exact hlt|exact rep_dig|exact fun j _=>rep_nth|(simp;done)|(rw[rep_val];omega)
   clear hlt hz e2 ige i0 i1 tw ttop hw0 hs hs2 s0 s1 he hU hUl hq hql
   clear hw dw lw vw
   clear w s i U q
   rintro⟨i,s,U,q,r⟩ ⟨⟨i0,i1⟩,⟨⟨s0,s1⟩,hs,hs2⟩,⟨hU,hUl⟩,⟨hq,hql⟩,he,hlt,⟨hr,hrl⟩,hz,hv⟩
   simp only at i0 i1 s0 s1 hs hs2 hU hUl hq hql he hlt hr hrl hz hv ⊢
   obtain⟨dw,lw,vw,tw,ttop⟩:=sh_trim db (by omega) (show s.toNat≤31 by omega) hs (by omega)
   generalize hw:trimN (shl T s.toNat)=w at*
   refine⟨fun ilt=>?_,fun ige=>?_⟩
   ·have x0:=dig_nth hU i.toNat
    have x1:=dig_nth hU (i.toNat+1)
    have e1:(i+1).toNat=i.toNat+1:=by omega
    have x2:=dig_nth hr i.toNat
    have hps:(0:Int)<2^s.toNat:=Int.pow_pos (by decide)
    have y0:0≤nthD U i.toNat 0 / 2^s.toNat:=Int.ediv_nonneg x0.1 (Int.le_of_lt hps)
    have y1:nthD U i.toNat 0 / 2^s.toNat≤nthD U i.toNat 0:=Int.ediv_le_self _ x0.1
    have e2:((32 - s) % 18446744073709551616).toNat=32 - s.toNat:=by omega
    have e3:(r.set i.toNat (nthD U i.toNat 0 / 2^s.toNat)).set i.toNat=r.set i.toNat:=by funext z;rw[List.set_set]
    simp only[e1,e2,e3,nth_set_self (show i.toNat<r.length by omega),List.length_set]
    repeat refine And.intro (by omega) ?_
    refine⟨fun hs0=>?_,fun hs0=>?_⟩
    ·obtain⟨d,hd1,hd2,hd3⟩:=rs_digit (s:=s.toNat) x0.1 x0.2 x1.1 x1.2 (by omega) (by omega)
     obtain⟨k1,k2,k3,k4⟩:=rs_step hU hr (show i.toNat<r.length by omega) hz hd2 hd3 hv
     rw[hd1]
     repeat' refine And.intro ?_ ?_
     all_goals first|omega|exact howN (by simp)|exact hU|exact hq|exact k1|exact k3|exact k4|exact he|exact hlt|trivial
    ·have hs00:s.toNat=0:=by omega
     obtain⟨k1,k2,k3,k4⟩:=rs_step (s:=s.toNat) (d:=nthD U i.toNat 0 / 2^s.toNat) hU hr (show i.toNat<r.length by omega) hz ⟨y0,by omega⟩ (by rw[hs00];simp) hv
     repeat' refine And.intro ?_ ?_
     all_goals first|omega|exact howN (by simp)|exact hU|exact hq|exact k1|exact k3|exact k4|exact he|exact hlt|trivial
   ·have hi:i.toNat=w.length:=by omega
    rw[hi] at hv
    obtain⟨w1,w2⟩:=rs_fin hU hr dw rfl hlt vw b0 he (show s.toNat≤31 by omega) (by omega) hv
    rw[trim_eq hq,trim_eq hr,w1,w2]
    repeat' refine And.intro ?_ ?_
    all_goals first|omega|rfl|trivial
theorem len_of {a b:List Int} (ha:Dig a) (hb:Dig b) (na:Nrm a) (h:valN a≤valN b):a.length≤b.length:=by
 by_cases hl:a.length≤b.length
 ·exact hl
 ·have:=len_lt hb ha na (by omega)
  omega
def r165g:SCtr:=⟨76,List Int×List Int,.cons (codR (.i .u32)) (.one (codR (.i .u32))),fun a=>(Dig a.1∧Dig a.2)∧(a.1.length≤1000000000∧a.2.length≤1000000000),
 fun a=> .row (.i .u32) (natL (gcdN (valN a.1) (valN a.2)))⟩
def Λ165g (a:List Int×List Int):Nat→LoopAnn
 |2=> .inv (List Int×List Int) (fun x=>⟨[(0,.row (.i .u32) x.1),(1,.row (.i .u32) x.2)],[]⟩) (fun s=>(rS (.i .u32) s 0,rS (.i .u32) s 1))
  (fun x=>(Dig x.1∧Dig x.2)∧(Nrm x.1∧Nrm x.2)∧(x.1.length≤1000000000∧x.2.length≤1000000000)∧gcdN (valN x.1) (valN x.2)=gcdN (valN a.1) (valN a.2)) (fun x=>(valN x.2).toNat) fun _ _=> .look
 |_=> .look
theorem h165g:Holds Try.prog r165g:=by
 refine con (L:=[r154,r166g]) r165g F165 Λ165g (OwnOK.none _) (by simpa using⟨h154,h166g⟩) (by kernel_rfl) (by kernel_rfl) (fun _=>rfl) ?_
 rintro⟨a,b⟩ ⟨⟨ha,hb⟩,⟨hla,hlb⟩⟩
 simp only at ha hb hla hlb
 refine vcOf (let z0:=SId.i .u32;let z1:=natL (valN a+valN []);let z2:=natL (valN b+valN []);let z3:=gcdN (valN a) (valN b);((Dig a∧Dig [])∧a.length≤100000000000∧0≤100000000000)∧((Dig b∧Dig [])∧b.length≤100000000000∧0≤100000000000)∧((((SV.row z0 z1).same (SV.row z0 z1)∧(SV.row z0 z2).same (SV.row z0 z2)∧True)∧True)∧(Dig z1∧Dig z2)∧(Nrm z1∧Nrm z2)∧(z1.length≤1000000000∧z2.length≤1000000000)∧gcdN (valN z1) (valN z2)=z3)∧∀(x:List Int×List Int),let z4:=decide ((0:Int)<(↑x.snd.length:Int));let z5:=natL (valN x.fst % valN x.snd);(Dig x.fst∧Dig x.snd)∧(Nrm x.fst∧Nrm x.snd)∧(x.fst.length≤1000000000∧x.snd.length≤1000000000)∧gcdN (valN x.fst) (valN x.snd)=z3→(z4=true→((Dig x.fst∧Dig x.snd)∧(x.fst.length≤10000000000∧x.snd.length≤10000000000)∧(0:Int)<valN x.snd)∧(false=true→(SV.row z0 x.fst).same (SV.row z0 (natL z3)))∧(false=false→(((SV.row z0 x.snd).same (SV.row z0 x.snd)∧(SV.row z0 z5).same (SV.row z0 z5)∧True)∧True)∧((Dig x.snd∧Dig z5)∧(Nrm x.snd∧Nrm z5)∧(x.snd.length≤1000000000∧z5.length≤1000000000)∧gcdN (valN x.snd) (valN z5)=z3)∧(valN z5).toNat<(valN x.snd).toNat))∧(z4=false→(SV.row z0 x.fst).same (SV.row z0 (natL z3)))) (by kernel_rfl) ?_
 simp only[vcs]
 have d0:Dig []:=by simp[Dig]
 have pa:=val_nonneg ha
 have pb:=val_nonneg hb
 have z:valN []=0:=rfl
 rw[z,Int.add_zero,Int.add_zero]
 obtain⟨a1,a2,a3⟩:=natL_ok pa
 obtain⟨b1',b2,b3⟩:=natL_ok pb
 have hln:(natL (valN a)).length≤1000000000:=by
  rw[←trim_eq ha]
  have:=@trim_len a
  omega
 have hln2:(natL (valN b)).length≤1000000000:=by
  rw[←trim_eq hb]
  have:=@trim_len b
  omega
 refine⟨⟨⟨ha,d0⟩,by omega,by omega⟩,⟨⟨hb,d0⟩,by omega,by omega⟩,⟨⟨a2,b2⟩,⟨a3,b3⟩,⟨hln,hln2⟩,by rw[a1,b1']⟩,?_⟩
 rintro⟨s,t⟩ ⟨⟨ds,dt⟩,⟨ns,nt⟩,⟨hs,ht⟩,hg⟩
 simp only at ds dt ns nt ht hs hg ⊢
 have ps:=val_nonneg ds
 have pt:=val_nonneg dt
 refine⟨fun hl=>?_,fun hl=>?_⟩
 ·have hpos:0<valN t:=by
   by_cases h:valN t=0
   ·rw[val_zero dt nt h] at hl
    simp at hl
   ·omega
  have hm:=Int.emod_nonneg (valN s) (show valN t≠0 by omega)
  have hlt:=Int.emod_lt_of_pos (valN s) hpos
  obtain⟨m1,m2,m3⟩:=natL_ok hm
  have hml:=len_of m2 dt m3 (by rw[m1];omega)
  refine⟨⟨⟨ds,dt⟩,⟨by omega,by omega⟩,hpos⟩,fun h=>absurd h (by decide),fun _=>⟨⟨⟨dt,m2⟩,⟨nt,m3⟩,⟨by omega,by omega⟩,?_⟩,by omega⟩⟩
  rw[m1,gcdN_step ps hpos,hg]
 ·have ht0:t=[]:=List.eq_nil_of_length_eq_zero (by omega)
  rw[ht0,z,gcdN_zero ps] at hg
  rw[←hg,natL_val ds ns]
def frS (q:Rat):SV:=.agg (encS sF (frE q))
def isF (x:Fra):Prop:=∃q k,x=frE q∧Sz k q∧k≤100000000
def mkF (s:Bool) (n d:Int):Rat:=mkRat (if s then -n else n) d.toNat
def r127:SCtr:=⟨41,Int,.one (codI .i64),fun n=> -9223372036854775808≤(show Int from n)∧(show Int from n)≤9223372036854775807,fun n=> .row (.i .u32) (natL ((show Int from n).natAbs:Int))⟩
theorem h127:Holds Try.prog r127:=by
 refine con (L:=[r128]) r127 F127 (fun _ _=> .look) (OwnOK.none _) (by simpa using h128) (by kernel_rfl) (by kernel_rfl) (fun _=>rfl) ?_
 intro(n:Int) h
 obtain⟨h0,h1⟩: -9223372036854775808≤n∧n≤9223372036854775807:=h
 refine vcOf (let z0:=decide (n<(0:Int));let z1:=(-(n+(1:Int))+(1:Int)) % (18446744073709551616:Int);let z2:=SId.i .u32;let z3:=SV.row z2 (natL (↑n.natAbs:Int));(z0=true→inR .i64 (n+(1:Int))∧inR .i64 (-(n+(1:Int)))∧inR .u64 (-(n+(1:Int)))∧((0:Int)≤z1∧z1<(18446744073709551616:Int))∧(SV.row z2 (natL z1)).same z3)∧(z0=false→inR .u64 n∧((0:Int)≤n∧n<(18446744073709551616:Int))∧(SV.row z2 (natL n)).same z3)) (by kernel_rfl) ?_
 simp only[vcs]
 refine⟨fun hn=>?_,fun hn=>?_⟩
 ·have e:(-(n+1)+1) % 18446744073709551616=(n.natAbs:Int):=by omega
  rw[e]
  exact⟨by omega,by omega,u64_in (by omega) (by omega),by omega,rfl⟩
 ·have e:(n.natAbs:Int)=n:=by omega
  rw[e]
  exact⟨u64_in (by omega) (by omega),by omega,rfl⟩
def r151:SCtr:=⟨58,Bool×(List Int×List Int),.cons codB (.cons (codR (.i .u32)) (.one (codR (.i .u32)))),fun a=>(Dig a.2.1∧Dig a.2.2)∧(a.2.1.length≤1000000000∧a.2.2.length≤1000000000)∧0<valN a.2.2,
 fun a=> .tup [frS (mkF a.1 (valN a.2.1) (valN a.2.2)),.si .i64 0]⟩
theorem h151:Holds Try.prog r151:=by
 refine con (L:=[r165g,r166g]) r151 F151 (fun _ _=> .look) (OwnOK.none _) (by simpa using⟨h165g,h166g⟩) (by kernel_rfl) (by kernel_rfl) (fun _=>rfl) ?_
 rintro⟨s,n,d⟩ ⟨⟨hn,hd⟩,⟨hln,hld⟩,d0⟩
 simp only at hn hd hln hld d0
 refine vcOf (let z0:=decide ((↑d.length:Int)=(0:Int));let z1:=SV.row (SId.i .i64) [];let z2:=frE (mkF s (valN n) (valN d));let z3:=SId.i .u32;let z4:=SV.tup [SV.agg [SV.sb z2.fst,SV.row z3 z2.snd.fst,SV.row z3 z2.snd.snd],SV.si .i64 0];let z5:=natL (gcdN (valN n) (valN d));let z6:=natL (valN n / valN z5);let z7:=[SV.row z3 z6,SV.row z3 (natL (valN d / valN z5))];let z8:=[SV.il .i64 0];(z0=true→(SV.tup [SV.agg [SV.bl false,z1,z1],SV.il .i64 8]).same z4)∧(z0=false→((Dig n∧Dig d)∧n.length≤1000000000∧d.length≤1000000000)∧((Dig n∧Dig z5)∧(n.length≤10000000000∧z5.length≤10000000000)∧(0:Int)<valN z5)∧((Dig d∧Dig z5)∧(d.length≤10000000000∧z5.length≤10000000000)∧(0:Int)<valN z5)∧(false=true→(SV.tup [SV.agg [SV.bl false,z1,z1],SV.il .i64 8]).same z4)∧(false=false→(false=true→(SV.tup [SV.agg [SV.bl false,z1,z1],SV.il .i64 8]).same z4)∧(false=false→(s=true→(SV.tup (SV.agg (SV.sb (decide ((0:Int)<(↑z6.length:Int)))::z7)::z8)).same z4)∧(s=false→(SV.tup (SV.agg (SV.bl false::z7)::z8)).same z4))))) (by kernel_rfl) ?_
 simp only[vcs]
 have n0:=val_nonneg hn
 have g0:0<gcdN (valN n) (valN d):=by
  unfold gcdN
  have:=Nat.gcd_pos_of_pos_right (valN n).toNat (show 0<(valN d).toNat by omega)
  omega
 have gle:gcdN (valN n) (valN d)≤valN d:=by
  unfold gcdN
  have:=Nat.gcd_le_right (valN n).toNat (show 0<(valN d).toNat by omega)
  omega
 have gdv:gcdN (valN n) (valN d)∣valN n:=by
  unfold gcdN
  have:=Nat.gcd_dvd_left (valN n).toNat (valN d).toNat
  have h2:=Int.natCast_dvd_natCast.2 this
  rwa [Int.toNat_of_nonneg n0] at h2
 obtain⟨a1,a2,a3⟩:=natL_ok (Int.le_of_lt g0)
 have hgl:=len_of a2 (trim_dig hd) a3 (by rw[a1,trim_val.1];exact gle)
 have htl:=@trim_len d
 have hq0:0≤valN n / gcdN (valN n) (valN d):=Int.ediv_nonneg n0 (Int.le_of_lt g0)
 obtain⟨b1,b2,b3⟩:=natL_ok hq0
 have hpos:(0<((natL (valN n / gcdN (valN n) (valN d))).length:Int))↔0<valN n:=by
  obtain⟨m,hm⟩:=gdv
  have hmm:valN n / gcdN (valN n) (valN d)=m:=by
   conv=>lhs;arg 1;rw[hm]
   rw[Int.mul_ediv_cancel_left _ (by omega)]
  rw[hmm] at b1 b2 b3 ⊢
  have hm0:0<valN n↔0<m:=by
   generalize gcdN (valN n) (valN d)=g at*
   rw[hm]
   constructor
   ·intro h
    by_cases h2:0<m
    ·exact h2
    ·have:=Int.mul_nonpos_of_nonneg_of_nonpos (Int.le_of_lt g0) (show m≤0 by omega)
     omega
   ·intro h;exact Int.mul_pos g0 h
  rw[hm0]
  constructor
  ·intro h
   by_cases hm:m=0
   ·rw[hm] at h;exact absurd h (by decide)
   ·omega
  ·intro h
   by_cases hl:(natL m).length=0
   ·rw[List.eq_nil_of_length_eq_zero hl] at b1
    simp only[valN] at b1
    omega
   ·omega
 have hd0:d.length≠0:=by
  intro h
  rw[List.eq_nil_of_length_eq_zero h] at d0
  exact absurd d0 (by decide)
 unfold mkF
 rw[frE_mk n0 d0,a1]
 simp only
 refine⟨fun h=>absurd h (by omega),fun _=>⟨⟨⟨hn,hd⟩,by omega,by omega⟩,⟨⟨hn,a2⟩,by omega,g0⟩,⟨⟨hd,a2⟩,by omega,g0⟩,?_⟩⟩
 have hb:decide (0<((natL (valN n / gcdN (valN n) (valN d))).length:Int))=decide (0<valN n):=by
  rw[decide_eq_decide];exact hpos
 refine⟨fun h=>absurd h (by decide),fun _=>⟨fun h=>absurd h (by decide),fun _=>⟨fun hs=>?_,fun hs=>?_⟩⟩⟩
 ·rw[hs,hb]
  rfl
 ·rw[hs]
  rfl
def r126:SCtr:=⟨40,Bool×(List Int×List Int),.cons codB (.cons (codR (.i .u32)) (.one (codR (.i .u32)))),fun a=>(Dig a.2.1∧Dig a.2.2)∧(a.2.1.length≤1000000000∧a.2.2.length≤1000000000)∧0<valN a.2.2,
 fun a=>frS (mkF a.1 (valN a.2.1) (valN a.2.2))⟩
theorem h126:Holds Try.prog r126:=by
 refine con (L:=[r151]) r126 F126 (fun _ _=> .look) (OwnOK.none _) (by simpa using h151) (by kernel_rfl) (by kernel_rfl) (fun _=>rfl) ?_
 rintro⟨s,n,d⟩ ⟨⟨hn,hd⟩,⟨hln,hld⟩,d0⟩
 simp only at hn hd hln hld d0
 refine vcOf (let z0:=frE (mkF s (valN n) (valN d));let z1:=SV.agg [SV.sb z0.fst,SV.row (SId.i .u32) z0.snd.fst,SV.row (SId.i .u32) z0.snd.snd];((Dig n∧Dig d)∧(n.length≤1000000000∧d.length≤1000000000)∧(0:Int)<valN d)∧z1.same z1) (by kernel_rfl) ?_
 simp only[vcs]
 exact⟨⟨hn,hd⟩,⟨hln,hld⟩,d0⟩
def r94:SCtr:=⟨28,Int,.one (codI .i64),fun n=> -9223372036854775808≤(show Int from n)∧(show Int from n)≤9223372036854775807,fun n=>frS ((show Int from n):Rat)⟩
theorem h94:Holds Try.prog r94:=by
 refine con (L:=[r127,r128,r126]) r94 F94 (fun _ _=> .look) (OwnOK.none _) (by simpa using⟨h127,h128,h126⟩) (by kernel_rfl) (by kernel_rfl) (fun _=>rfl) ?_
 intro(n:Int) h
 obtain⟨h0,h1⟩: -9223372036854775808≤n∧n≤9223372036854775807:=h
 refine vcOf (let z0:=natL (↑n.natAbs:Int);let z1:=natL (1:Int);let z2:=frE (mkF (decide (n<(0:Int))) (valN z0) (valN z1));let z3:=SId.i .u32;let z4:=frE (IntCast.intCast n);((-9223372036854775808:Int)≤n∧n≤(9223372036854775807:Int))∧((0:Int)≤(1:Int)∧(1:Int)<(18446744073709551616:Int))∧((Dig z0∧Dig z1)∧(z0.length≤1000000000∧z1.length≤1000000000)∧(0:Int)<valN z1)∧(SV.agg [SV.sb z2.fst,SV.row z3 z2.snd.fst,SV.row z3 z2.snd.snd]).same (SV.agg [SV.sb z4.fst,SV.row z3 z4.snd.fst,SV.row z3 z4.snd.snd])) (by kernel_rfl) ?_
 conv=>zeta
 obtain⟨a1,a2,a3⟩:=natL_ok (show(0:Int)≤(n.natAbs:Int) by omega)
 obtain⟨b1,b2,b3⟩:=natL_ok (show(0:Int)≤1 by omega)
 have l1:=natL_len (k:=2) (show(0:Int)≤(n.natAbs:Int) by omega) (by rw[show(4294967296:Int)^2=18446744073709551616 from rfl];omega)
 have l2:=natL_len (k:=1) (show(0:Int)≤1 by omega) (by decide)
 refine⟨⟨h0,h1⟩,⟨by omega,by omega⟩,⟨⟨a2,b2⟩,⟨by omega,by omega⟩,by omega⟩,?_⟩
 have e:mkF (decide (n<0)) (valN (natL (n.natAbs:Int))) (valN (natL 1))=IntCast.intCast n:=by
  rw[a1,b1]
  unfold mkF
  have h2:(if decide (n<0)=true then -(n.natAbs:Int) else(n.natAbs:Int))=n:=by
   by_cases h:n<0
   ·rw[if_pos (by simpa using h)];omega
   ·rw[if_neg (by simpa using h)];omega
  rw[h2]
  show mkRat n 1=_
  rw[Rat.mkRat_one]
 rw[e]
 rfl
def sgnQ (q:Rat):Int:=if q<0 then -1 else if 0<q then 1 else 0
def r99:SCtr:=⟨80,Fra,.one (codE sF),isF,fun x=> .si .i64 (sgnQ (valF x))⟩
theorem h99:Holds Try.prog r99:=by
 refine con (L:=[]) r99 F99 (fun _ _=> .look) (OwnOK.none _) (by simp) (by kernel_rfl) (by kernel_rfl) (fun _=>rfl) ?_
 intro(x:Fra) h
 obtain⟨q,k,rfl,hz,hk⟩:isF x:=h
 refine vcOf (let z0:=decide ((↑(List.length (frE q).snd.fst):Int)=(0:Int));let z1:=SV.si .i64 (sgnQ (valF (frE q)));(z0=true→(SV.il .i64 0).same z1)∧(z0=false→((frE q).fst=true→(SV.il .i64 (-1:Int)).same z1)∧((frE q).fst=false→(SV.il .i64 1).same z1))) (by kernel_rfl) ?_
 simp only[vcs]
 rw[valF_frE]
 have hl:((frE q).2.1.length:Int)=0↔q.num=0:=by
  unfold frE
  simp only
  obtain⟨a1,a2,a3⟩:=natL_ok (show(0:Int)≤(q.num.natAbs:Int) by omega)
  constructor
  ·intro h
   rw[List.eq_nil_of_length_eq_zero (by omega:(natL (q.num.natAbs:Int)).length=0)] at a1
   simp only[valN] at a1
   omega
  ·intro h
   rw[h]
   rfl
 have hf:(frE q).1=decide (q<0):=rfl
 have h0:=@Rat.num_nonneg q
 have hn:q<0↔q.num<0:=by
  rw[←Rat.not_le,←h0]
  omega
 have hp:0<q↔0<q.num:=by
  constructor
  ·intro h
   have h1:=h0.2 (Rat.le_of_lt h)
   by_cases hz:q.num=0
   ·have:=Rat.num_eq_zero.1 hz
    subst this
    exact absurd h (by decide)
   ·omega
  ·intro h
   have h1:=h0.1 (by omega)
   exact Rat.lt_of_le_of_ne h1 (fun he=>by rw[←he] at h;exact absurd h (by decide))
 rw[hl,hf]
 simp only[decide_eq_true_eq,decide_eq_false_iff_not]
 unfold sgnQ
 simp only[hn,hp]
 refine⟨fun h=>?_,fun h=>⟨fun h2=>?_,fun h2=>?_⟩⟩
 ·rw[if_neg (by omega),if_neg (by omega)]
 ·rw[if_pos h2]
 ·rw[if_neg h2,if_pos (by omega)]
def digF (x:Fra):Prop:=(Dig x.2.1∧Dig x.2.2)∧x.2.1.length≤100000000∧x.2.2.length≤100000000
def r131:SCtr:=⟨48,Fra×Fra,.cons (codE sF) (.one (codE sF)),fun a=>digF a.1∧digF a.2,fun a=> .tup [.row (.i .u32) (natL (valN a.1.2.1*valN a.2.2.2)),.row (.i .u32) (natL (valN a.2.2.1*valN a.1.2.2))]⟩
theorem h131:Holds Try.prog r131:=by
 refine con (L:=[r153]) r131 F131 (fun _ _=> .look) (OwnOK.none _) (by simpa using h153) (by kernel_rfl) (by kernel_rfl) (fun _=>rfl) ?_
 rintro⟨⟨s,n,d⟩,⟨s',n',d'⟩⟩ ⟨⟨⟨h1,h2⟩,h3,h4⟩,⟨⟨h5,h6⟩,h7,h8⟩⟩
 simp only at h1 h2 h3 h4 h5 h6 h7 h8
 refine vcOf (let z0:=SV.tup [SV.row (SId.i .u32) (natL (valN n*valN d')),SV.row (SId.i .u32) (natL (valN n'*valN d))];((Dig n∧Dig d')∧n.length≤100000000000∧d'.length≤100000000000)∧((Dig n'∧Dig d)∧n'.length≤100000000000∧d.length≤100000000000)∧z0.same z0) (by kernel_rfl) ?_
 simp only[vcs]
 refine⟨⟨⟨h1,h6⟩,by omega,by omega⟩,⟨⟨h5,h2⟩,by omega,by omega⟩⟩
theorem frS_eq {p q:Rat} (h:p=q):(SV.agg [.sb (frE p).1,.row (.i .u32) (frE p).2.1,.row (.i .u32) (frE p).2.2]).same (.agg [.sb (frE q).1,.row (.i .u32) (frE q).2.1,.row (.i .u32) (frE q).2.2]):=by subst h;rfl
theorem num_sgn (q:Rat):q.num=if decide (q<0) then -(q.num.natAbs:Int) else(q.num.natAbs:Int):=by
 have h0:=@Rat.num_nonneg q
 by_cases h:q<0
 ·rw[if_pos (by simpa using h)]
  have:¬0≤q.num:=fun h2=>Rat.not_le.2 h (h0.1 h2)
  omega
 ·rw[if_neg (by simpa using h)]
  have:=h0.2 (Rat.not_lt.1 h)
  omega
theorem frE_ok (q:Rat):(frE q).1=decide (q<0)∧(Dig (frE q).2.1∧Nrm (frE q).2.1∧valN (frE q).2.1=(q.num.natAbs:Int))∧(Dig (frE q).2.2∧Nrm (frE q).2.2∧valN (frE q).2.2=(q.den:Int)):=by
 obtain⟨a1,a2,a3⟩:=natL_ok (show(0:Int)≤(q.num.natAbs:Int) by omega)
 obtain⟨b1,b2,b3⟩:=natL_ok (show(0:Int)≤(q.den:Int) by omega)
 exact⟨rfl,⟨a2,a3,a1⟩,⟨b2,b3,b1⟩⟩
theorem frE_len {q:Rat} {k:Nat} (h:Sz k q):(frE q).2.1.length≤k∧(frE q).2.2.length≤k:=
 ⟨natL_len (by omega) h.1,natL_len (by omega) h.2⟩
theorem mkF_neg (q:Rat):mkF (!decide (q<0)) (q.num.natAbs:Int) (q.den:Int)= -q:=by
 unfold mkF
 have h:=num_sgn q
 have e:(if(!decide (q<0))=true then -(q.num.natAbs:Int) else(q.num.natAbs:Int))= -q.num:=by
  by_cases hq:q<0
  ·rw[if_pos (by simpa using hq)] at h
   rw[if_neg (by simpa using hq)]
   omega
  ·rw[if_neg (by simpa using hq)] at h
   rw[if_pos (by simpa using hq)]
   omega
 rw[e,Int.toNat_natCast]
 conv=>rhs;rw[←Rat.mkRat_self q]
 rw[Rat.neg_mkRat]
def r130:SCtr:=⟨88,Fra,.one (codE sF),isF,fun x=>frS (-(valF x))⟩
theorem h130:Holds Try.prog r130:=by
 refine con (L:=[r126]) r130 F130 (fun _ _=> .look) (OwnOK.none _) (by simpa using h126) (by kernel_rfl) (by kernel_rfl) (fun _=>rfl) ?_
 intro(x:Fra) h
 obtain⟨q,k,rfl,hz,hk⟩:isF x:=h
 refine vcOf (let z0:=(frE q).snd.fst;let z1:=(frE q).snd.snd;let z2:=frE (mkF (!(frE q).fst) (valN z0) (valN z1));let z3:=SId.i .u32;let z4:=(frE (-valF (frE q))).snd;((Dig z0∧Dig z1)∧(List.length z0≤1000000000∧List.length z1≤1000000000)∧(0:Int)<valN z1)∧(SV.agg [SV.sb z2.fst,SV.row z3 z2.snd.fst,SV.row z3 z2.snd.snd]).same (SV.agg [SV.sb (frE (-valF (frE q))).fst,SV.row z3 z4.fst,SV.row z3 z4.snd])) (by kernel_rfl) ?_
 conv=>zeta
 obtain⟨e1,⟨a2,a3,a1⟩,⟨b2,b3,b1⟩⟩:=frE_ok q
 obtain⟨l1,l2⟩:=frE_len hz
 have hd:=q.den_pos
 refine⟨⟨⟨a2,b2⟩,⟨by omega,by omega⟩,by omega⟩,frS_eq ?_⟩
 rw[valF_frE,e1,a1,b1]
 exact mkF_neg q
theorem mul_lt_pow {a b:Int} {i j:Nat} (a0:0≤a) (h1:a<4294967296^i) (h2:b<4294967296^j):a*b<4294967296^(i+j):=by
 rw[Int.pow_add]
 exact Int.lt_of_le_of_lt (Int.mul_le_mul_of_nonneg_left (Int.le_of_lt h2) a0) (Int.mul_lt_mul_of_pos_right h1 (pow_pos _))
theorem cross_ok {p q:Rat} {i j:Nat} (hp:Sz i p) (hq:Sz j q):∃X Y D:Int,valN (frE p).2.1*valN (frE q).2.2=X∧valN (frE q).2.1*valN (frE p).2.2=Y∧valN (frE p).2.2*valN (frE q).2.2=D∧0≤X∧0≤Y∧0<D∧
  (natL X).length≤i+j∧(natL Y).length≤i+j∧(natL (X+Y)).length≤i+j+1∧(natL (X - Y)).length≤i+j∧(natL (Y - X)).length≤i+j∧(natL D).length≤i+j∧p.num*q.den=(if decide (p<0) then -X else X)∧q.num*p.den=(if decide (q<0) then -Y else Y)∧((p.den*q.den:Nat):Int)=D:=by
 obtain⟨_,⟨_,_,a1⟩,⟨_,_,b1⟩⟩:=frE_ok p
 obtain⟨_,⟨_,_,a2⟩,⟨_,_,b2⟩⟩:=frE_ok q
 rw[a1,b1,a2,b2]
 have d1:=p.den_pos
 have d2:=q.den_pos
 have x1:=mul_lt_pow (a:=(p.num.natAbs:Int)) (by omega) hp.1 hq.2
 have x2:=mul_lt_pow (a:=(q.num.natAbs:Int)) (by omega) hq.1 hp.2
 rw[Nat.add_comm j i] at x2
 have x3:=mul_lt_pow (a:=(p.den:Int)) (by omega) hp.2 hq.2
 have y1:0≤(p.num.natAbs:Int)*q.den:=Int.mul_nonneg (by omega) (by omega)
 have y2:0≤(q.num.natAbs:Int)*p.den:=Int.mul_nonneg (by omega) (by omega)
 have y3:0<(p.den:Int)*q.den:=Int.mul_pos (by omega) (by omega)
 have s1:=num_sgn p
 have s2:=num_sgn q
 refine⟨_,_,_,rfl,rfl,rfl,y1,y2,y3,natL_len y1 x1,natL_len y2 x2,natL_len (by omega) ?_,?_,?_,natL_len (by omega) x3,?_,?_,by push_cast;rfl⟩
 ·rw[Int.pow_succ]
  omega
 ·by_cases h:(p.num.natAbs:Int)*q.den - (q.num.natAbs:Int)*p.den≤0
  ·rw[natL_neg h];simp
  ·exact natL_len (by omega) (by omega)
 ·by_cases h:(q.num.natAbs:Int)*p.den - (p.num.natAbs:Int)*q.den≤0
  ·rw[natL_neg h];simp
  ·exact natL_len (by omega) (by omega)
 ·conv=>lhs;rw[s1]
  split
  ·rw[Int.neg_mul]
  ·rfl
 ·conv=>lhs;rw[s2]
  split
  ·rw[Int.neg_mul]
  ·rfl
theorem add_mkF {p q:Rat} {s:Bool} {n D:Int} (hD:((p.den*q.den:Nat):Int)=D) (h:p.num*q.den+q.num*p.den=if s then -n else n):mkF s n D=p+q:=by
 rw[add_mk]
 unfold mkF
 rw[←h,←hD,Int.toNat_natCast]
theorem digF_ok {p:Rat} {k:Nat} (h:Sz k p) (hk:k≤100000000):digF (frE p):=by
 obtain⟨_,⟨a,_,_⟩,⟨b,_,_⟩⟩:=frE_ok p
 have:=frE_len h
 exact⟨⟨a,b⟩,by omega,by omega⟩
def cmpQ (p q:Rat):Int:=if p<q then -1 else if q<p then 1 else 0
def r97:SCtr:=⟨31,Fra×Fra,.cons (codE sF) (.one (codE sF)),fun a=>isF a.1∧isF a.2,fun a=> .si .i64 (cmpQ (valF a.1) (valF a.2))⟩
theorem h97:Holds Try.prog r97:=by
 refine con (L:=[r131,r132]) r97 F97 (fun _ _=> .look) (OwnOK.none _) (by simpa using⟨h131,h132⟩) (by kernel_rfl) (by kernel_rfl) (fun _=>rfl) ?_
 rintro⟨x,y⟩ ⟨⟨p,i,hx,hz,hi⟩,⟨q,j,hy,hw,hj⟩⟩
 simp only at hx hy
 subst hx hy
 refine vcOf (let z0:=(frE p).fst;let z1:=SV.si .i64 (cmpQ (valF (frE p)) (valF (frE q)));let z2:=natL (valN (frE q).snd.fst*valN (frE p).snd.snd);let z3:=natL (valN (frE p).snd.fst*valN (frE q).snd.snd);((!z0==(frE q).fst)=true→(z0=true→(SV.il .i64 (-1:Int)).same z1)∧(z0=false→(SV.il .i64 1).same z1))∧((!z0==(frE q).fst)=false→(digF (z0,(frE p).snd.fst,(frE p).snd.snd)∧digF ((frE q).fst,(frE q).snd.fst,(frE q).snd.snd))∧(z0=true→((Dig z2∧Dig z3)∧z2.length≤1000000000000∧z3.length≤1000000000000)∧(SV.si .i64 (cmpN (valN z2) (valN z3))).same z1)∧(z0=false→((Dig z3∧Dig z2)∧z3.length≤1000000000000∧z2.length≤1000000000000)∧(SV.si .i64 (cmpN (valN z3) (valN z2))).same z1))) (by kernel_rfl) ?_
 conv=>zeta
 obtain⟨e1,_,_⟩:=frE_ok p
 obtain⟨e2,_,_⟩:=frE_ok q
 obtain⟨X,Y,D,hX,hY,hD,X0,Y0,D0,l1,l2,l3,l4,l5,l6,n1,n2,n3⟩:=cross_ok hz hw
 obtain⟨c1,c2,c3⟩:=natL_ok X0
 obtain⟨c4,c5,c6⟩:=natL_ok Y0
 simp only[valF_frE,hX,hY,c1,c4,e1,e2]
 simp only[vcs]
 have hl:p<q↔p.num*q.den<q.num*p.den:=Rat.lt_iff p q
 have hl2:q<p↔q.num*p.den<p.num*q.den:=Rat.lt_iff q p
 have hp0:=@Rat.num_nonneg p
 have hq0:=@Rat.num_nonneg q
 have hc:∀{z:Int},(z=if p.num*q.den<q.num*p.den then -1 else if q.num*p.den<p.num*q.den then 1 else 0)→z=cmpQ p q:=fun h=>by
  unfold cmpQ
  simp only[hl,hl2]
  exact h
 have hXp:p<0→0<X:=fun h=>by
  rw[if_pos (by simpa using h)] at n1
  have h1:p.num<0:=by rw[←Rat.not_le,←hp0] at h;omega
  have:=Int.mul_neg_of_neg_of_pos h1 (show(0:Int)<q.den by have:=q.den_pos;omega)
  omega
 have hYq:q<0→0<Y:=fun h=>by
  rw[if_pos (by simpa using h)] at n2
  have h1:q.num<0:=by rw[←Rat.not_le,←hq0] at h;omega
  have:=Int.mul_neg_of_neg_of_pos h1 (show(0:Int)<p.den by have:=p.den_pos;omega)
  omega
 rw[n1,n2] at hc
 refine⟨fun hne=>⟨fun hp=>?_,fun hp=>?_⟩,fun he=>⟨⟨digF_ok hz hi,digF_ok hw hj⟩,fun hp=>⟨⟨⟨c5,c2⟩,by omega,by omega⟩,?_⟩,fun hp=>⟨⟨⟨c2,c5⟩,by omega,by omega⟩,?_⟩⟩⟩
 ·apply hc
  have hq:¬q<0:=fun hq=>by simp[hp,hq] at hne
  simp only[decide_eq_true_eq,hp,hq,if_true,if_false]
  have:=hXp hp
  rw[if_pos (by omega)]
 ·apply hc
  have hq:q<0:=by
   by_cases hq:q<0
   ·exact hq
   ·simp[hp,hq] at hne
  simp only[decide_eq_true_eq,hp,hq,if_true,if_false]
  have:=hYq hq
  rw[if_neg (by omega),if_pos (by omega)]
 ·apply hc
  have hq:q<0:=by
   by_cases hq:q<0
   ·exact hq
   ·simp[hp,hq] at he
  simp only[decide_eq_true_eq,hp,hq,if_true,if_false]
  simp only[Int.neg_lt_neg_iff]
  rfl
 ·apply hc
  have hq:¬q<0:=fun hq=>by simp[hp,hq] at he
  simp only[decide_eq_true_eq,hp,hq,if_true,if_false]
  rfl
def r129:SCtr:=⟨46,Fra×Fra,.cons (codE sF) (.one (codE sF)),fun a=>isF a.1∧isF a.2,fun a=>frS (valF a.1+valF a.2)⟩
theorem h129:Holds Try.prog r129:=by
 refine con (L:=[r131,r153,r154,r155,r126]) r129 F129 (fun _ _=> .look) (OwnOK.none _) (by simpa using⟨h131,h153,h154,h155,h126⟩) (by kernel_rfl) (by kernel_rfl) (fun _=>rfl) ?_
 rintro⟨x,y⟩ ⟨⟨p,i,hx,hz,hi⟩,⟨q,j,hy,hw,hj⟩⟩
 simp only at hx hy
 subst hx hy
 refine vcOf (let z0:=(frE p).fst;let z1:=(frE p).snd.snd;let z2:=(frE q).snd.snd;let z3:=natL (valN (frE p).snd.fst*valN z2);let z4:=natL (valN (frE q).snd.fst*valN z1);let z5:=natL (valN z3+valN z4);let z6:=natL (valN z1*valN z2);let z7:=frE (mkF z0 (valN z5) (valN z6));let z8:=SId.i .u32;let z9:=frE (valF (frE p)+valF (frE q));let z10:=SV.agg [SV.sb z9.fst,SV.row z8 z9.snd.fst,SV.row z8 z9.snd.snd];let z11:=decide (valN z4≤valN z3);let z12:=natL (valN z3 - valN z4);let z13:=frE (mkF z0 (valN z12) (valN z6));let z14:=natL (valN z4 - valN z3);let z15:=frE (mkF (frE q).fst (valN z14) (valN z6));(digF (z0,(frE p).snd.fst,z1)∧digF ((frE q).fst,(frE q).snd.fst,z2))∧((Dig z1∧Dig z2)∧List.length z1≤100000000000∧List.length z2≤100000000000)∧((z0==(frE q).fst)=true→((Dig z3∧Dig z4)∧z3.length≤100000000000∧z4.length≤100000000000)∧((Dig z5∧Dig z6)∧(z5.length≤1000000000∧z6.length≤1000000000)∧(0:Int)<valN z6)∧(SV.agg [SV.sb z7.fst,SV.row z8 z7.snd.fst,SV.row z8 z7.snd.snd]).same z10)∧((z0==(frE q).fst)=false→((Dig z3∧Dig z4)∧z3.length≤100000000000∧z4.length≤100000000000)∧(z11=true→((Dig z12∧Dig z6)∧(z12.length≤1000000000∧z6.length≤1000000000)∧(0:Int)<valN z6)∧(SV.agg [SV.sb z13.fst,SV.row z8 z13.snd.fst,SV.row z8 z13.snd.snd]).same z10)∧(z11=false→((Dig z4∧Dig z3)∧z4.length≤100000000000∧z3.length≤100000000000)∧((Dig z14∧Dig z6)∧(z14.length≤1000000000∧z6.length≤1000000000)∧(0:Int)<valN z6)∧(SV.agg [SV.sb z15.fst,SV.row z8 z15.snd.fst,SV.row z8 z15.snd.snd]).same z10))) (by kernel_rfl) ?_
 conv=>zeta
 obtain⟨e1,⟨u1,_,_⟩,⟨u2,_,_⟩⟩:=frE_ok p
 obtain⟨e2,⟨u3,_,_⟩,⟨u4,_,_⟩⟩:=frE_ok q
 obtain⟨m1,m2⟩:=frE_len hz
 obtain⟨m3,m4⟩:=frE_len hw
 obtain⟨X,Y,D,hX,hY,hD,X0,Y0,D0,l1,l2,l3,l4,l5,l6,n1,n2,n3⟩:=cross_ok hz hw
 obtain⟨c1,c2,c3⟩:=natL_ok X0
 obtain⟨c4,c5,c6⟩:=natL_ok Y0
 obtain⟨c7,c8,c9⟩:=natL_ok (Int.le_of_lt D0)
 obtain⟨s1,s2,s3⟩:=natL_ok (show 0≤X+Y by omega)
 simp only[valF_frE,hX,hY,hD,c1,c4,c7,s1,e1,e2]
 simp only[vcs]
 have fin:∀{s:Bool} {n:Int},(p.num*q.den+q.num*p.den=if s then -n else n)→(SV.agg [.sb (frE (mkF s n D)).1,.row (.i .u32) (frE (mkF s n D)).2.1,.row (.i .u32) (frE (mkF s n D)).2.2]).same (.agg [.sb (frE (p+q)).1,.row (.i .u32) (frE (p+q)).2.1,.row (.i .u32) (frE (p+q)).2.2]):=
  fun h=>frS_eq (add_mkF n3 h)
 rw[n1,n2] at fin
 refine⟨⟨digF_ok hz hi,digF_ok hw hj⟩,⟨⟨u2,u4⟩,by omega,by omega⟩,fun he=>⟨⟨⟨c2,c5⟩,by omega,by omega⟩,⟨⟨s2,c8⟩,⟨by omega,by omega⟩,D0⟩,fin ?_⟩,fun he=>⟨⟨⟨c2,c5⟩,by omega,by omega⟩,fun hle=>?_,fun hle=>?_⟩⟩
 ·by_cases hp:p<0<;>by_cases hq:q<0<;>simp[hp,hq] at he ⊢<;>omega
 ·obtain⟨t1,t2,t3⟩:=natL_ok (show 0≤X - Y by omega)
  rw[t1]
  refine⟨⟨⟨t2,c8⟩,⟨by omega,by omega⟩,D0⟩,fin ?_⟩
  by_cases hp:p<0<;>by_cases hq:q<0<;>simp[hp,hq] at he ⊢<;>omega
 ·obtain⟨t1,t2,t3⟩:=natL_ok (show 0≤Y - X by omega)
  rw[t1]
  refine⟨⟨⟨c5,c2⟩,by omega,by omega⟩,⟨⟨t2,c8⟩,⟨by omega,by omega⟩,D0⟩,fin ?_⟩
  by_cases hp:p<0<;>by_cases hq:q<0<;>simp[hp,hq] at he ⊢<;>omega
def r95:SCtr:=⟨84,Fra×Fra,.cons (codE sF) (.one (codE sF)),fun a=>isF a.1∧isF a.2,fun a=>frS (valF a.1 - valF a.2)⟩
theorem h95:Holds Try.prog r95:=by
 refine con (L:=[r130,r129]) r95 F95 (fun _ _=> .look) (OwnOK.none _) (by simpa using⟨h130,h129⟩) (by kernel_rfl) (by kernel_rfl) (fun _=>rfl) ?_
 rintro⟨x,y⟩ ⟨⟨p,i,hx,hz,hi⟩,⟨q,j,hy,hw,hj⟩⟩
 simp only at hx hy
 subst hx hy
 refine vcOf (let z0:=((frE q).fst,(frE q).snd.fst,(frE q).snd.snd);let z1:=((frE p).fst,(frE p).snd.fst,(frE p).snd.snd);let z2:=(frE (-valF z0)).snd;let z3:=((frE (-valF z0)).fst,z2.fst,z2.snd);let z4:=frE (valF z1+valF z3);let z5:=SId.i .u32;let z6:=frE (valF (frE p) - valF (frE q));isF z0∧(isF z1∧isF z3)∧(SV.agg [SV.sb z4.fst,SV.row z5 z4.snd.fst,SV.row z5 z4.snd.snd]).same (SV.agg [SV.sb z6.fst,SV.row z5 z6.snd.fst,SV.row z5 z6.snd.snd])) (by kernel_rfl) ?_
 conv=>zeta
 have hn:isF (frE (-q)):=⟨-q,j,rfl,sz_neg hw,hj⟩
 refine⟨⟨q,j,rfl,hw,hj⟩,⟨⟨p,i,rfl,hz,hi⟩,?_⟩,frS_eq ?_⟩
 ·have e:valF (frE q)=q:=valF_frE q
  show isF (frE (-valF (frE q)))
  rw[e]
  exact hn
 ·show valF (frE p)+valF (frE (-valF (frE q)))=valF (frE p) - valF (frE q)
  rw[valF_frE,valF_frE,valF_frE,Rat.sub_eq_add_neg]
def isG (x:Fra):Prop:=∃q k,x=frE q∧Sz k q∧k≤10000000
theorem isG.isF {x:Fra} (h:isG x):isF x:=by
 obtain⟨q,k,h1,h2,h3⟩:=h
 exact⟨q,k,h1,h2,by omega⟩
theorem val_pos {a:List Int} (h:Dig a) (hn:Nrm a) (hne:a≠[]):0<valN a:=by
 have:=val_nonneg h
 by_cases hz:valN a=0
 ·exact absurd (val_zero h hn hz) hne
 ·omega
def okF (x:Fra):Bool:=decide (frE (valF x)=x)
theorem gcdN_pos {n d:Int} (h:0<d):0<gcdN n d:=by
 unfold gcdN
 have:0<Nat.gcd n.toNat d.toNat:=Nat.gcd_pos_of_pos_right _ (by omega)
 omega
theorem okF_nrm {s:Bool} {n d:List Int} (h:okF (s,(n,d))=true):Nrm n∧Nrm d∧d≠[]:=by
 have h:=of_decide_eq_true h
 have h1:=natL_ok (show(0:Int)≤((valF (s,(n,d))).num.natAbs:Int) by omega)
 have h2:=natL_ok (show(0:Int)≤((valF (s,(n,d))).den:Int) by omega)
 have e1:natL ((valF (s,(n,d))).num.natAbs:Int)=n:=congrArg (fun x=>x.2.1) h
 have e2:natL ((valF (s,(n,d))).den:Int)=d:=congrArg (fun x=>x.2.2) h
 rw[e1] at h1
 rw[e2] at h2
 refine⟨h1.2.2,h2.2.2,fun hd=>?_⟩
 have h3:=h2.1
 rw[hd] at h3
 have:=(valF (s,(n,d))).den_pos
 simp only[valN] at h3
 rw[hd] at this
 omega
theorem okF_eq {s:Bool} {n d:List Int} (hn:Dig n) (hd:Dig d) (nn:Nrm n) (nd:Nrm d) (hd0:d≠[]):
  okF (s,(n,d))=if n=[] then !s&&decide (d=[1]) else decide (gcdN (valN n) (valN d)=1):=by
 have dp:=val_pos hd nd hd0
 have n0:=val_nonneg hn
 have hv:valF (s,(n,d))=mkRat (if s then -valN n else valN n) (valN d).toNat:=rfl
 have hm:=@frE_mk s (valN n) (valN d) n0 dp
 have gp:=@gcdN_pos (valN n) (valN d) dp
 unfold okF
 rw[hv,hm]
 by_cases h0:n=[]
 ·rw[if_pos h0,h0]
  have hg:gcdN (valN []) (valN d)=valN d:=by unfold gcdN;simp[valN];omega
  have e1:natL (valN d / gcdN (valN []) (valN d))=[1]:=by rw[hg,Int.ediv_self (by omega)];rfl
  have e2:natL (valN [] / gcdN (valN []) (valN d))=[]:=by
   have:valN []=0:=rfl
   rw[this,Int.zero_ediv];rfl
  rw[e1,e2]
  have e3:decide (0<valN [])=false:=rfl
  rw[e3,Bool.and_false]
  rw[Bool.eq_iff_iff,Bool.and_eq_true,decide_eq_true_eq,decide_eq_true_eq,Bool.not_eq_true']
  constructor
  ·intro h
   injection h with h1 h2
   injection h2 with h2 h3
   exact⟨h1.symm,h3.symm⟩
  ·rintro⟨h1,h2⟩
   rw[h1,h2]
 ·rw[if_neg h0]
  have np:=val_pos hn nn h0
  rw[decide_eq_true (show 0<valN n from np),Bool.and_true]
  rw[Bool.eq_iff_iff,decide_eq_true_eq,decide_eq_true_eq]
  constructor
  ·intro h
   injection h with h1 h2
   injection h2 with h2 h3
   have h4:=(natL_ok (show 0≤valN d / gcdN (valN n) (valN d) from Int.ediv_nonneg (by omega) (by omega))).1
   rw[h3] at h4
   by_cases h5:gcdN (valN n) (valN d)=1
   ·exact h5
   ·have:=Int.ediv_lt_self_of_pos_of_ne_one dp (by omega:gcdN (valN n) (valN d)≠1)
    omega
  ·intro h
   rw[h,Int.ediv_one,Int.ediv_one,natL_val hn nn,natL_val hd nd]
theorem nrm_of {l:List Int} (h:l.length=0∨nthD l (l.length - 1) 0≠0):Nrm l:=by
 rcases h with h|h
 ·rw[List.eq_nil_of_length_eq_zero h];trivial
 ·by_cases hl:l.length=0
  ·rw[List.eq_nil_of_length_eq_zero hl];trivial
  ·have h1:=take_snoc (a:=l) (n:=l.length - 1) (by omega)
   rw[show l.length - 1+1=l.length by omega,List.take_length] at h1
   rw[h1]
   exact nrm_snoc h
def nrmB (a:List Int):Bool:=decide (a.length=0)||decide (nthD a (a.length - 1) 0≠0)
theorem nrmB_iff {a:List Int}:nrmB a=true↔Nrm a:=by
 unfold nrmB
 rw[Bool.or_eq_true,decide_eq_true_eq,decide_eq_true_eq]
 constructor
 ·exact nrm_of
 ·intro h
  by_cases h0:a.length=0
  ·exact .inl h0
  ·right
   have h1:=take_snoc (a:=a) (n:=a.length - 1) (by omega)
   rw[show a.length - 1+1=a.length by omega,List.take_length] at h1
   have:∀{l:List Int} {x:Int},Nrm (l++[x])→x≠0:=by
    intro l x
    induction l with
    |nil=>intro h;exact h.1 rfl
    |cons d l ih=>intro h;exact ih h.2
   rw[h1] at h
   exact this h
theorem sgn_mul (p q:Rat):(if(!(decide (p<0)==decide (q<0)))=true then -((p.num.natAbs:Int)*(q.num.natAbs:Int)) else(p.num.natAbs:Int)*(q.num.natAbs:Int))=p.num*q.num:=by
 have h1:=num_sgn p
 have h2:=num_sgn q
 by_cases hp:p<0<;>by_cases hq:q<0<;>simp only[hp,hq,decide_true,decide_false,if_true,Bool.false_eq_true,if_false] at h1 h2<;>rw[h1,h2]<;>simp[hp,hq,Int.neg_mul,Int.mul_neg]
theorem mul_mkF (p q:Rat):mkF (!(decide (p<0)==decide (q<0))) ((p.num.natAbs:Int)*(q.num.natAbs:Int)) ((p.den:Int)*(q.den:Int))=p*q:=by
 unfold mkF
 rw[sgn_mul,show((p.den:Int)*(q.den:Int)).toNat=p.den*q.den by rw[←Int.natCast_mul,Int.toNat_natCast],Rat.mkRat_eq_div]
 have h1:(p.num:Rat) / (p.den:Rat)=p:=by rw[←Rat.mkRat_eq_div,Rat.mkRat_self]
 have h2:(q.num:Rat) / (q.den:Rat)=q:=by rw[←Rat.mkRat_eq_div,Rat.mkRat_self]
 have h3:(p.den:Rat)≠0:=by have:=p.den_nz;exact_mod_cast this
 have h4:(q.den:Rat)≠0:=by have:=q.den_nz;exact_mod_cast this
 rw[Rat.intCast_mul,Rat.natCast_mul]
 conv=>rhs;rw[←h1,←h2]
 grind
theorem div_mkF {p q:Rat} (hq0:q≠0):mkF (!(decide (p<0)==decide (q<0))) ((p.num.natAbs:Int)*(q.den:Int)) ((p.den:Int)*(q.num.natAbs:Int))=p / q:=by
 unfold mkF
 rw[show((p.den:Int)*(q.num.natAbs:Int)).toNat=p.den*q.num.natAbs by rw[←Int.natCast_mul,Int.toNat_natCast],Rat.mkRat_eq_div]
 have h1:(p.num:Rat) / (p.den:Rat)=p:=by rw[←Rat.mkRat_eq_div,Rat.mkRat_self]
 have h2:(q.num:Rat) / (q.den:Rat)=q:=by rw[←Rat.mkRat_eq_div,Rat.mkRat_self]
 have h3:(p.den:Rat)≠0:=by have:=p.den_nz;exact_mod_cast this
 have h4:(q.den:Rat)≠0:=by have:=q.den_nz;exact_mod_cast this
 have h5:=num_sgn p
 have h6:=num_sgn q
 have h7:(q.num:Rat)≠0:=fun h=>hq0 (by rw[←h2,h];grind)
 rw[Rat.natCast_mul]
 conv=>rhs;rw[←h1,←h2]
 have h8:((p.num.natAbs:Int):Rat)=(p.num.natAbs:Rat):=Rat.intCast_natCast _
 have h9:((q.num.natAbs:Int):Rat)=(q.num.natAbs:Rat):=Rat.intCast_natCast _
 have h10:((q.den:Int):Rat)=(q.den:Rat):=Rat.intCast_natCast _
 have h5':(p.num:Rat)=if decide (p<0)=true then -(p.num.natAbs:Rat) else(p.num.natAbs:Rat):=by
  rw[←h8];conv=>lhs;rw[h5]
  split
  ·rw[Rat.intCast_neg]
  ·rfl
 have h6':(q.num:Rat)=if decide (q<0)=true then -(q.num.natAbs:Rat) else(q.num.natAbs:Rat):=by
  rw[←h9];conv=>lhs;rw[h6]
  split
  ·rw[Rat.intCast_neg]
  ·rfl
 have hc:((if(!(decide (p<0)==decide (q<0)))=true then -((p.num.natAbs:Int)*(q.den:Int)) else(p.num.natAbs:Int)*(q.den:Int):Int):Rat)=if(!(decide (p<0)==decide (q<0)))=true then -((p.num.natAbs:Rat)*(q.den:Rat)) else(p.num.natAbs:Rat)*(q.den:Rat):=by
  split
  ·rw[Rat.intCast_neg,Rat.intCast_mul,h8,h10]
  ·rw[Rat.intCast_mul,h8,h10]
 rw[hc]
 generalize (p.num:Rat)=pn at*
 generalize (q.num:Rat)=qn at*
 generalize (p.num.natAbs:Rat)=pa at*
 generalize (q.num.natAbs:Rat)=qa at*
 generalize (p.den:Rat)=pd at*
 generalize (q.den:Rat)=qd at*
 by_cases hp:p<0<;>by_cases hq:q<0<;>simp only[hp,hq,decide_true,decide_false,if_true,Bool.false_eq_true,if_false,BEq.rfl,Bool.not_true,beq_iff_eq,reduceCtorEq] at h5' h6' ⊢<;>(try simp)<;>subst h5' h6'<;>grind
def r410:SCtr:=⟨83,Fra×Fra,.cons (codE sF) (.one (codE sF)),fun a=>isF a.1∧isF a.2,fun a=>frS (valF a.1*valF a.2)⟩
theorem h410:Holds Try.prog r410:=by
 refine con (L:=[r153,r126]) r410 F410 (fun _ _=> .look) (OwnOK.none _) (by simpa using⟨h153,h126⟩) (by kernel_rfl) (by kernel_rfl) (fun _=>rfl) ?_
 rintro⟨x,y⟩ ⟨⟨p,i,hx,hz,hi⟩,⟨q,j,hy,hw,hj⟩⟩
 simp only at hx hy
 subst hx hy
 refine vcOf (let z0:=(frE p).snd.fst;let z1:=(frE q).snd.fst;let z2:=(frE p).snd.snd;let z3:=(frE q).snd.snd;let z4:=natL (valN z0*valN z1);let z5:=natL (valN z2*valN z3);let z6:=frE (mkF (!(frE p).fst==(frE q).fst) (valN z4) (valN z5));let z7:=SId.i .u32;let z8:=frE (valF (frE p)*valF (frE q));((Dig z0∧Dig z1)∧List.length z0≤100000000000∧List.length z1≤100000000000)∧((Dig z2∧Dig z3)∧List.length z2≤100000000000∧List.length z3≤100000000000)∧((Dig z4∧Dig z5)∧(z4.length≤1000000000∧z5.length≤1000000000)∧(0:Int)<valN z5)∧(SV.agg [SV.sb z6.fst,SV.row z7 z6.snd.fst,SV.row z7 z6.snd.snd]).same (SV.agg [SV.sb z8.fst,SV.row z7 z8.snd.fst,SV.row z7 z8.snd.snd])) (by kernel_rfl) ?_
 conv=>zeta
 obtain⟨e1,⟨u1,_,v1⟩,⟨u2,_,v2⟩⟩:=frE_ok p
 obtain⟨e2,⟨u3,_,v3⟩,⟨u4,_,v4⟩⟩:=frE_ok q
 obtain⟨m1,m2⟩:=frE_len hz
 obtain⟨m3,m4⟩:=frE_len hw
 have d1:=p.den_pos
 have d2:=q.den_pos
 rw[v1,v2,v3,v4,e1,e2,valF_frE,valF_frE]
 have X0:0≤(p.num.natAbs:Int)*(q.num.natAbs:Int):=Int.mul_nonneg (by omega) (by omega)
 have D0:0<(p.den:Int)*(q.den:Int):=Int.mul_pos (by omega) (by omega)
 have l1:=natL_len X0 (mul_lt_pow (by omega) hz.1 hw.1)
 have l2:=natL_len (Int.le_of_lt D0) (mul_lt_pow (by omega) hz.2 hw.2)
 obtain⟨c1,c2,c3⟩:=natL_ok X0
 obtain⟨c7,c8,c9⟩:=natL_ok (Int.le_of_lt D0)
 rw[c1,c7]
 exact⟨⟨⟨u1,u3⟩,by omega,by omega⟩,⟨⟨u2,u4⟩,by omega,by omega⟩,⟨⟨c2,c8⟩,⟨by omega,by omega⟩,D0⟩,frS_eq (mul_mkF p q)⟩
def r416:SCtr:=⟨94,Fra×Fra,.cons (codE sF) (.one (codE sF)),fun a=>(isF a.1∧isF a.2)∧valF a.2≠0,fun a=> .tup [frS (valF a.1 / valF a.2),.si .i64 0]⟩
theorem h416:Holds Try.prog r416:=by
 refine con (L:=[r153,r151]) r416 F416 (fun _ _=> .look) (OwnOK.none _) (by simpa using⟨h153,h151⟩) (by kernel_rfl) (by kernel_rfl) (fun _=>rfl) ?_
 rintro⟨x,y⟩ ⟨⟨⟨p,i,hx,hz,hi⟩,⟨q,j,hy,hw,hj⟩⟩,hq0⟩
 simp only at hx hy hq0
 subst hx hy
 refine vcOf (let z0:=(frE p).snd.fst;let z1:=(frE q).snd.snd;let z2:=(frE p).snd.snd;let z3:=(frE q).snd.fst;let z4:=natL (valN z0*valN z1);let z5:=natL (valN z2*valN z3);let z6:=frE (mkF (!(frE p).fst==(frE q).fst) (valN z4) (valN z5));let z7:=SId.i .u32;let z8:=[SV.si .i64 0];let z9:=frE (valF (frE p) / valF (frE q));((Dig z0∧Dig z1)∧List.length z0≤100000000000∧List.length z1≤100000000000)∧((Dig z2∧Dig z3)∧List.length z2≤100000000000∧List.length z3≤100000000000)∧((Dig z4∧Dig z5)∧(z4.length≤1000000000∧z5.length≤1000000000)∧(0:Int)<valN z5)∧(SV.tup (SV.agg [SV.sb z6.fst,SV.row z7 z6.snd.fst,SV.row z7 z6.snd.snd]::z8)).same (SV.tup (SV.agg [SV.sb z9.fst,SV.row z7 z9.snd.fst,SV.row z7 z9.snd.snd]::z8))) (by kernel_rfl) ?_
 conv=>zeta
 rw[valF_frE] at hq0
 obtain⟨e1,⟨u1,_,v1⟩,⟨u2,_,v2⟩⟩:=frE_ok p
 obtain⟨e2,⟨u3,_,v3⟩,⟨u4,_,v4⟩⟩:=frE_ok q
 obtain⟨m1,m2⟩:=frE_len hz
 obtain⟨m3,m4⟩:=frE_len hw
 have d1:=p.den_pos
 have d2:=q.den_pos
 have d3:q.num≠0:=fun h=>hq0 (Rat.num_eq_zero.1 h)
 rw[v1,v2,v3,v4,e1,e2,valF_frE,valF_frE]
 have X0:0≤(p.num.natAbs:Int)*(q.den:Int):=Int.mul_nonneg (by omega) (by omega)
 have D0:0<(p.den:Int)*(q.num.natAbs:Int):=Int.mul_pos (by omega) (by omega)
 have l1:=natL_len X0 (mul_lt_pow (by omega) hz.1 hw.2)
 have l2:=natL_len (Int.le_of_lt D0) (mul_lt_pow (by omega) hz.2 hw.1)
 obtain⟨c1,c2,c3⟩:=natL_ok X0
 obtain⟨c7,c8,c9⟩:=natL_ok (Int.le_of_lt D0)
 rw[c1,c7,div_mkF hq0]
 exact⟨⟨⟨u1,u4⟩,by omega,by omega⟩,⟨⟨u2,u3⟩,by omega,by omega⟩,⟨⟨c2,c8⟩,⟨by omega,by omega⟩,D0⟩,rfl⟩
def r414:SCtr:=⟨92,List Int,.one (codR (.i .u32)),fun a=>Dig (show List Int from a)∧(show List Int from a).length≤1000000000,fun a=> .sb (nrmB a)⟩
theorem h414:Holds Try.prog r414:=by
 refine con (L:=[r152]) r414 F414 (fun _ _=> .look) (OwnOK.none _) (by simpa using h152) (by kernel_rfl) (by kernel_rfl) (fun _=>rfl) ?_
 rintro(a:List Int) h
 refine vcOf (a.length≤1000000000000∧(SV.sb (decide ((↑(trimN a).length:Int)=(↑a.length:Int)))).same (SV.sb (nrmB a))) (by kernel_rfl) ?_
 simp only[vcs]
 obtain⟨hd,hl⟩:Dig a∧a.length≤1000000000:=h
 refine⟨by omega,?_⟩
 cases hb:nrmB a with
 |true=>
  rw[trim_eq hd,natL_val hd (nrmB_iff.1 hb)]
  exact decide_eq_true rfl
 |false=>
  refine decide_eq_false fun h2=>?_
  have h3:trimN a=a:=by
   unfold trimN at h2 ⊢
   rw[List.length_take] at h2
   exact List.take_of_length_le (by omega)
  have h4:=(@trim_val a).2
  rw[h3] at h4
  rw[nrmB_iff.2 h4] at hb
  cases hb
def r415:SCtr:=⟨93,Fra,.one (codE sF),fun x=>x.2.1.length≤1000000000,fun x=> .agg [.sb x.1,.sb (decide (x.2.1=[]))]⟩
theorem h415:Holds Try.prog r415:=by
 refine con (L:=[]) r415 F415 (fun _ _=> .look) (OwnOK.none _) (by simp) (by kernel_rfl) (by kernel_rfl) (fun _=>rfl) ?_
 rintro⟨s,n,d⟩ h
 refine vcOf ((SV.agg [SV.sb s,SV.sb (decide ((↑n.length:Int)=(0:Int)))]).same (SV.agg [SV.sb s,SV.sb (decide (n=[]))])) (by kernel_rfl) ?_
 have e:decide ((n.length:Int)=0)=decide (n=[]):=by
  rw[decide_eq_decide]
  exact⟨fun h=>List.eq_nil_of_length_eq_zero (by omega),fun h=>by rw[h];rfl⟩
 rw[e]
 rfl
def r407:SCtr:=⟨79,Fra,.one (codE sF),fun x=>(Dig x.2.1∧Dig x.2.2)∧x.2.1.length≤1000000∧x.2.2.length≤1000000,fun x=> .sb (okF x)⟩
theorem h407:Holds Try.prog r407:=by
 refine con (L:=[r414,r415,r165g,r128,r132]) r407 F407 (fun _ _=> .look) (OwnOK.none _) (by simpa using⟨h414,h415,h165g,h128,h132⟩) (by kernel_rfl) (by kernel_rfl) (fun _=>rfl) ?_
 rintro⟨s,n,d⟩ ⟨⟨hn,hd⟩,hl1,hl2⟩
 refine vcOf (let z0:=SV.sb (okF (s,n,d));let z1:=decide ((↑d.length:Int)=(0:Int));let z2:=s==true&&(decide (n=[])==true&&true);let z3:=natL (gcdN (valN n) (valN d));let z4:=natL (1:Int);(Dig n∧n.length≤1000000000)∧((!nrmB n)=true→(SV.bl false).same z0)∧((!nrmB n)=false→(Dig d∧d.length≤1000000000)∧((!nrmB d)=true→(SV.bl false).same z0)∧((!nrmB d)=false→(z1=true→(SV.bl false).same z0)∧(z1=false→n.length≤1000000000∧(z2=true→(SV.bl false).same z0)∧(z2=false→((Dig n∧Dig d)∧n.length≤1000000000∧d.length≤1000000000)∧((0:Int)≤(1:Int)∧(1:Int)<(18446744073709551616:Int))∧((Dig z3∧Dig z4)∧z3.length≤1000000000000∧z4.length≤1000000000000)∧(SV.sb (decide (cmpN (valN z3) (valN z4)=(0:Int)))).same z0))))) (by kernel_rfl) ?_
 simp only[vcs]
 have hn:Dig n:=hn
 have hd:Dig d:=hd
 have hl1:n.length≤1000000:=hl1
 have hl2:d.length≤1000000:=hl2
 have nope:¬(Nrm n∧Nrm d∧d≠[])→false=okF (s,n,d):=fun h=>by
  cases hb:okF (s,n,d) with
  |false=>rfl
  |true=>exact absurd (okF_nrm hb) h
 have nil_of:∀{a:List Int},((a.length:Nat):Int)=0→a=[]:=fun h=>List.eq_nil_of_length_eq_zero (by omega)
 have ne_of:∀{a:List Int},¬((a.length:Nat):Int)=0→a≠[]:=fun h h2=>h (by rw[h2];rfl)
 refine⟨⟨hn,by omega⟩,fun h1=>nope fun h=>?_,fun h1=>⟨⟨hd,by omega⟩,fun h2=>nope fun h=>?_,fun h2=>⟨fun h3=>nope fun h=>h.2.2 (nil_of h3),fun h3=>⟨by omega,fun h4=>?_,fun h4=>?_⟩⟩⟩⟩
 ·have:=nrmB_iff.2 h.1
  rw[h1] at this
  cases this
 ·have:=nrmB_iff.2 h.2.1
  rw[h2] at this
  cases this
 all_goals
  have he:=okF_eq (s:=s) hn hd (nrmB_iff.1 h1) (nrmB_iff.1 h2) (ne_of h3)
  have dp:=val_pos hd (nrmB_iff.1 h2) (ne_of h3)
  have hg:=@gcdN_pos (valN n) (valN d) dp
  obtain⟨g1,g2,g3⟩:=natL_ok (show 0≤gcdN (valN n) (valN d) by omega)
  obtain⟨o1,o2,o3⟩:=natL_ok (show(0:Int)≤1 by omega)
  have gle:gcdN (valN n) (valN d)≤valN d:=by
   unfold gcdN
   have:=Nat.gcd_le_right (valN n).toNat (show 0<(valN d).toNat by omega)
   omega
  rw[he]
 ·simp only[beq_iff_eq,Bool.and_true,Bool.and_eq_true,decide_eq_true_eq] at h4
  rw[if_pos h4.2,h4.1]
  rfl
 ·have hgl:=len_of g2 hd g3 (by rw[g1];exact gle)
  refine⟨⟨⟨hn,hd⟩,by omega,by omega⟩,by omega,⟨⟨g2,o2⟩,by omega,by decide⟩,?_⟩
  rw[g1,o1]
  have hcm:(cmpN (gcdN (valN n) (valN d)) 1=0)=(gcdN (valN n) (valN d)=1):=by
   unfold cmpN
   apply propext
   constructor
   ·intro h
    split at h
    ·omega
    ·split at h<;>omega
   ·intro h
    rw[h]
    rfl
  simp only[hcm]
  by_cases hn0:n=[]
  ·rw[if_pos hn0]
   have hs:s=false:=by
    cases s with
    |false=>rfl
    |true=>exact absurd h4 (by simp[hn0])
   have hgd:gcdN (valN n) (valN d)=valN d:=by
    rw[hn0];unfold gcdN;simp[valN];omega
   rw[hgd,hs,Bool.not_false,Bool.true_and,decide_eq_decide]
   constructor
   ·intro h
    rw[←natL_val hd (nrmB_iff.1 h2),h]
    rfl
   ·intro h
    rw[h]
    rfl
  ·rw[if_neg hn0]
theorem sz_mul {p q:Rat} {i j:Nat} (hp:Sz i p) (hq:Sz j q):Sz (i+j) (p*q):=by
 rw[←mul_mkF]
 unfold mkF
 rw[sgn_mul]
 have d1:=p.den_pos
 have d2:=q.den_pos
 have D0:0<(p.den:Int)*(q.den:Int):=Int.mul_pos (by omega) (by omega)
 refine sz_mk (by omega) ?_ ?_
 ·rw[Int.natAbs_mul,Int.natCast_mul]
  exact mul_lt_pow (by omega) hp.1 hq.1
 ·rw[Int.toNat_of_nonneg (by omega)]
  exact mul_lt_pow (by omega) hp.2 hq.2
theorem sz_div {p q:Rat} {i j:Nat} (hp:Sz i p) (hq:Sz j q) (h0:q≠0):Sz (i+j) (p / q):=by
 rw[←div_mkF h0]
 unfold mkF
 have d1:=p.den_pos
 have d2:=q.den_pos
 have d3:q.num≠0:=fun h=>h0 (Rat.num_eq_zero.1 h)
 have D0:0<(p.den:Int)*(q.num.natAbs:Int):=Int.mul_pos (by omega) (by omega)
 have hX:=mul_lt_pow (a:=(p.num.natAbs:Int)) (by omega) hp.1 hq.2
 refine sz_mk (by omega) ?_ ?_
 ·have e:(if(!(decide (p<0)==decide (q<0)))=true then -((p.num.natAbs:Int)*(q.den:Int)) else(p.num.natAbs:Int)*(q.den:Int)).natAbs=((p.num.natAbs:Int)*(q.den:Int)).natAbs:=by
   split
   ·rw[Int.natAbs_neg]
   ·rfl
  rw[e]
  have X0:0≤(p.num.natAbs:Int)*(q.den:Int):=Int.mul_nonneg (by omega) (by omega)
  omega
 ·rw[Int.toNat_of_nonneg (by omega)]
  exact mul_lt_pow (by omega) hp.2 hq.1
theorem cmpR_pos {p q:Rat}:0<cmpQ p q↔q<p:=by
 unfold cmpQ
 split
 ·rename_i h;constructor<;>intro h2<;>first|omega|grind
 ·split
  ·rename_i h;exact⟨fun _=>h,fun _=>by omega⟩
  ·rename_i h;exact⟨fun h2=>by omega,fun h2=>absurd h2 h⟩
theorem cmpR_zero {p q:Rat}:cmpQ p q=0↔p=q:=by
 unfold cmpQ
 split
 ·rename_i h;constructor<;>intro h2<;>first|omega|grind
 ·split
  ·rename_i h;constructor<;>intro h2<;>first|omega|grind
  ·constructor<;>intro h2<;>first|rfl|grind
theorem cmpR_neg {p q:Rat}:cmpQ p q<0↔p<q:=by
 unfold cmpQ
 split
 ·rename_i h;exact⟨fun _=>h,fun _=>by omega⟩
 ·rename_i h
  split
  ·exact⟨fun h2=>by omega,fun h2=>absurd h2 h⟩
  ·exact⟨fun h2=>by omega,fun h2=>absurd h2 h⟩
def fL (l:List Rat):List Fra:=l.map frE
def fM (l:List (List Rat)):List (List Fra):=l.map fL
def vL (l:List Fra):List Rat:=l.map valF
theorem vL_fL (l:List Rat):vL (fL l)=l:=by
 unfold vL fL
 rw[List.map_map]
 conv=>rhs;rw[←List.map_id l]
 exact List.map_congr_left fun q _=>valF_frE q
theorem fra_eta (x:Fra):(x.1,x.2.1,x.2.2)=x:=rfl
theorem fL_len {l:List Rat}:(fL l).length=l.length:=List.length_map _
theorem fM_len {l:List (List Rat)}:(fM l).length=l.length:=List.length_map _
theorem fL_nth {l:List Rat} {i:Nat} (h:i<l.length) {d:Fra}:nthD (fL l) i d=frE (nthD l i 0):=by
 rw[nthD_eq (by rw[fL_len];exact h),nthD_eq h]
 simp[fL]
theorem fM_nth {l:List (List Rat)} {i:Nat} (h:i<l.length) {d:List Fra}:nthD (fM l) i d=fL (nthD l i []):=by
 rw[nthD_eq (by rw[fM_len];exact h),nthD_eq h]
 simp[fM]
structure TabF where
 n:Int
 m:Int
 k0:Nat
 k1:Nat
 k3:Nat
 k4:Nat
 coef:List (List Fra)
 bound:List Fra
 cost:List Fra
 v:Fra
 basic:List Int
 free:List Int
def TabF.sto (x:TabF):SStore:=
 [.cells [.si .i64 x.n,.si .i64 x.m,.ow 1 x.k0 1,.ow 2 x.k1 3,.row sF x.cost,.sb x.v.1,.row (.i .u32) x.v.2.1,.row (.i .u32) x.v.2.2,.ow 3 x.k3 1,.ow 4 x.k4 1] 127 10 false,
  .row (.lst sF) x.coef 60 false,.row sF x.bound 58 false,.row (.i .i64) x.basic 3 false,.row (.i .i64) x.free 3 false]
def decTab:SStore→Option TabF
 |[.cells [a,b,.ow 1 k0 1,.ow 2 k1 3,c,v0,v1,v2,.ow 3 k3 1,.ow 4 k4 1] 127 10 false,.row s1 l1 60 false,.row s2 l2 58 false,.row s3 l3 3 false,.row s4 l4 3 false]=>
  match a.int .i64,b.int .i64,decRow sF c,decS sF [v0,v1,v2] with
  |some a,some b,some c,some v=>match castL s1 (.lst sF) l1,castL s2 sF l2,castL s3 (.i .i64) l3,castL s4 (.i .i64) l4 with
   |some l1,some l2,some l3,some l4=>some ⟨a,b,k0,k1,k3,k4,l1,l2,c,v,l3,l4⟩
   |_,_,_,_=>none
  |_,_,_,_=>none
 |_=>none
theorem decTab_ok {o:SStore} {x:TabF} (h:decTab o=some x):gO o=gO x.sto:=by
 unfold decTab at h
 split at h
 ·split at h
  ·rename_i h1 h2 h3 h4
   split at h
   ·rename_i g1 g2 g3 g4
    simp only[Option.some.injEq] at h
    subst h
    obtain⟨rfl,e1⟩:=castL_eq g1
    obtain⟨rfl,e2⟩:=castL_eq g2
    obtain⟨rfl,e3⟩:=castL_eq g3
    obtain⟨rfl,e4⟩:=castL_eq g4
    cases e1;cases e2;cases e3;cases e4
    have hv:=decS_g h4
    simp only[List.map_cons,List.map_nil,encA,encV,List.cons.injEq,and_true,List.nil_append,List.cons_append] at hv
    simp only[TabF.sto,gO,List.map_cons,List.map_nil,SObj.g,gL,int_g h1,int_g h2,decRow_ok h3,SV.g]
    simp only[hv]
    rfl
   ·cases h
  ·cases h
 ·cases h
theorem row_inj {s:SId} {a b:List s.T} (h:flatA s a=flatA s b):a=b:=by
 by_cases hz:s.sz=0
 ·exact absurd hz (by
   have:∀s:SId,0<s.sz:=fun s=>by
    induction s<;>simp only[SId.sz]<;>omega
   have:=this s
   omega)
 ·have hl:=congrArg List.length h
  rw[flatA_len,flatA_len] at hl
  exact flatA_inj s (Nat.eq_of_mul_eq_mul_right (by omega) hl) h
theorem tab_inj {x y:TabF} (h:gO x.sto=gO y.sto):x=y:=by
 obtain⟨n,m,k0,k1,k3,k4,c,b,g,⟨v0,v1,v2⟩,bs,fr⟩:=x
 obtain⟨n',m',k0',k1',k3',k4',c',b',g',⟨v0',v1',v2'⟩,bs',fr'⟩:=y
 simp only[TabF.sto,gO,List.map_cons,List.map_nil,SObj.g,gL,SV.g,List.cons.injEq,AObj.cells.injEq,and_true,true_and,AV.sc.injEq,Value.int.injEq,Value.bool.injEq,AV.os.injEq,AV.sl.injEq] at h
 obtain⟨⟨rfl,rfl,⟨rfl,_⟩,⟨rfl,_⟩,⟨_,h1⟩,rfl,⟨_,h2⟩,⟨_,h3⟩,⟨rfl,_⟩,⟨rfl,_⟩⟩,h4,h5,h6,h7⟩:=h
 rw[row_inj (s:=sF) h1,row_inj (s:=.i .u32) h2,row_inj (s:=.i .u32) h3,row_inj (s:=.lst sF) h4,row_inj (s:=sF) h5,row_inj (s:=.i .i64) h6,row_inj (s:=.i .i64) h7]
abbrev encT (n m:Int) (t:Tb):TabF:=⟨n,m,t.coef.length,t.bound.length,t.basic.length,t.free.length,fM t.coef,fL t.bound,fL t.cost,frE t.value,t.basic,t.free⟩
def TabF.t (x:TabF):Tb:=⟨x.coef.map vL,vL x.bound,vL x.cost,valF x.v,x.basic,x.free⟩
theorem encT_t {n m:Int} {t:Tb}:(encT n m t).t=t:=by
 have e:(fM t.coef).map vL=t.coef:=by
  unfold fM
  rw[List.map_map]
  conv=>rhs;rw[←List.map_id t.coef]
  exact List.map_congr_left fun q _=>vL_fL q
 unfold TabF.t encT
 simp only[e,vL_fL,valF_frE]
theorem tab_eta (x:TabF):(⟨x.n,x.m,x.k0,x.k1,x.k3,x.k4,x.coef,x.bound,x.cost,(x.v.1,x.v.2.1,x.v.2.2),x.basic,x.free⟩:TabF)=x:=rfl
theorem encT_n {n m:Int} {t:Tb}:(encT n m t).n=n:=rfl
theorem encT_m {n m:Int} {t:Tb}:(encT n m t).m=m:=rfl
def szT (k:Nat) (t:Tb):Prop:=(∀l∈t.coef,∀q∈l,Sz k q)∧(∀q∈t.bound,Sz k q)∧(∀q∈t.cost,Sz k q)∧Sz k t.value
def okT (n m:Int) (t:Tb):Prop:=((0≤n∧n≤1000)∧(0≤m∧m≤1000))∧t.WF n.toNat m.toNat∧szT 1000000 t
def tabCtr (f:FuncId) (β:Type) (A:ACod β) (dom:Int→Int→Tb→β→Prop) (res:Int→Int→Tb→β→SV) (out:Int→Int→Tb→β→Tb):OCtr where
 f:=f
 α:=TabF×β
 put a:=.ptr 0 0 10::A.put a.2
 st a:=a.1.sto
 dec v o:=match v with
  | .ptr 0 0 10::r=>match decTab o,A.dec r with
   |some s,some b=>some (s,b)
   |_,_=>none
  |_=>none
 ok v o a h:=by
  split at h
  ·split at h
   ·rename_i h1 h2
    simp only[Option.some.injEq] at h;subst h
    exact⟨by simp only[gL,A.ok _ _ h2],decTab_ok h1⟩
   ·cases h
  ·cases h
 inj a b h1 h2:=by
  simp only[gL,List.cons.injEq,true_and] at h1
  exact Prod.ext (tab_inj h2) (A.inj _ _ h1)
 dom a:=∃n m t,a.1=encT n m t∧okT n m t∧dom n m t a.2
 res a:=res a.1.n a.1.m a.1.t a.2
 out a:=(encT a.1.n a.1.m (out a.1.n a.1.m a.1.t a.2)).sto
theorem isF_of {q:Rat} {k:Nat} (h:Sz k q) (hk:k≤100000000):isF (frE q):=⟨q,k,rfl,h,hk⟩
section
variable {n m:Int} {t:Tb}
theorem okT.cf (h:okT n m t) {i j:Nat} (hi:i<m.toNat) (hj:j<n.toNat):Sz 1000000 (t.cf i j):=by
 have h1:=nthD_mem (l:=t.coef) (d:=[]) (show i<t.coef.length by rw[h.2.1.coef];exact hi)
 exact h.2.2.1 _ h1 _ (nthD_mem (by rw[h.2.1.row i hi];exact hj))
theorem okT.bd (h:okT n m t) {i:Nat} (hi:i<m.toNat):Sz 1000000 (t.bd i):=h.2.2.2.1 _ (nthD_mem (by rw[h.2.1.bound];exact hi))
theorem okT.cs (h:okT n m t) {j:Nat} (hj:j<n.toNat):Sz 1000000 (t.cs j):=h.2.2.2.2.1 _ (nthD_mem (by rw[h.2.1.cost];exact hj))
end
theorem sgnQ_pos {q:Rat}:0<sgnQ q↔0<q:=by
 unfold sgnQ
 split
 ·rename_i h;constructor<;>intro h2<;>first|omega|grind
 ·split
  ·rename_i h;exact⟨fun _=>h,fun _=>by omega⟩
  ·rename_i h;exact⟨fun h2=>by omega,fun h2=>absurd h2 h⟩
theorem sgnQ_zero {q:Rat}:sgnQ q=0↔q=0:=by
 unfold sgnQ
 split
 ·rename_i h;constructor<;>intro h2<;>first|omega|grind
 ·split
  ·rename_i h;constructor<;>intro h2<;>first|omega|grind
  ·constructor<;>intro h2<;>first|rfl|grind
theorem sgnQ_neg {q:Rat}:sgnQ q<0↔q<0:=by
 unfold sgnQ
 split
 ·rename_i h;exact⟨fun _=>h,fun _=>by omega⟩
 ·rename_i h
  split
  ·exact⟨fun h2=>by omega,fun h2=>absurd h2 h⟩
  ·exact⟨fun h2=>by omega,fun h2=>absurd h2 h⟩
def r411:OCtr:=tabCtr 85 Unit .nil (fun _ _ _ _=>True) (fun n _ t _=> .si .i64 (entN t n.toNat)) (fun _ _ t _=>t)
def Λ411 (n m:Int) (t:Tb):Nat→LoopAnn
 |3=> .inv Int (fun j=>⟨[(0,.ptr 0 0 10),(3,.si .i64 (entN t j.toNat)),(9,.ow 4 t.free.length 1),(10,.si .i64 t.free.length),(11,.si .i64 j)],(encT n m t).sto⟩)
   (fun s=>iS s 11) (fun j=>0≤j∧j≤n) (fun j=>(n - j).toNat) fun _ _=> .look
 |_=> .look
theorem h411:HoldsO Try.prog r411:=by
 refine conO (L:=[r99]) (W:=[]) r411 F411 (fun a=>Λ411 a.1.n a.1.m a.1.t) (by simp) (by simpa using h99) (by kernel_rfl) (fun _=>rfl) (by kernel_rfl) ?_
 rintro⟨x,u⟩ ⟨n,m,t,hx,hok, -⟩
 simp only at hx
 subst hx
 refine vcOf (let z0:=SV.ptr 0 0 10;let z1:=(encT n m t).t;let z2:=SV.ow 4 (encT n m t).k4 1;let z3:=z1.free.length;let z4:=SV.ow 4 z3 1;let z5:=SV.si .i64 (↑z3:Int);let z6:=(encT n m t).n;let z7:=SId.i .u32;let z8:=encT z6 (encT n m t).m z1;let z9:=SObj.cells [SV.si .i64 z8.n,SV.si .i64 z8.m,SV.ow 1 z8.k0 1,SV.ow 2 z8.k1 3,SV.row sF z8.cost,SV.sb z8.v.fst,SV.row z7 z8.v.snd.fst,SV.row z7 z8.v.snd.snd,SV.ow 3 z8.k3 1,SV.ow 4 z8.k4 1] 127 10 false;let z10:=SObj.row sF.lst z8.coef 60 false;let z11:=SObj.row sF z8.bound 58 false;let z12:=SId.i .i64;let z13:=SObj.row z12 z8.basic 3 false;let z14:=SObj.row z12 z8.free 3 false;let z15:=z8.free.length;(((z0.same z0∧(SV.il .i64 (-1:Int)).same (SV.si .i64 (entN z1 0))∧z2.same z4∧(SV.si .i64 (↑(encT n m t).k4:Int)).same z5∧(SV.il .i64 0).same (SV.si .i64 0)∧True)∧(SObj.cells [SV.si .i64 z6,SV.si .i64 (encT n m t).m,SV.ow 1 (encT n m t).k0 1,SV.ow 2 (encT n m t).k1 3,SV.row sF (encT n m t).cost,SV.sb (encT n m t).v.fst,SV.row z7 (encT n m t).v.snd.fst,SV.row z7 (encT n m t).v.snd.snd,SV.ow 3 (encT n m t).k3 1,z2] 127 10 false).same z9∧(SObj.row sF.lst (encT n m t).coef 60 false).same z10∧(SObj.row sF (encT n m t).bound 58 false).same z11∧(SObj.row z12 (encT n m t).basic 3 false).same z13∧(SObj.row z12 (encT n m t).free 3 false).same z14∧True)∧(0:Int)≤(0:Int)∧(0:Int)≤z6)∧∀(x:Int),let z16:=decide (x<(↑z3:Int));let z17:=nthD z8.cost x.toNat sF.dflt;let z18:=(z17.fst,z17.snd.fst,z17.snd.snd);let z19:=decide ((0:Int)<sgnQ (valF z18));let z20:=entN z1 x.toNat;let z21:=decide (z20<(0:Int));let z22:=x+(1:Int);let z23:=SV.si .i64 (entN z1 z22.toNat);let z24:=SV.si .i64 z22;let z25:=decide (nthD z8.free x.toNat (0:Int)<nthD z8.free z20.toNat (0:Int));let z26:=SV.si .i64 z20;(0:Int)≤x∧x≤z6→(z16=true→z3=z15∧(0:Int)≤x∧x<(↑z15:Int)∧z3=z15∧x.toNat<z15∧(0:Int)≤x∧x<(↑z8.cost.length:Int)∧x.toNat<z8.cost.length∧isF z18∧(z19=true→(z21=true→inR .i64 z22∧((z0.same z0∧(SV.si .i64 x).same z23∧z4.same z4∧z5.same z5∧z24.same z24∧True)∧z9.same z9∧z10.same z10∧z11.same z11∧z13.same z13∧z14.same z14∧True)∧((0:Int)≤z22∧z22≤z6)∧(z6 - z22).toNat<(z6 - x).toNat)∧(z21=false→z8.k4=z15∧(0:Int)≤z20∧z20<(↑z15:Int)∧z8.k4=z15∧z20.toNat<z15∧(z25=true→inR .i64 z22∧((z0.same z0∧(SV.si .i64 x).same z23∧z4.same z4∧z5.same z5∧z24.same z24∧True)∧z9.same z9∧z10.same z10∧z11.same z11∧z13.same z13∧z14.same z14∧True)∧((0:Int)≤z22∧z22≤z6)∧(z6 - z22).toNat<(z6 - x).toNat)∧(z25=false→inR .i64 z22∧((z0.same z0∧z26.same z23∧z4.same z4∧z5.same z5∧z24.same z24∧True)∧z9.same z9∧z10.same z10∧z11.same z11∧z13.same z13∧z14.same z14∧True)∧((0:Int)≤z22∧z22≤z6)∧(z6 - z22).toNat<(z6 - x).toNat)))∧(z19=false→inR .i64 z22∧((z0.same z0∧z26.same z23∧z4.same z4∧z5.same z5∧z24.same z24∧True)∧z9.same z9∧z10.same z10∧z11.same z11∧z13.same z13∧z14.same z14∧True)∧((0:Int)≤z22∧z22≤z6)∧(z6 - z22).toNat<(z6 - x).toNat))∧(z16=false→z26.same (SV.si .i64 (entN z1 z6.toNat))∧z9.same z9∧z10.same z10∧z11.same z11∧z13.same z13∧z14.same z14∧True)) (by kernel_rfl) ?_
 simp only[encT_t]
 try simp only[encT]
 simp only[vcs]
 obtain⟨⟨⟨n0,n1⟩,m0,m1⟩,hw,hz⟩:=id hok
 have hfl:=hw.free
 have hcl:=hw.cost
 have hfc:=@fL_len t.cost
 refine⟨⟨rfl,by omega,by omega⟩,?_⟩
 rintro j ⟨j0,j1⟩
 have hs:entN t (j+1).toNat=if 0<t.cs j.toNat∧(entN t j.toNat<0∨t.fv j.toNat<t.fv (entN t j.toNat).toNat) then(j.toNat:Int) else entN t j.toNat:=by
  rw[show(j+1).toNat=j.toNat+1 by omega]
  rfl
 have hb:entN t j.toNat<j.toNat:=by
  rcases @ent_ok t j.toNat with⟨h,_⟩|⟨b,h,hlt,_⟩<;>omega
 refine⟨fun hj=>?_,fun hj=>by rw[show j.toNat=n.toNat by omega]⟩
 have hc:nthD (fL t.cost) j.toNat sF.dflt=frE (t.cs j.toNat):=fL_nth (by omega)
 simp only[hc,fra_eta,valF_frE,decide_eq_true_eq,decide_eq_false_iff_not,sgnQ_pos]
 have hfv:∀k:Nat,nthD t.free k 0=t.fv k:=fun k=>rfl
 rw[hfv,hfv,hs]
 refine⟨j0,hj,by omega,j0,by omega,by omega,isF_of (hok.cs (by omega)) (by omega),fun hp=>⟨fun hn=>?_,fun hn=>⟨by omega,by omega,by omega,fun hl=>?_,fun hl=>?_⟩⟩,fun hp=>?_⟩
 ·rw[if_pos ⟨hp,.inl hn⟩]
  omega
 ·rw[if_pos ⟨hp,.inr hl⟩]
  omega
 ·rw[if_neg fun h=>h.2.elim hn hl]
  omega
 ·rw[if_neg fun h=>hp h.1]
  omega
def leaF (t:Tb) (c k:Nat):Fra:=if levN t c k<0 then(false,([],[])) else frE (t.bd (levN t c k).toNat / t.cf (levN t c k).toNat c)
def r412:OCtr:=tabCtr 86 Int (.one (codI .i64)) (fun n _ _ c=>0≤c∧c<n) (fun _ m t c=> .si .i64 (levN t c.toNat m.toNat)) (fun _ _ t _=>t)
def Λ412 (n m:Int) (t:Tb) (c:Int):Nat→LoopAnn
 |4=> .inv Int (fun i=>⟨[(0,.ptr 0 0 10),(1,.si .i64 c),(5,.si .i64 (levN t c.toNat i.toNat)),(6,.ptr 5 0 3),(15,.ow 1 t.coef.length 1),(16,.si .i64 t.coef.length),(17,.si .i64 i)],(encT n m t).sto++[.cells [.sb (leaF t c.toNat i.toNat).1,.row (.i .u32) (leaF t c.toNat i.toNat).2.1,.row (.i .u32) (leaF t c.toNat i.toNat).2.2] 58 3 false,.dead,.dead]⟩)
   (fun s=>iS s 17) (fun i=>0≤i∧i≤m) (fun i=>(m - i).toNat) fun _ _=> .look
 |_=> .look
theorem h412:HoldsO Try.prog r412:=by
 refine conO (L:=[r99,r97,r416]) (W:=[]) r412 F412 (fun a=>Λ412 a.1.n a.1.m a.1.t a.2) (by simp) (by simpa using⟨h99,h97,h416⟩) (by kernel_rfl) (fun _=>rfl) (by kernel_rfl) ?_
 rintro⟨x,c⟩ ⟨n,m,t,hx,hok,hd⟩
 simp only at hx hd
 subst hx
 refine vcOf (let z0:=SV.ptr 0 0 10;let z1:=(encT n m t).t;let z2:=SV.ptr 5 0 3;let z3:=SV.ow 1 (encT n m t).k0 1;let z4:=z1.coef.length;let z5:=SV.ow 1 z4 1;let z6:=SV.si .i64 (↑z4:Int);let z7:=(encT n m t).m;let z8:=SId.i .u32;let z9:=encT (encT n m t).n z7 z1;let z10:=SObj.cells [SV.si .i64 z9.n,SV.si .i64 z9.m,SV.ow 1 z9.k0 1,SV.ow 2 z9.k1 3,SV.row sF z9.cost,SV.sb z9.v.fst,SV.row z8 z9.v.snd.fst,SV.row z8 z9.v.snd.snd,SV.ow 3 z9.k3 1,SV.ow 4 z9.k4 1] 127 10 false;let z11:=z9.coef;let z12:=SObj.row sF.lst z11 60 false;let z13:=z9.bound;let z14:=SObj.row sF z13 58 false;let z15:=SId.i .i64;let z16:=SObj.row z15 z9.basic 3 false;let z17:=SObj.row z15 z9.free 3 false;let z18:=leaF z1 c.toNat 0;let z19:=sF.lst.dflt;let z20:=z9.basic.length;0=0∧0=0∧(((z0.same z0∧(SV.si .i64 c).same (SV.si .i64 c)∧(SV.il .i64 (-1:Int)).same (SV.si .i64 (levN z1 c.toNat 0))∧z2.same z2∧z3.same z5∧(SV.si .i64 (↑(encT n m t).k0:Int)).same z6∧(SV.il .i64 0).same (SV.si .i64 0)∧True)∧(SObj.cells [SV.si .i64 (encT n m t).n,SV.si .i64 z7,z3,SV.ow 2 (encT n m t).k1 3,SV.row sF (encT n m t).cost,SV.sb (encT n m t).v.fst,SV.row z8 (encT n m t).v.snd.fst,SV.row z8 (encT n m t).v.snd.snd,SV.ow 3 (encT n m t).k3 1,SV.ow 4 (encT n m t).k4 1] 127 10 false).same z10∧(SObj.row sF.lst (encT n m t).coef 60 false).same z12∧(SObj.row sF (encT n m t).bound 58 false).same z14∧(SObj.row z15 (encT n m t).basic 3 false).same z16∧(SObj.row z15 (encT n m t).free 3 false).same z17∧(SObj.cells [SV.bl false,SV.row z8 [],SV.row z8 []] 58 3 false).same (SObj.cells [SV.sb z18.fst,SV.row z8 z18.snd.fst,SV.row z8 z18.snd.snd] 58 3 false)∧SObj.dead.same SObj.dead∧SObj.dead.same SObj.dead∧True)∧(0:Int)≤(0:Int)∧(0:Int)≤z7)∧∀(x:Int),let z21:=decide (x<(↑z4:Int));let z22:=nthD z11 x.toNat z19;let z23:=nthD z22 c.toNat sF.dflt;let z24:=(z23.fst,z23.snd.fst,z23.snd.snd);let z25:=decide (sgnQ (valF z24)≤(0:Int));let z26:=x+(1:Int);let z27:=levN z1 c.toNat x.toNat;let z28:=SV.si .i64 z27;let z29:=SV.si .i64 (levN z1 c.toNat z26.toNat);let z30:=SV.si .i64 z26;let z31:=leaF z1 c.toNat x.toNat;let z32:=leaF z1 c.toNat z26.toNat;let z33:=SObj.cells [SV.sb z32.fst,SV.row z8 z32.snd.fst,SV.row z8 z32.snd.snd] 58 3 false;let z34:=nthD z13 x.toNat sF.dflt;let z35:=(z34.fst,z34.snd.fst,z34.snd.snd);let z36:=decide ((0:Int)≤z27);let z37:=frE (valF z35 / valF z24);let z38:=(z37.fst,z37.snd.fst,z37.snd.snd);let z39:=(z31.fst,z31.snd.fst,z31.snd.snd);let z40:=cmpQ (valF z38) (valF z39);let z41:=decide ((0:Int)<z40);let z42:=decide (z40=(0:Int));let z43:=decide (nthD z9.basic z27.toNat (0:Int)<nthD z9.basic x.toNat (0:Int));(0:Int)≤x∧x≤z7→(z21=true→z4=z11.length∧(0:Int)≤x∧x<(↑z11.length:Int)∧z4=z11.length∧x.toNat<z11.length∧(0:Int)≤c∧c<(↑z22.length:Int)∧c.toNat<z22.length∧isF z24∧(z25=true→inR .i64 z26∧((z0.same z0∧(SV.si .i64 c).same (SV.si .i64 c)∧z28.same z29∧z2.same z2∧z5.same z5∧z6.same z6∧z30.same z30∧True)∧z10.same z10∧z12.same z12∧z14.same z14∧z16.same z16∧z17.same z17∧(SObj.cells [SV.sb z31.fst,SV.row z8 z31.snd.fst,SV.row z8 z31.snd.snd] 58 3 false).same z33∧SObj.dead.same SObj.dead∧SObj.dead.same SObj.dead∧True)∧((0:Int)≤z26∧z26≤z7)∧(z7 - z26).toNat<(z7 - x).toNat)∧(z25=false→z9.k1=z13.length∧(0:Int)≤x∧x<(↑z13.length:Int)∧z9.k1=z13.length∧x.toNat<z13.length∧(0:Int)≤c∧c<(↑z22.length:Int)∧c.toNat<z22.length∧((isF z35∧isF z24)∧valF z24≠(0:Rat))∧(z36=true→(isF z38∧isF z39)∧(z41=true→inR .i64 z26∧((z0.same z0∧(SV.si .i64 c).same (SV.si .i64 c)∧z28.same z29∧z2.same z2∧z5.same z5∧z6.same z6∧z30.same z30∧True)∧z10.same z10∧z12.same z12∧z14.same z14∧z16.same z16∧z17.same z17∧(SObj.cells [SV.sb z31.fst,SV.row z8 z31.snd.fst,SV.row z8 z31.snd.snd] 58 3 false).same z33∧SObj.dead.same SObj.dead∧SObj.dead.same SObj.dead∧True)∧((0:Int)≤z26∧z26≤z7)∧(z7 - z26).toNat<(z7 - x).toNat)∧(z41=false→(z42=true→z9.k3=z20∧(0:Int)≤x∧x<(↑z20:Int)∧z9.k3=z20∧x.toNat<z20∧z9.k3=z20∧(0:Int)≤z27∧z27<(↑z20:Int)∧z9.k3=z20∧z27.toNat<z20∧(z43=true→inR .i64 z26∧((z0.same z0∧(SV.si .i64 c).same (SV.si .i64 c)∧z28.same z29∧z2.same z2∧z5.same z5∧z6.same z6∧z30.same z30∧True)∧z10.same z10∧z12.same z12∧z14.same z14∧z16.same z16∧z17.same z17∧(SObj.cells [SV.sb z31.fst,SV.row z8 z31.snd.fst,SV.row z8 z31.snd.snd] 58 3 false).same z33∧SObj.dead.same SObj.dead∧SObj.dead.same SObj.dead∧True)∧((0:Int)≤z26∧z26≤z7)∧(z7 - z26).toNat<(z7 - x).toNat)∧(z43=false→inR .i64 z26∧((z0.same z0∧(SV.si .i64 c).same (SV.si .i64 c)∧(SV.si .i64 x).same z29∧z2.same z2∧z5.same z5∧z6.same z6∧z30.same z30∧True)∧z10.same z10∧z12.same z12∧z14.same z14∧z16.same z16∧z17.same z17∧(SObj.cells [SV.sb z37.fst,SV.row z8 z37.snd.fst,SV.row z8 z37.snd.snd] 58 3 false).same z33∧SObj.dead.same SObj.dead∧SObj.dead.same SObj.dead∧True)∧((0:Int)≤z26∧z26≤z7)∧(z7 - z26).toNat<(z7 - x).toNat))∧(z42=false→inR .i64 z26∧((z0.same z0∧(SV.si .i64 c).same (SV.si .i64 c)∧(SV.si .i64 x).same z29∧z2.same z2∧z5.same z5∧z6.same z6∧z30.same z30∧True)∧z10.same z10∧z12.same z12∧z14.same z14∧z16.same z16∧z17.same z17∧(SObj.cells [SV.sb z37.fst,SV.row z8 z37.snd.fst,SV.row z8 z37.snd.snd] 58 3 false).same z33∧SObj.dead.same SObj.dead∧SObj.dead.same SObj.dead∧True)∧((0:Int)≤z26∧z26≤z7)∧(z7 - z26).toNat<(z7 - x).toNat)))∧(z36=false→inR .i64 z26∧((z0.same z0∧(SV.si .i64 c).same (SV.si .i64 c)∧(SV.si .i64 x).same z29∧z2.same z2∧z5.same z5∧z6.same z6∧z30.same z30∧True)∧z10.same z10∧z12.same z12∧z14.same z14∧z16.same z16∧z17.same z17∧(SObj.cells [SV.sb z37.fst,SV.row z8 z37.snd.fst,SV.row z8 z37.snd.snd] 58 3 false).same z33∧SObj.dead.same SObj.dead∧SObj.dead.same SObj.dead∧True)∧((0:Int)≤z26∧z26≤z7)∧(z7 - z26).toNat<(z7 - x).toNat)))∧(z21=false→z28.same (SV.si .i64 (levN z1 c.toNat z7.toNat))∧z10.same z10∧z12.same z12∧z14.same z14∧z16.same z16∧z17.same z17∧True)) (by kernel_rfl) ?_
 simp only[encT_t]
 try simp only[encT]
 simp only[vcs]
 obtain⟨⟨⟨n0,n1⟩,m0,m1⟩,hw,hz⟩:=id hok
 have hkl:=hw.coef
 have hbl:=hw.bound
 have hbb:=hw.basic
 have hfm:=@fM_len t.coef
 have hfb:=@fL_len t.bound
 have hcell:∀{x y:Fra},x=y→(SObj.cells [SV.sb x.1,SV.row (SId.i IntKind.u32) x.2.1,SV.row (SId.i IntKind.u32) x.2.2] 58 3 false).same (SObj.cells [SV.sb y.1,SV.row (SId.i IntKind.u32) y.2.1,SV.row (SId.i IntKind.u32) y.2.2] 58 3 false):=by rintro _ _ rfl;rfl
 have hl0:leaF t c.toNat 0=(false,([],[])):=rfl
 refine⟨⟨⟨rfl,by rw[hl0];rfl⟩,by omega,by omega⟩,?_⟩
 rintro i ⟨i0,i1⟩
 refine⟨fun hi=>?_,fun hi=>by rw[show i.toNat=m.toNat by omega]⟩
 have him:i.toNat<m.toNat:=by omega
 have hrow:nthD (fM t.coef) i.toNat sF.lst.dflt=fL (nthD t.coef i.toNat []):=fM_nth (by omega)
 have hrl:=hw.row i.toNat him
 have hfr:=@fL_len (nthD t.coef i.toNat [])
 have hA:nthD (fL (nthD t.coef i.toNat [])) c.toNat sF.dflt=frE (t.cf i.toNat c.toNat):=fL_nth (by omega)
 have hB:nthD (fL t.bound) i.toNat sF.dflt=frE (t.bd i.toNat):=fL_nth (by omega)
 have hbv:∀k:Nat,nthD t.basic k 0=t.bv k:=fun k=>rfl
 have hsA:=hok.cf (i:=i.toNat) (j:=c.toNat) him (by omega)
 have hsB:=hok.bd (i:=i.toNat) him
 have hs:levN t c.toNat (i+1).toNat=if t.cf i.toNat c.toNat≤0 then levN t c.toNat i.toNat
  else if 0≤levN t c.toNat i.toNat∧(t.bd (levN t c.toNat i.toNat).toNat / t.cf (levN t c.toNat i.toNat).toNat c.toNat<t.bd i.toNat / t.cf i.toNat c.toNat∨(t.bd i.toNat / t.cf i.toNat c.toNat=t.bd (levN t c.toNat i.toNat).toNat / t.cf (levN t c.toNat i.toNat).toNat c.toNat∧t.bv (levN t c.toNat i.toNat).toNat<t.bv i.toNat)) then levN t c.toNat i.toNat
  else(i.toNat:Int):=by
  rw[show(i+1).toNat=i.toNat+1 by omega]
  rfl
 have hlb:levN t c.toNat i.toNat<i.toNat:=by
  rcases @lev_ok t c.toNat i.toNat with⟨h,_⟩|⟨b,h,hlt,_⟩<;>omega
 have hlp:0≤levN t c.toNat i.toNat→0<t.cf (levN t c.toNat i.toNat).toNat c.toNat:=fun h=>by
  rcases @lev_ok t c.toNat i.toNat with⟨h2,_⟩|⟨b,h2,hlt,hp,_⟩
  ·omega
  ·rw[h2,Int.toNat_natCast];exact hp
 have sgn_le:∀q:Rat,sgnQ q≤0↔q≤0:=fun q=>by
  have:=@sgnQ_pos q
  constructor
  ·intro h;exact Rat.not_lt.1 fun h2=>by have:=this.2 h2;omega
  ·intro h;exact Int.not_lt.1 fun h2=>Rat.not_lt.2 h (this.1 h2)
 simp only[hrow,hA,hB,fra_eta,valF_frE,hbv,sgn_le,cmpR_pos,cmpR_zero]
 have hlea:0≤levN t c.toNat i.toNat→leaF t c.toNat i.toNat=frE (t.bd (levN t c.toNat i.toNat).toNat / t.cf (levN t c.toNat i.toNat).toNat c.toNat):=fun h=>by
  unfold leaF
  rw[if_neg (by omega)]
 have tail:(0≤i+1∧i+1≤m)∧(m - (i+1)).toNat<(m - i).toNat:=by omega
 have keep:levN t c.toNat (i+1).toNat=levN t c.toNat i.toNat→leaF t c.toNat i.toNat=leaF t c.toNat (i+1).toNat:=fun h=>by
  unfold leaF
  rw[h]
 have new:levN t c.toNat (i+1).toNat=(i.toNat:Int)→frE (t.bd i.toNat / t.cf i.toNat c.toNat)=leaF t c.toNat (i+1).toNat:=fun h=>by
  unfold leaF
  rw[h,if_neg (by omega),Int.toNat_natCast]
 have hnz:0<t.cf i.toNat c.toNat→t.cf i.toNat c.toNat≠0:=fun h=>by grind
 refine⟨by omega,i0,by omega,by omega,by omega,hd.1,by omega,by omega,isF_of hsA (by omega),fun hle=>?_,fun hgt=>?_⟩
 ·have e:levN t c.toNat (i+1).toNat=levN t c.toNat i.toNat:=by rw[hs,if_pos hle]
  exact⟨by omega,⟨e.symm,hcell (keep e)⟩,tail⟩
 ·have hp:0<t.cf i.toNat c.toNat:=Rat.not_le.1 hgt
  rw[if_neg hgt] at hs
  have hratio:=sz_div hsB hsA (hnz hp)
  refine⟨by omega,i0,by omega,by omega,by omega,hd.1,by omega,by omega,⟨⟨isF_of hsB (by omega),isF_of hsA (by omega)⟩,hnz hp⟩,fun h0=>?_,fun h0=>?_⟩
  ·have hl:=hlea h0
   have hsl:=sz_div (hok.bd (i:=(levN t c.toNat i.toNat).toNat) (by omega)) (hok.cf (i:=(levN t c.toNat i.toNat).toNat) (j:=c.toNat) (by omega) (by omega)) (by have:=hlp h0;grind)
   have hvl:valF (leaF t c.toNat i.toNat)=t.bd (levN t c.toNat i.toNat).toNat / t.cf (levN t c.toNat i.toNat).toNat c.toNat:=by rw[hl,valF_frE]
   simp only[hvl]
   refine⟨⟨isF_of hratio (by omega),by rw[hl];exact isF_of hsl (by omega)⟩,fun hlt=>?_,fun hlt=>⟨fun heq=>⟨i0,by omega,by omega,h0,by omega,by omega,fun hbl=>?_,fun hbl=>?_⟩,fun heq=>?_⟩⟩
   ·rw[if_pos ⟨h0,.inl hlt⟩] at hs
    exact⟨by omega,⟨hs.symm,hcell (keep hs)⟩,tail⟩
   ·rw[if_pos ⟨h0,.inr ⟨heq,hbl⟩⟩] at hs
    exact⟨by omega,⟨hs.symm,hcell (keep hs)⟩,tail⟩
   ·rw[if_neg fun h=>h.2.elim hlt fun h2=>hbl h2.2] at hs
    exact⟨by omega,⟨by omega,hcell (new hs)⟩,tail⟩
   ·rw[if_neg fun h=>h.2.elim hlt fun h2=>heq h2.1] at hs
    exact⟨by omega,⟨by omega,hcell (new hs)⟩,tail⟩
  ·rw[if_neg fun h=>h0 h.1] at hs
   exact⟨by omega,⟨by omega,hcell (new hs)⟩,tail⟩
def goalV (t0:Tb) (v:Int):Rat:=if v∈t0.free then t0.cs (t0.free.idxOf v) else 0
section
variable {n m:Nat} {t t0:Tb}
theorem Run.goal (h:Run n m t0 t) {x:Int→Rat} {z:Rat} (hx:t.holds n m x z):z=t0.value+(sumQ m (fun k=>goalV t0 (t.bv k)*x (t.bv k))+sumQ n (fun j=>goalV t0 (t.fv j)*x (t.fv j))):=by
 have key:∀t:Tb,t.WF n m→sumL (fun v=>goalV t0 v*x v) (t.basic++t.free)=sumQ m (fun k=>goalV t0 (t.bv k)*x (t.bv k))+sumQ n (fun j=>goalV t0 (t.fv j)*x (t.fv j)):=fun t ht=>by
  rw[sumL_app,sumL_eq,sumL_eq,ht.basic,ht.free]
  rfl
 rw[←key t h.wf,sumL_perm h.perm,key t0 h.wf0]
 rw[sumQ_congr (n:=m) (g:=fun _=>0) fun k hk=>by
  unfold goalV
  rw[if_neg (bv_not h.wf0 h.nd hk)]
  grind,sumQ_zero]
 rw[sumQ_congr (n:=n) (g:=fun j=>t0.cs j*x (t0.fv j)) fun j hj=>by
  have hl:j<t0.free.length:=by rw[h.wf0.free];exact hj
  unfold goalV
  rw[if_pos (fv_mem h.wf0 hj),show t0.free.idxOf (t0.fv j)=j from idx_nth (List.nodup_append.1 h.nd).2.1 hl]]
 have h2:=(((h.sol _ _).1 hx).2)
 rw[h2]
 grind
theorem Run.val (h:Run n m t0 t):t.value=t0.value+sumQ m fun k=>goalV t0 (t.bv k)*t.bd k:=by
 have h1:=h.goal (asg_holds h.wf h.nd1 (y:=fun _=>0))
 rw[sumQ_congr (n:=n) (f:=fun j=>t.cs j*(fun _=>(0:Rat)) j) (g:=fun _=>0) fun j _=>by grind,sumQ_zero] at h1
 rw[sumQ_congr (n:=n) (f:=fun j=>goalV t0 (t.fv j)*asg n t (fun _=>0) (t.fv j)) (g:=fun _=>0) fun j hj=>by rw[asg_free h.wf h.nd1 hj];grind,sumQ_zero] at h1
 rw[sumQ_congr (n:=m) (g:=fun k=>goalV t0 (t.bv k)*t.bd k) fun k hk=>by
  rw[asg_basic h.wf h.nd1 hk,sumQ_congr (g:=fun _=>0) fun j _=>by grind,sumQ_zero]
  grind] at h1
 grind
theorem sumQ_at {n c:Nat} {q:Rat} (hc:c<n):sumQ n (fun j=>if j=c then q else 0)=q:=by
 induction n with
 |zero=>omega
 |succ n ih=>
  unfold sumQ
  by_cases h:c=n
  ·subst h
   rw[if_pos rfl,sumQ_congr (g:=fun _=>0) fun j hj=>by rw[if_neg (by omega)],sumQ_zero]
   grind
  ·rw[ih (by omega),if_neg (fun h2=>h h2.symm)]
   grind
theorem sumQ_sub {f g:Nat→Rat}:∀{n:Nat},sumQ n (fun j=>f j - g j)=sumQ n f - sumQ n g
 |0=>by simp only[sumQ];grind
 |n+1=>by simp only[sumQ,@sumQ_sub f g n];grind
theorem Run.csts (h:Run n m t0 t) {c:Nat} (hc:c<n):t.cs c=goalV t0 (t.fv c) - sumQ m fun k=>goalV t0 (t.bv k)*t.cf k c:=by
 have h1:=h.goal (asg_holds h.wf h.nd1 (y:=fun j=>if j=c then 1 else 0))
 rw[sumQ_congr (n:=n) (f:=fun j=>t.cs j*(if j=c then(1:Rat) else 0)) (g:=fun j=>if j=c then t.cs c else 0) fun j _=>by
  by_cases hj:j=c
  ·subst hj;rw[if_pos rfl,if_pos rfl];grind
  ·rw[if_neg hj,if_neg hj];grind,sumQ_at hc] at h1
 rw[sumQ_congr (n:=n) (f:=fun j=>goalV t0 (t.fv j)*asg n t (fun j=>if j=c then 1 else 0) (t.fv j)) (g:=fun j=>if j=c then goalV t0 (t.fv c) else 0) fun j hj=>by
  rw[asg_free h.wf h.nd1 hj]
  by_cases hj:j=c
  ·subst hj;rw[if_pos rfl,if_pos rfl];grind
  ·rw[if_neg hj,if_neg hj];grind,sumQ_at hc] at h1
 rw[sumQ_congr (n:=m) (g:=fun k=>goalV t0 (t.bv k)*t.bd k - goalV t0 (t.bv k)*t.cf k c) fun k hk=>by
  rw[asg_basic h.wf h.nd1 hk,sumQ_congr (g:=fun j=>if j=c then t.cf k c else 0) fun j _=>by
   by_cases hj:j=c
   ·subst hj;rw[if_pos rfl,if_pos rfl];grind
   ·rw[if_neg hj,if_neg hj];grind,sumQ_at hc]
  grind,sumQ_sub,h.val] at h1
 grind
end
theorem isZ_mul {M K:Nat} {p q:Rat} (hp:isZ M p) (hq:isZ K q):isZ (M*K) (p*q):=by
 obtain⟨a,rfl,ha⟩:=hp
 obtain⟨b,rfl,hb⟩:=hq
 exact⟨a*b,by rw[Rat.intCast_mul],by rw[Int.natAbs_mul];exact Nat.mul_le_mul ha hb⟩
theorem isZ_add {M K:Nat} {p q:Rat} (hp:isZ M p) (hq:isZ K q):isZ (M+K) (p+q):=by
 obtain⟨a,rfl,ha⟩:=hp
 obtain⟨b,rfl,hb⟩:=hq
 exact⟨a+b,by rw[Rat.intCast_add],by omega⟩
theorem isZ_neg {M:Nat} {p:Rat} (hp:isZ M p):isZ M (-p):=by
 obtain⟨a,rfl,ha⟩:=hp
 exact⟨-a,by rw[Rat.intCast_neg],by omega⟩
theorem isZ_zero {M:Nat}:isZ M 0:=⟨0,rfl,by simp⟩
theorem isZ.le {M K:Nat} {p:Rat} (hp:isZ M p) (h:M≤K):isZ K p:=by
 obtain⟨a,rfl,ha⟩:=hp
 exact⟨a,rfl,by omega⟩
theorem isZ_sum {M:Nat} {f:Nat→Rat}:∀{n:Nat},(∀k,k<n→isZ M (f k))→isZ (n*M) (sumQ n f)
 |0,_=>by simpa[sumQ] using isZ_zero
 |n+1,h=>by
  have h1:=isZ_add (@isZ_sum M f n fun k hk=>h k (by omega)) (h n (by omega))
  rw[sumQ,show(n+1)*M=n*M+M by rw[Nat.succ_mul]]
  exact h1
theorem sumQ_mulr {f:Nat→Rat} {d:Rat}:∀{n:Nat},sumQ n f*d=sumQ n fun k=>f k*d
 |0=>by simp only[sumQ];grind
 |n+1=>by
  have:=@sumQ_mulr f d n
  simp only[sumQ]
  rw[←this]
  grind
theorem sz_of {X k:Nat} {q D:Rat} (h1:isZ X (q*D)) (h2:isZ X D) (hD:D≠0) (hX:X<4294967296^k):Sz k q:=by
 obtain⟨a,e1,ha⟩:=h1
 obtain⟨d,rfl,hd⟩:=h2
 have hd0:d≠0:=fun h=>hD (by subst h;rfl)
 have hp:((4294967296^k:Nat):Int)=(4294967296:Int)^k:=by
  rw[Int.natCast_pow]
  rfl
 have hX':(X:Int)<4294967296^k:=by
  rw[←hp]
  exact Int.ofNat_lt.2 hX
 have e:q=mkRat (a*d.sign) d.natAbs:=by
  have h1:mkRat (a*d.sign) d.natAbs=((a*d.sign:Int):Rat) / ((d.natAbs:Int):Rat):=by
   rw[Rat.mkRat_eq_div]
   rfl
  have h2:((d.natAbs:Int):Rat)=(d:Rat)*(d.sign:Rat):=by
   rw[←Rat.intCast_mul]
   congr 1
   rw[Int.mul_sign_self]
  have hs:(d.sign:Rat)*(d.sign:Rat)=1:=by
   rw[←Rat.intCast_mul]
   rcases Int.lt_or_lt_of_ne hd0 with h|h
   ·rw[Int.sign_eq_neg_one_of_neg h];rfl
   ·rw[Int.sign_eq_one_of_pos h];rfl
  rw[h1,h2,Rat.intCast_mul,←e1]
  have hs0:(d.sign:Rat)≠0:=fun h=>by rw[h] at hs;grind
  grind
 rw[e]
 refine sz_mk (by omega) ?_ (by omega)
 rw[Int.natAbs_mul]
 have:d.sign.natAbs=1:=by
  rw[Int.natAbs_sign]
  exact if_neg hd0
 rw[this]
 omega
structure Small (n m M G:Nat) (t0:Tb):Prop where
 wf:t0.WF n m
 nd:(t0.basic++t0.free).Nodup
 cf:∀i j,i<m→j<n→isZ M (t0.cf i j)
 bd:∀i,i<m→isZ M (t0.bd i)
 cs:∀j,j<n→isZ G (t0.cs j)
 v:t0.value=0
 M1:1≤M
 G1:M≤G
 X:(m+2)*(G*facP M m)<4294967296^1000
theorem mul_le3 {a b c:Nat} (h:1≤a) (h2:1≤b):c≤a*(b*c):=by
 have h3:1*(1*c)≤a*(b*c):=Nat.mul_le_mul h (Nat.mul_le_mul h2 (Nat.le_refl _))
 omega
theorem Small.goal {n m M G:Nat} {t0:Tb} (h:Small n m M G t0) {v:Int}:isZ G (goalV t0 v):=by
 unfold goalV
 split
 ·rename_i hv
  exact h.cs _ (by rw[←h.wf.free];exact List.idxOf_lt_length_of_mem hv)
 ·exact isZ_zero
theorem Small.szT {n m M G:Nat} {t0 t:Tb} (h:Small n m M G t0) (hR:Run n m t0 t):szT 1000000 t:=by
 have hD:=hR.detZ h.M1 h.cf
 have hX:=h.X
 have g1:1≤G:=Nat.le_trans h.M1 h.G1
 have hF:facP M m≤(m+2)*(G*facP M m):=mul_le3 (by omega) g1
 have sz:∀{q:Rat},isZ ((m+2)*(G*facP M m)) (q*detT m t0 t)→Sz 1000000 q:=fun h1=>(sz_of h1 (hD.le hF) hR.dt hX).mono (by omega)
 have hc:∀r c,r<m→c<n→isZ (facP M m) (t.cf r c*detT m t0 t):=fun r c hr hc=>hR.cfZ h.M1 h.cf hr hc
 have hb:∀r,r<m→isZ (facP M m) (t.bd r*detT m t0 t):=fun r hr=>hR.bdZ h.M1 h.cf h.bd hr
 have mg:∀{α:Type} {l:List α} {P:α→Prop} {d:α},(∀i,i<l.length→P (nthD l i d))→∀q∈l,P q:=fun h q hq=>by
  obtain⟨i,hi,rfl⟩:=List.getElem_of_mem hq
  have:=h i hi
  rwa [nthD_eq hi] at this
 refine⟨mg (d:=[]) fun i hi=>?_,mg (d:=0) fun i hi=>?_,mg (d:=0) fun j hj=>?_,?_⟩
 ·rw[hR.wf.coef] at hi
  refine mg (d:=0) fun j hj=>?_
  rw[hR.wf.row i hi] at hj
  exact sz ((hc i j hi hj).le hF)
 ·rw[hR.wf.bound] at hi
  exact sz ((hb i hi).le hF)
 ·rw[hR.wf.cost] at hj
  refine sz ?_
  have e:=hR.csts hj
  have e2:nthD t.cost j 0*detT m t0 t=goalV t0 (t.fv j)*detT m t0 t+ -(sumQ m fun k=>goalV t0 (t.bv k)*(t.cf k j*detT m t0 t)):=by
   show t.cs j*_=_
   rw[e,sumQ_congr (f:=fun k=>goalV t0 (t.bv k)*(t.cf k j*detT m t0 t)) (g:=fun k=>(goalV t0 (t.bv k)*t.cf k j)*detT m t0 t) fun k _=>by grind,←sumQ_mulr]
   grind
  rw[e2]
  refine(isZ_add (isZ_mul h.goal hD) (isZ_neg (isZ_sum fun k hk=>isZ_mul h.goal (hc k j hk hj)))).le ?_
  rw[Nat.add_mul]
  omega
 ·refine sz ?_
  have e2:t.value*detT m t0 t=sumQ m fun k=>goalV t0 (t.bv k)*(t.bd k*detT m t0 t):=by
   rw[hR.val,h.v,sumQ_congr (f:=fun k=>goalV t0 (t.bv k)*(t.bd k*detT m t0 t)) (g:=fun k=>(goalV t0 (t.bv k)*t.bd k)*detT m t0 t) fun k _=>by grind,←sumQ_mulr]
   grind
  rw[e2]
  refine(isZ_sum fun k hk=>isZ_mul h.goal (hb k hk)).le ?_
  rw[Nat.add_mul]
  omega
theorem small_okT {n m:Int} {M G:Nat} {t0 t:Tb} (h:Small n.toNat m.toNat M G t0) (hR:Run n.toNat m.toNat t0 t) (hn:0≤n∧n≤1000) (hm:0≤m∧m≤1000):okT n m t:=⟨⟨hn,hm⟩,hR.wf,h.szT hR⟩
section
variable {n m:Nat} {t t0:Tb}
theorem run_run:∀{N:Nat} {t:Tb},Run n m t0 t→feasT m t→Run n m t0 (runT n m N t)∧feasT m (runT n m N t)
 |0,t,hR,hF=>⟨hR,hF⟩
 |N+1,t,hR,hF=>by
  unfold runT
  split
  ·exact⟨hR,hF⟩
  ·rename_i t' ht
   have:=step_run hR hF ht
   exact run_run this.1 this.2
theorem run_end:∀{N:Nat} {t:Tb},endsT n m N t=true→stepT n m (runT n m N t)=none
 |0,t,h=>Option.isNone_iff_eq_none.1 h
 |N+1,t,h=>by
  unfold endsT at h
  unfold runT
  split
  ·assumption
  ·rename_i t' ht
   rw[ht] at h
   exact run_end h
theorem run_same:∀{N K:Nat} {t:Tb},endsT n m N t=true→N≤K→runT n m K t=runT n m N t
 |0,K,t,h,hK=>by
  have h2:=Option.isNone_iff_eq_none.1 h
  cases K with
  |zero=>rfl
  |succ K=>simp only[runT,h2]
 |N+1,K,t,h,hK=>by
  obtain⟨K,rfl⟩:∃k,K=k+1:=⟨K - 1,by omega⟩
  unfold endsT at h
  unfold runT
  split
  ·rfl
  ·rename_i t' ht
   rw[ht] at h
   exact run_same h (by omega)
theorem mul_le0 {a b:Rat} (ha:a≤0) (hb:0≤b):a*b≤0:=by
 have:=Rat.mul_nonneg (a:= -a) (b:=b) (by grind) hb
 grind
theorem Run.bnd (h:Run n m t0 t) (hF:feasT m t) {B:Rat} (hB:∀x z,t0.holds n m x z→(∀v∈t0.basic++t0.free,0≤x v)→z≤B) {c:Nat} (he:entN t n=(c:Int)) (hl:levN t c m<0):False:=by
 rcases @ent_ok t n with⟨e1,e2⟩|⟨c',e1,e2,e3,e4⟩
 ·omega
 ·have hc:c'=c:=by omega
  subst hc
  rcases @lev_ok t c' m with⟨l1,l2⟩|⟨r,l1,_⟩
  ·
   have key:∀s:Rat,0≤s→t.value+s*t.cs c'≤B:=fun s hs=>by
    have hh:=asg_holds h.wf h.nd1 (y:=fun j=>if j=c' then s else 0)
    have e:sumQ n (fun j=>t.cs j*(fun j=>if j=c' then s else 0) j)=s*t.cs c':=by
     rw[sumQ_congr (g:=fun j=>if j=c' then s*t.cs c' else 0) fun j _=>by
      by_cases hj:j=c'
      ·subst hj;simp only[if_pos rfl];grind
      ·simp only[if_neg hj];grind,sumQ_at e2]
    rw[e] at hh
    refine hB _ _ ((h.sol _ _).1 hh) fun v hv=>?_
    rw[←h.perm.mem_iff,List.mem_append] at hv
    rcases hv with hv|hv
    ·obtain⟨i,hi,rfl⟩:=bv_of h.wf hv
     rw[asg_basic h.wf h.nd1 hi]
     have e3:sumQ n (fun j=>t.cf i j*(if j=c' then s else 0))=t.cf i c'*s:=by
      rw[sumQ_congr (g:=fun j=>if j=c' then t.cf i c'*s else 0) fun j _=>by
       by_cases hj:j=c'
       ·subst hj;simp
       ·simp only[if_neg hj];grind,sumQ_at e2]
     rw[e3]
     have:=mul_le0 (l2 i hi) hs
     have:=hF i hi
     grind
    ·obtain⟨j,hj,rfl⟩:=fv_of h.wf hv
     rw[asg_free h.wf h.nd1 hj]
     split
     ·exact hs
     ·grind
   have hv0:=key 0 (by grind)
   have hs:0≤(B - t.value+1) / t.cs c':=div_nonneg (by grind) e3
   have h1:=key _ hs
   rw[div_mul e3] at h1
   grind
  ·omega
end
open Classical in
noncomputable def lastN (n m:Nat) (t:Tb):Nat:=if h:∃N,endsT n m N t=true then Classical.choose h else 0
noncomputable def lastT (n m:Nat) (t:Tb):Tb:=runT n m (lastN n m t) t
section
variable {n m:Nat} {t t0 t':Tb}
theorem last_eq {N:Nat} (h:endsT n m N t=true):lastT n m t=runT n m N t:=by
 have hx:∃N,endsT n m N t=true:=⟨N,h⟩
 have h2:endsT n m (lastN n m t) t=true:=by
  unfold lastN
  rw[dif_pos hx]
  exact Classical.choose_spec hx
 unfold lastT
 rcases Nat.le_total N (lastN n m t) with hl|hl
 ·exact run_same h hl
 ·exact(run_same h2 hl).symm
theorem last_end (h:stepT n m t=none):lastT n m t=t:=by
 have h0:endsT n m 0 t=true:=by simp[endsT,h]
 rw[last_eq h0]
 rfl
theorem last_step (hN:∃N,endsT n m N t=true) (h:stepT n m t=some t'):lastT n m t'=lastT n m t:=by
 obtain⟨N,hN⟩:=hN
 have h1:=ends_step hN h
 rw[last_eq h1,last_eq (ends_mono hN)]
 show _=runT n m (N+1) t
 simp only[runT,h]
theorem last_run (hR:Run n m t0 t) (hF:feasT m t):Run n m t0 (lastT n m t)∧feasT m (lastT n m t)∧stepT n m (lastT n m t)=none:=by
 obtain⟨N,hN⟩:=bland hR hF
 rw[last_eq hN]
 have:=run_run (N:=N) hR hF
 exact⟨this.1,this.2,run_end hN⟩
theorem last_opt (hR:Run n m t0 t) (hF:feasT m t) {B:Rat} (hB:∀x z,t0.holds n m x z→(∀v∈t0.basic++t0.free,0≤x v)→z≤B):entN (lastT n m t) n<0:=by
 obtain⟨h1,h2,h3⟩:=last_run hR hF
 rcases @ent_ok (lastT n m t) n with⟨e1,e2⟩|⟨c,e1,e2,e3,e4⟩
 ·omega
 ·exfalso
  unfold stepT at h3
  rw[if_neg (by omega),show(entN (lastT n m t) n).toNat=c by omega] at h3
  split at h3
  ·rename_i hl
   exact h1.bnd h2 hB e1 hl
  ·cases h3
end
def uptoI (n:Nat):List Int:=(List.range n).map fun i:Nat=>(i:Int)
theorem uptoI_len {n:Nat}:(uptoI n).length=n:=by simp[uptoI]
theorem uptoI_succ {n:Nat}:uptoI (n+1)=uptoI n++[(n:Int)]:=by simp[uptoI,List.range_succ]
theorem uptoI_lt {n:Nat}:(uptoI n).Pairwise (·<·):=by
 unfold uptoI
 rw[List.pairwise_map]
 exact List.pairwise_lt_range.imp fun h=>by omega
theorem uptoI_mem {n:Nat} {x:Int}:x∈uptoI n↔0≤x∧x<n:=by
 unfold uptoI
 rw[List.mem_map]
 constructor
 ·rintro⟨k,hk,rfl⟩
  rw[List.mem_range] at hk
  omega
 ·rintro⟨h0,h1⟩
  exact⟨x.toNat,List.mem_range.2 (by omega),by omega⟩
theorem bound_bd {p:Prob} (hc:checkE p=0) {r:Int}:0≤boundS p r∧boundS p r≤4:=by
 obtain⟨_,_,g3,g4,_⟩:=good_of hc
 unfold boundS
 split
 ·omega
 ·split
  ·exact bun_nth g3 _
  ·exact bun_nth g4 _
def dcI (f:List Int) (d:Int):List Int:=(uptoI f.length).filter fun i=>decide (nthD f i.toNat 0=d)
theorem dcI_mem {f:List Int} {d x:Int}:x∈dcI f d↔(0≤x∧x<f.length)∧nthD f x.toNat 0=d:=by
 unfold dcI
 rw[List.mem_filter,uptoI_mem,decide_eq_true_eq]
theorem dcI_lt {f:List Int} {d:Int}:(dcI f d).Pairwise (·<·):=uptoI_lt.sublist List.filter_sublist
theorem dcI_len {f:List Int} {d:Int}:(dcI f d).length≤f.length:=by
 have:=List.length_filter_le (fun i:Int=>decide (nthD f i.toNat 0=d)) (uptoI f.length)
 rw[uptoI_len] at this
 exact this
theorem nth_mapL {α β:Type} {g:α→β} {l:List α} {i:Nat} {d:β} {e:α} (h:i<l.length):nthD (l.map g) i d=g (nthD l i e):=by
 rw[nthD_eq (by rw[List.length_map];exact h),nthD_eq h,List.getElem_map]
theorem nth_upto {n j:Nat} {d:Int} (h:j<n):nthD (uptoI n) j d=j:=by
 unfold uptoI
 exact nth_map h
def relT (p:Prob) (f:List Int):Tb where
 coef:=(List.range (p.classes.length+12)).map fun r:Nat=>(dcI f 0).map fun i=>((coefS p r (oI p i):Int):Rat)
 bound:=(List.range (p.classes.length+12)).map fun r:Nat=>((boundS p r - sumS p ((dcI f 1).map (oI p)) r:Int):Rat)
 cost:=(dcI f 0).map fun i=>(((oI p i).value:Int):Rat)
 value:=0
 basic:=(List.range (p.classes.length+12)).map fun i:Nat=>(((dcI f 0).length+i:Nat):Int)
 free:=uptoI (dcI f 0).length
def fixOk (p:Prob) (f:List Int):Prop:=checkE p=0∧f.length=p.offers.length∧fitsB p ((dcI f 1).map (oI p))=true
abbrev nF (f:List Int):Nat:=(dcI f 0).length
abbrev mF (p:Prob):Nat:=p.classes.length+12
section
variable {p:Prob} {f:List Int}
theorem rel_wf:(relT p f).WF (nF f) (mF p) where
 coef:=by simp[relT]
 row i hi:=by
  simp only[relT]
  rw[nth_map hi,List.length_map]
 bound:=by simp[relT]
 cost:=by simp[relT]
 basic:=by simp[relT]
 free:=by simp[relT,uptoI_len]
theorem rel_cf {i j:Nat} (hi:i<mF p) (hj:j<nF f):(relT p f).cf i j=((coefS p i (oI p (nthD (dcI f 0) j 0)):Int):Rat):=by
 unfold Tb.cf
 simp only[relT]
 rw[nth_map hi,nth_mapL (e:=0) hj]
theorem rel_bd {i:Nat} (hi:i<mF p):(relT p f).bd i=((boundS p i - sumS p ((dcI f 1).map (oI p)) i:Int):Rat):=by
 unfold Tb.bd
 simp only[relT]
 rw[nth_map hi]
theorem rel_cs {j:Nat} (hj:j<nF f):(relT p f).cs j=(((oI p (nthD (dcI f 0) j 0)).value:Int):Rat):=by
 unfold Tb.cs
 simp only[relT]
 rw[nth_mapL (e:=0) hj]
theorem rel_nd:((relT p f).basic++(relT p f).free).Nodup:=by
 rw[List.nodup_append]
 refine⟨?_,uptoI_lt.imp fun h=>by omega,?_⟩
 ·simp only[relT]
  refine List.Pairwise.map _ (fun a b h=>?_) List.nodup_range
  intro h2
  exact h (by omega)
 ·intro a ha b hb
  simp only[relT,List.mem_map,List.mem_range] at ha
  simp only[relT,uptoI_mem] at hb
  obtain⟨i,hi,rfl⟩:=ha
  omega
theorem free_in (h:fixOk p f) {j:Nat} (hj:j<nF f):(0≤nthD (dcI f 0) j 0∧nthD (dcI f 0) j 0<p.offers.length)∧nthD f (nthD (dcI f 0) j 0).toNat 0=0:=by
 have:=dcI_mem.1 (nthD_mem (d:=0) hj)
 rw[h.2.1] at this
 exact this
theorem off_good (hc:checkE p=0) {i:Int} (h:0≤i∧i<p.offers.length):0≤(oI p i).bidder∧(oI p i).bidder<p.classes.length∧(oI p i).want.ok=true∧1≤(oI p i).value∧(oI p i).value≤1000000:=(good_of hc).2.2.2.2 _ (nthD_mem (show i.toNat<p.offers.length by omega))
theorem in_good (h:fixOk p f) {d:Int}:∀x∈(dcI f d).map (oI p),0≤x.bidder∧x.bidder<p.classes.length∧x.want.ok=true∧1≤x.value∧x.value≤1000000:=fun x hx=>by
 obtain⟨i,hi,rfl⟩:=List.mem_map.1 hx
 have:=(dcI_mem.1 hi).1
 rw[h.2.1] at this
 exact off_good h.1 this
theorem isZ_int {z:Int} {M:Nat} (h:z.natAbs≤M):isZ M (z:Rat):=⟨z,rfl,h⟩
theorem rel_left (h:fixOk p f) {i:Nat} (hi:i<mF p):0≤boundS p i - sumS p ((dcI f 1).map (oI p)) i∧boundS p i - sumS p ((dcI f 1).map (oI p)) i≤4:=by
 have hi2:i<p.classes.length+12:=hi
 have h1:=fits_iff.1 h.2.2 i (by unfold nrows;omega)
 have h2:=@bound_bd p h.1 i
 have h3:=@sum_bd p i ((dcI f 1).map (oI p)) fun x hx=>(in_good h x hx).2.2.1
 omega
theorem fac_bd:∀m:Nat,m≤20→(m+2)*(1000000*facP 4 m)<4294967296^1000:=by
 have h:((List.range 21).all fun m=>Nat.blt ((m+2)*(1000000*facP 4 m)) (4294967296^1000))=true:=by decide+kernel
 intro m hm
 have:=List.all_eq_true.1 h m (List.mem_range.2 (by omega))
 rw[Nat.blt_eq] at this
 exact this
theorem rel_small (h:fixOk p f):Small (nF f) (mF p) 4 1000000 (relT p f) where
 wf:=rel_wf
 nd:=rel_nd
 cf i j hi hj:=by
  rw[rel_cf hi hj]
  have:=(off_good h.1 (free_in h hj).1).2.2.1
  have:=@coef_bd p i _ this
  exact isZ_int (by omega)
 bd i hi:=by
  rw[rel_bd hi]
  have:=rel_left h hi
  exact isZ_int (by omega)
 cs j hj:=by
  rw[rel_cs hj]
  have:=off_good h.1 (free_in h hj).1
  exact isZ_int (by omega)
 v:=rfl
 M1:=by omega
 G1:=by omega
 X:=fac_bd _ (by have:=(good_of h.1).1;unfold mF;omega)
theorem cast_nonneg {z:Int} (h:0≤z):(0:Rat)≤(z:Rat):=by exact_mod_cast h
theorem rel_feas (h:fixOk p f):feasT (mF p) (relT p f):=fun i hi=>by
 rw[rel_bd hi]
 exact cast_nonneg (rel_left h hi).1
theorem sumQ_ge0 {g:Nat→Rat}:∀{n:Nat},(∀k,k<n→0≤g k)→0≤sumQ n g
 |0,_=>by simp only[sumQ];grind
 |n+1,h=>by
  have h1:=@sumQ_ge0 g n fun k hk=>h k (by omega)
  have h2:=h n (by omega)
  simp only[sumQ]
  grind
theorem sumQ_le {g k:Nat→Rat}:∀{n:Nat},(∀i,i<n→g i≤k i)→sumQ n g≤sumQ n k
 |0,_=>by simp only[sumQ];grind
 |n+1,h=>by
  have h1:=@sumQ_le g k n fun k hk=>h k (by omega)
  have h2:=h n (by omega)
  simp only[sumQ]
  grind
theorem sumQ_term {g:Nat→Rat} {n j:Nat} (h:∀k,k<n→0≤g k) (hj:j<n):g j≤sumQ n g:=by
 rw[sumQ_pick hj]
 have:=@sumQ_ge0 (fun i=>if i=j then 0 else g i) n fun k hk=>by
  split
  ·grind
  ·exact h k hk
 grind
theorem rel_one (h:fixOk p f) {x:Int→Rat} {z:Rat} (hx:(relT p f).holds (nF f) (mF p) x z) (h0:∀v∈(relT p f).basic++(relT p f).free,0≤x v) {j:Nat} (hj:j<nF f):x ((relT p f).fv j)≤1:=by
 obtain⟨hi,_⟩:=free_in h hj
 have hg:=off_good h.1 hi
 have hb:(oI p (nthD (dcI f 0) j 0)).bidder.toNat<mF p:=by unfold mF;omega
 have h1:=hx.1 _ hb
 have hs:=h0 _ (List.mem_append_left _ (bv_mem rel_wf hb))
 have hc:(relT p f).cf (oI p (nthD (dcI f 0) j 0)).bidder.toNat j=1:=by
  rw[rel_cf hb hj]
  unfold coefS
  rw[if_pos (by omega),if_pos (by omega)]
  rfl
 have ht:=@sumQ_term (fun k=>(relT p f).cf (oI p (nthD (dcI f 0) j 0)).bidder.toNat k*x ((relT p f).fv k)) (nF f) j (fun k hk=>by
  refine Rat.mul_nonneg ?_ (h0 _ (List.mem_append_right _ (fv_mem rel_wf hk)))
  rw[rel_cf hb hk]
  exact cast_nonneg (coef_bd (off_good h.1 (free_in h hk).1).2.2.1).1) hj
 simp only[hc] at ht
 have h2:(relT p f).bd (oI p (nthD (dcI f 0) j 0)).bidder.toNat≤1:=by
  rw[rel_bd hb]
  have h3:boundS p (oI p (nthD (dcI f 0) j 0)).bidder.toNat=1:=by
   unfold boundS
   rw[if_pos (by omega)]
  have h4:=@sum_bd p (oI p (nthD (dcI f 0) j 0)).bidder.toNat ((dcI f 1).map (oI p)) fun x hx=>(in_good h x hx).2.2.1
  have h5:boundS p (oI p (nthD (dcI f 0) j 0)).bidder.toNat - sumS p ((dcI f 1).map (oI p)) (oI p (nthD (dcI f 0) j 0)).bidder.toNat≤1:=by omega
  exact_mod_cast h5
 grind
theorem rel_bnd (h:fixOk p f) {x:Int→Rat} {z:Rat} (hx:(relT p f).holds (nF f) (mF p) x z) (h0:∀v∈(relT p f).basic++(relT p f).free,0≤x v):z≤sumQ (nF f) (relT p f).cs:=by
 have h1:=hx.2
 have hv:(relT p f).value=0:=rfl
 have:=@sumQ_le (fun j=>(relT p f).cs j*x ((relT p f).fv j)) (relT p f).cs (nF f) fun j hj=>by
  have h2:=rel_one h hx h0 hj
  have h3:0≤(relT p f).cs j:=by
   rw[rel_cs hj]
   exact cast_nonneg (by have:=off_good h.1 (free_in h hj).1;omega)
  have:=Rat.mul_nonneg h3 (b:=1 - x ((relT p f).fv j)) (by grind)
  grind
 grind
noncomputable def optT (p:Prob) (f:List Int):Tb:=lastT (nF f) (mF p) (relT p f)
theorem opt_run (h:fixOk p f):Run (nF f) (mF p) (relT p f) (optT p f)∧feasT (mF p) (optT p f)∧entN (optT p f) (nF f)<0:=by
 have hr:=Run.refl (n:=nF f) (m:=mF p) (t0:=relT p f) rel_wf rel_nd
 have:=last_run hr (rel_feas h)
 exact⟨this.1,this.2.1,last_opt hr (rel_feas h) fun x z hx h0=>rel_bnd h hx h0⟩
end
end Go.Vi
