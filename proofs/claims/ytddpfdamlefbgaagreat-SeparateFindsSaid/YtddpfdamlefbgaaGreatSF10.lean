/-
  Contracts: the reference's natural numbers: Bit, Bits, high, DivMod, GCD, Valid.
  Conditions: none.
-/
import Derived.Test.YtddpfdamlefbgaaGreatSF06
import Derived.Test.YtddpfdamlefbgaaGreatSF07
import Derived.Test.YtddpfdamlefbgaaGreatSF08
import Derived.Test.YtddpfdamlefbgaaGreatSF09
import Derived.Shelf.SlicesE.Clone
import Derived.WalkKit
import Derived.Maps.Ext
set_option maxRecDepth 100000
set_option maxHeartbeats 4000000
set_option linter.all false
namespace Go.Vi
open Go.Proofs.YtddpfdamlefbgaaGreat.Ir
open Go.Proofs
theorem nth_div:∀{j:Nat} {a:List Int},Dig a→valN a / 4294967296^j % 4294967296=nthD a j 0
 |0,a,h=>by
  have:=dig_nth h 0
  grind[val_tl]
 |j+1,a,h=>by
  have c:=dig_nth h 0
  have b:=@nth_div j a.tail (dig_tl h)
  have e:valN a / 4294967296=valN a.tail:=by grind[val_tl]
  rw[Int.pow_succ,Int.mul_comm (4294967296^j),←Int.ediv_ediv_of_nonneg (by decide),e,b,nth_tl]
theorem two_split {q r:Nat}:(2:Int)^(32*q+r)=4294967296^q*2^r:=by
 rw[Int.pow_add,Int.pow_mul]
 rfl
theorem cut_div {x:Int} {r m:Nat} (h:r≤m):x % 2^m / 2^r=x / 2^r % 2^(m - r):=by
 obtain⟨k,rfl⟩:=Nat.exists_eq_add_of_le h
 have c:(0:Int)<2^r:=Int.pow_pos (by decide)
 have f:(0:Int)<2^k:=Int.pow_pos (by decide)
 rw[Nat.add_sub_cancel_left,Int.pow_add]
 have j:=Int.mul_ediv_add_emod x (2^r)
 have n:=Int.mul_ediv_add_emod (x / 2^r) (2^k)
 have i:=Int.emod_nonneg x (show(2:Int)^r≠0 by omega)
 have e:=Int.emod_lt_of_pos x c
 have g:=Int.emod_nonneg (x / 2^r) (show(2:Int)^k≠0 by omega)
 have l:=Int.emod_lt_of_pos (x / 2^r) f
 generalize x / 2^r % 2^k=s at*
 generalize x / 2^r / 2^k=t at*
 generalize x / 2^r=y at*
 generalize x % 2^r=u at*
 have d:x=(2^r*s+u)+(2^r*2^k)*t:=by
  grind
 have b:2^r*s+u<2^r*2^k:=by
  have:=Int.mul_le_mul_of_nonneg_left (show s+1≤2^k by omega) (Int.le_of_lt c)
  grind
 have a:0≤2^r*s+u:=by
  have:=Int.mul_nonneg (Int.le_of_lt c) g
  omega
 rw[d,Int.add_mul_emod_self_left,Int.emod_eq_of_lt a b,Int.add_comm,Int.add_mul_ediv_left _ _ (by omega),Int.ediv_eq_zero_of_lt i e,Int.zero_add]
theorem mod_mod_two {x:Int} {j k:Nat} (h:j≤k):x % 2^k % 2^j=x % 2^j:=by
 obtain⟨m,rfl⟩:=Nat.exists_eq_add_of_le h
 rw[Int.pow_add]
 simp_all
def bitQ (v:Int) (i:Nat):Int:=v / 2^i % 2
theorem bit_eq {a:List Int} {i:Nat} (h:Dig a):nthD a (i / 32) 0 / 2^(i % 32) % 2=bitQ (valN a) i:=by
 unfold bitQ
 have e:(2:Int)^i=4294967296^(i / 32)*2^(i % 32):=by
  rw[←two_split];congr 1;omega
 have b:(0:Int)<4294967296^(i / 32):=pow_pos _
 rw[e,←Int.ediv_ediv_of_nonneg (Int.le_of_lt b),←nth_div h]
 have:=cut_div (x:=valN a / 4294967296^(i / 32)) (r:=i % 32) (m:=32) (by omega)
 rw[show(2:Int)^32=4294967296 from rfl] at this
 rw[this]
 have c:=mod_mod_two (x:=valN a / 4294967296^(i / 32) / 2^(i % 32)) (j:=1) (k:=32 - i % 32) (by omega)
 omega
theorem dig2 {a:List Int} {i r:Nat} (h:Dig a) (d:r<32):(nthD a i 0+nthD a (i+1) 0*4294967296) / 2^r % 4294967296=valN a / 2^(32*i+r) % 4294967296:=by
 have b:(0:Int)<4294967296^i:=pow_pos _
 rw[two_split,←Int.ediv_ediv_of_nonneg (Int.le_of_lt b),←nth_div h,←nth_div h,Int.pow_succ,←Int.ediv_ediv_of_nonneg (Int.le_of_lt b)]
 generalize valN a / 4294967296^i=y
 have e:y % 4294967296+y / 4294967296 % 4294967296*4294967296=y % 18446744073709551616:=by omega
 rw[e]
 have:=cut_div (x:=y) (r:=r) (m:=64) (by omega)
 rw[show(2:Int)^64=18446744073709551616 from rfl] at this
 rw[this]
 have c:=mod_mod_two (x:=y / 2^r) (j:=32) (k:=64 - r) (by omega)
 omega
def bitsN (v:Int):Int:=if v=0 then 0 else(v.toNat.log2+1:Nat)
theorem two_mono {a b:Nat} (h:a≤b):(2:Int)^a≤2^b:=by
 obtain⟨m,rfl⟩:=Nat.exists_eq_add_of_le h
 rw[Int.pow_add]
 have c:(0:Int)<2^a:=Int.pow_pos (by decide)
 have d:(0:Int)<2^m:=Int.pow_pos (by decide)
 have:=Int.mul_le_mul_of_nonneg_left (show(1:Int)≤2^m by omega) (Int.le_of_lt c)
 omega
theorem bits_ok {v:Int} (h:0≤v):0≤bitsN v∧v<2^(bitsN v).toNat∧(bitsN v=0∨2^((bitsN v).toNat - 1)≤v):=by
 unfold bitsN
 split
 ·simp_all
 ·rename_i c
  have a:=@Nat.lt_log2_self v.toNat
  have b:=Nat.log2_self_le (show v.toNat≠0 by omega)
  grind
theorem bits_eq {v:Int} {n:Nat} (d:0≤v) (f:v<2^n) (b:n=0∨2^(n - 1)≤v):(n:Int)=bitsN v:=by
 obtain⟨g,h,a⟩:=bits_ok d
 by_cases e:n<(bitsN v).toNat
 ·rcases a with a|a
  ·omega
  ·have:=two_mono (show n≤(bitsN v).toNat - 1 by omega)
   omega
 ·by_cases c:(bitsN v).toNat<n
  ·rcases b with b|b
   ·omega
   ·have:=two_mono (show(bitsN v).toNat≤n - 1 by omega)
    omega
  ·omega
def r162:SCtr:=⟨108,List Int×Int,.cons (codR (.i .u32)) (.one (codI .i64)),fun a=>Dig a.1∧0≤a.2∧a.2≤1000000000000,fun a=> .si .u64 (bitQ (valN a.1) a.2.toNat)⟩
theorem h162:Holds Tryz.prog r162:=by
 refine con0 (L:=[r139]) r162 lk (by grind[h139]) ?_
 rintro⟨a,i⟩ ⟨g,e,d⟩
 simp only at g e d
 refine vcOf (let b:=i.tdiv (32:Int);let c:=i.tmod (32:Int);let k:=(1:Int)*(2:Int)^c.toNat % (18446744073709551616:Int);let j:=(nthD a b.toNat (0:Int)).tdiv k;(32:Int)≠(0:Int)∧inR .i64 b∧(Dig a∧(0:Int)≤b)∧(32:Int)≠(0:Int)∧(0:Int)≤c∧c≤(64:Int)∧k≠(0:Int)∧inR .u64 j∧(2:Int)≠(0:Int)∧(SV.si .u64 (j.tmod (2:Int))).same (SV.si .u64 (bitQ (valN a) i.toNat))) (by kernel_rfl) ?_
 simp only[vcs]
 rw[Int.tdiv_eq_ediv_of_nonneg e,Int.tmod_eq_emod_of_nonneg e]
 have n:(i / 32).toNat=i.toNat / 32:=by omega
 have o:(i % 32).toNat=i.toNat % 32:=by omega
 have l:(0:Int)<2^(i.toNat % 32):=Int.pow_pos (by decide)
 have f:=two_mono (show i.toNat % 32≤32 by omega)
 rw[show(2:Int)^32=4294967296 from rfl] at f
 have q:1*2^(i.toNat % 32) % 18446744073709551616=(2:Int)^(i.toNat % 32):=by omega
 have h:=dig_nth g (i.toNat / 32)
 have p:0≤nthD a (i.toNat / 32) 0 / 2^(i.toNat % 32):=Int.ediv_nonneg h.1 (Int.le_of_lt l)
 have m:nthD a (i.toNat / 32) 0 / 2^(i.toNat % 32)≤nthD a (i.toNat / 32) 0:=Int.ediv_le_self _ h.1
 grind[bit_eq,u64_in]
def r160:SCtr:=⟨104,List Int,.one (codR (.i .u32)),fun a=>Dig a∧a.length≤10000000000,fun a=> .si .i64 (bitsN (valN a))⟩
def Λ160 (a:List Int):Nat→LoopAnn
 |2=> .inv Int (fun n=>⟨[(0,.row (.i .u32) a),(3,.si .i64 n)],[]⟩) (fun s=>iS s 3) (fun n=>0≤n∧n≤32*(a.length:Int)∧valN a<2^n.toNat) (fun n=>n.toNat) fun _ _=> .look
 |_=> .look
theorem h160:Holds Tryz.prog r160:=by
 refine con0 (L:=[r162]) r160 Λ160 (by grind[h162]) ?_
 intro(a:List Int) h
 obtain⟨f,w⟩:Dig a∧a.length≤10000000000:=h
 refine vcOf (let c:=(32:Int)*(↑a.length:Int);let d:=SV.row (SId.i .u32) a;let o:=SV.si .i64 c;let j:=(32:Int)*(↑a.length:Int);let t:=SV.si .i64 (bitsN (valN a));inR .i64 c∧(((d.same d∧o.same o∧True)∧True)∧(0:Int)≤c∧c≤j∧valN a<(2:Int)^c.toNat)∧∀(x:Int),let q:=decide ((0:Int)<x);let b:=x - (1:Int);let p:=decide (bitQ (valN a) b.toNat=(0:Int));let r:=SV.si .i64 b;(0:Int)≤x∧x≤j∧valN a<(2:Int)^x.toNat→(q=true→inR .i64 b∧(Dig a∧(0:Int)≤b∧b≤(1000000000000:Int))∧(p=true→inR .i64 b∧((d.same d∧r.same r∧True)∧True)∧((0:Int)≤b∧b≤j∧valN a<(2:Int)^b.toNat)∧b.toNat<x.toNat)∧(p=false→(SV.si .i64 x).same t))∧(q=false→(SV.si .i64 x).same t)) (by kernel_rfl) ?_
 simp only[vcs]
 have l:=val_nonneg f
 refine⟨by omega,⟨by omega,by omega,?_⟩,?_⟩
 ·have:=val_bdN f
  have e:(32*(a.length:Int)).toNat=32*a.length+0:=by omega
  rw[e,two_split]
  omega
 rintro n ⟨z,C,s⟩
 refine⟨fun u=>⟨by omega,⟨f,by omega,by omega⟩,fun k=>⟨by omega,⟨by omega,by omega,?_⟩,by omega⟩,fun k=>?_⟩,fun u=>?_⟩
 ·have e:n.toNat=(n - 1).toNat+1:=by omega
  rw[e,Int.pow_succ] at s
  unfold bitQ at k
  generalize (n - 1).toNat=m at*
  have g:(0:Int)<2^m:=Int.pow_pos (by decide)
  have v:valN a / 2^m<2:=Int.ediv_lt_of_lt_mul g (by omega)
  have A:0≤valN a / 2^m:=Int.ediv_nonneg l (Int.le_of_lt g)
  have D:valN a / 2^m=0:=by omega
  have B:=Int.mul_ediv_add_emod (valN a) (2^m)
  have y:=Int.emod_lt_of_pos (valN a) g
  simp_all
 ·have:=bits_eq l s (.inr ?_)
  ·omega
  ·by_cases h:2^(n.toNat - 1)≤valN a
   ·exact h
   ·exfalso
    apply k
    unfold bitQ
    rw[show(n - 1).toNat=n.toNat - 1 by omega,Int.ediv_eq_zero_of_lt l (by omega)]
    rfl
 grind[bits_eq]
def r161:SCtr:=⟨105,List Int×Int,.cons (codR (.i .u32)) (.one (codI .i64)),fun a=>(Dig a.1∧a.1.length≤10000000000)∧0≤a.2∧a.2≤1000000000000,fun a=> .row (.i .u32) (natL (valN a.1 / 2^a.2.toNat))⟩
def Λ161 (a:List Int×Int):Nat→LoopAnn
 |3=> .inv (Int×List Int) (fun x=>⟨[(0,.row (.i .u32) a.1),(1,.si .i64 a.2),(5,.ow 0 x.2.length 1),(6,.si .i64 x.1)],[.row (.i .u32) x.2 90 true]⟩) (fun s=>(iS s 6,oS (.i .u32) s 0))
  (fun x=>(a.2 / 32≤x.1∧x.1≤max (a.2 / 32) a.1.length)∧Dig x.2∧(x.2.length:Int)=x.1 - a.2 / 32∧valN x.2=valN a.1 / 2^a.2.toNat % 4294967296^x.2.length) (fun x=>(max (a.2 / 32) a.1.length - x.1).toNat) fun _ _=> .look
 |_=> .look
theorem h161:Holds Tryz.prog r161:=by
 refine con0 (L:=[r139,r140]) r161 Λ161 (by simpa using⟨h139,h140⟩) ?_
 rintro⟨a,k⟩ ⟨⟨ha,hla⟩,k0,k1⟩
 simp only at ha hla k0 k1
 refine vcOf (let z0:=k.tdiv (32:Int);let z1:=SId.i .u32;let z2:=SV.ow 0 0 1;let z3:=SV.si .i64 z0;let z4:=SObj.row z1 [] 90 true;let z5:=k / (32:Int);let z6:=max z5 (↑a.length:Int);let z7:=valN a / (2:Int)^k.toNat;let z8:=k.tmod (32:Int);let z9:=(1:Int)*(2:Int)^z8.toNat % (18446744073709551616:Int);(32:Int)≠(0:Int)∧inR .i64 z0∧((((SV.row z1 a).same (SV.row z1 a)∧(SV.si .i64 k).same (SV.si .i64 k)∧z2.same z2∧z3.same z3∧True)∧z4.same z4∧True)∧(z5≤z0∧z0≤z6)∧Dig []∧(0:Int)=z0 - z5∧valN []=z7 % (1:Int))∧∀(x:Int×List Int),let z10:=x.snd.length;let z11:=decide (x.fst<(↑a.length:Int));let z12:=x.fst+(1:Int);let z13:=((nthD a x.fst.toNat (0:Int)+nthD a z12.toNat (0:Int)*(4294967296:Int) % (18446744073709551616:Int)) % (18446744073709551616:Int)).tdiv z9;let z14:=x.snd.length+1;let z15:=x.snd++[z13.tmod (4294967296:Int) % (4294967296:Int)];let z16:=SV.si .i64 z12;let z17:=SObj.row z1 z15 90 true;(z5≤x.fst∧x.fst≤z6)∧Dig x.snd∧(↑z10:Int)=x.fst - z5∧valN x.snd=z7 % (4294967296:Int)^z10→(z11=true→(Dig a∧(0:Int)≤x.fst)∧inR .i64 z12∧(Dig a∧(0:Int)≤z12)∧(32:Int)≠(0:Int)∧(0:Int)≤z8∧z8≤(64:Int)∧z9≠(0:Int)∧inR .u64 z13∧(4294967296:Int)≠(0:Int)∧z10=x.snd.length∧z14*4≤140737488355328∧z14≤1000000000000∧inR .i64 z12∧(((SV.row z1 a).same (SV.row z1 a)∧(SV.si .i64 k).same (SV.si .i64 k)∧(SV.ow 0 z15.length 1).same (SV.ow 0 z15.length 1)∧z16.same z16∧True)∧z17.same z17∧True)∧((z5≤z12∧z12≤z6)∧Dig z15∧(↑z15.length:Int)=z12 - z5∧valN z15=z7 % (4294967296:Int)^z15.length)∧(z6 - z12).toNat<(z6 - x.fst).toNat)∧(z11=false→z10=x.snd.length∧(Dig x.snd∧z10≤100000000000)∧(SV.row z1 (natL (valN x.snd))).same (SV.row z1 (natL z7)))) (by kernel_rfl) ?_
 simp only[vcs]
 rw[Int.tdiv_eq_ediv_of_nonneg k0,Int.tmod_eq_emod_of_nonneg k0]
 have pa:=val_nonneg ha
 have t2:(k % 32).toNat=k.toNat % 32:=by omega
 have hp:(0:Int)<2^(k.toNat % 32):=Int.pow_pos (by decide)
 have hp2:=two_mono (show k.toNat % 32≤32 by omega)
 rw[show(2:Int)^32=4294967296 from rfl] at hp2
 have t3:1*2^(k.toNat % 32) % 18446744073709551616=(2:Int)^(k.toNat % 32):=by omega
 have hpk:(0:Int)<2^k.toNat:=Int.pow_pos (by decide)
 have pX:0≤valN a / 2^k.toNat:=Int.ediv_nonneg pa (Int.le_of_lt hpk)
 refine⟨by omega,by omega,⟨⟨by omega,by omega⟩,by simp[Dig],by omega,by rw[Int.emod_one];rfl⟩,?_⟩
 rintro⟨i,out⟩ ⟨⟨i0,i1⟩,ho,hlo,hv⟩
 simp only at i0 i1 ho hlo hv ⊢
 rw[t2,t3]
 refine⟨fun hi=>?_,fun hi=>?_⟩
 ·have x:=dig_nth ha i.toNat
  have y:=dig_nth ha (i.toNat+1)
  have e1:(i+1).toNat=i.toNat+1:=by omega
  have e2:(nthD a i.toNat 0+nthD a (i.toNat+1) 0*4294967296 % 18446744073709551616) % 18446744073709551616=nthD a i.toNat 0+nthD a (i.toNat+1) 0*4294967296:=by omega
  have hs0:0≤nthD a i.toNat 0+nthD a (i.toNat+1) 0*4294967296:=by omega
  have hq:0≤(nthD a i.toNat 0+nthD a (i.toNat+1) 0*4294967296) / 2^(k.toNat % 32):=Int.ediv_nonneg hs0 (Int.le_of_lt hp)
  have hq2:(nthD a i.toNat 0+nthD a (i.toNat+1) 0*4294967296) / 2^(k.toNat % 32)≤nthD a i.toNat 0+nthD a (i.toNat+1) 0*4294967296:=Int.ediv_le_self _ hs0
  have hd2:=dig2 (i:=i.toNat) (r:=k.toNat % 32) ha (by omega)
  have hin:inR .u64 ((nthD a i.toNat 0+nthD a (i.toNat+1) 0*4294967296) / 2^(k.toNat % 32)):=u64_in hq (by omega)
  rw[e1,e2,Int.tdiv_eq_ediv_of_nonneg hs0,Int.tmod_eq_emod_of_nonneg hq,hd2]
  have hm:valN a / 2^(32*i.toNat+k.toNat % 32) % 4294967296 % 4294967296=valN a / 2^k.toNat / 4294967296^out.length % 4294967296:=by
   rw[Int.emod_emod_of_dvd _ (Int.dvd_refl _)]
   have e3:(2:Int)^(32*i.toNat+k.toNat % 32)=2^k.toNat*4294967296^out.length:=by
    rw[two_split]
    have:(2:Int)^k.toNat=4294967296^(k.toNat / 32)*2^(k.toNat % 32):=by rw[←two_split];congr 1;omega
    rw[this,show i.toNat=k.toNat / 32+out.length by omega,Int.pow_add,Int.mul_assoc,Int.mul_comm (4294967296^out.length),←Int.mul_assoc]
   rw[e3,←Int.ediv_ediv_of_nonneg (Int.le_of_lt hpk)]
  rw[hm]
  have hd0:=Int.emod_nonneg (valN a / 2^k.toNat / 4294967296^out.length) (show(4294967296:Int)≠0 by decide)
  have hd1:=Int.emod_lt_of_pos (valN a / 2^k.toNat / 4294967296^out.length) (show(0:Int)<4294967296 by decide)
  have hval:valN (out++[valN a / 2^k.toNat / 4294967296^out.length % 4294967296])=valN a / 2^k.toNat % 4294967296^(out.length+1):=by
   rw[val_snoc,hv]
   have:=cut_div (x:=valN a / 2^k.toNat) (r:=32*out.length+0) (m:=32*(out.length+1)+0) (by omega)
   rw[two_split,two_split,Int.pow_zero,Int.mul_one,Int.mul_one,show 32*(out.length+1)+0 - (32*out.length+0)=32 by omega,show(2:Int)^32=4294967296 from rfl] at this
   rw[←this]
   have h1:=Int.mul_ediv_add_emod (valN a / 2^k.toNat % 4294967296^(out.length+1)) (4294967296^out.length)
   have h2:valN a / 2^k.toNat % 4294967296^(out.length+1) % 4294967296^out.length=valN a / 2^k.toNat % 4294967296^out.length:=by
    rw[Int.pow_succ]
    exact Int.emod_emod_of_dvd _ (Int.dvd_mul_right _ _)
   omega
  have hlen:(out++[valN a / 2^k.toNat / 4294967296^out.length % 4294967296]).length=out.length+1:=by simp
  have hdg:Dig (out++[valN a / 2^k.toNat / 4294967296^out.length % 4294967296]):=dig_app ho (dig_one (by omega) (by omega))
  rw[hlen]
  repeat' refine And.intro ?_ ?_
  all_goals first|omega|exact ha|exact hin|exact hdg|exact hval|rfl
 ·have hX:valN a / 2^k.toNat<4294967296^out.length:=by
   refine Int.ediv_lt_of_lt_mul hpk ?_
   have h1:=val_bdN ha
   have h2:=pow_mono (show a.length≤k.toNat / 32+out.length by omega)
   rw[Int.pow_add] at h2
   have h3:(4294967296:Int)^(k.toNat / 32)≤2^k.toNat:=by
    have:=two_mono (show 32*(k.toNat / 32)+0≤k.toNat by omega)
    rwa [two_split,Int.pow_zero,Int.mul_one] at this
   have h4:=Int.mul_le_mul_of_nonneg_right h3 (Int.le_of_lt (pow_pos out.length))
   rw[Int.mul_comm (2^k.toNat)] at h4
   first|omega|(rw[Int.mul_comm];omega)
  rw[Int.emod_eq_of_lt pX hX] at hv
  rw[hv]
  repeat' refine And.intro ?_ ?_
  all_goals first|omega|exact ho|rfl
theorem bits_le {a:List Int} (h:Dig a):bitsN (valN a)≤32*(a.length:Int):=by
 obtain⟨g,f,b⟩:=bits_ok (val_nonneg h)
 by_cases d:bitsN (valN a)≤32*(a.length:Int)
 ·exact d
 ·rcases b with b|b
  ·omega
  ·have e:=val_bdN h
   have c:=two_mono (show 32*a.length+0≤(bitsN (valN a)).toNat - 1 by omega)
   rw[two_split,Int.pow_zero,Int.mul_one] at c
   omega
def LR:List SCtr:=[r160,r161,r162,r106,r107,r141,r159]
theorem hLR:∀c∈LR,Holds Tryz.prog c:=by
 simp only[LR,List.forall_mem_cons,List.not_mem_nil,false_implies,implies_true,and_true]
 grind[h160,h161,h162,h106,h107,h141,h159]
def r138:SCtr:=⟨81,List Int×List Int,.cons (codR (.i .u32)) (.one (codR (.i .u32))),fun a=>(Dig a.1∧Dig a.2)∧(a.1.length≤1000000000∧a.2.length≤1000000000)∧0<valN a.2,
 fun a=> .tup [.row (.i .u32) (natL (valN a.1 / valN a.2)),.row (.i .u32) (natL (valN a.1 % valN a.2)),.si .i64 0]⟩
def Λ138 (a:List Int×List Int):Nat→LoopAnn
 |7=> .inv (Int×List Int×List Int) (fun x=>⟨[(0,.row (.i .u32) a.1),(1,.row (.i .u32) a.2),(8,.row (.i .u32) x.2.1),(9,.row (.i .u32) x.2.2),(10,.si .i64 x.1)],[.dead]⟩) (fun s=>(iS s 10,rS (.i .u32) s 8,rS (.i .u32) s 9))
  (fun x=>(-1≤x.1∧x.1≤100000000000)∧(Dig x.2.1∧Nrm x.2.1)∧(Dig x.2.2∧Nrm x.2.2)∧valN x.2.1*valN a.2+valN x.2.2=valN a.1 / 2^(x.1+1).toNat∧valN x.2.2<valN a.2) (fun x=>(x.1+1).toNat) fun _ _=> .look
 |_=> .look
theorem h138:Holds Tryz.prog r138:=by
 refine con0 (L:=LR) r138 Λ138 hLR ?_
 rintro⟨a,b⟩ ⟨⟨ha,hb⟩,⟨hla,hlb⟩,b0⟩
 simp only at ha hb hla hlb b0
 refine vcOf (let z0:=decide ((↑b.length:Int)=(0:Int));let z1:=SV.row (SId.i .i64) [];let z2:=SId.i .u32;let z3:=SV.tup [SV.row z2 (natL (valN a / valN b)),SV.row z2 (natL (valN a % valN b)),SV.si .i64 0];let z4:=bitsN (valN a) - max (1:Int) (bitsN (valN b));let z5:=max (0:Int) (z4+(1:Int));let z6:=z5 - (1:Int);let z7:=natL (valN a / (2:Int)^z5.toNat);let z8:=SV.si .i64 z6;let z9:=natL (1:Int);(z0=true→(SV.tup [z1,z1,SV.il .i64 8]).same z3)∧(z0=false→(Dig a∧a.length≤10000000000)∧(Dig b∧b.length≤10000000000)∧inR .i64 z4∧inR .i64 (z4+(1:Int))∧0=0∧((Dig a∧a.length≤10000000000)∧(0:Int)≤z5∧z5≤(1000000000000:Int))∧inR .i64 z6∧((((SV.row z2 a).same (SV.row z2 a)∧(SV.row z2 b).same (SV.row z2 b)∧(SV.row z2 []).same (SV.row z2 [])∧(SV.row z2 z7).same (SV.row z2 z7)∧z8.same z8∧True)∧SObj.dead.same SObj.dead∧True)∧((-1:Int)≤z6∧z6≤(100000000000:Int))∧(Dig []∧Nrm [])∧(Dig z7∧Nrm z7)∧valN []*valN b+valN z7=valN a / (2:Int)^(z6+(1:Int)).toNat∧valN z7<valN b)∧∀(x:Int×List Int×List Int),let z10:=valN x.snd.fst;let z11:=valN x.snd.snd;let z12:=(x.fst+(1:Int)).toNat;let z13:=decide ((0:Int)≤x.fst);let z14:=bitQ (valN a) x.fst.toNat;let z15:=natL (z11+z11);let z16:=natL (valN z15+valN (natL z14));let z17:=decide ((0:Int)≤cmpN (valN z16) (valN b));let z18:=natL (z10+z10);let z19:=x.fst - (1:Int);let z20:=natL (valN z18+valN z9);let z21:=natL (valN z16 - valN b);let z22:=SV.si .i64 z19;let z23:=(z19+(1:Int)).toNat;let z24:=valN a / (2:Int)^z23;((-1:Int)≤x.fst∧x.fst≤(100000000000:Int))∧(Dig x.snd.fst∧Nrm x.snd.fst)∧(Dig x.snd.snd∧Nrm x.snd.snd)∧z10*valN b+z11=valN a / (2:Int)^z12∧z11<valN b→(z13=true→((Dig x.snd.fst∧Dig x.snd.fst)∧x.snd.fst.length≤10000000000∧x.snd.fst.length≤10000000000)∧((Dig x.snd.snd∧Dig x.snd.snd)∧x.snd.snd.length≤10000000000∧x.snd.snd.length≤10000000000)∧(Dig a∧(0:Int)≤x.fst∧x.fst≤(1000000000000:Int))∧((0:Int)≤z14∧z14<(18446744073709551616:Int))∧((Dig z15∧Dig (natL z14))∧z15.length≤10000000000∧(natL z14).length≤10000000000)∧((Dig z16∧Dig b)∧z16.length≤1000000000000∧b.length≤1000000000000)∧(z17=true→((Dig z16∧Dig b)∧z16.length≤10000000000∧b.length≤10000000000)∧((0:Int)≤(1:Int)∧(1:Int)<(18446744073709551616:Int))∧((Dig z18∧Dig z9)∧z18.length≤10000000000∧z9.length≤10000000000)∧inR .i64 z19∧(((SV.row z2 a).same (SV.row z2 a)∧(SV.row z2 b).same (SV.row z2 b)∧(SV.row z2 z20).same (SV.row z2 z20)∧(SV.row z2 z21).same (SV.row z2 z21)∧z22.same z22∧True)∧SObj.dead.same SObj.dead∧True)∧(((-1:Int)≤z19∧z19≤(100000000000:Int))∧(Dig z20∧Nrm z20)∧(Dig z21∧Nrm z21)∧valN z20*valN b+valN z21=z24∧valN z21<valN b)∧z23<z12)∧(z17=false→inR .i64 z19∧(((SV.row z2 a).same (SV.row z2 a)∧(SV.row z2 b).same (SV.row z2 b)∧(SV.row z2 z18).same (SV.row z2 z18)∧(SV.row z2 z16).same (SV.row z2 z16)∧z22.same z22∧True)∧SObj.dead.same SObj.dead∧True)∧(((-1:Int)≤z19∧z19≤(100000000000:Int))∧(Dig z18∧Nrm z18)∧(Dig z16∧Nrm z16)∧valN z18*valN b+valN z16=z24∧valN z16<valN b)∧z23<z12))∧(z13=false→(SV.tup [SV.row z2 x.snd.fst,SV.row z2 x.snd.snd,SV.il .i64 0]).same z3))) (by kernel_rfl) ?_
 simp only[vcs]
 have pa:=val_nonneg ha
 have hb0:b.length≠0:=by
  intro h
  rw[List.eq_nil_of_length_eq_zero h] at b0
  exact absurd b0 (by decide)
 obtain⟨A0,A1,A2⟩:=bits_ok pa
 obtain⟨B0,B1,B2⟩:=bits_ok (Int.le_of_lt b0)
 have Ab:=bits_le ha
 have Bb:=bits_le hb
 have hB1:1≤bitsN (valN b):=by
  by_cases h:1≤bitsN (valN b)
  ·exact h
  ·rw[show bitsN (valN b)=0 by omega] at B1
   simp at B1
   omega
 have hm:max 1 (bitsN (valN b))=bitsN (valN b):=by omega
 rw[hm]
 obtain⟨K,hK⟩:∃K,K=max 0 (bitsN (valN a) - bitsN (valN b)+1):=⟨_,rfl⟩
 rw[←hK]
 have hK0:0≤K:=by omega
 have hp:(0:Int)<2^K.toNat:=Int.pow_pos (by decide)
 have hlt:valN a / 2^K.toNat<valN b:=by
  refine Int.ediv_lt_of_lt_mul hp ?_
  have h1:=two_mono (show(bitsN (valN a)).toNat≤K.toNat+((bitsN (valN b)).toNat - 1) by omega)
  rw[Int.pow_add] at h1
  have h2:(2:Int)^((bitsN (valN b)).toNat - 1)≤valN b:=by rcases B2 with h|h<;>omega
  have h3:=Int.mul_le_mul_of_nonneg_left h2 (Int.le_of_lt hp)
  rw[Int.mul_comm (valN b)]
  omega
 have pq:0≤valN a / 2^K.toNat:=Int.ediv_nonneg pa (Int.le_of_lt hp)
 obtain⟨q1,q2,q3⟩:=natL_ok pq
 have eK:(K - 1+1).toNat=K.toNat:=by omega
 rw[eK,q1]
 clear A1 A2 B1 B2 hm
 refine⟨fun h=>absurd h (by omega),fun _=>⟨⟨ha,by omega⟩,⟨hb,by omega⟩,by omega,by omega,⟨⟨ha,by omega⟩,by omega,by omega⟩,by omega,⟨⟨by omega,by omega⟩,⟨by simp[Dig],trivial⟩,⟨q2,q3⟩,by simp[valN],hlt⟩,?_⟩⟩
 rintro⟨i,q,r⟩ ⟨⟨i0,i1⟩,⟨hq,nq⟩,⟨hr,nr⟩,hv,hrb⟩
 simp only at i0 i1 hq nq hr nr hv hrb ⊢
 have pqq:=val_nonneg hq
 have prr:=val_nonneg hr
 have hrl:=len_of hr hb nr (Int.le_of_lt hrb)
 have hp2:(0:Int)<2^(i+1).toNat:=Int.pow_pos (by decide)
 have hle:valN a / 2^(i+1).toNat≤valN a:=Int.ediv_le_self _ pa
 have hql:q.length≤a.length:=by
  refine len_of hq ha nq ?_
  have:=Int.mul_le_mul_of_nonneg_left (show(1:Int)≤valN b by omega) pqq
  rw[Int.mul_one] at this
  omega
 refine⟨fun hi=>?_,fun hi=>?_⟩
 ·have e1:(i+1).toNat=i.toNat+1:=by omega
  have e2:(i - 1+1).toNat=i.toNat:=by omega
  have hb2:0≤bitQ (valN a) i.toNat∧bitQ (valN a) i.toNat≤1:=by unfold bitQ;omega
  have hstep:valN a / 2^i.toNat=2*(valN a / 2^(i+1).toNat)+bitQ (valN a) i.toNat:=by
   have hpi:(0:Int)<2^i.toNat:=Int.pow_pos (by decide)
   rw[e1,Int.pow_succ,←Int.ediv_ediv_of_nonneg (Int.le_of_lt hpi)]
   unfold bitQ
   omega
  rw[←hv] at hstep
  obtain⟨u1,u2,u3⟩:=natL_ok (show 0≤valN r+valN r by omega)
  obtain⟨w1,w2,w3⟩:=natL_ok hb2.1
  obtain⟨x1,x2,x3⟩:=natL_ok (show 0≤valN r+valN r+bitQ (valN a) i.toNat by omega)
  obtain⟨y1,y2,y3⟩:=natL_ok (show 0≤valN q+valN q by omega)
  obtain⟨z1,z2,z3⟩:=natL_ok (show(0:Int)≤1 by omega)
  obtain⟨s1,s2,s3⟩:=natL_ok (show 0≤valN q+valN q+1 by omega)
  have ul:=add_len hr hr hrl hrl
  have wl:=natL_len (k:=1) hb2.1 (by rw[Int.pow_succ,Int.pow_zero];omega)
  have xl:=add_len (k:=b.length+2) u2 w2 (by omega) (by omega)
  have yl:=add_len hq hq hql hql
  have zl:=natL_len (k:=1) (show(0:Int)≤1 by omega) (by decide)
  rw[u1,w1] at xl
  rw[u1,w1,x1,y1,z1,e2]
  have hbv:(valN q+valN q)*valN b=2*(valN q*valN b):=by rw[←Int.two_mul,Int.mul_assoc]
  have hbv2:(valN q+valN q+1)*valN b=2*(valN q*valN b)+valN b:=by rw[Int.add_mul,hbv,Int.one_mul]
  have hcm:(0≤cmpN (valN r+valN r+bitQ (valN a) i.toNat) (valN b))↔valN b≤valN r+valN r+bitQ (valN a) i.toNat:=by
   unfold cmpN
   split
   ·omega
   ·split<;>omega
  rw[hcm]
  refine⟨⟨⟨hq,hq⟩,by omega,by omega⟩,⟨⟨hr,hr⟩,by omega,by omega⟩,⟨ha,by omega,by omega⟩,⟨by omega,by omega⟩,⟨⟨u2,w2⟩,by omega,by omega⟩,⟨⟨x2,hb⟩,by omega,by omega⟩,fun hc=>?_,fun hc=>?_⟩
  ·obtain⟨t1,t2,t3⟩:=natL_ok (show 0≤valN r+valN r+bitQ (valN a) i.toNat - valN b by omega)
   rw[s1,t1]
   repeat' refine And.intro ?_ ?_
   all_goals first|omega|exact x2|exact hb|exact y2|exact z2|exact s2|exact s3|exact t2|exact t3|rfl|(rw[hbv2];omega)
  ·repeat' refine And.intro ?_ ?_
   all_goals first|omega|exact x2|exact x3|exact y2|exact y3|rfl|(rw[hbv];omega)
 ·have e0:(i+1).toNat=0:=by omega
  rw[e0,Int.pow_zero,Int.ediv_one] at hv
  obtain⟨w1,w2⟩:=qr_of (X:=valN a) (V:=valN b) (q:=valN q) (by omega) (by rw[Int.add_mul,Int.one_mul];omega)
  rw[w1,w2,natL_val hq nq,show valN a - valN q*valN b=valN r by omega,natL_val hr nr]
  repeat' refine And.intro ?_ ?_
  all_goals first|omega|rfl
def r125:SCtr:=⟨58,List Int×List Int,.cons (codR (.i .u32)) (.one (codR (.i .u32))),fun a=>(Dig a.1∧Dig a.2)∧(a.1.length≤100000000∧a.2.length≤100000000)∧Nrm a.2,
 fun a=> .row (.i .u32) (natL (gcdN (valN a.1) (valN a.2)))⟩
def Λ125 (a:List Int×List Int):Nat→LoopAnn
 |1=> .inv (List Int×List Int) (fun x=>⟨[(0,.row (.i .u32) x.1),(1,.row (.i .u32) x.2)],[]⟩) (fun s=>(rS (.i .u32) s 0,rS (.i .u32) s 1))
  (fun x=>(Dig x.1∧Dig x.2)∧Nrm x.2∧(x.1.length≤100000000∧x.2.length≤100000000)∧gcdN (valN x.1) (valN x.2)=gcdN (valN a.1) (valN a.2)) (fun x=>(valN x.2).toNat) fun _ _=> .look
 |_=> .look
theorem h125:Holds Tryz.prog r125:=by
 refine con0 (L:=[r138,r140]) r125 Λ125 (by grind[h138,h140]) ?_
 rintro⟨a,b⟩ ⟨⟨p,l⟩,⟨g,h⟩,m⟩
 simp only at p l g h m
 refine vcOf (let c:=SId.i .u32;let f:=gcdN (valN a) (valN b);((((SV.row c a).same (SV.row c a)∧(SV.row c b).same (SV.row c b)∧True)∧True)∧(Dig a∧Dig b)∧Nrm b∧(a.length≤100000000∧b.length≤100000000)∧f=f)∧∀(x:List Int×List Int),let j:=x.fst.length;let n:=decide ((0:Int)<(↑x.snd.length:Int));let d:=natL (valN x.fst % valN x.snd);(Dig x.fst∧Dig x.snd)∧Nrm x.snd∧(j≤100000000∧x.snd.length≤100000000)∧gcdN (valN x.fst) (valN x.snd)=f→(n=true→((Dig x.fst∧Dig x.snd)∧(j≤1000000000∧x.snd.length≤1000000000)∧(0:Int)<valN x.snd)∧(((SV.row c x.snd).same (SV.row c x.snd)∧(SV.row c d).same (SV.row c d)∧True)∧True)∧((Dig x.snd∧Dig d)∧Nrm d∧(x.snd.length≤100000000∧d.length≤100000000)∧gcdN (valN x.snd) (valN d)=f)∧(valN d).toNat<(valN x.snd).toNat)∧(n=false→(Dig x.fst∧j≤100000000000)∧(SV.row c (natL (valN x.fst))).same (SV.row c (natL f)))) (by kernel_rfl) ?_
 simp only[vcs]
 refine⟨⟨⟨p,l⟩,m,⟨g,h⟩⟩,?_⟩
 rintro⟨s,t⟩ ⟨⟨o,k⟩,B,⟨q,C⟩,u⟩
 simp only at o k B C q u ⊢
 have G:=val_nonneg o
 have F:=val_nonneg k
 refine⟨fun y=>?_,fun y=>?_⟩
 ·have e:0<valN t:=by
   grind[val_zero]
  have r:=Int.emod_nonneg (valN s) (show valN t≠0 by omega)
  have v:=Int.emod_lt_of_pos (valN s) e
  obtain⟨A,z,E⟩:=natL_ok r
  have w:=len_of z k E (by rw[A];omega)
  grind[gcdN_step]
 ·have D:t=[]:=List.eq_nil_of_length_eq_zero (by omega)
  grind[valN,gcdN_zero]
def nrmB (a:List Int):Bool:=decide (a.length=0)||decide (nthD a (a.length - 1) 0≠0)
theorem nrmB_iff {a:List Int}:nrmB a=true↔Nrm a:=by
 unfold nrmB
 rw[Bool.or_eq_true,decide_eq_true_eq,decide_eq_true_eq]
 constructor
 ·exact nrm_of
 ·intro h
  by_cases e:a.length=0
  ·exact .inl e
  ·right
   have b:=take_snoc (a:=a) (n:=a.length - 1) (by omega)
   rw[show a.length - 1+1=a.length by omega,List.take_length] at b
   have:∀{l:List Int} {x:Int},Nrm (l++[x])→x≠0:=by
    intro l x
    induction l with
    |nil=>intro h;exact h.1 rfl
    |cons d l c=>intro h;exact c h.2
   grind
def r124:SCtr:=⟨57,List Int,.one (codR (.i .u32)),fun a=>a.length≤1000000000,fun a=> .sb (nrmB a)⟩
theorem h124:Holds Tryz.prog r124:=by
 refine con0 (L:=[]) r124 lk (by simp) ?_
 intro(a:List Int) h
 have h:a.length≤1000000000:=h
 refine vcOf (let c:=(↑a.length:Int);let d:=decide (c=(0:Int));let b:=c - (1:Int);(d=true→(SV.bl true).same (SV.sb (nrmB a)))∧(d=false→inR .i64 b∧(0:Int)≤b∧b<c∧b.toNat<a.length∧(SV.sb (decide (nthD a b.toNat (0:Int)≠(0:Int)))).same (SV.sb (nrmB a)))) (by kernel_rfl) ?_
 simp only[vcs]
 grind[nrmB]
def r135:SCtr:=⟨96,Int,.one (codI .i64),fun n=> -9223372036854775808≤(show Int from n)∧(show Int from n)≤9223372036854775807,fun n=> .row (.i .u32) (natL ((show Int from n).natAbs:Int))⟩
theorem h135:Holds Tryz.prog r135:=by
 refine con0 (L:=[r159]) r135 lk (by grind[h159]) ?_
 intro(n:Int) h
 obtain⟨e,f⟩: -9223372036854775808≤n∧n≤9223372036854775807:=h
 refine vcOf (let d:=decide (n<(0:Int));let a:=(-(n+(1:Int))+(1:Int)) % (18446744073709551616:Int);let b:=SId.i .u32;let c:=SV.row b (natL (↑n.natAbs:Int));(d=true→inR .i64 (n+(1:Int))∧inR .i64 (-(n+(1:Int)))∧inR .u64 (-(n+(1:Int)))∧((0:Int)≤a∧a<(18446744073709551616:Int))∧(SV.row b (natL a)).same c)∧(d=false→inR .u64 n∧((0:Int)≤n∧n<(18446744073709551616:Int))∧(SV.row b (natL n)).same c)) (by kernel_rfl) ?_
 simp only[vcs]
 grind[u64_in]
def r105:SCtr:=⟨95,Bool×(List Int×List Int),.cons codB (.cons (codR (.i .u32)) (.one (codR (.i .u32)))),fun a=>(Dig a.2.1∧Dig a.2.2)∧(a.2.1.length≤100000000∧a.2.2.length≤100000000)∧(Nrm a.2.1∧Nrm a.2.2)∧0<valN a.2.2,
 fun a=> .tup [frS (mkF a.1 (valN a.2.1) (valN a.2.2)),.si .i64 0]⟩
theorem h105:Holds Tryz.prog r105:=by
 refine con0 (L:=[r125,r138]) r105 lk (by simpa using⟨h125,h138⟩) ?_
 rintro⟨s,n,d⟩ ⟨⟨hn,hd⟩,⟨hln,hld⟩,⟨nn,nd⟩,d0⟩
 simp only at hn hd hln hld d0 nn nd
 refine vcOf (let z0:=decide ((↑d.length:Int)=(0:Int));let z1:=SV.row (SId.i .i64) [];let z2:=frE (mkF s (valN n) (valN d));let z3:=SId.i .u32;let z4:=SV.tup [SV.agg [SV.sb z2.fst,SV.row z3 z2.snd.fst,SV.row z3 z2.snd.snd],SV.si .i64 0];let z5:=natL (gcdN (valN n) (valN d));let z6:=[SV.row z3 (natL (valN n / valN z5)),SV.row z3 (natL (valN d / valN z5))];let z7:=[SV.il .i64 0];(z0=true→(SV.tup [SV.agg [SV.bl false,z1,z1],SV.il .i64 8]).same z4)∧(z0=false→((Dig n∧Dig d)∧(n.length≤100000000∧d.length≤100000000)∧Nrm d)∧((Dig n∧Dig z5)∧(n.length≤1000000000∧z5.length≤1000000000)∧(0:Int)<valN z5)∧((Dig d∧Dig z5)∧(d.length≤1000000000∧z5.length≤1000000000)∧(0:Int)<valN z5)∧(s=true→(SV.tup (SV.agg (SV.sb (decide ((0:Int)<(↑n.length:Int)))::z6)::z7)).same z4)∧(s=false→(SV.tup (SV.agg (SV.bl false::z6)::z7)).same z4))) (by kernel_rfl) ?_
 simp only[vcs]
 have n0:=val_nonneg hn
 have g0:0<gcdN (valN n) (valN d):=by
  unfold gcdN
  have:=Nat.gcd_pos_of_pos_right (valN n).toNat (show 0<(valN d).toNat by omega)
  omega
 have gle:gcdN (valN n) (valN d)≤valN d:=by
  unfold gcdN
  have:=Nat.gcd_le_right (valN n).toNat (show 0<(valN d).toNat by omega)
  omega
 obtain⟨a1,a2,a3⟩:=natL_ok (Int.le_of_lt g0)
 have hgl:=len_of a2 hd a3 (by rw[a1];exact gle)
 have hpos:(0<(n.length:Int))↔0<valN n:=by
  constructor
  ·intro h
   by_cases hz:valN n=0
   ·rw[val_zero hn nn hz] at h;exact absurd h (by decide)
   ·omega
  ·intro h
   by_cases hl:n.length=0
   ·rw[List.eq_nil_of_length_eq_zero hl] at h
    exact absurd h (by decide)
   ·omega
 have hb:decide (0<(n.length:Int))=decide (0<valN n):=by rw[decide_eq_decide];exact hpos
 have hd0:d.length≠0:=by
  intro h
  rw[List.eq_nil_of_length_eq_zero h] at d0
  exact absurd d0 (by decide)
 unfold mkF
 rw[frE_mk n0 d0,a1]
 simp only
 refine⟨fun h=>absurd h (by omega),fun _=>⟨⟨⟨hn,hd⟩,⟨by omega,by omega⟩,nd⟩,⟨⟨hn,a2⟩,⟨by omega,by omega⟩,g0⟩,⟨⟨hd,a2⟩,⟨by omega,by omega⟩,g0⟩,fun hs=>?_,fun hs=>?_⟩⟩
 ·rw[hs,hb]
  rfl
 ·rw[hs]
  rfl
def r103:SCtr:=⟨62,Int×Int,.cons (codI .i64) (.one (codI .i64)),fun a=>(-9223372036854775808≤a.1∧a.1≤9223372036854775807)∧0<a.2∧a.2≤9223372036854775807,fun a=> .tup [frS (mkF (decide (a.1<0)) (a.1.natAbs:Int) a.2),.si .i64 0]⟩
theorem h103:Holds Tryz.prog r103:=by
 refine con0 (L:=[r135,r105]) r103 lk (by grind[h135,h105]) ?_
 rintro⟨n,d⟩ ⟨⟨u,w⟩,q,t⟩
 simp only at u w q t
 refine vcOf (let c:=natL (↑n.natAbs:Int);let a:=natL (↑d.natAbs:Int);let g:=frE (mkF (!decide (n<(0:Int))==decide (d<(0:Int))) (valN c) (valN a));let b:=SId.i .u32;let l:=[SV.si .i64 0];let f:=frE (mkF (decide (n<(0:Int))) (↑n.natAbs:Int) d);((-9223372036854775808:Int)≤n∧n≤(9223372036854775807:Int))∧((-9223372036854775808:Int)≤d∧d≤(9223372036854775807:Int))∧((Dig c∧Dig a)∧(c.length≤100000000∧a.length≤100000000)∧(Nrm c∧Nrm a)∧(0:Int)<valN a)∧(SV.tup (SV.agg [SV.sb g.fst,SV.row b g.snd.fst,SV.row b g.snd.snd]::l)).same (SV.tup (SV.agg [SV.sb f.fst,SV.row b f.snd.fst,SV.row b f.snd.snd]::l))) (by kernel_rfl) ?_
 simp only[vcs]
 obtain⟨v,s,m⟩:=natL_ok (show(0:Int)≤(n.natAbs:Int) by omega)
 obtain⟨o,j,h⟩:=natL_ok (show(0:Int)≤(d.natAbs:Int) by omega)
 have x:=natL_len (k:=2) (show(0:Int)≤(n.natAbs:Int) by omega) (by omega)
 have p:=natL_len (k:=2) (show(0:Int)≤(d.natAbs:Int) by omega) (by omega)
 have e:(d.natAbs:Int)=d:=by omega
 have r:(!(decide (n<0)==decide (d<0)))=decide (n<0):=by
  grind
 rw[r,v,o,e]
 rw[e] at j h p
 repeat' refine And.intro ?_ ?_
 all_goals first|omega|exact s|exact j|exact m|exact h|rfl
def r51:SCtr:=⟨38,Int,.one (codI .i64),fun n=> -9223372036854775808≤(show Int from n)∧(show Int from n)≤9223372036854775807,fun n=>frS ((show Int from n):Rat)⟩
theorem mkF_int (n:Int):mkF (decide (n<0)) (n.natAbs:Int) 1=(n:Rat):=by
 unfold mkF
 have a:(if decide (n<0)=true then -(n.natAbs:Int) else(n.natAbs:Int))=n:=by
  grind
 grind[Rat.mkRat_one]
theorem h51:Holds Tryz.prog r51:=by
 refine con0 (L:=[r103]) r51 lk (by grind[h103]) ?_
 intro(n:Int) h
 obtain⟨e,d⟩: -9223372036854775808≤n∧n≤9223372036854775807:=h
 refine vcOf (let c:=frE (mkF (decide (n<(0:Int))) (↑n.natAbs:Int) (1:Int));let a:=SId.i .u32;let b:=frE (IntCast.intCast n);(((-9223372036854775808:Int)≤n∧n≤(9223372036854775807:Int))∧(0:Int)<(1:Int)∧(1:Int)≤(9223372036854775807:Int))∧(SV.agg [SV.sb c.fst,SV.row a c.snd.fst,SV.row a c.snd.snd]).same (SV.agg [SV.sb b.fst,SV.row a b.snd.fst,SV.row a b.snd.snd])) (by kernel_rfl) ?_
 grind[frS_eq,mkF_int]
def isG (x:Fra):Prop:=∃q k,x=frE q∧Sz k q∧k≤10000000
theorem frE_neg (q:Rat):frE (-q)=(!(frE q).1&&decide (0<((frE q).2.1.length:Int)),(frE q).2):=by
 have d:0<((frE q).2.1.length:Int)↔q.num≠0:=by
  obtain⟨_,⟨g,e,f⟩,_⟩:=frE_ok q
  constructor
  ·grind[val_zero]
  ·intro h
   by_cases c:(frE q).2.1.length=0<;>grind[frE,valN]
 unfold frE
 refine Prod.ext ?_ (Prod.ext ?_ ?_)
 ·simp only
  rw[Bool.eq_iff_iff]
  simp only[decide_eq_true_eq,Bool.and_eq_true,Bool.not_eq_true',decide_eq_false_iff_not]
  have c:=@Rat.num_nonneg q
  have a:=@Rat.num_nonneg (-q)
  rw[Rat.neg_num] at a
  have b:(0:Int)<(natL (q.num.natAbs:Int)).length↔q.num≠0:=d
  grind
 all_goals simp_all
def r142:SCtr:=⟨84,Fra,.one (codE sF),isF,fun x=>frS (-(valF x))⟩
theorem h142:Holds Tryz.prog r142:=by
 refine con0 (L:=[]) r142 lk (by simp) ?_
 intro(x:Fra) h
 obtain⟨q,k,rfl,hz,hk⟩:isF x:=h
 refine vcOf (let z0:=SId.i .u32;let z1:=[SV.row z0 (frE q).snd.fst,SV.row z0 (frE q).snd.snd];let z2:=(frE (-valF (frE q))).snd;let z3:=SV.agg [SV.sb (frE (-valF (frE q))).fst,SV.row z0 z2.fst,SV.row z0 z2.snd];((!(frE q).fst)=true→(SV.agg (SV.sb (decide ((0:Int)<(↑(List.length (frE q).snd.fst):Int)))::z1)).same z3)∧((!(frE q).fst)=false→(SV.agg (SV.bl false::z1)).same z3)) (by kernel_rfl) ?_
 conv=>zeta
 have hn:=frE_neg q
 rw[valF_frE]
 refine⟨fun h=>?_,fun h=>?_⟩
 ·rw[hn,h]
  rfl
 ·rw[hn,h]
  rfl
def r52:SCtr:=⟨83,Fra×Fra,.cons (codE sF) (.one (codE sF)),fun a=>isG a.1∧isG a.2,fun a=>frS (valF a.1+valF a.2)⟩
theorem h52:Holds Tryz.prog r52:=by
 refine con0 (L:=[r104,r106,r107,r105]) r52 lk (by simpa using⟨h104,h106,h107,h105⟩) ?_
 rintro⟨x,y⟩ ⟨⟨p,i,hx,hz,hi⟩,⟨q,j,hy,hw,hj⟩⟩
 simp only at hx hy
 subst hx hy
 refine vcOf (let z0:=(frE p).snd.fst;let z1:=(frE q).snd.snd;let z2:=(frE q).snd.fst;let z3:=(frE p).snd.snd;let z4:=(frE p).fst==(frE q).fst;let z5:=natL (valN z0*valN z1);let z6:=natL (valN z2*valN z3);let z7:=natL (valN z5+valN z6);let z8:=natL (valN z3*valN z1);let z9:=frE (mkF (frE p).fst (valN z7) (valN z8));let z10:=SId.i .u32;let z11:=frE (valF (frE p)+valF (frE q));let z12:=SV.agg [SV.sb z11.fst,SV.row z10 z11.snd.fst,SV.row z10 z11.snd.snd];let z13:=decide (valN z6≤valN z5);let z14:=natL (valN z5 - valN z6);let z15:=frE (mkF (frE p).fst (valN z14) (valN z8));let z16:=natL (valN z6 - valN z5);let z17:=frE (mkF (frE q).fst (valN z16) (valN z8));((Dig z0∧Dig z1)∧List.length z0≤1000000000∧List.length z1≤1000000000)∧((Dig z2∧Dig z3)∧List.length z2≤1000000000∧List.length z3≤1000000000)∧((Dig z3∧Dig z1)∧List.length z3≤1000000000∧List.length z1≤1000000000)∧(z4=true→((Dig z5∧Dig z6)∧z5.length≤10000000000∧z6.length≤10000000000)∧((Dig z7∧Dig z8)∧(z7.length≤100000000∧z8.length≤100000000)∧(Nrm z7∧Nrm z8)∧(0:Int)<valN z8)∧(SV.agg [SV.sb z9.fst,SV.row z10 z9.snd.fst,SV.row z10 z9.snd.snd]).same z12)∧(z4=false→((Dig z5∧Dig z6)∧z5.length≤10000000000∧z6.length≤10000000000)∧(z13=true→((Dig z14∧Dig z8)∧(z14.length≤100000000∧z8.length≤100000000)∧(Nrm z14∧Nrm z8)∧(0:Int)<valN z8)∧(SV.agg [SV.sb z15.fst,SV.row z10 z15.snd.fst,SV.row z10 z15.snd.snd]).same z12)∧(z13=false→((Dig z6∧Dig z5)∧z6.length≤10000000000∧z5.length≤10000000000)∧((Dig z16∧Dig z8)∧(z16.length≤100000000∧z8.length≤100000000)∧(Nrm z16∧Nrm z8)∧(0:Int)<valN z8)∧(SV.agg [SV.sb z17.fst,SV.row z10 z17.snd.fst,SV.row z10 z17.snd.snd]).same z12))) (by kernel_rfl) ?_
 conv=>zeta
 obtain⟨e1,⟨u1,_,_⟩,⟨u2,_,_⟩⟩:=frE_ok p
 obtain⟨e2,⟨u3,_,_⟩,⟨u4,_,_⟩⟩:=frE_ok q
 obtain⟨m1,m2⟩:=frE_len hz
 obtain⟨m3,m4⟩:=frE_len hw
 obtain⟨X,Y,D,hX,hY,hD,X0,Y0,D0,l1,l2,l3,l4,l5,l6,n1,n2,n3⟩:=cross_ok hz hw
 obtain⟨c1,c2,c3⟩:=natL_ok X0
 obtain⟨c4,c5,c6⟩:=natL_ok Y0
 obtain⟨c7,c8,c9⟩:=natL_ok (Int.le_of_lt D0)
 obtain⟨s1,s2,s3⟩:=natL_ok (show 0≤X+Y by omega)
 simp only[valF_frE,hX,hY,hD,c1,c4,c7,s1,e1,e2]
 simp only[vcs]
 have fin:∀{s:Bool} {n:Int},(p.num*q.den+q.num*p.den=if s then -n else n)→(SV.agg [.sb (frE (mkF s n D)).1,.row (.i .u32) (frE (mkF s n D)).2.1,.row (.i .u32) (frE (mkF s n D)).2.2]).same (.agg [.sb (frE (p+q)).1,.row (.i .u32) (frE (p+q)).2.1,.row (.i .u32) (frE (p+q)).2.2]):=
  fun h=>frS_eq (add_mkF n3 h)
 rw[n1,n2] at fin
 refine⟨⟨⟨u1,u4⟩,by omega,by omega⟩,⟨⟨u3,u2⟩,by omega,by omega⟩,⟨⟨u2,u4⟩,by omega,by omega⟩,fun he=>⟨⟨⟨c2,c5⟩,by omega,by omega⟩,⟨⟨s2,c8⟩,⟨by omega,by omega⟩,⟨s3,c9⟩,D0⟩,fin ?_⟩,fun he=>⟨⟨⟨c2,c5⟩,by omega,by omega⟩,fun hle=>?_,fun hle=>?_⟩⟩
 ·by_cases hp:p<0<;>by_cases hq:q<0<;>simp[hp,hq] at he ⊢<;>omega
 ·obtain⟨t1,t2,t3⟩:=natL_ok (show 0≤X - Y by omega)
  rw[t1]
  refine⟨⟨⟨t2,c8⟩,⟨by omega,by omega⟩,⟨t3,c9⟩,D0⟩,fin ?_⟩
  by_cases hp:p<0<;>by_cases hq:q<0<;>simp[hp,hq] at he ⊢<;>omega
 ·obtain⟨t1,t2,t3⟩:=natL_ok (show 0≤Y - X by omega)
  rw[t1]
  refine⟨⟨⟨c5,c2⟩,by omega,by omega⟩,⟨⟨t2,c8⟩,⟨by omega,by omega⟩,⟨t3,c9⟩,D0⟩,fin ?_⟩
  by_cases hp:p<0<;>by_cases hq:q<0<;>simp[hp,hq] at he ⊢<;>omega
def r108:SCtr:=⟨59,Fra×Fra,.cons (codE sF) (.one (codE sF)),fun a=>isG a.1∧isG a.2,fun a=>frS (valF a.1 - valF a.2)⟩
theorem h108:Holds Tryz.prog r108:=by
 refine con0 (L:=[r142,r52]) r108 lk (by grind[h142,h52]) ?_
 rintro⟨x,y⟩ ⟨⟨p,i,h,m,n⟩,⟨q,j,g,k,o⟩⟩
 simp only at h g
 subst h g
 refine vcOf (let b:=((frE q).fst,(frE q).snd.fst,(frE q).snd.snd);let e:=((frE p).fst,(frE p).snd.fst,(frE p).snd.snd);let l:=(frE (-valF b)).snd;let f:=((frE (-valF b)).fst,l.fst,l.snd);let d:=frE (valF e+valF f);let a:=SId.i .u32;let c:=frE (valF (frE p) - valF (frE q));isF b∧(isG e∧isG f)∧(SV.agg [SV.sb d.fst,SV.row a d.snd.fst,SV.row a d.snd.snd]).same (SV.agg [SV.sb c.fst,SV.row a c.snd.fst,SV.row a c.snd.snd])) (by kernel_rfl) ?_
 conv=>zeta
 have r:isG (frE (-q)):=⟨-q,j,rfl,sz_neg k,o⟩
 refine⟨⟨q,j,rfl,k,by omega⟩,⟨⟨p,i,rfl,m,n⟩,?_⟩,frS_eq ?_⟩
 all_goals grind[valF_frE]
def r48:SCtr:=⟨32,Fra,.one (codE sF),isF,fun x=> .si .i64 (sgnQ (valF x))⟩
theorem h48:Holds Tryz.prog r48:=by
 refine con0 (L:=[]) r48 lk (by simp) ?_
 intro(x:Fra) h
 obtain⟨q,k,rfl,m,f⟩:isF x:=h
 refine vcOf (let a:=SV.si .i64 (sgnQ (valF (frE q)));let b:=decide ((↑(List.length (frE q).snd.fst):Int)=(0:Int));((frE q).fst=true→(SV.il .i64 (-1:Int)).same a)∧((frE q).fst=false→(b=true→(SV.il .i64 0).same a)∧(b=false→(SV.il .i64 1).same a))) (by kernel_rfl) ?_
 simp only[vcs]
 rw[valF_frE]
 obtain⟨c,⟨j,i,d⟩,_⟩:=frE_ok q
 have e:((frE q).2.1.length:Int)=0↔q.num=0:=by
  constructor
  ·intro h
   rw[List.eq_nil_of_length_eq_zero (by omega:(frE q).2.1.length=0)] at d
   grind[valN]
  grind[val_zero]
 have n:=@Rat.num_nonneg q
 have l:q<0↔q.num<0:=by
  grind
 have g:0<q↔0<q.num:=by
  grind[Rat.num_eq_zero]
 rw[e,c]
 simp only[decide_eq_true_eq,decide_eq_false_iff_not]
 unfold sgnQ
 grind
def r53:SCtr:=⟨34,Fra×Fra,.cons (codE sF) (.one (codE sF)),fun a=>isG a.1∧isG a.2,fun a=> .si .i64 (cmpQ (valF a.1) (valF a.2))⟩
theorem sgn_sub (p q:Rat):sgnQ (p - q)=cmpQ p q:=by
 grind[sgnQ,cmpQ]
theorem h53:Holds Tryz.prog r53:=by
 refine con0 (L:=[r108,r48]) r53 lk (by grind[h108,h48]) ?_
 rintro⟨x,y⟩ ⟨⟨p,i,h,g,m⟩,⟨q,j,c,d,l⟩⟩
 simp only at h c
 subst h c
 refine vcOf (let e:=((frE p).fst,(frE p).snd.fst,(frE p).snd.snd);let b:=((frE q).fst,(frE q).snd.fst,(frE q).snd.snd);let a:=frE (valF e - valF b);let f:=(a.fst,a.snd.fst,a.snd.snd);(isG e∧isG b)∧isF f∧(SV.si .i64 (sgnQ (valF f))).same (SV.si .i64 (cmpQ (valF (frE p)) (valF (frE q))))) (by kernel_rfl) ?_
 conv=>zeta
 have k:valF (frE p) - valF (frE q)=p - q:=by grind[valF_frE]
 refine⟨⟨⟨p,i,rfl,g,m⟩,⟨q,j,rfl,d,l⟩⟩,?_,?_⟩
 ·show isF (frE (valF (frE p) - valF (frE q)))
  rw[k,Rat.sub_eq_add_neg]
  exact⟨_,_,rfl,sz_add g (sz_neg d),by omega⟩
 ·show(SV.si IntKind.i64 (sgnQ (valF (frE (valF (frE p) - valF (frE q)))))).same _
  simp_all[valF_frE,sgn_sub]
def r515:SCtr:=⟨14,Int,.one (codI .i64),fun n=> -9223372036854775808≤(show Int from n)∧(show Int from n)≤9223372036854775807,fun n=>frS ((show Int from n):Rat)⟩
theorem h515:Holds Tryz.prog r515:=by
 refine con0 (L:=[r51]) r515 lk (by simpa using h51) ?_
 intro(n:Int) h
 obtain⟨h0,h1⟩: -9223372036854775808≤n∧n≤9223372036854775807:=h
 refine vcOf (let z0:=frE (IntCast.intCast n);let z1:=SV.agg [SV.sb z0.fst,SV.row (SId.i .u32) z0.snd.fst,SV.row (SId.i .u32) z0.snd.snd];((-9223372036854775808:Int)≤n∧n≤(9223372036854775807:Int))∧z1.same z1) (by kernel_rfl) ?_
 conv=>zeta
 exact⟨⟨h0,h1⟩,rfl⟩
@[reducible] def sStp:SId:=.pair .need (.pair .need sF)
abbrev Stp:=Need×(Need×Fra)
def fewD (x:Fra):Prop:=x.2.1.length≤1000000000∧x.2.2.length≤1000000000
def r516:SCtr:=⟨10,Stp×Stp,.cons (codE sStp) (.one (codE sStp)),fun a=>fewD a.1.2.2∧fewD a.2.2.2,fun a=> .sb (decide (a.1=a.2))⟩
theorem h516:Holds Tryz.prog r516:=by
 refine con0 (L:=[r46]) r516 lk (by simpa using h46) ?_
 rintro⟨⟨⟨a0,a1⟩,⟨a2,a3⟩,a4⟩,⟨⟨b0,b1⟩,⟨b2,b3⟩,b4⟩⟩ ⟨h0,h1⟩
 refine vcOf (let z0:=decide (a0=b0)&&(decide (a1=b1)&&true);let z1:=decide (a2=b2)&&(decide (a3=b3)&&true);let z2:=SV.sb (decide ((Need.mk a0 a1,Need.mk a2 a3,a4)=(Need.mk b0 b1,Need.mk b2 b3,b4)));(z0=true→(z1=true→((List.length a4.snd.fst≤1000000000∧List.length a4.snd.snd≤1000000000)∧List.length b4.snd.fst≤1000000000∧List.length b4.snd.snd≤1000000000)∧(SV.sb (decide ((a4.fst,a4.snd.fst,a4.snd.snd)=(b4.fst,b4.snd.fst,b4.snd.snd)))).same z2)∧(z1=false→(SV.bl false).same z2))∧(z0=false→(SV.bl false).same z2)) (by kernel_rfl) ?_
 simp only[vcs]
 have key:∀{q:Bool},((a0=b0∧a1=b1)∧(a2=b2∧a3=b3)∧a4=b4↔q=true)→q=decide (((⟨a0,a1⟩,⟨a2,a3⟩,a4):Stp)=(⟨b0,b1⟩,⟨b2,b3⟩,b4)):=fun {q} h=>by
  rw[Bool.eq_iff_iff,←h,decide_eq_true_eq]
  constructor
  ·rintro⟨⟨rfl,rfl⟩,⟨rfl,rfl⟩,rfl⟩;rfl
  ·intro h;injection h with h1 h2;injection h2 with h2 h3;injection h1 with h4 h5;injection h2 with h6 h7;exact⟨⟨h4,h5⟩,⟨h6,h7⟩,h3⟩
 refine⟨fun e1=>⟨fun e2=>⟨⟨h0,h1⟩,key ?_⟩,fun e2=>key ?_⟩,fun e1=>key ?_⟩
 ·rw[decide_eq_true_eq]
  exact⟨fun h=>h.2.2,fun h=>⟨e1,e2,h⟩⟩
 ·refine⟨fun h=>?_,fun h=>by cases h⟩
  simp[h.2.1.1,h.2.1.2] at e2
 ·refine⟨fun h=>?_,fun h=>by cases h⟩
  simp[h.1.1,h.1.2] at e1
structure FnF where
 p:Prob
 vals:List Int
 wins:Int
 wor:List (Int×Int)
 seen:List (Int×Bool)
def FnF.cs (x:FnF):List SV:=[.row (.i .i64) x.vals,.si .i64 x.wins,.mp 1,.mp 2]
def FnF.sto (x:FnF):SStore:=[.cells (x.p.ss++x.cs) 70 24 false,.map (.i .i64) (.i .i64) false x.wor ([0],false) true,.map (.i .i64) .b false x.seen ([0],false) true]
def decFnF:SStore→Option FnF
 |[.cells cs 70 24 false,.map k1 v1 false e1 ([0],false) true,.map k2 v2 false e2 ([0],false) true]=>match cs.drop 20 with
  |[v,s,.mp 1,.mp 2]=>match decProb (cs.take 20),decRow (.i .i64) v,s.int .i64,castM k1 v1 (.i .i64) (.i .i64) e1,castM k2 v2 (.i .i64) .b e2 with
   |some p,some v,some s,some e1,some e2=>some ⟨p,v,s,e1,e2⟩
   |_,_,_,_,_=>none
  |_=>none
 |_=>none
theorem decFnF_ok {o:SStore} {x:FnF} (h:decFnF o=some x):gO o=gO x.sto:=by
 unfold decFnF at h
 split at h
 ·rename_i cs k1 v1 e1 k2 v2 e2
  split at h
  ·rename_i v s hd
   split at h
   ·rename_i p v' s' e1' e2' h1 h2 h3 h4 h5
    simp only[Option.some.injEq] at h
    subst h
    obtain⟨rfl,rfl,g1⟩:=castM_some h4
    obtain⟨rfl,rfl,g2⟩:=castM_some h5
    cases g1;cases g2
    have e3:gL cs=gL p.ss++gL [v,s,.mp 1,.mp 2]:=by
     rw[←hd,←decProb_ok h1,←gL_app,List.take_append_drop]
    simp only[FnF.sto,FnF.cs,gO,List.map_cons,List.map_nil,SObj.g,gL_app,e3]
    simp only[gL,decRow_ok h2,int_g h3,SV.g]
   ·cases h
  ·cases h
 ·cases h
theorem ssP_inj {p q:Prob} (h:gL p.ss=gL q.ss):p=q:=codP.inj p q (by simp only[codP,SV.g,h])
theorem fin_inj {x y:FnF} (h:gO x.sto=gO y.sto):x=y:=by
 obtain⟨p,v,s,e1,e2⟩:=x
 obtain⟨p',v',s',e1',e2'⟩:=y
 simp only[FnF.sto,FnF.cs,gO,List.map_cons,List.map_nil,SObj.g,gL_app,List.cons.injEq,AObj.cells.injEq,AObj.map.injEq,and_true] at h
 obtain⟨h1,h2,h3⟩:=h
 obtain⟨h1,h4⟩:=List.append_inj h1 (by rw[gL_len,gL_len];rfl)
 simp only[gL,SV.g,List.cons.injEq,AV.sc.injEq,Value.int.injEq,AV.sl.injEq,and_true,true_and] at h4
 obtain rfl:=ssP_inj h1
 obtain⟨⟨h5,h6⟩,rfl⟩:=h4
 obtain rfl:=flatA_inj (.i .i64) h5 h6
 have m1:e1=e1':=List.map_inj_right (fun a b hab=>by
  obtain⟨a,b⟩:=a
  simp only[keyV,valA,encV,Prod.mk.injEq,Bool.false_eq_true,if_false,List.headD_cons,Value.int.injEq,AV.sc.injEq,true_and] at hab
  exact Prod.ext hab.1 hab.2) |>.1 h2
 have m2:e2=e2':=List.map_inj_right (fun a b hab=>by
  obtain⟨a,b⟩:=a
  simp only[keyV,valA,encV,Prod.mk.injEq,Bool.false_eq_true,if_false,List.headD_cons,Value.int.injEq,Value.bool.injEq,AV.sc.injEq,true_and] at hab
  exact Prod.ext hab.1 hab.2) |>.1 h3
 rw[m1,m2]
def finCtr (f:FuncId) (β:Type) (A:ACod β) (dom:FnF→β→Prop) (res:FnF→β→SV) (out:FnF→β→FnF):OCtr where
 f:=f
 α:=FnF×β
 put a:=.ptr 0 0 24::A.put a.2
 st a:=a.1.sto
 dec v o:=match v with
  | .ptr 0 0 24::r=>match decFnF o,A.dec r with
   |some s,some b=>some (s,b)
   |_,_=>none
  |_=>none
 ok v o a h:=by
  split at h
  ·split at h
   ·rename_i h1 h2
    simp only[Option.some.injEq] at h;subst h
    exact⟨by simp only[gL,A.ok _ _ h2],decFnF_ok h1⟩
   ·cases h
  ·cases h
 inj a b h1 h2:=by
  simp only[gL,List.cons.injEq,true_and] at h1
  exact Prod.ext (fin_inj h2) (A.inj _ _ h1)
 dom a:=dom a.1 a.2
 res a:=res a.1 a.2
 out a:=(out a.1 a.2).sto
def winU (V:List Int) (n:Nat):Int:=(List.range n).foldl (fun(s:Int) (j:Nat)=>if 0<nthD V j 0 then s+2^j else s) 0
structure okFn (x:FnF):Prop where
 c:checkE x.p=0
 n4:x.p.classes.length≤4
 l:x.vals.length=x.p.classes.length
 v:∀v∈x.vals,0≤v∧v≤1000000000000000
 w:x.wins=winU x.vals x.vals.length
 k:∀e∈x.wor,e.2=worthS x.p e.1
def winB (bs:List Bool):Int:=(List.range bs.length).foldl (fun(s:Int) (j:Nat)=>if nthD bs j false=true then s+2^j else s) 0
def payB (bs:List Bool) (m:Int):Int:=(List.range bs.length).foldl (fun(s:Int) (j:Nat)=>if nthD bs j false=true∧hasI m j=false then s+2^j else s) 0
def allB:Nat→List (List Bool)
 |0=>[[]]
 |n+1=>(allB n).flatMap fun l=>[true::l,false::l]
theorem allB_mem:∀bs:List Bool,bs∈allB bs.length
 |[]=>by simp[allB]
 |b::bs=>by
  simp only[List.length_cons,allB,List.mem_flatMap]
  exact⟨bs,allB_mem bs,by cases b<;>simp⟩
def winChk:Bool:=[0,1,2,3,4].all fun n=>(allB n).all fun bs=>(List.range 16).all fun m=>decide (binK.andNotI .i64 (winB bs) m=payB bs m)&&decide (0≤winB bs)&&decide (winB bs<16)
theorem win_chk:winChk=true:=by kernel_rfl
def posL (V:List Int):List Bool:=V.map fun v=>decide (0<v)
theorem pos_nthZ {V:List Int} {j:Nat}:nthD (posL V) j false=decide (0<nthD V j 0):=by
 unfold posL nthD
 rw[List.getElem?_map]
 cases V[j]?<;>simp
theorem win_pos {V:List Int}:winU V V.length=winB (posL V):=by
 unfold winU winB
 have:(posL V).length=V.length:=by simp[posL]
 simp only[pos_nthZ,decide_eq_true_eq,this]
theorem pay_pos {V:List Int} {m:Int}:pU V m=payB (posL V) m:=by
 unfold pU payU payB
 have:(posL V).length=V.length:=by simp[posL]
 simp only[pos_nthZ,decide_eq_true_eq,this]
theorem win_not {V:List Int} {m:Int} (h:V.length≤4) (m0:0≤m) (m1:m<16):binK.andNotI .i64 (winU V V.length) m=pU V m∧0≤winU V V.length∧winU V V.length<16:=by
 have hh:=win_chk
 simp only[winChk,List.all_eq_true,List.mem_range] at hh
 have hl:(posL V).length=V.length:=by simp[posL]
 have h2:=hh V.length (by have:V.length=0∨V.length=1∨V.length=2∨V.length=3∨V.length=4:=by omega
                          rcases this with h|h|h|h|h<;>rw[h]<;>simp) (posL V) (by rw[←hl];exact allB_mem _) m.toNat (by omega)
 rw[show((m.toNat:Nat):Int)=m from by omega] at h2
 simp only[Bool.and_eq_true,decide_eq_true_eq] at h2
 rw[win_pos,pay_pos]
 exact⟨h2.1.1,h2.1.2,h2.2⟩
theorem pow_4 {n:Nat} (h:n≤4):(2:Int)^n≤16∧1≤(2:Int)^n:=by
 have:n=0∨n=1∨n=2∨n=3∨n=4:=by omega
 rcases this with h|h|h|h|h<;>rw[h]<;>decide
theorem find_k {p:Prob} {es:List (Int×Int)} {m:Int} (h:∀e∈es,e.2=worthS p e.1) {v:Int} (hf:findT (.i .i64) (.i .i64) m es=some v):v=worthS p m:=by
 unfold findT at hf
 obtain⟨e,h1,rfl⟩:=Option.map_eq_some_iff.1 hf
 have h2:=List.find?_some h1
 have h3:e.1=m:=by simpa using h2
 rw[←h3]
 exact h e (List.mem_of_find?_eq_some h1)
def worU (p:Prob) (es:List (Int×Int)) (m:Int):List (Int×Int):=if(findT (.i .i64) (.i .i64) m es).isSome=true then es else setT (.i .i64) (.i .i64) m (worthS p m) es
def r520:OCtr:=finCtr 25 Int (.one (codI .i64)) (fun x m=>okFn x∧0≤m∧m<2^x.p.classes.length)
 (fun x m=> .tup [.agg [.si .i64 (pU x.vals m),.si .i64 (lU x.vals m (worthS x.p m))],.si .i64 (worthS x.p m)]) (fun x m=>⟨x.p,x.vals,x.wins,worU x.p x.wor m,x.seen⟩)
theorem mapI_same {k v:SId} {es es':List (k.T×v.T)} {kt:List Nat×Bool} (h:es=es'):(SObj.map k v false es kt true).same (SObj.map k v false es' kt true):=by rw[h];rfl
def nilNd:SObj:=.cells [.il .i64 0,.il .i64 0] 43 2 false
def Λ520 (a:FnF×Int):Nat→LoopAnn
 |7=> .inv (Int×Int) (fun x=>⟨[(1,.si .i64 a.2),(4,.ptr 3 0 2),(6,.si .i64 (worthS a.1.p a.2)),(8,.ptr 4 0 2),(48,.row (.i .i64) a.1.vals),(49,.si .i64 a.1.vals.length),(50,.si .i64 x.1)],
   FnF.sto ⟨a.1.p,a.1.vals,a.1.wins,worU a.1.p a.1.wor a.2,a.1.seen⟩++[nilNd,.cells [.si .i64 (pU a.1.vals a.2),.si .i64 x.2] 43 2 false]⟩)
   (fun s=>(iS s 50,cS (.i .i64) s 4 1)) (fun x=>(0≤x.1∧x.1≤a.1.vals.length)∧x.2=leastU a.1.vals a.2 (worthS a.1.p a.2) x.1.toNat) (fun x=>(a.1.vals.length - x.1).toNat) fun _ _=> .look
 |_=> .look
theorem h520:HoldsO Tryz.prog r520:=by
 refine conO (L:=[r80]) (W:=[]) r520 Λ520 (by simp) (by simpa using h80) ?_
 rintro⟨x,m⟩ ⟨hx,m0,m1⟩
 refine vcOf (let z0:=SId.i .i64;let z1:=!(findT z0 z0 m x.wor).isSome;let z2:=SV.ptr 3 0 2;let z3:=worthS x.p m;let z4:=SV.si .i64 z3;let z5:=SV.ptr 4 0 2;let z6:=SV.row z0 x.vals;let z7:=(↑x.vals.length:Int);let z8:=(↑x.vals.length:Int);let z9:=SV.si .i64 z8;let z10:=SV.il .i64 0;let z11:=SObj.cells [SV.si .i64 x.p.supply.a0,SV.si .i64 x.p.supply.a1,SV.si .i64 x.p.supply.a2,SV.si .i64 x.p.supply.a3,SV.si .i64 x.p.supply.a4,SV.si .i64 x.p.supply.a5,SV.si .i64 x.p.opn.a0,SV.si .i64 x.p.opn.a1,SV.si .i64 x.p.opn.a2,SV.si .i64 x.p.opn.a3,SV.si .i64 x.p.opn.a4,SV.si .i64 x.p.opn.a5,SV.si .i64 x.p.cls.a0,SV.si .i64 x.p.cls.a1,SV.si .i64 x.p.cls.a2,SV.si .i64 x.p.cls.a3,SV.si .i64 x.p.cls.a4,SV.si .i64 x.p.cls.a5,SV.row z0 x.p.classes,SV.row SId.off x.p.offers,z6,SV.si .i64 x.wins,SV.mp 1,SV.mp 2] 70 24 false;let z12:=([0],false);let z13:=SObj.map z0 z0 false (worU x.p x.wor m) z12 true;let z14:=SObj.map z0 SId.b false x.seen z12 true;let z15:=SObj.cells [z10,z10] 43 2 false;let z16:=SV.si .i64 (binK.andNotI .i64 x.wins m);let z17:=SV.si .i64 (pU x.vals m);let z18:=leastU x.vals m z3 0;let z19:=(findT z0 z0 m x.wor).getD (0:Int);let z20:=SV.si .i64 z19;(z1=true→True∧((((SV.si .i64 m).same (SV.si .i64 m)∧z2.same z2∧z4.same z4∧z5.same z5∧z6.same z6∧(SV.si .i64 z7).same z9∧z10.same (SV.si .i64 0)∧True)∧z11.same z11∧(SObj.map z0 z0 false (setT z0 z0 m z3 x.wor) z12 true).same z13∧z14.same z14∧z15.same z15∧(SObj.cells [z16,z4] 43 2 false).same (SObj.cells [z17,z4] 43 2 false)∧True)∧((0:Int)≤(0:Int)∧(0:Int)≤z8)∧z3=z18)∧∀(x_1:Int×Int),let z21:=x_1.fst.toNat;let z22:=decide (binK.andI .i64 (m / (2:Int)^z21) (1:Int)=(1:Int));let z23:=x_1.snd - nthD x.vals z21 (0:Int);let z24:=x_1.fst+(1:Int);let z25:=SV.si .i64 z24;let z26:=SObj.cells [z17,SV.si .i64 z23] 43 2 false;let z27:=leastU x.vals m z3 z24.toNat;let z28:=[z17,SV.si .i64 x_1.snd];let z29:=SObj.cells z28 43 2 false;((0:Int)≤x_1.fst∧x_1.fst≤z8)∧x_1.snd=leastU x.vals m z3 z21→(decide (x_1.fst<z8)=true→(0:Int)≤x_1.fst∧x_1.fst<z7∧z21<x.vals.length∧(0:Int)≤x_1.fst∧x_1.fst≤(64:Int)∧(z22=true→inR .i64 z23∧inR .i64 z24∧(((SV.si .i64 m).same (SV.si .i64 m)∧z2.same z2∧z4.same z4∧z5.same z5∧z6.same z6∧z9.same z9∧z25.same z25∧True)∧z11.same z11∧z13.same z13∧z14.same z14∧z15.same z15∧z26.same z26∧True)∧(((0:Int)≤z24∧z24≤z8)∧z23=z27)∧(z8 - z24).toNat<(z8 - x_1.fst).toNat)∧(z22=false→inR .i64 z24∧(((SV.si .i64 m).same (SV.si .i64 m)∧z2.same z2∧z4.same z4∧z5.same z5∧z6.same z6∧z9.same z9∧z25.same z25∧True)∧z11.same z11∧z13.same z13∧z14.same z14∧z15.same z15∧z29.same z29∧True)∧(((0:Int)≤z24∧z24≤z8)∧x_1.snd=z27)∧(z8 - z24).toNat<(z8 - x_1.fst).toNat))∧(decide (x_1.fst<z8)=false→(SV.tup [SV.agg z28,z4]).same (SV.tup [SV.agg [z17,SV.si .i64 (lU x.vals m z3)],z4])∧z11.same z11∧z13.same z13∧z14.same z14∧True))∧(z1=false→((((SV.si .i64 m).same (SV.si .i64 m)∧z2.same z2∧z20.same z4∧z5.same z5∧z6.same z6∧(SV.si .i64 z7).same z9∧z10.same (SV.si .i64 0)∧True)∧z11.same z11∧(SObj.map z0 z0 false x.wor z12 true).same z13∧z14.same z14∧z15.same z15∧(SObj.cells [z16,z20] 43 2 false).same (SObj.cells [z17,z20] 43 2 false)∧True)∧((0:Int)≤(0:Int)∧(0:Int)≤z8)∧z19=z18)∧∀(x_1:Int×Int),let z30:=x_1.fst.toNat;let z31:=decide (binK.andI .i64 (m / (2:Int)^z30) (1:Int)=(1:Int));let z32:=x_1.snd - nthD x.vals z30 (0:Int);let z33:=x_1.fst+(1:Int);let z34:=SV.si .i64 z33;let z35:=SObj.cells [z17,SV.si .i64 z32] 43 2 false;let z36:=leastU x.vals m z3 z33.toNat;let z37:=[z17,SV.si .i64 x_1.snd];let z38:=SObj.cells z37 43 2 false;((0:Int)≤x_1.fst∧x_1.fst≤z8)∧x_1.snd=leastU x.vals m z3 z30→(decide (x_1.fst<z8)=true→(0:Int)≤x_1.fst∧x_1.fst<z7∧z30<x.vals.length∧(0:Int)≤x_1.fst∧x_1.fst≤(64:Int)∧(z31=true→inR .i64 z32∧inR .i64 z33∧(((SV.si .i64 m).same (SV.si .i64 m)∧z2.same z2∧z4.same z4∧z5.same z5∧z6.same z6∧z9.same z9∧z34.same z34∧True)∧z11.same z11∧z13.same z13∧z14.same z14∧z15.same z15∧z35.same z35∧True)∧(((0:Int)≤z33∧z33≤z8)∧z32=z36)∧(z8 - z33).toNat<(z8 - x_1.fst).toNat)∧(z31=false→inR .i64 z33∧(((SV.si .i64 m).same (SV.si .i64 m)∧z2.same z2∧z4.same z4∧z5.same z5∧z6.same z6∧z9.same z9∧z34.same z34∧True)∧z11.same z11∧z13.same z13∧z14.same z14∧z15.same z15∧z38.same z38∧True)∧(((0:Int)≤z33∧z33≤z8)∧x_1.snd=z36)∧(z8 - z33).toNat<(z8 - x_1.fst).toNat))∧(decide (x_1.fst<z8)=false→(SV.tup [SV.agg z37,z4]).same (SV.tup [SV.agg [z17,SV.si .i64 (lU x.vals m z3)],z4])∧z11.same z11∧z13.same z13∧z14.same z14∧True))) (by kernel_rfl) ?_
 simp only[vcs]
 have hx:okFn x:=hx
 have m0:0≤m:=m0
 have m1:m<2^x.p.classes.length:=m1
 have h4:=hx.n4
 have hV:=hx.l
 have hp:=pow_4 h4
 have hw:=(@win_not x.vals m (by omega) m0 (by omega)).1
 rw[←hx.w] at hw
 have hwb:=worth_bd x.p m
 have hbd:=@leastU_bd x.vals m (worthS x.p m) hx.v
 have hl:lU x.vals m (worthS x.p m)=leastU x.vals m (worthS x.p m) x.vals.length:=rfl
 rw[hw,hl]
 have tail:∀(s:Int×Int),(0≤s.fst∧s.fst≤↑x.vals.length)∧s.snd=leastU x.vals m (worthS x.p m) s.fst.toNat→
   (s.1<x.vals.length→(binK.andI .i64 (m / 2^s.1.toNat) 1=1→s.2 - nthD x.vals s.1.toNat 0=leastU x.vals m (worthS x.p m) (s.1+1).toNat)∧(¬binK.andI .i64 (m / 2^s.1.toNat) 1=1→s.2=leastU x.vals m (worthS x.p m) (s.1+1).toNat))∧
   (-9000000000000000≤leastU x.vals m (worthS x.p m) (s.1+1).toNat∧leastU x.vals m (worthS x.p m) (s.1+1).toNat≤9000000000000000∨¬s.1<x.vals.length)∧(¬s.1<x.vals.length→s.1.toNat=x.vals.length):=by
  rintro⟨i,l⟩ ⟨⟨i0,i1⟩,hl⟩
  simp only at i0 i1 hl
  subst hl
  have e:(i+1).toNat=i.toNat+1:=by omega
  have ei:((i.toNat:Nat):Int)=i:=by omega
  have hsu:=@leastU_succ x.vals m (worthS x.p m) i.toNat
  rw[ei] at hsu
  obtain⟨n0,n1⟩:=half_nn (i:=i.toNat) m0
  have ha:binK.andI .i64 (m / 2^i.toNat) 1=m / 2^i.toNat % 2:=and_one n0 (by omega)
  have hI:hasI m i=decide (m / 2^i.toNat % 2=1):=rfl
  simp only[ha,e,hsu]
  refine⟨fun hi=>⟨fun h1=>?_,fun h1=>?_⟩,?_,fun hi=>by omega⟩
  ·rw[if_pos (by rw[hI];exact decide_eq_true h1)]
  ·rw[if_neg (by rw[hI];simpa using h1)]
  ·by_cases hi:i<x.vals.length
   ·left
    have h1:=@hbd (i.toNat+1) (by omega)
    rw[hsu] at h1
    have h3:((i.toNat+1:Nat):Int)≤4:=by omega
    omega
   ·exact .inr hi
 refine⟨fun hk=>⟨⟨⟨mapI_same (by unfold worU;rw[if_neg (by rw[hk];simp)]),rfl⟩,⟨by omega,by omega⟩,rfl⟩,?_⟩,fun hk=>?_⟩
 ·rintro s hs
  obtain⟨t1,t2,t3⟩:=tail s hs
  obtain⟨⟨i0,i1⟩,hl⟩:=hs
  refine⟨fun hi=>⟨i0,hi,by omega,i0,by omega,fun h1=>?_,fun h1=>?_⟩,fun hi=>?_⟩
  ·rw[(t1 hi).1 h1]
   exact⟨⟨by omega,by omega⟩,by omega,⟨⟨by omega,by omega⟩,rfl⟩,by omega⟩
  ·rw[(t1 hi).2 h1]
   exact⟨by omega,⟨⟨by omega,by omega⟩,rfl⟩,by omega⟩
  ·rw[hl,t3 hi]
   rfl
 ·obtain⟨v,hv⟩:=Option.isSome_iff_exists.1 hk
  have hvv:=find_k hx.k hv
  subst hvv
  have hg:(findT (.i .i64) (.i .i64) m x.wor).getD 0=worthS x.p m:=by rw[hv];rfl
  rw[hg]
  refine⟨⟨⟨rfl,mapI_same (by unfold worU;rw[if_pos hk]),rfl⟩,⟨by omega,by omega⟩,rfl⟩,?_⟩
  rintro s hs
  obtain⟨t1,t2,t3⟩:=tail s hs
  obtain⟨⟨i0,i1⟩,hl⟩:=hs
  refine⟨fun hi=>⟨i0,hi,by omega,i0,by omega,fun h1=>?_,fun h1=>?_⟩,fun hi=>?_⟩
  ·rw[(t1 hi).1 h1]
   exact⟨⟨by omega,by omega⟩,by omega,⟨⟨by omega,by omega⟩,rfl⟩,by omega⟩
  ·rw[(t1 hi).2 h1]
   exact⟨by omega,⟨⟨by omega,by omega⟩,rfl⟩,by omega⟩
  ·rw[hl,t3 hi]
   rfl
end Go.Vi
namespace Go.Proofs.YtddpfdamlefbgaaGreat
open Go.ChangeShapes Go.WideShapes Go.ChangeAt Go.RowKit Go.Vi
theorem rd_pays {H:Type} {enc:TypeId×Value→H} {w:World} {spare:Nat→Bool} {held:Bool} {fuel:Nat} {cs:List Value} {x:DataW H×List MemPlace} (h:DataW.trod enc Tryz.prog w 0 spare held fuel 30 cs=some x):
  ∃(v:Value) (l:List (List fracId.T)),cs=[v]∧l.length≤9223372036854775807∧(∀y∈l,y.length≤9223372036854775807∧∀z∈y,fracQ z)∧Rep noA w [] [] (SV.row (.lst fracId) l).g v:=
 reads_sliceQ Tryz.underlying30 (readsQ_lst Tryz.underlying52 rd_frac (by kernel_rfl)) (by kernel_rfl) h
end Go.Proofs.YtddpfdamlefbgaaGreat
namespace Go.Vi
open Go.Proofs.YtddpfdamlefbgaaGreat.Ir
open Go.Proofs
theorem natL_one {g:Int} (h:0≤g):natL g=[1]↔g=1:=by
 constructor
 ·grind[natL_ok,valN]
 ·rintro rfl
  rfl
theorem val_pos {a:List Int} (h:Dig a) (c:Nrm a) (b:a≠[]):0<valN a:=by
 have:=val_nonneg h
 grind[val_zero]
def okF (x:Fra):Bool:=decide (frE (valF x)=x)
theorem gcdN_pos {n d:Int} (h:0<d):0<gcdN n d:=by
 simp_all[gcdN]
theorem okF_nrm {s:Bool} {n d:List Int} (h:okF (s,(n,d))=true):Nrm n∧Nrm d∧d≠[]:=by
 have h:=of_decide_eq_true h
 have b:=natL_ok (show(0:Int)≤((valF (s,(n,d))).num.natAbs:Int) by omega)
 have a:=natL_ok (show(0:Int)≤((valF (s,(n,d))).den:Int) by omega)
 have e:natL ((valF (s,(n,d))).num.natAbs:Int)=n:=congrArg (fun x=>x.2.1) h
 have c:natL ((valF (s,(n,d))).den:Int)=d:=congrArg (fun x=>x.2.2) h
 rw[e] at b
 rw[c] at a
 refine⟨b.2.2,a.2.2,fun f=>?_⟩
 have g:=a.1
 rw[f] at g
 have:=(valF (s,(n,d))).den_pos
 grind[valN]
theorem okF_eq {s:Bool} {n d:List Int} (e:Dig n) (m:Dig d) (l:Nrm n) (p:Nrm d) (b:d≠[]):
  okF (s,(n,d))=if n=[] then !s&&decide (d=[1]) else decide (gcdN (valN n) (valN d)=1):=by
 have c:=val_pos m p b
 have r:=val_nonneg e
 have j:valF (s,(n,d))=mkRat (if s then -valN n else valN n) (valN d).toNat:=rfl
 have o:=@frE_mk s (valN n) (valN d) r c
 have u:=@gcdN_pos (valN n) (valN d) c
 unfold okF
 rw[j,o]
 by_cases a:n=[]
 ·rw[if_pos a,a]
  have i:gcdN (valN []) (valN d)=valN d:=by unfold gcdN;simp[valN];omega
  have k:natL (valN d / gcdN (valN []) (valN d))=[1]:=by rw[i,Int.ediv_self (by omega)];rfl
  have f:natL (valN [] / gcdN (valN []) (valN d))=[]:=by
   have:valN []=0:=rfl
   rw[this,Int.zero_ediv];rfl
  rw[k,f]
  have v:decide (0<valN [])=false:=rfl
  grind
 ·rw[if_neg a]
  have q:=val_pos e l a
  rw[decide_eq_true (show 0<valN n from q),Bool.and_true]
  rw[Bool.eq_iff_iff,decide_eq_true_eq,decide_eq_true_eq]
  constructor
  ·intro h
   injection h with h1 h2
   injection h2 with h2 h3
   have g:=(natL_ok (show 0≤valN d / gcdN (valN n) (valN d) from Int.ediv_nonneg (by omega) (by omega))).1
   rw[h3] at g
   by_cases t:gcdN (valN n) (valN d)=1
   ·exact t
   ·have:=Int.ediv_lt_self_of_pos_of_ne_one c (by omega:gcdN (valN n) (valN d)≠1)
    omega
  grind[natL_val]
def r93:SCtr:=⟨30,Fra,.one (codE sF),fun x=>(Dig x.2.1∧Dig x.2.2)∧x.2.1.length≤10000000∧x.2.2.length≤10000000,fun x=> .sb (okF x)⟩
theorem h93:Holds Tryz.prog r93:=by
 refine con0 (L:=[r124,r125]) r93 lk (by simpa using⟨h124,h125⟩) ?_
 rintro⟨s,n,d⟩ ⟨⟨hn,hd⟩,hl1,hl2⟩
 refine vcOf (let z0:=SV.sb (okF (s,n,d));let z1:=(↑d.length:Int);let z2:=decide (z1=(0:Int));let z3:=decide ((↑n.length:Int)=(0:Int));let z4:=decide (z1=(1:Int));let z5:=natL (gcdN (valN n) (valN d));let z6:=decide ((↑z5.length:Int)=(1:Int));n.length≤1000000000∧((!nrmB n)=true→(SV.bl false).same z0)∧((!nrmB n)=false→d.length≤1000000000∧((!nrmB d)=true→(SV.bl false).same z0)∧((!nrmB d)=false→(z2=true→(SV.bl false).same z0)∧(z2=false→(z3=true→((!s)=true→(z4=true→(0:Int)≤(0:Int)∧(0:Int)<z1∧0<d.length∧(SV.sb (decide (nthD d 0 (0:Int)=(1:Int)))).same z0)∧(z4=false→(SV.bl false).same z0))∧((!s)=false→(SV.bl false).same z0))∧(z3=false→((Dig n∧Dig d)∧(n.length≤100000000∧d.length≤100000000)∧Nrm d)∧(z6=true→(0:Int)≤(0:Int)∧(0:Int)<(↑z5.length:Int)∧0<z5.length∧(SV.sb (decide (nthD z5 0 (0:Int)=(1:Int)))).same z0)∧(z6=false→(SV.bl false).same z0)))))) (by kernel_rfl) ?_
 simp only[vcs]
 have hn:Dig n:=hn
 have hd:Dig d:=hd
 have hl1:n.length≤10000000:=hl1
 have hl2:d.length≤10000000:=hl2
 have nope:¬(Nrm n∧Nrm d∧d≠[])→false=okF (s,n,d):=fun h=>by
  cases hb:okF (s,n,d) with
  |false=>rfl
  |true=>exact absurd (okF_nrm hb) h
 have nil_of:∀{a:List Int},((a.length:Nat):Int)=0→a=[]:=fun h=>List.eq_nil_of_length_eq_zero (by omega)
 have ne_of:∀{a:List Int},¬((a.length:Nat):Int)=0→a≠[]:=fun h h2=>h (by rw[h2];rfl)
 refine⟨by omega,fun h1=>nope fun h=>?_,fun h1=>⟨by omega,fun h2=>nope fun h=>?_,fun h2=>⟨fun h3=>nope fun h=>h.2.2 (nil_of h3),fun h3=>?_⟩⟩⟩
 ·have:=nrmB_iff.2 h.1
  rw[h1] at this
  cases this
 ·have:=nrmB_iff.2 h.2.1
  rw[h2] at this
  cases this
 have he:=okF_eq (s:=s) hn hd (nrmB_iff.1 h1) (nrmB_iff.1 h2) (ne_of h3)
 have hg:=@gcdN_pos (valN n) (valN d) (val_pos hd (nrmB_iff.1 h2) (ne_of h3))
 obtain⟨g1,g2,g3⟩:=natL_ok (show 0≤gcdN (valN n) (valN d) by omega)
 rw[he]
 have one:∀{a:List Int},((a.length:Nat):Int)=1→a=[nthD a 0 0]:=fun {a} h=>by
  match a,h with
  |[x],_=>rfl
  |[],h=>simp at h
  |_::_::_,h=>simp at h;omega
 refine⟨fun h4=>?_,fun h4=>?_⟩
 ·rw[if_pos (nil_of h4)]
  refine⟨fun h5=>⟨fun h6=>⟨by omega,by omega,by omega,?_⟩,fun h6=>?_⟩,fun h5=>?_⟩
  ·rw[h5]
   have:=one h6
   rw[this]
   simp[nthD]
  ·have:¬d=[1]:=fun h=>h6 (by rw[h];rfl)
   rw[h5]
   simp[this]
  ·rw[h5]
   rfl
 ·rw[if_neg (ne_of h4)]
  refine⟨⟨⟨hn,hd⟩,⟨by omega,by omega⟩,nrmB_iff.1 h2⟩,fun h5=>⟨by omega,by omega,by omega,?_⟩,fun h5=>?_⟩
  ·have h6:=one h5
   have h7:=@natL_one (gcdN (valN n) (valN d)) (by omega)
   rw[Bool.eq_iff_iff,decide_eq_true_eq,decide_eq_true_eq,←h7]
   constructor
   ·intro h8
    rw[h6,h8]
   ·intro h8
    rw[h8]
    rfl
  ·have h7:¬gcdN (valN n) (valN d)=1:=fun h8=>h5 (by rw[(natL_one (by omega)).2 h8];rfl)
   simp[h7]
def rowD (l:List Fra):Prop:=∀x∈l,Dig x.2.1∧Dig x.2.2
def r437:SCtr:=⟨17,Prob×List Int,.cons codP (.one (codR (.i .i64))),fun a=>checkE a.1=0∧a.2.length≤9223372036854775807,fun a=> .si .i64 (valueS a.1 a.2)⟩
def Λ437 (p:Prob) (c:List Int):Nat→LoopAnn
 |6=> .inv Int (fun i=>⟨[(7,.si .i64 (sumV ((pickL p c).take i.toNat))),(23,.row .off (pickL p c)),(24,.si .i64 (pickL p c).length),(25,.si .i64 i)],[.cells p.ss 27 20 false]⟩)
   (fun s=>iS s 25) (fun i=>0≤i∧i≤(pickL p c).length) (fun i=>((pickL p c).length - i).toNat) fun _ _=> .look
 |_=> .look
theorem h437:Holds Tryz.prog r437:=by
 refine con0 (L:=[r133,r79]) r437 (fun a=>Λ437 a.1 a.2) (by grind[h133,h79]) ?_
 rintro⟨p,c⟩ ⟨f,A⟩
 simp only at f A
 refine vcOf (let k:=SV.il .i64 0;let m:=SV.si .i64 (valueS p c);let z:=decide (checkE p≠(0:Int));let j:=SV.row SId.off (pickL p c);let B:=(↑(pickL p c).length:Int);let d:=(↑(pickL p c).length:Int);let r:=SV.si .i64 d;let g:=SObj.cells (Prob.ss p) 27 20 false;(c.length≤9223372036854775807∧p.offers.length≤1000)∧((!pickOk p c)=true→k.same m)∧((!pickOk p c)=false→True∧(z=true→k.same m)∧(z=false→(((k.same (SV.si .i64 (sumV []))∧j.same j∧(SV.si .i64 B).same r∧k.same (SV.si .i64 0)∧True)∧g.same g∧True)∧(0:Int)≤(0:Int)∧(0:Int)≤d)∧∀(x:Int),let w:=sumV (List.take x.toNat (pickL p c));let y:=w+(nthD (pickL p c) x.toNat SId.off.dflt).value;let b:=x+(1:Int);let e:=SV.si .i64 b;(0:Int)≤x∧x≤d→(decide (x<d)=true→(0:Int)≤x∧x<B∧x.toNat<(pickL p c).length∧inR .i64 y∧inR .i64 b∧(((SV.si .i64 y).same (SV.si .i64 (sumV (List.take b.toNat (pickL p c))))∧j.same j∧r.same r∧e.same e∧True)∧g.same g∧True)∧((0:Int)≤b∧b≤d)∧(d - b).toNat<(d - x).toNat)∧(decide (x<d)=false→(SV.si .i64 w).same m)))) (by kernel_rfl) ?_
 simp only[vcs]
 have t:=good_of f
 obtain⟨G,v⟩:=picks_ok (c:=c) f
 have u:=t.2.1
 have q:pickOk p c=false→0=valueS p c:=fun h=>by
  unfold valueS
  rw[if_pos f]
  unfold pickL
  unfold pickOk at h
  rw[Option.isSome_eq_false_iff,Option.isNone_iff_eq_none] at h
  rw[h]
  rfl
 refine⟨⟨A,by omega⟩,q,fun _=>⟨fun h=>absurd f h,fun _=>⟨⟨by simp[sumV],by omega,by omega⟩,?_⟩⟩⟩
 rintro i ⟨n,D⟩
 refine⟨fun o=>?_,fun E=>?_⟩
 ·have H:=sumV_take n o
  have F:=sum_val_bd t (l:=(pickL p c).take i.toNat) fun x s=>v x (List.mem_of_mem_take s)
  have C:=sum_val_bd t (l:=(pickL p c).take (i+1).toNat) fun x s=>v x (List.mem_of_mem_take s)
  grind
 ·rw[show i.toNat=(pickL p c).length from by omega,List.take_length]
  grind[valueS]
open Go.Proofs Go.RowKit
theorem off_info:(Tryz.prog.info? (Tryz.layO_ren.t 23)).map (fun i=>(i.zero,i.size,i.bytes))=some (some (.agg #[.int .i64 0,.int .i64 0,.int .i64 0,.int .i64 0,.int .i64 0,.int .i64 0,.int .i64 0,.int .i64 0]),8,64):=by kernel_rfl
theorem off_size (w:World):(Go.sizeOf (Tryz.layO_ren.t 23)).run Tryz.prog w= .ok 8 w:=by kernel_rfl
theorem flatO (l:List Off):flatA .off l=(l.flatMap (encV .off)).map AV.sc:=by
 unfold flatA
 induction l with
 |nil=>rfl
 |cons x l ih=>rw[List.flatMap_cons,ih,List.flatMap_cons,List.map_append];rfl
theorem flatV_len (l:List Off):(l.flatMap (encV .off)).length=l.length*8:=by
 induction l with
 |nil=>rfl
 |cons x l ih=>rw[List.flatMap_cons,List.length_append,ih,encV_len];simp[SId.sz];omega
def r519:SCtr:=⟨19,List Off,.one (codR .off),fun l=>l.length≤1000000,fun l=> .row .off l⟩
theorem h519:Holds Tryz.prog r519:=by
 intro(l:List Off) (hl:l.length≤1000000)
 refine⟨by kernel_rfl,?_⟩
 intro A w σ vs hS hR
 have hσ:σ=[]:=by have:=hS.len;simpa using this
 subst hσ
 have e1:gL (r519.A.put l)=[.sl l.length (flatA .off l)]:=rfl
 have e2:(r519.res l).G= .sl l.length (flatA .off l):=rfl
 rw[e1] at hR
 rw[e2]
 simp only[RepL] at hR
 obtain⟨v,r,rfl,hv,rfl⟩:=hR
 simp only[Rep] at hv
 obtain⟨a,cap,rfl,hcap,hpu,hM⟩:=hv
 cases a with
 |none=>
  have hnil:l=[]:=by
   cases l with
   |nil=>rfl
   |cons x l=>
    have h0:=(flatO (x::l))▸hM
    simp only[List.flatMap_cons,encV,List.cons_append,List.map_cons,RepM] at h0
    obtain⟨⟨b,_,e,_⟩,_⟩:=h0
    cases e
  subst hnil
  refine Calls.mono (AnyE.slices_Clone_nil Tryz.layO 0 cap w) ?_
  rintro e w' ⟨rfl,rfl⟩
  exact⟨_,[],rfl,hS,by simp only[Rep];exact⟨none,0,rfl,by simp,by simp[flatA,pureL],by simp[flatA,RepM]⟩,Ext.refl _ _ _⟩
 |some p=>
  have hc:∀j u,(l.flatMap (encV .off))[j]?=some u→w.cell? (p.add j)=some u:=by
   intro j u hj
   obtain⟨b,v,e,_,hcell,hrep⟩:=RepM.get _ _ _ hM j (.sc u) (by rw[flatO,List.getElem?_map,hj];rfl)
   injection e with e
   subst e
   simp only[Rep] at hrep
   rw[Nat.zero_add,hrep.1] at hcell
   exact hcell
  have h1c:∀u∈l.flatMap (encV .off),u.oneCell'=true:=by
   intro u hu
   obtain⟨x,_,hx⟩:=List.mem_flatMap.1 hu
   exact encV_one .off x u hx
  obtain⟨i0,hi,hz0,hz1,hz2⟩:=info_parts off_info
  refine Calls.mono (cloneW Tryz.layO i0 _ 8 64 hi hz0 hz1 hz2 (by rfl) (by omega) off_size p l.length cap (l.flatMap (encV .off)) w (flatV_len l) (by have:maxLen=9223372036854775807:=rfl;omega) (by omega) hc h1c) ?_
  rintro e w' ⟨v',rfl,hown,hne,hb⟩
  have hS':SimO A w' [] []:=⟨rfl,by simp,by simp,by simp,by simp,fun b h=>Nat.lt_of_lt_of_le (hS.avb b h) hb.size⟩
  have hE:Ext w [] [] w' [] []:=⟨hb.size,fun b h _=>⟨hb.block b h,fun⟨i,c,hi⟩=>by simp at hi⟩,Nat.le_refl _,fun _ _ ⟨_,_,_,_,h,_⟩=>by simp at h,fun _ ⟨_,_,_,h⟩=>by simp at h,hb.os,hb.tape,hb.output⟩
  obtain⟨_,h|⟨g,cap',cur,rfl,h1,h2,h3,h4,h5,h6⟩⟩:=hown
  ·exact absurd h.1 hne
  refine⟨_,[],rfl,hS',?_,hE⟩
  simp only[Rep]
  refine⟨_,_,rfl,by omega,flatA_pure _ _,RepM.of_get _ _ _ fun i c hi=>?_⟩
  rw[flatO,List.getElem?_map] at hi
  obtain⟨u,hu,rfl⟩:=Option.map_eq_some_iff.1 hi
  have hil:=(List.getElem?_eq_some_iff.1 hu).1
  rw[flatV_len] at hil
  have h9:(cur.toList.take (l.length*8))[i]?=some u:=by rw[h6];exact hu
  rw[List.getElem?_take_of_lt hil,Array.getElem?_toList] at h9
  refine⟨⟨g,0,none⟩,u,rfl,⟨fun⟨i,c,hi⟩=>by simp at hi,fun hA=>by have:=hS.avb g hA;omega⟩,?_,by simp only[Rep];exact⟨trivial,h1c u (List.mem_of_getElem? hu)⟩⟩
  rw[Addr.add_lit]
  simp only[World.cell?,h2,Nat.zero_add,Option.isSome_none,Bool.false_eq_true,if_false]
  exact h9
theorem winU_succ {V:List Int} {n:Nat}:winU V (n+1)=if 0<nthD V n 0 then winU V n+2^n else winU V n:=by
 unfold winU
 rw[List.range_succ,List.foldl_append]
 rfl
theorem winU_bd {V:List Int}:∀{n:Nat},0≤winU V n∧winU V n<2^n
 |0=>by simp[winU]
 |n+1=>by
  have h:=@winU_bd V n
  have h2:(2:Int)^(n+1)=2*2^n:=by rw[Int.pow_succ];omega
  rw[winU_succ]
  split<;>omega
def finN (p:Prob) (c:List Int):FnF:=⟨p,valsS p c,winU (valsS p c) (valsS p c).length,[],[]⟩
theorem okFn_new {p:Prob} {c:List Int} (h:feasE p c=0) (h4:p.classes.length≤4):okFn (finN p c):=by
 obtain⟨h1,h2,h3⟩:=vals_good h
 exact⟨(feas_ok h).1,h4,h1,h3,rfl,fun e he=>by simp[finN] at he⟩
def newCtr (f:FuncId) (dom:Prob→Alloc→Prop) (res:Prob→Alloc→SV) (out:Prob→Alloc→SStore):OCtr where
 f:=f
 α:=Prob×Alloc
 put a:=[codP.put a.1,codA.put a.2]
 st _:=[]
 dec v o:=match v,o with
  |[v,u],[]=>match codP.dec v,codA.dec u with
   |some p,some a=>some (p,a)
   |_,_=>none
  |_,_=>none
 ok v o a h:=by
  split at h
  ·split at h
   ·rename_i h1 h2
    simp only[Option.some.injEq] at h;subst h
    exact⟨by simp only[gL,codP.ok _ _ h1,codA.ok _ _ h2],rfl⟩
   ·cases h
  ·cases h
 inj a b h _:=by
  simp only[gL,List.cons.injEq,and_true] at h
  exact Prod.ext (codP.inj _ _ h.1) (codA.inj _ _ h.2)
 dom a:=dom a.1 a.2
 res a:=res a.1 a.2
 out a:=out a.1 a.2
def newE (p:Prob) (a:Alloc):Int:=if feasE p a.chosen≠0 then feasE p a.chosen else if a.value≠valueS p a.chosen then 13 else 0
def r513:OCtr:=newCtr 6 (fun p a=>(feasE p a.chosen=0∧a.value=valueS p a.chosen)∧p.classes.length≤4∧a.chosen.length≤1000) (fun _ _=> .tup [.ptr 0 0 24,.si .i64 0]) (fun p a=>(finN p a.chosen).sto)
def r513e:OCtr:=newCtr 6 (fun p a=>newE p a≠0∧a.chosen.length≤1000) (fun p a=> .tup [.sc (.pointer none),.si .i64 (newE p a)]) (fun _ _=>[])
def Λ513 (a:Prob×Alloc):Nat→LoopAnn
 |10=> .inv (Int×Int) (fun x=>⟨[(7,.ptr 4 0 24),(49,.row (.i .i64) (valsS a.1 a.2.chosen)),(50,.si .i64 (valsS a.1 a.2.chosen).length),(51,.si .i64 x.1)],
   [.cells a.1.ss 27 20 false,.cells [.row (.i .i64) a.2.chosen,.si .i64 a.2.value] 29 2 false,.map (.i .i64) (.i .i64) false [] ([0],false) true,.map (.i .i64) .b false [] ([0],false) true,
    .cells (a.1.ss++[.row (.i .i64) (valsS a.1 a.2.chosen),.si .i64 x.2,.mp 2,.mp 3]) 70 24 false]⟩)
   (fun s=>(iS s 51,cS (.i .i64) s 4 21)) (fun x=>(0≤x.1∧x.1≤(valsS a.1 a.2.chosen).length)∧x.2=winU (valsS a.1 a.2.chosen) x.1.toNat) (fun x=>((valsS a.1 a.2.chosen).length - x.1).toNat) fun _ _=> .look
 |_=> .look
theorem h513:HoldsO Tryz.prog r513:=by
 refine conN (L:=[r100,r437,r101,r519,r330]) (W:=[]) r513 (fun _=>none) Λ513 (by simp) (by simpa using⟨h100,h437,h101,h519,h330⟩) ?_
 rintro⟨p,⟨c,v⟩⟩ ⟨⟨hf,hv⟩,h4,hc⟩
 refine vcOf (let z0:=decide (feasE p c≠(0:Int));let z1:=SV.sc (Value.pointer none);let z2:=SV.ptr 0 0 24;let z3:=SV.si .i64 0;let z4:=SV.tup [z2,z3];let z5:=decide (v≠valueS p c);let z6:=SV.ptr 4 0 24;let z7:=SId.i .i64;let z8:=if feasE p c=(0:Int) then valsS p c else[];let z9:=SV.row z7 (valsS p c);let z10:=(↑(valsS p c).length:Int);let z11:=SV.si .i64 z10;let z12:=SV.il .i64 0;let z13:=SV.si .i64 p.supply.a0;let z14:=SV.si .i64 p.supply.a1;let z15:=SV.si .i64 p.supply.a2;let z16:=SV.si .i64 p.supply.a3;let z17:=SV.si .i64 p.supply.a4;let z18:=SV.si .i64 p.supply.a5;let z19:=SV.si .i64 p.opn.a0;let z20:=SV.si .i64 p.opn.a1;let z21:=SV.si .i64 p.opn.a2;let z22:=SV.si .i64 p.opn.a3;let z23:=SV.si .i64 p.opn.a4;let z24:=SV.si .i64 p.opn.a5;let z25:=SV.si .i64 p.cls.a0;let z26:=SV.si .i64 p.cls.a1;let z27:=SV.si .i64 p.cls.a2;let z28:=SV.si .i64 p.cls.a3;let z29:=SV.si .i64 p.cls.a4;let z30:=SV.si .i64 p.cls.a5;let z31:=SV.row z7 p.classes;let z32:=SV.row SId.off p.offers;let z33:=SObj.cells [z13,z14,z15,z16,z17,z18,z19,z20,z21,z22,z23,z24,z25,z26,z27,z28,z29,z30,z31,z32] 27 20 false;let z34:=SObj.cells [SV.row z7 c,SV.si .i64 v] 29 2 false;let z35:=([0],false);let z36:=SObj.map z7 z7 false [] z35 true;let z37:=SObj.map z7 SId.b false [] z35 true;let z38:=[SV.mp 2,SV.mp 3];let z39:=[SV.mp 1,SV.mp 2];let z40:=(finN p c).p;let z41:=z40.supply;let z42:=z40.opn;let z43:=z40.cls;c.length≤9223372036854775807∧(z0=true→(SV.tup [z1,SV.si .i64 (feasE p c)]).same z4∧False)∧(z0=false→(checkE p=(0:Int)∧c.length≤9223372036854775807)∧(z5=true→(SV.tup [z1,SV.il .i64 13]).same z4∧False)∧(z5=false→c.length≤9223372036854775807∧p.offers.length≤1000000∧p.classes.length≤1000000∧(((z6.same z6∧(SV.row z7 z8).same z9∧(SV.si .i64 (↑z8.length:Int)).same z11∧z12.same z3∧True)∧z33.same z33∧z34.same z34∧z36.same z36∧z36.same z37∧(SObj.cells (z13::z14::z15::z16::z17::z18::z19::z20::z21::z22::z23::z24::z25::z26::z27::z28::z29::z30::z31::z32::SV.row z7 z8::z12::z38) 70 24 false).same (SObj.cells (z13::z14::z15::z16::z17::z18::z19::z20::z21::z22::z23::z24::z25::z26::z27::z28::z29::z30::z31::z32::z9::z3::z38) 70 24 false)∧True)∧((0:Int)≤(0:Int)∧(0:Int)≤z10)∧(0:Int)=winU (valsS p c) 0)∧∀(x:Int×Int),let z44:=x.fst.toNat;let z45:=decide (x.fst<z10);let z46:=decide ((0:Int)<nthD (valsS p c) z44 (0:Int));let z47:=(1:Int)*(2:Int)^z44;let z48:=x.fst+(1:Int);let z49:=SV.si .i64 z48;let z50:=binK.orI .i64 x.snd z47;let z51:=SObj.cells (z13::z14::z15::z16::z17::z18::z19::z20::z21::z22::z23::z24::z25::z26::z27::z28::z29::z30::z31::z32::z9::SV.si .i64 z50::z38) 70 24 false;let z52:=winU (valsS p c) z48.toNat;let z53:=SV.si .i64 x.snd;let z54:=SObj.cells (z13::z14::z15::z16::z17::z18::z19::z20::z21::z22::z23::z24::z25::z26::z27::z28::z29::z30::z31::z32::z9::z53::z38) 70 24 false;((0:Int)≤x.fst∧x.fst≤z10)∧x.snd=winU (valsS p c) z44→(z45=true→(0:Int)≤x.fst∧x.fst<(↑(valsS p c).length:Int)∧z44<(valsS p c).length∧(z46=true→(0:Int)≤x.fst∧x.fst≤(64:Int)∧inR .i64 z47∧inR .i64 z48∧((z6.same z6∧z9.same z9∧z11.same z11∧z49.same z49∧True)∧z33.same z33∧z34.same z34∧z36.same z36∧z37.same z37∧z51.same z51∧True)∧(((0:Int)≤z48∧z48≤z10)∧z50=z52)∧(z10 - z48).toNat<(z10 - x.fst).toNat)∧(z46=false→inR .i64 z48∧((z6.same z6∧z9.same z9∧z11.same z11∧z49.same z49∧True)∧z33.same z33∧z34.same z34∧z36.same z36∧z37.same z37∧z54.same z54∧True)∧(((0:Int)≤z48∧z48≤z10)∧x.snd=z52)∧(z10 - z48).toNat<(z10 - x.fst).toNat))∧(z45=false→(SV.tup [z2,z12]).same z4∧(SObj.cells (z13::z14::z15::z16::z17::z18::z19::z20::z21::z22::z23::z24::z25::z26::z27::z28::z29::z30::z31::z32::z9::z53::z39) 70 24 false).same (SObj.cells (SV.si .i64 z41.a0::SV.si .i64 z41.a1::SV.si .i64 z41.a2::SV.si .i64 z41.a3::SV.si .i64 z41.a4::SV.si .i64 z41.a5::SV.si .i64 z42.a0::SV.si .i64 z42.a1::SV.si .i64 z42.a2::SV.si .i64 z42.a3::SV.si .i64 z42.a4::SV.si .i64 z42.a5::SV.si .i64 z43.a0::SV.si .i64 z43.a1::SV.si .i64 z43.a2::SV.si .i64 z43.a3::SV.si .i64 z43.a4::SV.si .i64 z43.a5::SV.row z7 z40.classes::SV.row SId.off z40.offers::SV.row z7 (finN p c).vals::SV.si .i64 (finN p c).wins::z39) 70 24 false)∧z36.same (SObj.map z7 z7 false (finN p c).wor z35 true)∧z37.same (SObj.map z7 SId.b false (finN p c).seen z35 true)∧True)))) (by kernel_rfl) ?_
 simp only[vcs]
 have hf:feasE p c=0:=hf
 have hv:v=valueS p c:=hv
 have h4:p.classes.length≤4:=h4
 have hc:c.length≤1000:=hc
 have hg:=good_of (feas_ok hf).1
 have ho:=hg.2.1
 have hV:=(vals_good hf).1
 have hp:=pow_4 h4
 rw[if_pos hf]
 refine⟨by omega,fun h=>absurd hf h,fun _=>⟨⟨(feas_ok hf).1,by omega⟩,fun h=>absurd hv h,fun _=>⟨by omega,by omega,by omega,⟨⟨⟨rfl,rfl⟩,rfl,rfl⟩,⟨by omega,by omega⟩,rfl⟩,?_⟩⟩⟩
 rintro⟨i,s⟩ ⟨⟨i0,i1⟩,hs⟩
 simp only at i0 i1 hs
 subst hs
 have e:(i+1).toNat=i.toNat+1:=by omega
 have hsu:=@winU_succ (valsS p c) i.toNat
 have hbd:=@winU_bd (valsS p c) i.toNat
 have hp2:i.toNat<4→(2:Int)^i.toNat≤8∧0<(2:Int)^i.toNat:=fun h=>by
  have:i.toNat=0∨i.toNat=1∨i.toNat=2∨i.toNat=3:=by omega
  rcases this with h|h|h|h<;>rw[h]<;>decide
 simp only
 refine⟨fun hi=>⟨i0,hi,by omega,fun h1=>?_,fun h1=>?_⟩,fun hi=>?_⟩
 ·have h3:=hp2 (by omega)
  rw[e,hsu,if_pos h1,or_pow hbd.1 hbd.2 (by omega)]
  exact⟨i0,by omega,⟨by omega,by omega⟩,⟨by omega,by omega⟩,⟨⟨by omega,by omega⟩,rfl⟩,by omega⟩
 ·rw[e,hsu,if_neg h1]
  exact⟨⟨by omega,by omega⟩,⟨⟨by omega,by omega⟩,rfl⟩,by omega⟩
 ·rw[show i.toNat=(valsS p c).length by omega]
  repeat' refine And.intro ?_ ?_
  all_goals rfl
theorem h513e:HoldsO Tryz.prog r513e:=by
 refine conN (L:=[r100,r437,r101,r519,r330]) (W:=[]) r513e (fun _=>none) Λ513 (by simp) (by simpa using⟨h100,h437,h101,h519,h330⟩) ?_
 rintro⟨p,⟨c,v⟩⟩ ⟨hf,hc⟩
 refine vcOf (let z0:=decide (feasE p c≠(0:Int));let z1:=SV.sc (Value.pointer none);let z2:=SV.tup [z1,SV.si .i64 (newE p (Alloc.mk c v))];let z3:=decide (v≠valueS p c);let z4:=SV.ptr 4 0 24;let z5:=SId.i .i64;let z6:=if feasE p c=(0:Int) then valsS p c else[];let z7:=SV.row z5 (valsS p c);let z8:=(↑(valsS p c).length:Int);let z9:=SV.si .i64 z8;let z10:=SV.il .i64 0;let z11:=SV.si .i64 0;let z12:=SV.si .i64 p.supply.a0;let z13:=SV.si .i64 p.supply.a1;let z14:=SV.si .i64 p.supply.a2;let z15:=SV.si .i64 p.supply.a3;let z16:=SV.si .i64 p.supply.a4;let z17:=SV.si .i64 p.supply.a5;let z18:=SV.si .i64 p.opn.a0;let z19:=SV.si .i64 p.opn.a1;let z20:=SV.si .i64 p.opn.a2;let z21:=SV.si .i64 p.opn.a3;let z22:=SV.si .i64 p.opn.a4;let z23:=SV.si .i64 p.opn.a5;let z24:=SV.si .i64 p.cls.a0;let z25:=SV.si .i64 p.cls.a1;let z26:=SV.si .i64 p.cls.a2;let z27:=SV.si .i64 p.cls.a3;let z28:=SV.si .i64 p.cls.a4;let z29:=SV.si .i64 p.cls.a5;let z30:=SV.row z5 p.classes;let z31:=SV.row SId.off p.offers;let z32:=SObj.cells [z12,z13,z14,z15,z16,z17,z18,z19,z20,z21,z22,z23,z24,z25,z26,z27,z28,z29,z30,z31] 27 20 false;let z33:=SObj.cells [SV.row z5 c,SV.si .i64 v] 29 2 false;let z34:=([0],false);let z35:=SObj.map z5 z5 false [] z34 true;let z36:=SObj.map z5 SId.b false [] z34 true;let z37:=[SV.mp 2,SV.mp 3];c.length≤9223372036854775807∧(z0=true→(SV.tup [z1,SV.si .i64 (feasE p c)]).same z2∧True)∧(z0=false→(checkE p=(0:Int)∧c.length≤9223372036854775807)∧(z3=true→(SV.tup [z1,SV.il .i64 13]).same z2∧True)∧(z3=false→c.length≤9223372036854775807∧p.offers.length≤1000000∧p.classes.length≤1000000∧(((z4.same z4∧(SV.row z5 z6).same z7∧(SV.si .i64 (↑z6.length:Int)).same z9∧z10.same z11∧True)∧z32.same z32∧z33.same z33∧z35.same z35∧z35.same z36∧(SObj.cells (z12::z13::z14::z15::z16::z17::z18::z19::z20::z21::z22::z23::z24::z25::z26::z27::z28::z29::z30::z31::SV.row z5 z6::z10::z37) 70 24 false).same (SObj.cells (z12::z13::z14::z15::z16::z17::z18::z19::z20::z21::z22::z23::z24::z25::z26::z27::z28::z29::z30::z31::z7::z11::z37) 70 24 false)∧True)∧((0:Int)≤(0:Int)∧(0:Int)≤z8)∧(0:Int)=winU (valsS p c) 0)∧∀(x:Int×Int),let z38:=x.fst.toNat;let z39:=decide ((0:Int)<nthD (valsS p c) z38 (0:Int));let z40:=(1:Int)*(2:Int)^z38;let z41:=x.fst+(1:Int);let z42:=SV.si .i64 z41;let z43:=binK.orI .i64 x.snd z40;let z44:=SObj.cells (z12::z13::z14::z15::z16::z17::z18::z19::z20::z21::z22::z23::z24::z25::z26::z27::z28::z29::z30::z31::z7::SV.si .i64 z43::z37) 70 24 false;let z45:=winU (valsS p c) z41.toNat;let z46:=SObj.cells (z12::z13::z14::z15::z16::z17::z18::z19::z20::z21::z22::z23::z24::z25::z26::z27::z28::z29::z30::z31::z7::SV.si .i64 x.snd::z37) 70 24 false;((0:Int)≤x.fst∧x.fst≤z8)∧x.snd=winU (valsS p c) z38→(decide (x.fst<z8)=true→(0:Int)≤x.fst∧x.fst<(↑(valsS p c).length:Int)∧z38<(valsS p c).length∧(z39=true→(0:Int)≤x.fst∧x.fst≤(64:Int)∧inR .i64 z40∧inR .i64 z41∧((z4.same z4∧z7.same z7∧z9.same z9∧z42.same z42∧True)∧z32.same z32∧z33.same z33∧z35.same z35∧z36.same z36∧z44.same z44∧True)∧(((0:Int)≤z41∧z41≤z8)∧z43=z45)∧(z8 - z41).toNat<(z8 - x.fst).toNat)∧(z39=false→inR .i64 z41∧((z4.same z4∧z7.same z7∧z9.same z9∧z42.same z42∧True)∧z32.same z32∧z33.same z33∧z35.same z35∧z36.same z36∧z46.same z46∧True)∧(((0:Int)≤z41∧z41≤z8)∧x.snd=z45)∧(z8 - z41).toNat<(z8 - x.fst).toNat))∧(decide (x.fst<z8)=false→(SV.tup [SV.ptr 0 0 24,z10]).same z2∧False)))) (by kernel_rfl) ?_
 simp only[vcs]
 have hf:newE p ⟨c,v⟩≠0:=hf
 have hc:c.length≤1000:=hc
 unfold newE at hf ⊢
 simp only at hf ⊢
 refine⟨by omega,fun h=>by rw[if_pos h],fun h=>⟨⟨(feas_ok (Classical.not_not.1 h)).1,by omega⟩,fun h2=>by rw[if_neg h,if_pos h2],fun h2=>?_⟩⟩
 rw[if_neg h,if_neg h2] at hf
 exact absurd rfl hf
theorem sgn_pos {q:Rat}:0<sgnQ q↔0<q:=by
 unfold sgnQ
 by_cases h1:q<0
 ·rw[if_pos h1]
  have:¬0<q:=by grind
  simp[this]
 ·rw[if_neg h1]
  by_cases h2:0<q
  ·rw[if_pos h2];simp[h2]
  ·rw[if_neg h2];simp[h2]
theorem cmpQ_pos {p q:Rat}:0<cmpQ p q↔q<p:=by
 unfold cmpQ
 by_cases h1:p<q
 ·rw[if_pos h1]
  constructor
  ·intro h;omega
  ·intro h;exact absurd h1 (by grind)
 ·rw[if_neg h1]
  by_cases h2:q<p
  ·rw[if_pos h2];simp[h2]
  ·rw[if_neg h2];simp[h2]
def r414:SCtr:=⟨46,List Int,.one (codR (.i .u32)),fun a=>Dig (show List Int from a)∧(show List Int from a).length≤1000000000,fun a=> .sb (nrmB a)⟩
theorem h414:Holds Tryz.prog r414:=by
 refine con0 (L:=[r152]) r414 lk (by grind[h152]) ?_
 rintro(a:List Int) h
 refine vcOf (a.length≤1000000000000∧(SV.sb (decide ((↑(trimN a).length:Int)=(↑a.length:Int)))).same (SV.sb (nrmB a))) (by kernel_rfl) ?_
 simp only[vcs]
 obtain⟨f,d⟩:Dig a∧a.length≤1000000000:=h
 refine⟨by omega,?_⟩
 cases c:nrmB a with
 |true=>
  grind[trim_eq,natL_val,nrmB_iff]
 |false=>
  refine decide_eq_false fun b=>?_
  have e:trimN a=a:=by
   unfold trimN at b ⊢
   rw[List.length_take] at b
   exact List.take_of_length_le (by omega)
  grind[trim_val,nrmB_iff]
def r415:SCtr:=⟨47,Fra,.one (codE sF),fun x=>x.2.1.length≤1000000000,fun x=> .agg [.sb x.1,.sb (decide (x.2.1=[]))]⟩
theorem h415:Holds Tryz.prog r415:=by
 refine con0 (L:=[]) r415 lk (by simp) ?_
 rintro⟨s,n,d⟩ h
 refine vcOf ((SV.agg [SV.sb s,SV.sb (decide ((↑n.length:Int)=(0:Int)))]).same (SV.agg [SV.sb s,SV.sb (decide (n=[]))])) (by kernel_rfl) ?_
 have e:decide ((n.length:Int)=0)=decide (n=[]):=by
  simp_all
 rw[e]
 rfl
def r407:SCtr:=⟨24,Fra,.one (codE sF),fun x=>(Dig x.2.1∧Dig x.2.2)∧x.2.1.length≤10000000∧x.2.2.length≤10000000,fun x=> .sb (okF x)⟩
theorem h407:Holds Tryz.prog r407:=by
 refine con0 (L:=[r414,r415,r165g,r128,r132]) r407 lk (by grind[h414,h415,h165g,h128,h132]) ?_
 rintro⟨s,n,d⟩ ⟨⟨m,f⟩,j,k⟩
 refine vcOf (let l:=SV.sb (okF (s,n,d));let w:=decide ((↑d.length:Int)=(0:Int));let x:=s==true&&(decide (n=[])==true&&true);let p:=natL (gcdN (valN n) (valN d));let t:=natL (1:Int);(Dig n∧n.length≤1000000000)∧((!nrmB n)=true→(SV.bl false).same l)∧((!nrmB n)=false→(Dig d∧d.length≤1000000000)∧((!nrmB d)=true→(SV.bl false).same l)∧((!nrmB d)=false→(w=true→(SV.bl false).same l)∧(w=false→n.length≤1000000000∧(x=true→(SV.bl false).same l)∧(x=false→((Dig n∧Dig d)∧n.length≤1000000000∧d.length≤1000000000)∧((0:Int)≤(1:Int)∧(1:Int)<(18446744073709551616:Int))∧((Dig p∧Dig t)∧p.length≤1000000000000∧t.length≤1000000000000)∧(SV.sb (decide (cmpN (valN p) (valN t)=(0:Int)))).same l))))) (by kernel_rfl) ?_
 simp only[vcs]
 have m:Dig n:=m
 have f:Dig d:=f
 have j:n.length≤10000000:=j
 have k:d.length≤10000000:=k
 have c:¬(Nrm n∧Nrm d∧d≠[])→false=okF (s,n,d):=fun h=>by
  grind[okF_nrm]
 have e:∀{a:List Int},((a.length:Nat):Int)=0→a=[]:=fun h=>List.eq_nil_of_length_eq_zero (by omega)
 have b:∀{a:List Int},¬((a.length:Nat):Int)=0→a≠[]:=fun h i=>h (by rw[i];rfl)
 refine⟨⟨m,by omega⟩,fun u=>c fun h=>?_,fun u=>⟨⟨f,by omega⟩,fun i=>c fun h=>?_,fun i=>⟨fun o=>c fun h=>h.2.2 (e o),fun o=>⟨by omega,fun C=>?_,fun C=>?_⟩⟩⟩⟩
 ·grind[nrmB_iff]
 ·grind[nrmB_iff]
 all_goals
  have E:=okF_eq (s:=s) m f (nrmB_iff.1 u) (nrmB_iff.1 i) (b o)
  have D:=val_pos f (nrmB_iff.1 i) (b o)
  have J:=@gcdN_pos (valN n) (valN d) D
  obtain⟨H,v,A⟩:=natL_ok (show 0≤gcdN (valN n) (valN d) by omega)
  obtain⟨B,G,I⟩:=natL_ok (show(0:Int)≤1 by omega)
  have y:gcdN (valN n) (valN d)≤valN d:=by
   unfold gcdN
   have:=Nat.gcd_le_right (valN n).toNat (show 0<(valN d).toNat by omega)
   omega
  rw[E]
 ·simp_all
 ·have F:=len_of v f A (by omega)
  refine⟨⟨⟨m,f⟩,by omega,by omega⟩,by omega,⟨⟨v,G⟩,by omega,by decide⟩,?_⟩
  rw[H,B]
  have r:(cmpN (gcdN (valN n) (valN d)) 1=0)=(gcdN (valN n) (valN d)=1):=by
   grind[cmpN]
  simp only[r]
  by_cases g:n=[]
  ·rw[if_pos g]
   have z:s=false:=by
    simp_all
   have q:gcdN (valN n) (valN d)=valN d:=by
    rw[g];unfold gcdN;simp[valN];omega
   rw[q,z,Bool.not_false,Bool.true_and,decide_eq_decide]
   constructor
   ·intro h
    rw[←natL_val f (nrmB_iff.1 i),h]
    rfl
   ·intro h
    rw[h]
    rfl
  ·rw[if_neg g]
section
variable {p:Prob} {en:Int→Bool} {most:Int} {f:List Int} {s O:Srch} {a k:Int}
end
def gnQ (p:Prob) (V:List Int) (l:List Fra) (m:Int):Rat:=gainQ V l m (worthS p m)
def stpZ:Stp:=(⟨0,0⟩,(⟨0,0⟩,(false,([],[]))))
def stpM (p:Prob) (V:List Int) (l:List Fra) (m:Int):Stp:=(⟨m,worthS p m⟩,(⟨pU V m,lU V m (worthS p m)⟩,frE (gnQ p V l m)))
def bstM (p:Prob) (V:List Int) (l:List Fra):Nat→Bool×Int×Rat
 |0=>(false,0,0)
 |m+1=>let r:=bstM p V l m
  if 0<gnQ p V l m∧(r.1=false∨r.2.2<gnQ p V l m) then(true,(m:Int),gnQ p V l m) else r
def stpO (p:Prob) (V:List Int) (l:List Fra) (r:Bool×Int×Rat):Stp:=if r.1=true then stpM p V l r.2.1 else stpZ
def senM (p:Prob) (V:List Int) (l:List Fra):Nat→List (Int×Bool)→List (Int×Bool)
 |0,es=>es
 |m+1,es=>if 0<gnQ p V l m then setT (.i .i64) .b (m:Int) true (senM p V l m es) else senM p V l m es
def worM (p:Prob):Nat→List (Int×Int)→List (Int×Int)
 |0,es=>es
 |m+1,es=>worU p (worM p m es) m
def okPay (l:List Fra):Bool:=l.all okF
def fndE (x:FnF) (l:List Fra):Int:=if l.length≠x.vals.length then 3 else if okPay l=false then 2 else 0
def rawP (l:List Fra):Prop:=l.length≤9223372036854775807∧∀x∈l,(Dig x.2.1∧Dig x.2.2)∧x.2.1.length≤1000∧x.2.2.length≤1000
def nOf (x:FnF):Nat:=2^x.p.classes.length
def r514:OCtr:=finCtr 8 (List Fra) (.one (codR sF)) (fun x l=>(okFn x∧rawP l)∧fndE x l=0)
 (fun x l=> .tup [.agg (encS sStp (stpO x.p x.vals l (bstM x.p x.vals l (nOf x)))),.sb (bstM x.p x.vals l (nOf x)).1,.si .i64 0])
 (fun x l=>⟨x.p,x.vals,x.wins,worM x.p (nOf x) x.wor,senM x.p x.vals l (nOf x) x.seen⟩)
def r514e:OCtr:=finCtr 8 (List Fra) (.one (codR sF)) (fun x l=>rawP l∧fndE x l≠0)
 (fun x l=> .tup [.agg (encS sStp stpZ),.sb false,.si .i64 (fndE x l)]) (fun x _=>x)
def zStp:SObj:=.cells [.il .i64 0,.il .i64 0,.il .i64 0,.il .i64 0,.bl false,.sc (.slice none 0 0),.sc (.slice none 0 0)] 49 7 false
def Λ514 (a:FnF×List Fra):Nat→LoopAnn
 |6=> .inv Int (fun i=>⟨[(0,.ptr 0 0 24),(1,.row sF a.2),(4,.ptr 3 0 7),(29,.row sF a.2),(30,.si .i64 a.2.length),(31,.si .i64 i)],a.1.sto++[zStp]⟩)
   (fun s=>iS s 31) (fun i=>(0≤i∧i≤a.2.length)∧∀j:Nat,(j:Int)<i→okF (nthD a.2 j sF.dflt)=true) (fun i=>(a.2.length - i).toNat) fun _ _=> .look
 |14=> .inv Int (fun m=>⟨[(0,.ptr 0 0 24),(1,.row sF a.2),(4,.ptr 3 0 7),(9,.ptr 4 0 7),(10,.sb (bstM a.1.p a.1.vals a.2 m.toNat).1),(11,.si .i64 m)],
   (FnF.mk a.1.p a.1.vals a.1.wins (worM a.1.p m.toNat a.1.wor) (senM a.1.p a.1.vals a.2 m.toNat a.1.seen)).sto++[zStp,.cells (encS sStp (stpO a.1.p a.1.vals a.2 (bstM a.1.p a.1.vals a.2 m.toNat))) 49 7 false,.dead,.dead]⟩)
   (fun s=>iS s 11) (fun m=>0≤m∧m≤2^a.1.p.classes.length) (fun m=>(2^a.1.p.classes.length - m).toNat) fun m k=>match k with
   |19=> .inv (Int×Fra) (fun y=>⟨[(0,.ptr 0 0 24),(1,.row sF a.2),(4,.ptr 3 0 7),(9,.ptr 4 0 7),(10,.sb (bstM a.1.p a.1.vals a.2 m.toNat).1),(11,.si .i64 m),(12,.ptr 7 0 2),(13,.si .i64 (worthS a.1.p m)),(14,.ptr 8 0 3),
     (56,.row sF a.2),(57,.si .i64 a.2.length),(58,.si .i64 y.1)],
     (FnF.mk a.1.p a.1.vals a.1.wins (worU a.1.p (worM a.1.p m.toNat a.1.wor) m) (senM a.1.p a.1.vals a.2 m.toNat a.1.seen)).sto++[zStp,.cells (encS sStp (stpO a.1.p a.1.vals a.2 (bstM a.1.p a.1.vals a.2 m.toNat))) 49 7 false,.dead,.dead,
      .cells [.si .i64 (pU a.1.vals m),.si .i64 (lU a.1.vals m (worthS a.1.p m))] 43 2 false,fCells y.2]⟩)
     (fun s=>(iS s 58,cS sF s 8 0)) (fun y=>(0≤y.1∧y.1≤a.2.length)∧y.2=frE ((lU a.1.vals m (worthS a.1.p m):Rat) - paidQ a.2 (pU a.1.vals m) y.1.toNat)) (fun y=>(a.2.length - y.1).toNat) fun _ _=> .look
   |_=> .look
 |_=> .look
theorem bstM_succ (p:Prob) (V:List Int) (l:List Fra) (m:Nat):bstM p V l (m+1)=if 0<gnQ p V l m∧((bstM p V l m).1=false∨(bstM p V l m).2.2<gnQ p V l m) then(true,(m:Int),gnQ p V l m) else bstM p V l m:=rfl
theorem bstM_gn (p:Prob) (V:List Int) (l:List Fra):∀m,(bstM p V l m).1=true→(bstM p V l m).2.2=gnQ p V l (bstM p V l m).2.1∧0≤(bstM p V l m).2.1∧(bstM p V l m).2.1<m∧0<(bstM p V l m).2.2
 |0,h=>by cases h
 |m+1,h=>by
  rw[bstM_succ] at h ⊢
  split
  ·rename_i hc
   exact⟨rfl,by simp,by simp only;omega,hc.1⟩
  ·rename_i hc
   rw[if_neg hc] at h
   obtain⟨h1,h2,h3,h4⟩:=bstM_gn p V l m h
   exact⟨h1,h2,by omega,h4⟩
def payK (K:Nat) (l:List Fra):Prop:=l.length≤10∧∀x∈l,∃q,x=frE q∧Sz K q
theorem payK_get {K:Nat} {l:List Fra} (h:payK K l) {n:Nat} (hn:n<l.length):∃q,nthD l n sF.dflt=frE q∧Sz K q:=h.2 _ (nthD_mem hn)
theorem paidK_sz {K:Nat} {l:List Fra} {m:Int} (h:payK K l):∀{n:Nat},n≤l.length→Sz (1+(K+1)*n) (paidQ l m n)
 |0,_=>by simpa[paidQ] using sz_zero
 |n+1,hn=>by
  have h1:=@paidK_sz K l m h n (by omega)
  obtain⟨q,hq,hs⟩:=payK_get h (show n<l.length by omega)
  rw[paidQ_succ,Nat.mul_succ]
  split
  ·rw[hq,valF_frE]
   exact(sz_add h1 hs).mono (by omega)
  ·exact h1.mono (by omega)
theorem okK_sz {K:Nat} {x:Fra} (h:okF x=true) (h1:Dig x.2.1) (h2:Dig x.2.2) (l1:x.2.1.length≤K) (l2:x.2.2.length≤K):x=frE (valF x)∧Sz K (valF x):=by
 have e:=of_decide_eq_true h
 refine⟨e.symm,?_⟩
 have e1:natL ((valF x).num.natAbs:Int)=x.2.1:=congrArg (fun x=>x.2.1) e
 have e2:natL ((valF x).den:Int)=x.2.2:=congrArg (fun x=>x.2.2) e
 have v1:=(natL_ok (show(0:Int)≤((valF x).num.natAbs:Int) by omega)).1
 have v2:=(natL_ok (show(0:Int)≤((valF x).den:Int) by omega)).1
 rw[e1] at v1
 rw[e2] at v2
 have b1:=lt_of_len h1 l1
 have b2:=lt_of_len h2 l2
 unfold Sz
 rw[←v1,←v2]
 exact⟨b1,b2⟩
theorem rawP_pay {l:List Fra} (h:rawP l) (hl:l.length≤10) (ho:okPay l=true):payK 1000 l:=by
 refine⟨hl,fun x hx=>?_⟩
 obtain⟨⟨h1,h2⟩,h3,h4⟩:=h.2 x hx
 have:=List.all_eq_true.1 ho x hx
 exact⟨_,(okK_sz this h1 h2 h3 h4).1,(okK_sz this h1 h2 h3 h4).2⟩
theorem lU_sz {x:FnF} (hx:okFn x) (m:Int): -9000000000000000≤lU x.vals m (worthS x.p m)∧lU x.vals m (worthS x.p m)≤9000000000000000:=by
 have h:=@leastU_bd x.vals m (worthS x.p m) hx.v x.vals.length (by omega)
 have h2:=worth_bd x.p m
 have h3:=hx.l
 have h4:=hx.n4
 unfold lU
 omega
theorem gp_sz {K:Nat} {x:FnF} (hx:okFn x) {l:List Fra} (hl:payK K l) (m:Int) {n:Nat} (hn:n≤l.length):Sz (2+(1+(K+1)*n)+1) ((lU x.vals m (worthS x.p m):Rat) - paidQ l (pU x.vals m) n):=by
 have h:=lU_sz hx m
 have hW:Sz 2 (lU x.vals m (worthS x.p m):Rat):=by
  unfold Sz
  simp
  omega
 rw[Rat.sub_eq_add_neg]
 exact sz_add hW (sz_neg (paidK_sz hl hn))
theorem gn_isF {x:FnF} (hx:okFn x) {l:List Fra} (hl:payK 1000 l) (m:Int):isF (frE (gnQ x.p x.vals l m)):=
 ⟨_,_,rfl,gp_sz hx hl m (Nat.le_refl _),by have:=hl.1;omega⟩
theorem worM_k {p:Prob} {es:List (Int×Int)} (h:∀e∈es,e.2=worthS p e.1):∀m,∀e∈worM p m es,e.2=worthS p e.1
 |0=>h
 |m+1=>by
  have ih:=worM_k h m
  have hs:∀{es:List (Int×Int)} {k:Int},(∀e∈es,e.2=worthS p e.1)→∀e∈setT (.i .i64) (.i .i64) k (worthS p k) es,e.2=worthS p e.1:=by
   intro es k
   induction es with
   |nil=>intro _ e he;simp[setT] at he;subst he;rfl
   |cons q es ih=>
    intro h e he
    unfold setT at he
    split at he
    ·rcases List.mem_cons.1 he with rfl|he
     ·rfl
     ·exact h e (by simp[he])
    ·rcases List.mem_cons.1 he with rfl|he
     ·exact h _ (by simp)
     ·exact ih (fun e he=>h e (by simp[he])) e he
  show ∀e∈worU p (worM p m es) m,_
  unfold worU
  split
  ·exact ih
  ·exact hs ih
theorem okFn_st {x:FnF} (hx:okFn x) (l:List Fra) (m:Nat):okFn ⟨x.p,x.vals,x.wins,worM x.p m x.wor,senM x.p x.vals l m x.seen⟩:=⟨hx.c,hx.n4,hx.l,hx.v,hx.w,worM_k hx.k m⟩
theorem fnd_ok {x:FnF} {l:List Fra} (h:fndE x l=0):l.length=x.vals.length∧okPay l=true:=by
 unfold fndE at h
 split at h
 ·cases h
 ·rename_i h1
  split at h
  ·cases h
  ·rename_i h2
   exact⟨Classical.not_not.1 h1,by simpa using h2⟩
theorem h514:HoldsO Tryz.prog r514:=by
 refine conO (L:=[r407,r94,r95,r99,r97]) (W:=[r520]) r514 Λ514 (by simpa using h520) (by simpa using⟨h407,h94,h95,h99,h97⟩) ?_
 rintro⟨x,l⟩ ⟨⟨hx,hl⟩,hz⟩
 refine vcOf (let z0:=(↑l.length:Int);let z1:=decide (z0≠(↑x.vals.length:Int));let z2:=SV.il .i64 0;let z3:=SV.bl false;let z4:=SId.i .u32;let z5:=[z2,z2,z2,z2,z3,SV.row z4 [],SV.row z4 []];let z6:=bstM x.p x.vals l (nOf x);let z7:=stpO x.p x.vals l z6;let z8:=SV.si .i64 0;let z9:=SV.tup [SV.agg [SV.si .i64 z7.fst.payers,SV.si .i64 z7.fst.least,SV.si .i64 z7.snd.fst.payers,SV.si .i64 z7.snd.fst.least,SV.sb z7.snd.snd.fst,SV.row z4 z7.snd.snd.snd.fst,SV.row z4 z7.snd.snd.snd.snd],SV.sb z6.fst,z8];let z10:=SId.i .i64;let z11:=SObj.cells [SV.si .i64 x.p.supply.a0,SV.si .i64 x.p.supply.a1,SV.si .i64 x.p.supply.a2,SV.si .i64 x.p.supply.a3,SV.si .i64 x.p.supply.a4,SV.si .i64 x.p.supply.a5,SV.si .i64 x.p.opn.a0,SV.si .i64 x.p.opn.a1,SV.si .i64 x.p.opn.a2,SV.si .i64 x.p.opn.a3,SV.si .i64 x.p.opn.a4,SV.si .i64 x.p.opn.a5,SV.si .i64 x.p.cls.a0,SV.si .i64 x.p.cls.a1,SV.si .i64 x.p.cls.a2,SV.si .i64 x.p.cls.a3,SV.si .i64 x.p.cls.a4,SV.si .i64 x.p.cls.a5,SV.row z10 x.p.classes,SV.row SId.off x.p.offers,SV.row z10 x.vals,SV.si .i64 x.wins,SV.mp 1,SV.mp 2] 70 24 false;let z12:=([0],false);let z13:=SObj.map z10 z10 false x.wor z12 true;let z14:=SObj.map z10 z10 false (worM x.p (nOf x) x.wor) z12 true;let z15:=SObj.map z10 SId.b false x.seen z12 true;let z16:=SObj.map z10 SId.b false (senM x.p x.vals l (nOf x) x.seen) z12 true;let z17:=SV.ptr 0 0 24;let z18:=SV.ptr 3 0 7;let z19:=(↑l.length:Int);let z20:=SV.si .i64 z19;let z21:=SV.sc (Value.slice none 0 0);let z22:=SObj.cells [z2,z2,z2,z2,z3,z21,z21] 49 7 false;let z23:=SV.ptr 4 0 7;let z24:=bstM x.p x.vals l 0;let z25:=stpO x.p x.vals l z24;let z26:=(2:Int)^x.p.classes.length;let z27:=(1:Int)*(2:Int)^z0.toNat;let z28:=SV.ptr 7 0 2;let z29:=SV.ptr 8 0 3;(z1=true→0=0∧0=0∧(SV.tup [SV.agg z5,z3,SV.il .i64 3]).same z9∧z11.same z11∧z13.same z14∧z15.same z16∧True)∧(z1=false→(((z17.same z17∧(SV.row sF l).same (SV.row sF l)∧z18.same z18∧(SV.row sF l).same (SV.row sF l)∧(SV.si .i64 z0).same z20∧z2.same z8∧True)∧z11.same z11∧z13.same z13∧z15.same z15∧z22.same z22∧True)∧((0:Int)≤(0:Int)∧(0:Int)≤z19)∧∀(j:Nat),(↑j:Int)<(0:Int)→okF (nthD l j sF.dflt)=true)∧∀(x_1:Int),let z30:=nthD l x_1.toNat sF.dflt;let z31:=!okF (z30.fst,z30.snd.fst,z30.snd.snd);let z32:=x_1+(1:Int);let z33:=SV.si .i64 z32;(((0:Int)≤x_1∧x_1≤z19)∧∀(j:Nat),(↑j:Int)<x_1→okF (nthD l j sF.dflt)=true)→(decide (x_1<z19)=true→(0:Int)≤x_1∧x_1<z0∧x_1.toNat<l.length∧((Dig z30.snd.fst∧Dig z30.snd.snd)∧List.length z30.snd.fst≤10000000∧List.length z30.snd.snd≤10000000)∧(z31=true→0=0∧0=0∧(SV.tup [SV.agg z5,z3,SV.il .i64 2]).same z9∧z11.same z11∧z13.same z14∧z15.same z16∧True)∧(z31=false→inR .i64 z32∧((z17.same z17∧(SV.row sF l).same (SV.row sF l)∧z18.same z18∧(SV.row sF l).same (SV.row sF l)∧z20.same z20∧z33.same z33∧True)∧z11.same z11∧z13.same z13∧z15.same z15∧z22.same z22∧True)∧(((0:Int)≤z32∧z32≤z19)∧∀(j:Nat),(↑j:Int)<z32→okF (nthD l j sF.dflt)=true)∧(z19 - z32).toNat<(z19 - x_1).toNat))∧(decide (x_1<z19)=false→0=0∧0=0∧(((z17.same z17∧(SV.row sF l).same (SV.row sF l)∧z18.same z18∧z23.same z23∧z3.same (SV.sb z24.fst)∧z2.same z8∧True)∧z11.same z11∧z13.same (SObj.map z10 z10 false (worM x.p 0 x.wor) z12 true)∧z15.same (SObj.map z10 SId.b false (senM x.p x.vals l 0 x.seen) z12 true)∧z22.same z22∧(SObj.cells z5 49 7 false).same (SObj.cells [SV.si .i64 z25.fst.payers,SV.si .i64 z25.fst.least,SV.si .i64 z25.snd.fst.payers,SV.si .i64 z25.snd.fst.least,SV.sb z25.snd.snd.fst,SV.row z4 z25.snd.snd.snd.fst,SV.row z4 z25.snd.snd.snd.snd] 49 7 false)∧SObj.dead.same SObj.dead∧SObj.dead.same SObj.dead∧True)∧(0:Int)≤(0:Int)∧(0:Int)≤z26)∧∀(x_2:Int),let z34:=worM x.p x_2.toNat x.wor;let z35:=senM x.p x.vals l x_2.toNat x.seen;let z36:=lU x.vals x_2 (worthS x.p x_2);let z37:=bstM x.p x.vals l x_2.toNat;let z38:=SV.sb z37.fst;let z39:=SV.si .i64 x_2;let z40:=SV.si .i64 (worthS x.p x_2);let z41:=SObj.map z10 z10 false (worU x.p z34 x_2) z12 true;let z42:=SObj.map z10 SId.b false z35 z12 true;let z43:=stpO x.p x.vals l z37;let z44:=[SV.si .i64 z43.fst.payers,SV.si .i64 z43.fst.least,SV.si .i64 z43.snd.fst.payers,SV.si .i64 z43.snd.fst.least,SV.sb z43.snd.snd.fst,SV.row z4 z43.snd.snd.snd.fst,SV.row z4 z43.snd.snd.snd.snd];let z45:=SObj.cells z44 49 7 false;let z46:=pU x.vals x_2;let z47:=SV.si .i64 z46;let z48:=SV.si .i64 z36;let z49:=SObj.cells [z47,z48] 43 2 false;let z50:=IntCast.intCast z36;let z51:=SObj.cells [SV.sb (frE z50).fst,SV.row z4 (frE z50).snd.fst,SV.row z4 (frE z50).snd.snd] 47 3 false;let z52:=x_2+(1:Int);let z53:=bstM x.p x.vals l z52.toNat;let z54:=SV.si .i64 z52;let z55:=SObj.map z10 SId.b false (senM x.p x.vals l z52.toNat x.seen) z12 true;let z56:=stpO x.p x.vals l z53;let z57:=SObj.cells [SV.si .i64 z56.fst.payers,SV.si .i64 z56.fst.least,SV.si .i64 z56.snd.fst.payers,SV.si .i64 z56.snd.fst.least,SV.sb z56.snd.snd.fst,SV.row z4 z56.snd.snd.snd.fst,SV.row z4 z56.snd.snd.snd.snd] 49 7 false;let z58:=(z43.snd.snd.fst,z43.snd.snd.snd.fst,z43.snd.snd.snd.snd);(0:Int)≤x_2∧x_2≤z26→(0:Int)≤z0∧z0≤(64:Int)∧inR .i64 z27∧(decide (x_2<z27)=true→(okFn (FnF.mk x.p x.vals x.wins z34 z35)∧(0:Int)≤x_2∧x_2<z26)∧((-9223372036854775808:Int)≤z36∧z36≤(9223372036854775807:Int))∧(((z17.same z17∧(SV.row sF l).same (SV.row sF l)∧z18.same z18∧z23.same z23∧z38.same z38∧z39.same z39∧z28.same z28∧z40.same z40∧z29.same z29∧(SV.row sF l).same (SV.row sF l)∧(SV.si .i64 z0).same z20∧z2.same z8∧True)∧z11.same z11∧z41.same z41∧z42.same z42∧z22.same z22∧z45.same z45∧SObj.dead.same SObj.dead∧SObj.dead.same SObj.dead∧z49.same z49∧z51.same z51∧True)∧((0:Int)≤(0:Int)∧(0:Int)≤z19)∧((frE z50).fst,(frE z50).snd.fst,(frE z50).snd.snd)=frE (z50 - paidQ l z46 0))∧∀(x_3:Int×Fra),let z59:=x_3.fst.toNat;let z60:=decide (x_3.fst<z19);let z61:=decide (binK.andI .i64 (z46 / (2:Int)^z59) (1:Int)=(1:Int));let z62:=(x_3.snd.fst,x_3.snd.snd.fst,x_3.snd.snd.snd);let z63:=(nthD l z59 sF.dflt).snd;let z64:=((nthD l z59 sF.dflt).fst,z63.fst,z63.snd);let z65:=x_3.fst+(1:Int);let z66:=SV.si .i64 z65;let z67:=frE (valF z62 - valF z64);let z68:=SObj.cells [SV.sb z67.fst,SV.row z4 z67.snd.fst,SV.row z4 z67.snd.snd] 47 3 false;let z69:=frE (z50 - paidQ l z46 z65.toNat);let z70:=[SV.sb x_3.snd.fst,SV.row z4 x_3.snd.snd.fst,SV.row z4 x_3.snd.snd.snd];let z71:=SObj.cells z70 47 3 false;let z72:=decide (sgnQ (valF z62)≤(0:Int));let z73:=decide ((0:Int)<cmpQ (valF z62) (valF z58));((0:Int)≤x_3.fst∧x_3.fst≤z19)∧x_3.snd=frE (z50 - paidQ l z46 z59)→(z60=true→(0:Int)≤x_3.fst∧x_3.fst<z0∧z59<l.length∧(0:Int)≤x_3.fst∧x_3.fst≤(64:Int)∧(z61=true→(isF z62∧isF z64)∧inR .i64 z65∧((z17.same z17∧(SV.row sF l).same (SV.row sF l)∧z18.same z18∧z23.same z23∧z38.same z38∧z39.same z39∧z28.same z28∧z40.same z40∧z29.same z29∧(SV.row sF l).same (SV.row sF l)∧z20.same z20∧z66.same z66∧True)∧z11.same z11∧z41.same z41∧z42.same z42∧z22.same z22∧z45.same z45∧SObj.dead.same SObj.dead∧SObj.dead.same SObj.dead∧z49.same z49∧z68.same z68∧True)∧(((0:Int)≤z65∧z65≤z19)∧(z67.fst,z67.snd.fst,z67.snd.snd)=z69)∧(z19 - z65).toNat<(z19 - x_3.fst).toNat)∧(z61=false→inR .i64 z65∧((z17.same z17∧(SV.row sF l).same (SV.row sF l)∧z18.same z18∧z23.same z23∧z38.same z38∧z39.same z39∧z28.same z28∧z40.same z40∧z29.same z29∧(SV.row sF l).same (SV.row sF l)∧z20.same z20∧z66.same z66∧True)∧z11.same z11∧z41.same z41∧z42.same z42∧z22.same z22∧z45.same z45∧SObj.dead.same SObj.dead∧SObj.dead.same SObj.dead∧z49.same z49∧z71.same z71∧True)∧(((0:Int)≤z65∧z65≤z19)∧z62=z69)∧(z19 - z65).toNat<(z19 - x_3.fst).toNat))∧(z60=false→isF z62∧(z72=true→inR .i64 z52∧((z17.same z17∧(SV.row sF l).same (SV.row sF l)∧z18.same z18∧z23.same z23∧z38.same (SV.sb z53.fst)∧z54.same z54∧True)∧z11.same z11∧z41.same (SObj.map z10 z10 false (worM x.p z52.toNat x.wor) z12 true)∧z42.same z55∧z22.same z22∧z45.same z57∧SObj.dead.same SObj.dead∧SObj.dead.same SObj.dead∧True)∧((0:Int)≤z52∧z52≤z26)∧(z26 - z52).toNat<(z26 - x_2).toNat)∧(z72=false→((!z37.fst)=true→inR .i64 z52∧((z17.same z17∧(SV.row sF l).same (SV.row sF l)∧z18.same z18∧z23.same z23∧(SV.bl true).same (SV.sb z53.fst)∧z54.same z54∧True)∧z11.same z11∧z41.same (SObj.map z10 z10 false (worM x.p z52.toNat x.wor) z12 true)∧(SObj.map z10 SId.b false (setT z10 SId.b x_2 true z35) z12 true).same z55∧z22.same z22∧(SObj.cells (z39::z40::z47::z48::z70) 49 7 false).same z57∧SObj.dead.same SObj.dead∧SObj.dead.same SObj.dead∧True)∧((0:Int)≤z52∧z52≤z26)∧(z26 - z52).toNat<(z26 - x_2).toNat)∧((!z37.fst)=false→(isF z62∧isF z58)∧(z73=true→inR .i64 z52∧((z17.same z17∧(SV.row sF l).same (SV.row sF l)∧z18.same z18∧z23.same z23∧(SV.bl true).same (SV.sb z53.fst)∧z54.same z54∧True)∧z11.same z11∧z41.same (SObj.map z10 z10 false (worM x.p z52.toNat x.wor) z12 true)∧(SObj.map z10 SId.b false (setT z10 SId.b x_2 true z35) z12 true).same z55∧z22.same z22∧(SObj.cells (z39::z40::z47::z48::z70) 49 7 false).same z57∧SObj.dead.same SObj.dead∧SObj.dead.same SObj.dead∧True)∧((0:Int)≤z52∧z52≤z26)∧(z26 - z52).toNat<(z26 - x_2).toNat)∧(z73=false→inR .i64 z52∧((z17.same z17∧(SV.row sF l).same (SV.row sF l)∧z18.same z18∧z23.same z23∧z38.same (SV.sb z53.fst)∧z54.same z54∧True)∧z11.same z11∧z41.same (SObj.map z10 z10 false (worM x.p z52.toNat x.wor) z12 true)∧(SObj.map z10 SId.b false (setT z10 SId.b x_2 true z35) z12 true).same z55∧z22.same z22∧z45.same z57∧SObj.dead.same SObj.dead∧SObj.dead.same SObj.dead∧True)∧((0:Int)≤z52∧z52≤z26)∧(z26 - z52).toNat<(z26 - x_2).toNat)))))∧(decide (x_2<z27)=false→(SV.tup [SV.agg z44,z38,z2]).same z9∧z11.same z11∧(SObj.map z10 z10 false z34 z12 true).same z14∧z42.same z16∧True)))) (by kernel_rfl) ?_
 simp only[vcs]
 have hx:okFn x:=hx
 have hl:rawP l:=hl
 have hz:fndE x l=0:=hz
 obtain⟨hln,hok⟩:=fnd_ok hz
 have h4:=hx.n4
 have hV:=hx.l
 have hp:=rawP_pay hl (by omega) hok
 have hok2:∀x∈l,okF x=true:=List.all_eq_true.1 hok
 have h16:=pow_4 h4
 have e2:(1:Int)*2^((l.length:Int)).toNat=2^x.p.classes.length:=by rw[Int.one_mul,Int.toNat_natCast,hln,hV]
 rw[e2]
 refine⟨fun h=>absurd (by omega) h,fun _=>⟨⟨⟨by omega,by omega⟩,fun j hj=>by omega⟩,?_⟩⟩
 rintro i ⟨⟨i0,i1⟩,hi⟩
 refine⟨fun hlt=>?_,fun hge=>?_⟩
 ·have hm:=nthD_mem (d:=sF.dflt) (show i.toNat<l.length by omega)
  obtain⟨⟨d1,d2⟩,d3,d4⟩:=hl.2 _ hm
  have ho:=hok2 _ hm
  refine⟨i0,hlt,by omega,⟨⟨d1,d2⟩,by omega,by omega⟩,fun h=>?_,fun _=>⟨⟨by omega,by omega⟩,⟨⟨by omega,by omega⟩,fun j hj=>?_⟩,by omega⟩⟩
  ·exact absurd (ho.symm.trans h) (by decide)
  ·by_cases hji:(j:Int)<i
   ·exact hi j hji
   ·rw[show j=i.toNat by omega];exact ho
 clear hi
 refine⟨⟨⟨rfl,rfl,rfl,rfl⟩,by omega,by omega⟩,?_⟩
 rintro m ⟨m0,m1⟩
 obtain⟨m,rfl⟩:∃k:Nat,m=k:=⟨m.toNat,by omega⟩
 have eM:((m:Int)+1).toNat=m+1:=by omega
 have eN:((m:Int)).toNat=m:=by omega
 rw[eM,eN]
 have hlb:=lU_sz hx m
 refine⟨by omega,by omega,⟨by omega,by omega⟩,fun hlt=>⟨⟨okFn_st hx l m,m0,hlt⟩,⟨by omega,by omega⟩,⟨⟨by omega,by omega⟩,?_⟩,?_⟩,fun hge=>?_⟩
 ·have e0:(lU x.vals m (worthS x.p m):Rat) - paidQ l (pU x.vals m) 0=(lU x.vals m (worthS x.p m):Rat):=by
   simp[paidQ,Rat.sub_eq_add_neg,Rat.add_zero]
  rw[e0]
 ·have hbst:=bstM_succ x.p x.vals l m
  have hgn:=bstM_gn x.p x.vals l m
  have hgF:=gn_isF hx hp m
  have hpb:=(@win_not x.vals m (by omega) m0 (by omega))
  have hP:=@payU_bd x.vals m x.vals.length
  rintro⟨i,s⟩ ⟨⟨i0,i1⟩,hs⟩
  simp only at i0 i1 hs
  subst hs
  simp only
  have e:(i+1).toNat=i.toNat+1:=by omega
  have ei:((i.toNat:Nat):Int)=i:=by omega
  refine⟨fun hi=>?_,fun hi=>?_⟩
  ·have hsu:=@paidQ_succ l (pU x.vals m) i.toNat
   rw[ei] at hsu
   have hp0:0≤pU x.vals m:=hP.1
   have hp1:pU x.vals m<2^x.vals.length:=hP.2
   rw[hV] at hp1
   obtain⟨n0,n1⟩:=half_nn (i:=i.toNat) hp0
   have ha:binK.andI .i64 (pU x.vals m / 2^i.toNat) 1=pU x.vals m / 2^i.toNat % 2:=and_one n0 (by omega)
   have hI:hasI (pU x.vals m) i=decide (pU x.vals m / 2^i.toNat % 2=1):=rfl
   have hD:=gp_sz hx hp m (n:=i.toNat) (by omega)
   have hll:=hp.1
   rw[ha,e]
   refine⟨i0,hi,by omega,i0,by omega,fun h1=>?_,fun h1=>?_⟩
   ·obtain⟨q,hq,hsz⟩:=payK_get hp (show i.toNat<l.length by omega)
    rw[if_pos (by rw[hI];exact decide_eq_true h1)] at hsu
    have e1:valF ((frE ((lU x.vals m (worthS x.p m):Rat) - paidQ l (pU x.vals m) i.toNat)).1,(frE ((lU x.vals m (worthS x.p m):Rat) - paidQ l (pU x.vals m) i.toNat)).2.1,(frE ((lU x.vals m (worthS x.p m):Rat) - paidQ l (pU x.vals m) i.toNat)).2.2) - valF ((nthD l i.toNat sF.dflt).1,(nthD l i.toNat sF.dflt).2.1,(nthD l i.toNat sF.dflt).2.2)=(lU x.vals m (worthS x.p m):Rat) - paidQ l (pU x.vals m) (i.toNat+1):=by
     rw[hsu]
     show valF (frE _) - valF (nthD l i.toNat sF.dflt)=_
     rw[valF_frE]
     grind
    refine⟨⟨⟨_,_,rfl,hD,by omega⟩,⟨q,1000,hq,hsz,by omega⟩⟩,?_⟩
    rw[e1]
    exact⟨⟨by omega,by omega⟩,⟨⟨by omega,by omega⟩,rfl⟩,by omega⟩
   ·rw[if_neg (by rw[hI];simpa using h1)] at hsu
    rw[hsu]
    exact⟨⟨by omega,by omega⟩,⟨⟨by omega,by omega⟩,rfl⟩,by omega⟩
  ·have eg:(lU x.vals m (worthS x.p m):Rat) - paidQ l (pU x.vals m) i.toNat=gnQ x.p x.vals l m:=by
    rw[show i.toNat=l.length by omega]
    rfl
   rw[eg]
   have ev:valF ((frE (gnQ x.p x.vals l m)).1,(frE (gnQ x.p x.vals l m)).2.1,(frE (gnQ x.p x.vals l m)).2.2)=gnQ x.p x.vals l m:=valF_frE _
   rw[ev]
   have hsp:=@sgn_pos (gnQ x.p x.vals l m)
   have hse:senM x.p x.vals l (m+1) x.seen=if 0<gnQ x.p x.vals l m then setT (.i .i64) .b (m:Int) true (senM x.p x.vals l m x.seen) else senM x.p x.vals l m x.seen:=rfl
   refine⟨hgF,fun h1=>?_,fun h1=>?_⟩
   ·have hng:¬0<gnQ x.p x.vals l m:=fun h=>by have:=hsp.2 h;omega
    rw[if_neg (fun h=>hng h.1)] at hbst
    rw[if_neg hng] at hse
    rw[hbst,hse]
    exact⟨⟨by omega,by omega⟩,⟨rfl,rfl,rfl,rfl⟩,⟨by omega,by omega⟩,by omega⟩
   ·have hg:0<gnQ x.p x.vals l m:=hsp.1 (by omega)
    rw[if_pos hg] at hse
    rw[hse]
    refine⟨fun h2=>?_,fun h2=>?_⟩
    ·rw[if_pos ⟨hg,.inl h2⟩] at hbst
     rw[hbst]
     exact⟨⟨by omega,by omega⟩,⟨rfl,rfl,rfl,rfl⟩,⟨by omega,by omega⟩,by omega⟩
    ·obtain⟨g1,g2,g3,g4⟩:=hgn h2
     have est:stpO x.p x.vals l (bstM x.p x.vals l m)=stpM x.p x.vals l (bstM x.p x.vals l m).2.1:=by unfold stpO;rw[if_pos h2]
     have esF:((stpO x.p x.vals l (bstM x.p x.vals l m)).2.2.1,(stpO x.p x.vals l (bstM x.p x.vals l m)).2.2.2.1,(stpO x.p x.vals l (bstM x.p x.vals l m)).2.2.2.2)=frE (gnQ x.p x.vals l (bstM x.p x.vals l m).2.1):=by rw[est];rfl
     rw[esF,valF_frE,←g1]
     have hcp:=@cmpQ_pos (gnQ x.p x.vals l m) (bstM x.p x.vals l m).2.2
     refine⟨⟨hgF,by rw[g1];exact gn_isF hx hp _⟩,fun h3=>?_,fun h3=>?_⟩
     ·rw[if_pos ⟨hg,.inr (hcp.1 h3)⟩] at hbst
      rw[hbst]
      exact⟨⟨by omega,by omega⟩,⟨rfl,rfl,rfl,rfl⟩,⟨by omega,by omega⟩,by omega⟩
     ·rw[if_neg (fun h=>by
       rcases h.2 with h|h
       ·rw[h2] at h;cases h
       ·exact h3 (hcp.2 h))] at hbst
      rw[hbst]
      exact⟨⟨by omega,by omega⟩,⟨rfl,rfl,rfl,rfl⟩,⟨by omega,by omega⟩,by omega⟩
 ·have en:nOf x=m:=by
   unfold nOf
   have:((2^x.p.classes.length:Nat):Int)=2^x.p.classes.length:=by simp
   omega
  rw[en]
  exact⟨⟨rfl,rfl⟩,rfl,rfl⟩
theorem h514e:HoldsO Tryz.prog r514e:=by
 refine conO (L:=[r407,r94,r95,r99,r97]) (W:=[r520]) r514e Λ514 (by simpa using h520) (by simpa using⟨h407,h94,h95,h99,h97⟩) ?_
 rintro⟨x,l⟩ ⟨hl,hz⟩
 refine vcOf (let z0:=(↑l.length:Int);let z1:=decide (z0≠(↑x.vals.length:Int));let z2:=SV.il .i64 0;let z3:=SV.bl false;let z4:=SId.i .u32;let z5:=[z2,z2,z2,z2,z3,SV.row z4 [],SV.row z4 []];let z6:=SV.tup [SV.agg [SV.si .i64 stpZ.fst.payers,SV.si .i64 stpZ.fst.least,SV.si .i64 stpZ.snd.fst.payers,SV.si .i64 stpZ.snd.fst.least,SV.sb stpZ.snd.snd.fst,SV.row z4 stpZ.snd.snd.snd.fst,SV.row z4 stpZ.snd.snd.snd.snd],SV.sb false,SV.si .i64 (fndE x l)];let z7:=SId.i .i64;let z8:=SObj.cells [SV.si .i64 x.p.supply.a0,SV.si .i64 x.p.supply.a1,SV.si .i64 x.p.supply.a2,SV.si .i64 x.p.supply.a3,SV.si .i64 x.p.supply.a4,SV.si .i64 x.p.supply.a5,SV.si .i64 x.p.opn.a0,SV.si .i64 x.p.opn.a1,SV.si .i64 x.p.opn.a2,SV.si .i64 x.p.opn.a3,SV.si .i64 x.p.opn.a4,SV.si .i64 x.p.opn.a5,SV.si .i64 x.p.cls.a0,SV.si .i64 x.p.cls.a1,SV.si .i64 x.p.cls.a2,SV.si .i64 x.p.cls.a3,SV.si .i64 x.p.cls.a4,SV.si .i64 x.p.cls.a5,SV.row z7 x.p.classes,SV.row SId.off x.p.offers,SV.row z7 x.vals,SV.si .i64 x.wins,SV.mp 1,SV.mp 2] 70 24 false;let z9:=([0],false);let z10:=SObj.map z7 z7 false x.wor z9 true;let z11:=SObj.map z7 SId.b false x.seen z9 true;let z12:=SV.ptr 0 0 24;let z13:=SV.ptr 3 0 7;let z14:=(↑l.length:Int);let z15:=SV.si .i64 z14;let z16:=SV.sc (Value.slice none 0 0);let z17:=SObj.cells [z2,z2,z2,z2,z3,z16,z16] 49 7 false;let z18:=SV.ptr 4 0 7;let z19:=bstM x.p x.vals l 0;let z20:=stpO x.p x.vals l z19;let z21:=(2:Int)^x.p.classes.length;let z22:=(1:Int)*(2:Int)^z0.toNat;let z23:=SV.ptr 7 0 2;let z24:=SV.ptr 8 0 3;(z1=true→0=0∧0=0∧(SV.tup [SV.agg z5,z3,SV.il .i64 3]).same z6∧z8.same z8∧z10.same z10∧z11.same z11∧True)∧(z1=false→(((z12.same z12∧(SV.row sF l).same (SV.row sF l)∧z13.same z13∧(SV.row sF l).same (SV.row sF l)∧(SV.si .i64 z0).same z15∧z2.same (SV.si .i64 0)∧True)∧z8.same z8∧z10.same z10∧z11.same z11∧z17.same z17∧True)∧((0:Int)≤(0:Int)∧(0:Int)≤z14)∧∀(j:Nat),(↑j:Int)<(0:Int)→okF (nthD l j sF.dflt)=true)∧∀(x_1:Int),let z25:=nthD l x_1.toNat sF.dflt;let z26:=!okF (z25.fst,z25.snd.fst,z25.snd.snd);let z27:=x_1+(1:Int);let z28:=SV.si .i64 z27;(((0:Int)≤x_1∧x_1≤z14)∧∀(j:Nat),(↑j:Int)<x_1→okF (nthD l j sF.dflt)=true)→(decide (x_1<z14)=true→(0:Int)≤x_1∧x_1<z0∧x_1.toNat<l.length∧((Dig z25.snd.fst∧Dig z25.snd.snd)∧List.length z25.snd.fst≤10000000∧List.length z25.snd.snd≤10000000)∧(z26=true→0=0∧0=0∧(SV.tup [SV.agg z5,z3,SV.il .i64 2]).same z6∧z8.same z8∧z10.same z10∧z11.same z11∧True)∧(z26=false→inR .i64 z27∧((z12.same z12∧(SV.row sF l).same (SV.row sF l)∧z13.same z13∧(SV.row sF l).same (SV.row sF l)∧z15.same z15∧z28.same z28∧True)∧z8.same z8∧z10.same z10∧z11.same z11∧z17.same z17∧True)∧(((0:Int)≤z27∧z27≤z14)∧∀(j:Nat),(↑j:Int)<z27→okF (nthD l j sF.dflt)=true)∧(z14 - z27).toNat<(z14 - x_1).toNat))∧(decide (x_1<z14)=false→0=0∧0=0∧(((z12.same z12∧(SV.row sF l).same (SV.row sF l)∧z13.same z13∧z18.same z18∧z3.same (SV.sb z19.fst)∧z2.same (SV.si .i64 0)∧True)∧z8.same z8∧z10.same (SObj.map z7 z7 false (worM x.p 0 x.wor) z9 true)∧z11.same (SObj.map z7 SId.b false (senM x.p x.vals l 0 x.seen) z9 true)∧z17.same z17∧(SObj.cells z5 49 7 false).same (SObj.cells [SV.si .i64 z20.fst.payers,SV.si .i64 z20.fst.least,SV.si .i64 z20.snd.fst.payers,SV.si .i64 z20.snd.fst.least,SV.sb z20.snd.snd.fst,SV.row z4 z20.snd.snd.snd.fst,SV.row z4 z20.snd.snd.snd.snd] 49 7 false)∧SObj.dead.same SObj.dead∧SObj.dead.same SObj.dead∧True)∧(0:Int)≤(0:Int)∧(0:Int)≤z21)∧∀(x_2:Int),let z29:=worM x.p x_2.toNat x.wor;let z30:=senM x.p x.vals l x_2.toNat x.seen;let z31:=lU x.vals x_2 (worthS x.p x_2);let z32:=bstM x.p x.vals l x_2.toNat;let z33:=SV.sb z32.fst;let z34:=SV.si .i64 x_2;let z35:=SV.si .i64 (worthS x.p x_2);let z36:=SObj.map z7 z7 false (worU x.p z29 x_2) z9 true;let z37:=SObj.map z7 SId.b false z30 z9 true;let z38:=stpO x.p x.vals l z32;let z39:=[SV.si .i64 z38.fst.payers,SV.si .i64 z38.fst.least,SV.si .i64 z38.snd.fst.payers,SV.si .i64 z38.snd.fst.least,SV.sb z38.snd.snd.fst,SV.row z4 z38.snd.snd.snd.fst,SV.row z4 z38.snd.snd.snd.snd];let z40:=SObj.cells z39 49 7 false;let z41:=pU x.vals x_2;let z42:=SV.si .i64 z41;let z43:=SV.si .i64 z31;let z44:=SObj.cells [z42,z43] 43 2 false;let z45:=IntCast.intCast z31;let z46:=SObj.cells [SV.sb (frE z45).fst,SV.row z4 (frE z45).snd.fst,SV.row z4 (frE z45).snd.snd] 47 3 false;let z47:=x_2+(1:Int);let z48:=bstM x.p x.vals l z47.toNat;let z49:=SV.si .i64 z47;let z50:=SObj.map z7 SId.b false (senM x.p x.vals l z47.toNat x.seen) z9 true;let z51:=stpO x.p x.vals l z48;let z52:=SObj.cells [SV.si .i64 z51.fst.payers,SV.si .i64 z51.fst.least,SV.si .i64 z51.snd.fst.payers,SV.si .i64 z51.snd.fst.least,SV.sb z51.snd.snd.fst,SV.row z4 z51.snd.snd.snd.fst,SV.row z4 z51.snd.snd.snd.snd] 49 7 false;let z53:=(z38.snd.snd.fst,z38.snd.snd.snd.fst,z38.snd.snd.snd.snd);(0:Int)≤x_2∧x_2≤z21→(0:Int)≤z0∧z0≤(64:Int)∧inR .i64 z22∧(decide (x_2<z22)=true→(okFn (FnF.mk x.p x.vals x.wins z29 z30)∧(0:Int)≤x_2∧x_2<z21)∧((-9223372036854775808:Int)≤z31∧z31≤(9223372036854775807:Int))∧(((z12.same z12∧(SV.row sF l).same (SV.row sF l)∧z13.same z13∧z18.same z18∧z33.same z33∧z34.same z34∧z23.same z23∧z35.same z35∧z24.same z24∧(SV.row sF l).same (SV.row sF l)∧(SV.si .i64 z0).same z15∧z2.same (SV.si .i64 0)∧True)∧z8.same z8∧z36.same z36∧z37.same z37∧z17.same z17∧z40.same z40∧SObj.dead.same SObj.dead∧SObj.dead.same SObj.dead∧z44.same z44∧z46.same z46∧True)∧((0:Int)≤(0:Int)∧(0:Int)≤z14)∧((frE z45).fst,(frE z45).snd.fst,(frE z45).snd.snd)=frE (z45 - paidQ l z41 0))∧∀(x_3:Int×Fra),let z54:=x_3.fst.toNat;let z55:=decide (x_3.fst<z14);let z56:=decide (binK.andI .i64 (z41 / (2:Int)^z54) (1:Int)=(1:Int));let z57:=(x_3.snd.fst,x_3.snd.snd.fst,x_3.snd.snd.snd);let z58:=(nthD l z54 sF.dflt).snd;let z59:=((nthD l z54 sF.dflt).fst,z58.fst,z58.snd);let z60:=x_3.fst+(1:Int);let z61:=SV.si .i64 z60;let z62:=frE (valF z57 - valF z59);let z63:=SObj.cells [SV.sb z62.fst,SV.row z4 z62.snd.fst,SV.row z4 z62.snd.snd] 47 3 false;let z64:=frE (z45 - paidQ l z41 z60.toNat);let z65:=[SV.sb x_3.snd.fst,SV.row z4 x_3.snd.snd.fst,SV.row z4 x_3.snd.snd.snd];let z66:=SObj.cells z65 47 3 false;let z67:=decide (sgnQ (valF z57)≤(0:Int));let z68:=decide ((0:Int)<cmpQ (valF z57) (valF z53));((0:Int)≤x_3.fst∧x_3.fst≤z14)∧x_3.snd=frE (z45 - paidQ l z41 z54)→(z55=true→(0:Int)≤x_3.fst∧x_3.fst<z0∧z54<l.length∧(0:Int)≤x_3.fst∧x_3.fst≤(64:Int)∧(z56=true→(isF z57∧isF z59)∧inR .i64 z60∧((z12.same z12∧(SV.row sF l).same (SV.row sF l)∧z13.same z13∧z18.same z18∧z33.same z33∧z34.same z34∧z23.same z23∧z35.same z35∧z24.same z24∧(SV.row sF l).same (SV.row sF l)∧z15.same z15∧z61.same z61∧True)∧z8.same z8∧z36.same z36∧z37.same z37∧z17.same z17∧z40.same z40∧SObj.dead.same SObj.dead∧SObj.dead.same SObj.dead∧z44.same z44∧z63.same z63∧True)∧(((0:Int)≤z60∧z60≤z14)∧(z62.fst,z62.snd.fst,z62.snd.snd)=z64)∧(z14 - z60).toNat<(z14 - x_3.fst).toNat)∧(z56=false→inR .i64 z60∧((z12.same z12∧(SV.row sF l).same (SV.row sF l)∧z13.same z13∧z18.same z18∧z33.same z33∧z34.same z34∧z23.same z23∧z35.same z35∧z24.same z24∧(SV.row sF l).same (SV.row sF l)∧z15.same z15∧z61.same z61∧True)∧z8.same z8∧z36.same z36∧z37.same z37∧z17.same z17∧z40.same z40∧SObj.dead.same SObj.dead∧SObj.dead.same SObj.dead∧z44.same z44∧z66.same z66∧True)∧(((0:Int)≤z60∧z60≤z14)∧z57=z64)∧(z14 - z60).toNat<(z14 - x_3.fst).toNat))∧(z55=false→isF z57∧(z67=true→inR .i64 z47∧((z12.same z12∧(SV.row sF l).same (SV.row sF l)∧z13.same z13∧z18.same z18∧z33.same (SV.sb z48.fst)∧z49.same z49∧True)∧z8.same z8∧z36.same (SObj.map z7 z7 false (worM x.p z47.toNat x.wor) z9 true)∧z37.same z50∧z17.same z17∧z40.same z52∧SObj.dead.same SObj.dead∧SObj.dead.same SObj.dead∧True)∧((0:Int)≤z47∧z47≤z21)∧(z21 - z47).toNat<(z21 - x_2).toNat)∧(z67=false→((!z32.fst)=true→inR .i64 z47∧((z12.same z12∧(SV.row sF l).same (SV.row sF l)∧z13.same z13∧z18.same z18∧(SV.bl true).same (SV.sb z48.fst)∧z49.same z49∧True)∧z8.same z8∧z36.same (SObj.map z7 z7 false (worM x.p z47.toNat x.wor) z9 true)∧(SObj.map z7 SId.b false (setT z7 SId.b x_2 true z30) z9 true).same z50∧z17.same z17∧(SObj.cells (z34::z35::z42::z43::z65) 49 7 false).same z52∧SObj.dead.same SObj.dead∧SObj.dead.same SObj.dead∧True)∧((0:Int)≤z47∧z47≤z21)∧(z21 - z47).toNat<(z21 - x_2).toNat)∧((!z32.fst)=false→(isF z57∧isF z53)∧(z68=true→inR .i64 z47∧((z12.same z12∧(SV.row sF l).same (SV.row sF l)∧z13.same z13∧z18.same z18∧(SV.bl true).same (SV.sb z48.fst)∧z49.same z49∧True)∧z8.same z8∧z36.same (SObj.map z7 z7 false (worM x.p z47.toNat x.wor) z9 true)∧(SObj.map z7 SId.b false (setT z7 SId.b x_2 true z30) z9 true).same z50∧z17.same z17∧(SObj.cells (z34::z35::z42::z43::z65) 49 7 false).same z52∧SObj.dead.same SObj.dead∧SObj.dead.same SObj.dead∧True)∧((0:Int)≤z47∧z47≤z21)∧(z21 - z47).toNat<(z21 - x_2).toNat)∧(z68=false→inR .i64 z47∧((z12.same z12∧(SV.row sF l).same (SV.row sF l)∧z13.same z13∧z18.same z18∧z33.same (SV.sb z48.fst)∧z49.same z49∧True)∧z8.same z8∧z36.same (SObj.map z7 z7 false (worM x.p z47.toNat x.wor) z9 true)∧(SObj.map z7 SId.b false (setT z7 SId.b x_2 true z30) z9 true).same z50∧z17.same z17∧z40.same z52∧SObj.dead.same SObj.dead∧SObj.dead.same SObj.dead∧True)∧((0:Int)≤z47∧z47≤z21)∧(z21 - z47).toNat<(z21 - x_2).toNat)))))∧(decide (x_2<z22)=false→(SV.tup [SV.agg z39,z33,z2]).same z6∧z8.same z8∧(SObj.map z7 z7 false z29 z9 true).same z10∧z37.same z11∧True)))) (by kernel_rfl) ?_
 simp only[vcs]
 have hl:rawP l:=hl
 have hz:fndE x l≠0:=hz
 refine⟨fun h=>⟨rfl,by unfold fndE;rw[if_pos (by omega)]⟩,fun hln=>⟨⟨⟨by omega,by have:=hl.1;omega⟩,fun j hj=>by omega⟩,?_⟩⟩
 have hln:l.length=x.vals.length:=by omega
 rintro i ⟨⟨i0,i1⟩,hi⟩
 refine⟨fun hlt=>?_,fun hge=>?_⟩
 ·have hm:=nthD_mem (d:=sF.dflt) (show i.toNat<l.length by omega)
  obtain⟨⟨d1,d2⟩,d3,d4⟩:=hl.2 _ hm
  have hb:=hl.1
  refine⟨i0,hlt,by omega,⟨⟨d1,d2⟩,by omega,by omega⟩,fun h=>⟨rfl,?_⟩,fun ho=>⟨⟨by omega,by omega⟩,⟨⟨by omega,by omega⟩,fun j hj=>?_⟩,by omega⟩⟩
  ·have hn:okPay l=false:=by
    rw[Bool.eq_false_iff]
    intro hk
    exact absurd ((List.all_eq_true.1 hk _ hm).symm.trans h) (by decide)
   unfold fndE
   rw[if_neg (by omega),if_pos hn]
  ·by_cases hji:(j:Int)<i
   ·exact hi j hji
   ·rw[show j=i.toNat by omega];exact ho
 ·exfalso
  apply hz
  unfold fndE
  rw[if_neg (by omega),if_neg]
  rw[Bool.not_eq_false]
  unfold okPay
  rw[List.all_eq_true]
  intro y hy
  obtain⟨j,hj2,rfl⟩:=List.getElem_of_mem hy
  have:=hi j (by omega)
  rwa [nthD_eq hj2] at this
section
variable {p:Prob} {f t:List Int}
end
section
variable {p:Prob} {m:Int}
end
end Go.Vi
